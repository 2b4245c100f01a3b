/- Two bytes as a number: bits of whole numbers; conversions to int16. Over any program. No condition. -/
import Derived.Test.YtgopcdagnicekaaGreatDoorM50
set_option linter.all false
open Go.Proofs.Tryz
set_option maxRecDepth 100000
set_option maxHeartbeats 2000000
namespace Go.Proofs.YtgopcdagnicekaaGreatDoor.W
open Go.RowKit Anv Go.Lib
theorem yg (a:Nat) (ha:a<65536):(BitVec.ofInt 64 (a:Int)).toNat=a:=by
 rw [BitVec.ofInt_natCast,BitVec.toNat_ofNat]; exact fu (by omega)
theorem yU {n:Int} (h:0<=n/\n<65536):IntKind.i64.wrap n=n:=by
 exact IntWalk.i64_in _ (by omega)
theorem aai {h l:Nat} (hh:h<256) (hl:l<256):bits .or .i64 ((h*256:Nat):Int) ((l:Nat):Int)=((h*256+l:Nat):Int):=by
 show IntKind.i64.wrap ((BitVec.ofInt 64 ((h*256:Nat):Int) ||| BitVec.ofInt 64 (l:Int)).toNat:Int)=_
 rw [BitVec.toNat_or,yg _ (by omega),yg l (by omega)]
 have e:h*256 ||| l=h*256+l:=by
  have:=Nat.shiftLeft_add_eq_or_of_lt (b:=l) (i:=8) (by omega) h
  rw [Nat.shiftLeft_eq] at this
  exact this.symm
 rw [e]
 exact yU (by omega)
variable {n m c T yt k g3 lb g5 g6 gr i g nb z n0 c0 n1 c1:Nat} {l bs os:List Int} {x op v k1 k2:Int} {P:Program} {y:Operand} {w0 w1 w w':World} {A A0 A1:Option Addr} {xs:List PF} {o o':PF} {es:List IE} {p:Pt} {es0:List Pt}
theorem V2 (hm:m<65536):bits .and .i64 ((m:Nat):Int) 255=((m%256:Nat):Int):=by
 show IntKind.i64.wrap ((BitVec.ofInt 64 ((m:Nat):Int) &&& BitVec.ofInt 64 ((255:Nat):Int)).toNat:Int)=_
 rw [BitVec.toNat_and,yg _ hm,yg 255 (by omega)]
 have e:m &&& 255=m%256:=Nat.and_two_pow_sub_one_eq_mod m 8
 rw [e]
 exact yU (by omega)
def s16 (x:Int):Int:=if x<32768 then x else x - 65536
theorem V3 (h:0<=x/\x<65536):IntKind.i16.wrap x=s16 x:=by
 have e:IntKind.i16.wrap x=if x%65536>=32768 then x%65536 - 65536 else x%65536:=by
  show (if (true && decide (x%65536>=32768))=true then x%65536 - 65536 else x%65536)=_
  simp
 rw [e]
 unfold s16
 split<;>split<;>omega
theorem agb (h:0<=x/\x<65536):IntKind.i64.wrap (s16 x)=s16 x:=by
 exact IntWalk.i64_in _ (by unfold s16; split<;>omega)
def uZ (h l:Nat):Int:=s16 ((h*256+l:Nat):Int)
theorem V4 {c:Int} (h:-512<=c/\c<=512):uZ (y8 (c / 256)).toNat (y8 c).toNat=c:=by
 unfold uZ s16 y8
 split<;>omega
section
variable {N:Nat} {dq:List Deferred} {a:Act} {l:List (Nat×Value)} {w:World} {d:Nat} {ty:TypeId} {pos:String} {af:Array Edge} {gd:Option (Nat×Bool)}
theorem V6 {x:Operand} {h:Nat} (e:b7 dq N a l) (hx:eB l x=some (.int .i64 ((h*256:Nat):Int))) (hy:eB l y=some (.int .i64 (k:Nat))) (hh:h<256) (hk:k<256):
  (execOp a.eval ⟨some d,.binOp .or T x y yt,ty,pos,af,gd⟩).run P w=.ok (.value (.int .i64 ((h*256+k:Nat):Int))) w:=by
 refine cV e hx hy ?_
 have e2:(Op.intBits .or .i64 ((h*256:Nat):Int) ((k:Nat):Int):Sem Value).run P w=.ok (.int .i64 ((h*256+k:Nat):Int)) w:=by rw [<- aai hh hk]; rfl
 simp [eqGuard,binOp]
 exact e2
theorem Oc {x:Operand} (e:b7 dq N a l) (hx:eB l x=some (.int .i64 ((m:Nat):Int))) (hy:eB l y=some (.int .i64 255)) (hm:m<65536):
  (execOp a.eval ⟨some d,.binOp .and T x y yt,ty,pos,af,gd⟩).run P w=.ok (.value (.int .i64 ((m%256:Nat):Int))) w:=by
 refine cV e hx hy ?_
 have e2:(Op.intBits .and .i64 ((m:Nat):Int) 255:Sem Value).run P w=.ok (.int .i64 ((m%256:Nat):Int)) w:=by rw [<- V2 hm]; rfl
 simp [eqGuard,binOp]
 exact e2
theorem AY {x:Operand} {h:Nat} {k':IntKind} (e:b7 dq N a l) (hx:eB l x=some (.int .i64 ((h:Nat):Int))) (hy:eB l y=some (.int k' ((8:Nat):Int))) (hh:h<256):
  (execOp a.eval ⟨some d,.binOp .shl T x y yt,ty,pos,af,gd⟩).run P w=.ok (.value (.int .i64 ((h*256:Nat):Int))) w:=
 JT e hx hy (by decide) (by rw [show ((h:Nat):Int)*2 ^ 8=((h*256:Nat):Int) by omega]; exact yU (by omega))
end
theorem Od {c:Int} (h3:(bk g3 #[aG op] 3).P w0):
  Calls prog 165 #[aG c,cY g3] w0 fun e w'=>e=.returned (.bool (decide (CN op c)))/\Below w0.heap.size w0 w':=by
 refine gQ func165 I ntmps165 I fun σ=>?_
 replace σ:=σ.lZ _ h3
 refine cE I (fun η=>cC η bn I (ou σ.bW) I)<|gj I<|wQ (fun lC=>?_) fun lC=>?_
 ·refine iT I I<|iT I I<|lK I<|wN (fun mX=>?_) fun mX=>?_
  ·refine xo I<|wD (fun oL=>?_) fun oL=>?_
   ·exact Dn I<|o1 results165 I<|⟨aq (fun b=>Ending.returned (Value.bool b)) (eI.2 (by simp only [eA,iA]; unfold CN; omega)),σ.below⟩
   ·exact o1 results165 I<|⟨aq (fun b=>Ending.returned (Value.bool b)) (aC (fun q9=>by unfold CN at q9; omega)).symm,σ.below⟩
  ·exact o1 results165 I<|⟨aq (fun b=>Ending.returned (Value.bool b)) (aC (fun q9=>by unfold CN at q9; omega)).symm,σ.below⟩
 ·refine iF I I<|gj I<|wQ (fun rP=>?_) fun rP=>?_
  ·refine iT I I<|lK I<|wN (fun sI=>?_) fun sI=>?_
   ·refine xo I<|wD (fun wU=>?_) fun wU=>?_
    ·exact Dn I<|o1 results165 I<|⟨aq (fun b=>Ending.returned (Value.bool b)) (eI.2 (by simp only [eA,iA]; unfold CN; omega)),σ.below⟩
    ·exact o1 results165 I<|⟨aq (fun b=>Ending.returned (Value.bool b)) (aC (fun q9=>by unfold CN at q9; omega)).symm,σ.below⟩
   ·exact o1 results165 I<|⟨aq (fun b=>Ending.returned (Value.bool b)) (aC (fun q9=>by unfold CN at q9; omega)).symm,σ.below⟩
  ·refine iF I I<|gj I<|wQ (fun yM=>?_) fun yM=>?_
   ·refine iT I I<|iT I I<|xo I<|wD (fun tt=>?_) fun tt=>?_
    ·exact Dn I<|o1 results165 I<|⟨aq (fun b=>Ending.returned (Value.bool b)) (eI.2 (by simp only [eA,iA]; unfold CN; omega)),σ.below⟩
    ·exact o1 results165 I<|⟨aq (fun b=>Ending.returned (Value.bool b)) (aC (fun q9=>by unfold CN at q9; omega)).symm,σ.below⟩
   ·refine iF I I<|gj I<|wQ (fun wX=>?_) fun wX=>?_
    ·refine iT I I<|xo I<|wD (fun wh=>?_) fun wh=>?_
     ·exact Dn I<|o1 results165 I<|⟨aq (fun b=>Ending.returned (Value.bool b)) (eI.2 (by simp only [eA,iA]; unfold CN; omega)),σ.below⟩
     ·exact o1 results165 I<|⟨aq (fun b=>Ending.returned (Value.bool b)) (aC (fun q9=>by unfold CN at q9; omega)).symm,σ.below⟩
    ·exact iF I I<|gj I<|o1 results165 I<|⟨aq (fun b=>Ending.returned (Value.bool b)) (eI.2 (by simp only [eA,iA]; unfold CN; omega)),σ.below⟩
theorem Gn {h:Nat} (hh:h<256) (hl:lb<256):
  Calls prog 166 #[aM h,aM lb] w0 fun e w'=>e=.returned (aG (uZ h lb))/\Below w0.heap.size w0 w':=by
 exact gQ func166 I ntmps166 I fun σ=>vE I (fun η=>AY (h:=h) η I I ae)<|vE I (fun η=>V6 (h:=h) (k:=lb) η I I ae ae)<|vE I (fun η=>dS (m:=uZ h lb) η I underlying3 underlying259 (V3 ae))<|vE I (fun η=>dS (m:=uZ h lb) η I underlying259 underlying3 (agb ae))<|o1 results166 I<|⟨I,σ.below⟩
theorem aaj {h:Nat} (h3:(bk g3 #[aG op] 3).P w0) (h5:(bk g5 #[.func (.func 165) #[] #[cY g3]] 136).P w0) (h6:(bk g6 #[.func (.func 166) #[] #[]] 158).P w0) (hh:h<256) (hl:lb<256) (hc:CN op (uZ h lb)):
  Calls prog 167 #[aM h,cY g5,cY g6] w0 fun e w'=>e=.returned (.bool true)/\Below w0.heap.size w0 w':=by
 refine gQ func167 I ntmps167 I fun σ=>?_
 replace σ:=σ.lZ _ h6
 replace σ:=σ.lZ _ h5
 replace σ:=σ.lZ _ h3
 refine ks (fun mz l w=>∃j:Nat,lb - j=mz/\l=[(6,aM j),(0,aM h),(1,cY g5),(2,cY g6)]/\St w0 w [] [bk g3 #[aG op] 3,bk g5 #[.func (.func 165) #[] #[cY g3]] 136,bk g6 #[.func (.func 166) #[] #[]] 158]/\j<=lb) ⟨0,I,I,σ,(av _)⟩ aT ?_
 rintro _ _ _ ⟨j,rfl,rfl,σ,hj⟩
 refine il I<|kB (b':=true) (a8 ae)<|iT I I<|lj [] [1,5,8,12,18,22] bI σ fun _ σ=>sE I (fun η hg=>cC η rW I (ou (hg.pt (j:=1) I)) I)<|sE I (fun η hg=>cC η qe I (ou (hg.pt (j:=2) I)) I)<|eS I<|sH call166 I (Gn (h:=h) (lb:=j) ae ae) I ?_
 rintro _ _ ⟨rfl,hb⟩
 refine ⟨_,I,?_⟩
 replace σ:=σ.call hb
 refine sk σ.kn<|eS I<|sH call165 I (Od (c:=(uZ h j)) σ.bW) I ?_
 rintro _ _ ⟨rfl,hb⟩
 refine ⟨_,I,?_⟩
 replace σ:=σ.call hb
 refine sk σ.kn<|wD (fun lC=>?_) fun lC=>?_
 ·exact iT I I<|o1 results167 I<|⟨I,σ.below⟩
 ·exact iF I I<|can (j:=1) I ae<|gI ⟨j+1,I,I,σ,(by have q9:j≠lb:=fun q=>lC (q ▸ hc); omega)⟩ aT (by have q9:j≠lb:=fun q=>lC (q ▸ hc); omega)
theorem aak {h:Nat} (h3:(bk g3 #[aG op] 3).P w0) (h5:(bk g5 #[.func (.func 165) #[] #[cY g3]] 136).P w0) (h6:(bk g6 #[.func (.func 166) #[] #[]] 158).P w0) {g7:Nat} (h7:(bk g7 #[aM h] 3).P w0) (hh:h<256) (hl:lb<256) (hc:CN op (uZ h lb)):
  Calls prog 168 #[aM lb,cY g5,cY g6,cY g7] w0 fun e w'=>e=.returned (.bool true)/\Below w0.heap.size w0 w':=by
 refine gQ func168 I ntmps168 I fun σ=>?_
 replace σ:=σ.lZ _ h7
 replace σ:=σ.lZ _ h6
 replace σ:=σ.lZ _ h5
 replace σ:=σ.lZ _ h3
 refine lj [] [1,5,9,12,18,22,24] bI σ fun _ σ=>sE I (fun η hg=>cC η rW I (ou (hg.pt (j:=1) I)) I)<|sE I (fun η hg=>cC η qe I (ou (hg.pt (j:=2) I)) I)<|sE I (fun η hg=>cC η bn I (ou (hg.pt (j:=3) I)) I)<|eS I<|sH call166 I (Gn (h:=h) (lb:=lb) ae ae) I ?_
 rintro _ _ ⟨rfl,hb⟩
 refine ⟨_,I,?_⟩
 replace σ:=σ.call hb
 refine sk σ.kn<|eS I<|sH call165 I (Od (c:=(uZ h lb)) σ.bW) I ?_
 rintro _ _ ⟨rfl,hb⟩
 refine ⟨_,I,?_⟩
 replace σ:=σ.call hb
 exact sk σ.kn<|o1 results168 I<|⟨aq (fun b=>Ending.returned (Value.bool b)) (a8 hc),σ.below⟩
theorem Jr {pz:Nat} {h:Nat} (hS:St w0 w1 [bk gr #[.slice A n c,aM pz,.bool false] 157] [dA w1 (bk gr #[.slice A n c,aM pz,.bool false] 157),bH fY FY 1 A n c bs]) (hx:bs[pz]?=some ((h:Nat):Int)) (mr:bs[pz+1]?=some ((lb:Nat):Int)) (hh:h<256) (hl:lb<256) (hc:CN op (uZ h lb)):
  Calls prog 127 #[cY gr,aG op] w1 fun e w'=>e=.returned (aG (uZ h lb))/\St w0 w' [bk gr #[.slice A n c,aM (pz+1+1),.bool false] 157] [dA w1 (bk gr #[.slice A n c,aM pz,.bool false] 157)]:=by
 refine gQ func127 I ntmps127 I fun σ=>?_
 replace σ:=hS
 refine eE I<|ll σ I fun _ de σ=>vE I (fun η=>fi (us:=#[]) (vs:=#[cY de]) η I I)<|eE I<|iR wE σ I fun _ eQ σ=>eE I<|mK 0 σ I fun _ σ=>eE I<|iR tN σ I fun _ jh σ=>eE I<|mK 0 σ I fun _ σ=>vE I (fun η=>fi (us:=#[]) (vs:=#[cY eQ,cY jh]) η I I)<|eE I<|fk call122 (vH (x:=((h:Nat):Int)) (caps:=#[cY eQ,cY jh]) (σ.cF (k:=3) I [1]) hx ae call167 (fun w9 h9=>aaj (σ.rQ (k:=3) (j:=2) I I aB h9) (σ.rQ (k:=3) (j:=1) I I aB h9) (σ.rQ (k:=3) (j:=0) I I aB h9) hh hl hc)) I ?_
 rintro _ _ ⟨rfl,xf⟩
 refine ⟨_,I,?_⟩
 replace σ:=σ.kL (k:=3) I xf
 refine eE I<|iR gY σ I fun _ sf σ=>eE I<|mK 0 σ I fun _ σ=>vE I (fun η=>fi (us:=#[]) (vs:=#[cY eQ,cY jh,cY sf]) η I I)<|eE I<|fk call122 (vH (x:=((lb:Nat):Int)) (caps:=#[cY eQ,cY jh,cY sf]) (σ.cF (k:=4) I [1]) mr ae call168 (fun w9 h9=>aak (σ.rQ (k:=4) (j:=3) I I aB h9) (σ.rQ (k:=4) (j:=2) I I aB h9) (σ.rQ (k:=4) (j:=1) I I aB h9) (σ.rQ (k:=4) (j:=0) I I aB h9) hh hl hc)) I ?_
 rintro _ _ ⟨rfl,tp⟩
 refine ⟨_,I,?_⟩
 replace σ:=σ.kL (k:=4) I tp
 refine lE 1 σ I<|lE 0 σ I<|eE I<|sH call166 I (Gn (h:=h) (lb:=lb) ae ae) I ?_
 rintro _ _ ⟨rfl,hb⟩
 refine ⟨_,I,?_⟩
 replace σ:=σ.call hb
 exact o1 results127 I<|⟨I,σ.pick [4] [0] aB⟩
theorem St.aal (h':St w0 w' (o'::xs) [dA w o]) (hf:∀b,o.gO b->o'.gO b):∀x∈xs,∀b,x.gO b->w.heap.size<=b:=fun x hx b hb=>by
 have h1:=h'.apart _ (aJ ..) x (aQ _ hx) b hb
 have h2:=(dR.1 h'.nd).1 x hx b
 rcases aV b w.heap.size with q | q
 ·exact absurd ⟨q,fun ho=>h2 (hf b ho) hb⟩ h1
 ·exact q
theorem St.agc {own ps:List PF} (h:St w0 w own ps) (hk:own[k]?=some o) (h':St w0 w' (o'::xs) [dA w o]) (hf:∀b,o.gO b->o'.gO b):St w0 w' (xs++own.set k o') ps:=by
 have h1:=h.kL hk (h'.pick [0] [0] aB)
 have hx:=h'.aal hf
 refine ⟨h1.below,fun e he=>?_,fun e he b hb=>?_,jy.2 ⟨(dR.1 h'.nd).2,h1.nd,fun x hxm e he b qz kY=>?_⟩,h1.pers,fun p hp e he b qz kY=>?_⟩
 ·rcases aK.1 he with q | q
  ·exact h'.mine e (aQ _ q)
  ·exact h1.mine e q
 ·rcases aK.1 he with q | q
  ·exact h'.new e (aQ _ q) b hb
  ·exact h1.new e q b hb
 ·rcases dz he with q | q
  ·have h3:=e.lt (h.mine e q) kY
   have h4:=hx x hxm b qz
   omega
  ·rw [q] at kY
   exact (dR.1 h'.nd).1 x hxm b kY qz
 ·rcases aK.1 he with q | q
  ·have h3:=p.lt (h.pers p hp) kY
   have h4:=hx e q b qz
   omega
  ·exact h1.apart p hp e q b qz kY
theorem Ez:∀(es:List IE) (x k:Nat) (e:IE),es[x]?=some e->k<6->(es.flatMap LI)[6*x+k]?=(LI e)[k]?
 | [],_,_,_,h,_=>by cases h
 | a::es,0,k,e,h,hk=>by
  cases h
  rw [jv,iU,bD,bQ (by rw [AX]; exact hk)]
 | a::es,x+1,k,e,h,hk=>by
  rw [jv,bU (by rw [AX]; omega),AX,show 6*(x+1)+k - 6=6*x+k by omega]
  exact Ez es x k e h hk
theorem pD:∀es:List IE,(es.flatMap LI).length=6*es.length
 | []=>rfl
 | a::es=>by rw [jv,ai,AX,pD es,aR]; omega
section
variable {i g n m:Nat} {es:List IE} {os:List Int} (hn:es.length=n) (hm:os.length=m)
include hn hm
theorem tY {x:Nat} {e:IE} (he:es[x]?=some e) (hk:k<6):(tX i g es os)[4+6*x+k]?=(LI e)[k]?:=by
 have h1:=Ez es x k e he hk
 have hx:=(aE.1 he).1
 unfold tX
 rw [aH,bQ (by simp only [ai,pD]; simp only [nH,aR,iy]; omega),bU (by simp only [ai]; simp only [nH,aR,iy]; omega)]
 rw [<- h1]
 congr 1
 simp only [ai,nH,aR,iy]
 omega
theorem ara:(tX i g es os)[4+6*n]?=some (y8 (m:Nat)):=by
 unfold tX
 rw [aH,bU (by simp only [ai,pD]; simp only [nH,aR,iy]; omega)]
 rw [show 4+6*n - (([y8 (i:Nat),y8 (g:Nat)]++nH (es.length:Nat))++es.flatMap LI).length=0 by simp only [ai,pD]; simp only [nH,aR,iy]; omega,hm]
 rfl
theorem arb {y:Nat} {r:Int} (hr:os[y]?=some r):(tX i g es os)[4+6*n+1+y]?=some (y8 r):=by
 unfold tX
 rw [bU (by simp only [ai,pD]; simp only [nH,aR,iy]; omega)]
 rw [show 4+6*n+1+y - ((([y8 (i:Nat),y8 (g:Nat)]++nH (es.length:Nat))++es.flatMap LI)++[y8 (os.length:Nat)]).length=y by simp only [ai,pD]; simp only [nH,aR,iy]; omega,ay,hr]
 rfl
theorem Gp:(tX i g es os).length=4+6*n+1+m:=by
 unfold tX
 simp only [ai,pD,aw]
 simp only [nH,aR,iy]
 omega
end
theorem arc:(tX i g es os)[0]?=some (y8 (i:Nat)):=by
 unfold tX
 rfl
theorem ard:(tX i g es os)[1]?=some (y8 (g:Nat)):=by
 unfold tX
 rfl
theorem arf:(tX i g es os)[2]?=some (y8 ((es.length:Nat) / 256)):=by
 unfold tX
 rfl
theorem arh:(tX i g es os)[3]?=some (y8 (es.length:Nat)):=by
 unfold tX
 rfl
theorem mG {pz p:Nat} {u:Int} (zA:∀k v,l[k]?=some v->bs[pz+k]?=some v) (hp:p=pz+k) (hv:l[k]?=some u) (hu:u=v):bs[p]?=some v:=by
 subst hp hu
 exact zA k _ hv
theorem Oe {N:Nat} {dq:List Deferred} {a:Act} {l:List (Nat×Value)} {d:Nat} {ty:TypeId} {pos:String} {af:Array Edge} {gd:Option (Nat×Bool)} {x:Operand} {h r:Nat} (e:b7 dq N a l) (hx:eB l x=some (aM (h*256))) (hy:eB l y=some (aM k)) (hh:h<256) (hk:k<256) (hr:h*256+k=r):
  (execOp a.eval ⟨some d,.binOp .or T x y yt,ty,pos,af,gd⟩).run P w=.ok (.value (aM r)) w:=by
 subst hr
 exact V6 e hx hy hh hk
theorem C3 {pz:Nat} {cn:Int} (hS:St w0 w1 [bk gr #[.slice A n c,aM pz,.bool false] 157] [dA w1 (bk gr #[.slice A n c,aM pz,.bool false] 157),bH fY FY 1 A n c bs]) (hx:bs[pz]?=some (y8 (cn / 256))) (mr:bs[pz+1]?=some (y8 cn)) (hn:-512<=cn/\cn<=512) (hc:CN op cn):
  Calls prog 127 #[cY gr,aG op] w1 fun e w'=>e=.returned (aG cn)/\St w0 w' [bk gr #[.slice A n c,aM (pz+1+1),.bool false] 157] [dA w1 (bk gr #[.slice A n c,aM pz,.bool false] 157)]:=by
 have h1:=uX (cn / 256)
 have h2:=uX cn
 have h:=Jr (h:=(y8 (cn / 256)).toNat) (lb:=(y8 cn).toNat) hS (by rw [hx,Int.toNat_of_nonneg h1.1]) (by rw [mr,Int.toNat_of_nonneg h2.1]) ae ae (by rw [V4 hn]; exact hc)
 rw [V4 hn] at h
 exact h
theorem agd {h:Nat} (hh:h<256) (hn:h*256<=16384):
  Calls prog 125 #[aM h] w0 fun e w'=>e=.returned (.bool true)/\Below w0.heap.size w0 w':=by
 exact gQ func125 I ntmps125 I fun σ=>vE I (fun η=>AY (h:=h) η I I ae)<|Dn I<|o1 results125 I<|⟨aq (fun b=>Ending.returned (Value.bool b)) (a8 ae),σ.below⟩
theorem age {g4 h:Nat} (h4:(bk g4 #[aM h] 3).P w0) (hh:h<256) (hk:k<256) (hn:h*256+k<=16384):
  Calls prog 126 #[aM k,cY g4] w0 fun e w'=>e=.returned (.bool true)/\Below w0.heap.size w0 w':=by
 refine gQ func126 I ntmps126 I fun σ=>?_
 replace σ:=σ.lZ _ h4
 exact cE I (fun η=>cC η bn I (ou σ.bW) I)<|vE I (fun η=>AY (h:=h) η I I ae)<|vE I (fun η=>Oe (h:=h) (k:=k) (r:=(h*256+k)) η I I ae ae ae)<|Dn I<|o1 results126 I<|⟨aq (fun b=>Ending.returned (Value.bool b)) (a8 ae),σ.below⟩
theorem xh {pz:Nat} (hS:St w0 w1 [bk gr #[.slice A nb c,aM pz,.bool false] 157] [dA w1 (bk gr #[.slice A nb c,aM pz,.bool false] 157),bH fY FY 1 A nb c bs]) (dy:mv (i:Nat) (g:Nat) n m es os) (pJ:es.length=n) (qP:os.length=m) (zA:∀k v,(tX i g es os)[k]?=some v->bs[pz+k]?=some v) (SM:pz<=1000000):
  Calls prog 81 #[cY gr] w1 fun e w'=>∃A' c' B' d',e=.returned (.agg (lN i g A' n c' B' m d'))/\St w0 w' [bk gr #[.slice A nb c,aM (pz+(4+6*n+1+m)),.bool false] 157,dQ A' n c' es,cI B' m d' os] [dA w1 (bk gr #[.slice A nb c,aM pz,.bool false] 157)]:=by
 refine gQ func81 I ntmps81 I fun σ=>?_
 replace σ:=hS
 have k1:=dy.i1
 have k2:=dy.ln
 refine eE I<|iR cM σ I fun _ de σ=>Wu I<|eE I<|fk call79 (ib (x:=((i:Nat):Int)) (σ.cF (k:=1) I [1]) (mG zA (k:=0) ae arc (oK ae)) ae ae ae) I ?_
 rintro _ _ ⟨rfl,ari⟩
 refine ⟨_,I,?_⟩
 replace σ:=σ.kL (k:=1) I ari
 refine vE I (fun η=>eV (c:=#[aM i,aG 0,bM,bM]) jq η I I)<|eE I<|iR cM σ I fun _ jh σ=>eE I<|fB 0 σ I fun _ σ=>lE 0 σ I<|eE I<|fk call79 (ib (x:=((g:Nat):Int)) (σ.cF (k:=2) I [1]) (mG zA (k:=1) ae ard (oK ae)) ae ae ae) I ?_
 rintro _ _ ⟨rfl,xf⟩
 refine ⟨_,I,?_⟩
 replace σ:=σ.kL (k:=2) I xf
 refine eE I<|mK 0 σ I fun _ σ=>eE I<|fk call122 (vH (x:=((n / 256:Nat):Int)) (caps:=#[]) (σ.cF (k:=2) I [1]) (mG zA (k:=2) ae arf (by rw [pJ]; unfold y8; omega)) ae call125 (fun w9 _=>agd ae ae)) rfl ?_
 rintro _ _ ⟨rfl,CG⟩
 refine ⟨_,I,?_⟩
 replace σ:=σ.kL (k:=2) I CG
 refine eE I<|iR gY σ I fun _ zo σ=>eE I<|mK 0 σ I fun _ σ=>vE I (fun η=>fi (us:=#[]) (vs:=#[cY zo]) η I I)<|eE I<|fk call122 (vH (x:=((n%256:Nat):Int)) (caps:=#[cY zo]) (σ.cF (k:=3) I [1]) (mG zA (k:=3) ae arh (by rw [pJ]; unfold y8; omega)) ae call126 (fun w9 h9=>age (σ.rQ (k:=3) (j:=0) rfl rfl aB h9) ae ae ae)) rfl ?_
 rintro _ _ ⟨rfl,uM⟩
 refine ⟨_,I,?_⟩
 replace σ:=σ.kL (k:=3) I uM
 refine lE 0 σ I<|vE I (fun η=>AY (h:=(n / 256)) η I I ae)<|vE I (fun η=>Oe (h:=n / 256) (k:=n%256) (r:=n) η I I ae ae ae)<|?_
 replace σ:=(σ.fp dD 116 5)
 refine ks (fun mz l w=>∃x:Nat,∃A4:Option Addr,∃c4:Nat,∃p4:Nat,n - x=mz/\l=[(24,aM x),(0,cY gr),(2,cY de),(3,cY jh),(23,aM n)]/\St w0 w [bk gr #[.slice A nb c,aM p4,.bool false] 157,bk jh (lN i g A4 x c4 none 0 0) 28,dQ A4 x c4 (es.take x),bk zo #[aM (n / 256)] 3,bk de #[aG 0,aG 0,bM,bM] 28] [dA w1 (bk gr #[.slice A nb c,aM pz,.bool false] 157),bH fY FY 1 A nb c bs]/\x<=n/\p4=pz+4+6*x) ⟨0,none,0,((((pz+1)+1)+1)+1),I,I,σ.pick [4,2,0,1,3] [0,1] aB,(av _),I⟩ aT ?_
 rintro _ _ _ ⟨x,A4,c4,p4,rfl,rfl,σ,hx,hp4⟩
 refine il I<|wD (fun tt=>?_) fun tt=>?_
 ·have fh:x<n:=ae
  obtain ⟨⟨op,tr,ra,rb,cn⟩,kf⟩:∃e,es[x]?=some e:=⟨_,ag ae⟩
  have hM:=dy.may _ (ah kf)
  unfold gl at hM
  dsimp only at hM
  refine iT I I<|Wt 0 (fun l w=>∃g6:Nat,l=[(6,cY g6),(0,cY gr),(2,cY de),(3,cY jh),(23,aM n),(24,aM x)]/\St w0 w [bk g6 #[aG op,aG tr,aG ra,aG 0,aG 0] 116,bk gr #[.slice A nb c,aM (p4+1+1+1),.bool false] 157,bk jh (lN i g A4 x c4 none 0 0) 28,dQ A4 x c4 (es.take x),bk zo #[aM (n / 256)] 3,bk de #[aG 0,aG 0,bM,bM] 28] [dA w1 (bk gr #[.slice A nb c,aM pz,.bool false] 157),bH fY FY 1 A nb c bs]) I ?_ ?_
  ·refine JI [14] [0,8,12,17,20,28,32,37,40,3,0,0,0,0,0] [1,2,3,4] [0,1] bI σ fun _ σ=>lS 0 I<|xq I ae<|lS 0 I<|xq I ae<|Wv [(1,[3,0,0,0,0]),(13,[6,26,46,48,58])] bI fW ⟨⟨⟨_,_,_,_,_,I,?_⟩,by kernel_rfl,rfl⟩,⟨⟨_,_,_,_,_,I,?_⟩,by kernel_rfl,rfl⟩,trivial⟩
   ·refine fk call79 (ib (x:=op) (σ.cF (k:=0) I [1]) (mG zA (k:=4+6*x+0) ae (tY pJ qP kf (k:=0) aB) (oK (n:=op) ae)) ae ae ae) I ?_
    rintro _ _ ⟨rfl,CD⟩
    refine ⟨_,I,?_⟩
    replace σ:=σ.kL (k:=0) I CD
    refine sk (σ.pick [1,2,3,4] [0,1] aB).kn<|Wv [(6,[3,0,0,0]),(13,[26,46,48,58])] bI fW ⟨⟨⟨_,_,_,_,_,I,?_⟩,by kernel_rfl,rfl⟩,⟨⟨_,_,_,_,_,I,?_⟩,by kernel_rfl,rfl⟩,trivial⟩
    ·refine fk call79 (ib (x:=tr) (σ.cF (k:=0) I [1]) (mG zA (k:=4+6*x+1) ae (tY pJ qP kf (k:=1) aB) (oK (n:=tr) ae)) ae ae ae) I ?_
     rintro _ _ ⟨rfl,KS⟩
     refine ⟨_,I,?_⟩
     replace σ:=σ.kL (k:=0) I KS
     refine sk (σ.pick [1,2,3,4] [0,1] aB).kn<|Wv [(11,[48,54,58]),(13,[46,48,58])] bI fW ⟨⟨⟨_,_,_,_,_,I,?_⟩,by kernel_rfl,rfl⟩,⟨⟨_,_,_,_,_,I,?_⟩,by kernel_rfl,rfl⟩,trivial⟩
     ·refine fk call79 (ib (x:=ra) (σ.cF (k:=0) I [1]) (mG zA (k:=4+6*x+2) ae (tY pJ qP kf (k:=2) aB) (oK (n:=ra) ae)) ae ae ae) I ?_
      rintro _ _ ⟨rfl,agf⟩
      refine ⟨_,I,?_⟩
      replace σ:=σ.kL (k:=0) I agf
      exact sk (σ.pick [1,2,3,4] [0,1] aB).kn<|vE I (fun η=>eV (c:=#[aG op,aG tr,aG ra,aG 0,aG 0]) dg η I I)<|eS I<|iR bm σ I fun _ WA σ=>sk (σ.pick [2,3,4,5] [0,1] aB).kn<|eS I<|fB 0 σ I fun _ σ=>sz I<|xu ⟨WA,I,σ⟩ aT
     ·refine iR bm σ I fun _ Qp σ=>sk (σ.pick [2,3,4,5] [0,1] aB).kn<|eS I<|fk call79 (ib (x:=ra) (σ.cF (k:=1) I [1]) (mG zA (k:=4+6*x+2) ae (tY pJ qP kf (k:=2) aB) (oK (n:=ra) ae)) ae ae ae) I ?_
      rintro _ _ ⟨rfl,Fo⟩
      refine ⟨_,I,?_⟩
      replace σ:=σ.kL (k:=1) I Fo
      exact sk (σ.pick [2,3,4,5] [0,1] aB).kn<|vE I (fun η=>eV (c:=#[aG op,aG tr,aG ra,aG 0,aG 0]) dg η I I)<|eS I<|fB 0 σ I fun _ σ=>sz I<|xu ⟨Qp,I,σ⟩ aT
    ·refine iR bm σ I fun _ Nj σ=>sk (σ.pick [2,3,4,5] [0,1] aB).kn<|eS I<|fk call79 (ib (x:=tr) (σ.cF (k:=1) I [1]) (mG zA (k:=4+6*x+1) ae (tY pJ qP kf (k:=1) aB) (oK (n:=tr) ae)) ae ae ae) I ?_
     rintro _ _ ⟨rfl,Iu⟩
     refine ⟨_,I,?_⟩
     replace σ:=σ.kL (k:=1) I Iu
     refine sk (σ.pick [2,3,4,5] [0,1] aB).kn<|eS I<|fk call79 (ib (x:=ra) (σ.cF (k:=1) I [1]) (mG zA (k:=4+6*x+2) ae (tY pJ qP kf (k:=2) aB) (oK (n:=ra) ae)) ae ae ae) I ?_
     rintro _ _ ⟨rfl,Vx⟩
     refine ⟨_,I,?_⟩
     replace σ:=σ.kL (k:=1) I Vx
     exact sk (σ.pick [2,3,4,5] [0,1] aB).kn<|vE I (fun η=>eV (c:=#[aG op,aG tr,aG ra,aG 0,aG 0]) dg η I I)<|eS I<|fB 0 σ I fun _ σ=>sz I<|xu ⟨Nj,I,σ⟩ aT
   ·refine iR bm σ I fun _ g68 σ=>sk (σ.pick [2,3,4,5] [0,1] aB).kn<|eS I<|fk call79 (ib (x:=op) (σ.cF (k:=1) I [1]) (mG zA (k:=4+6*x+0) ae (tY pJ qP kf (k:=0) aB) (oK (n:=op) ae)) ae ae ae) I ?_
    rintro _ _ ⟨rfl,Cu⟩
    refine ⟨_,I,?_⟩
    replace σ:=σ.kL (k:=1) I Cu
    refine sk (σ.pick [2,3,4,5] [0,1] aB).kn<|eS I<|fk call79 (ib (x:=tr) (σ.cF (k:=1) I [1]) (mG zA (k:=4+6*x+1) ae (tY pJ qP kf (k:=1) aB) (oK (n:=tr) ae)) ae ae ae) I ?_
    rintro _ _ ⟨rfl,Fq⟩
    refine ⟨_,I,?_⟩
    replace σ:=σ.kL (k:=1) I Fq
    refine sk (σ.pick [2,3,4,5] [0,1] aB).kn<|eS I<|fk call79 (ib (x:=ra) (σ.cF (k:=1) I [1]) (mG zA (k:=4+6*x+2) ae (tY pJ qP kf (k:=2) aB) (oK (n:=ra) ae)) ae ae ae) I ?_
    rintro _ _ ⟨rfl,Tx⟩
    refine ⟨_,I,?_⟩
    replace σ:=σ.kL (k:=1) I Tx
    exact sk (σ.pick [2,3,4,5] [0,1] aB).kn<|vE I (fun η=>eV (c:=#[aG op,aG tr,aG ra,aG 0,aG 0]) dg η I I)<|eS I<|fB 0 σ I fun _ σ=>sz I<|xu ⟨g68,I,σ⟩ aT
  rintro _ _ ⟨g6,rfl,σ⟩
  refine lE 0 σ I<|gj I<|wQ (fun Yo=>?_) fun Yo=>?_
  ·refine iT I I<|lE 2 σ I<|xq I ae<|eE I<|fk call79 (ib (x:=rb) (σ.cF (k:=1) I [1]) (mG zA (k:=4+6*x+3) ae (tY pJ qP kf (k:=3) aB) (oK (n:=rb) ae)) ae ae ae) I ?_
   rintro _ _ ⟨rfl,aeh⟩
   refine ⟨_,I,?_⟩
   replace σ:=σ.kL (k:=1) I aeh
   refine eE I<|mK 0 σ I fun _ σ=>lE 0 σ I<|eE I<|fk call127 (C3 (op:=op) (cn:=cn) (σ.cF (k:=1) I [1]) (mG zA (k:=4+6*x+4) ae (tY pJ qP kf (k:=4) aB) I) (mG zA (k:=4+6*x+5) ae (tY pJ qP kf (k:=5) aB) I) ae (by unfold CN; omega)) rfl ?_
   rintro _ _ ⟨rfl,Fm⟩
   refine ⟨_,I,?_⟩
   replace σ:=σ.kL (k:=1) I Fm
   refine eE I<|mK 0 σ I fun _ σ=>lE 1 σ I<|iF I I<|lE 2 σ I<|gE 0 σ I<|eE I<|mi (z:=5) #[aG op,aG tr,aG ra,aG rb,aG cn] σ (aF.size) bm I bI fun _ g75 σ=>eE I<|oO (new:=[(op,tr,ra,rb,cn)]) 4 0 σ dK I (by unfold maxLen; omega) ae fun _ g76 YF σ=>?_
   rw [<- take_one kf] at σ
   refine eE I<|mK 3 σ I fun _ σ=>can (j:=1) I ae<|?_
   exact gI ⟨x+1,(cS g76),YF,(((p4+1+1+1)+1)+1+1),I,I,σ.pick [2,3,4,5,6] [0,1] aB,ae,ae⟩ aT ae
  ·refine lE 0 σ I<|gj I<|wQ (fun h78=>?_) fun h78=>?_
   ·refine iT I I<|lE 2 σ I<|xq I ae<|eE I<|fk call79 (ib (x:=rb) (σ.cF (k:=1) I [1]) (mG zA (k:=4+6*x+3) ae (tY pJ qP kf (k:=3) aB) (oK (n:=rb) ae)) ae ae ae) I ?_
    rintro _ _ ⟨rfl,aen⟩
    refine ⟨_,I,?_⟩
    replace σ:=σ.kL (k:=1) I aen
    refine eE I<|mK 0 σ I fun _ σ=>lE 0 σ I<|eE I<|fk call127 (C3 (op:=op) (cn:=cn) (σ.cF (k:=1) I [1]) (mG zA (k:=4+6*x+4) ae (tY pJ qP kf (k:=4) aB) I) (mG zA (k:=4+6*x+5) ae (tY pJ qP kf (k:=5) aB) I) ae (by unfold CN; omega)) rfl ?_
    rintro _ _ ⟨rfl,TT⟩
    refine ⟨_,I,?_⟩
    replace σ:=σ.kL (k:=1) I TT
    refine eE I<|mK 0 σ I fun _ σ=>lE 1 σ I<|iF I I<|lE 2 σ I<|gE 0 σ I<|eE I<|mi (z:=5) #[aG op,aG tr,aG ra,aG rb,aG cn] σ (aF.size) bm I bI fun _ g81 σ=>eE I<|oO (new:=[(op,tr,ra,rb,cn)]) 4 0 σ dK I (by unfold maxLen; omega) ae fun _ g82 c83 σ=>?_
    rw [<- take_one kf] at σ
    refine eE I<|mK 3 σ I fun _ σ=>can (j:=1) I ae<|?_
    exact gI ⟨x+1,(cS g82),c83,(((p4+1+1+1)+1)+1+1),I,I,σ.pick [2,3,4,5,6] [0,1] aB,ae,ae⟩ aT ae
   ·refine iF I I<|eE I<|fk call79 (ib (x:=rb) (σ.cF (k:=1) I [1]) (mG zA (k:=4+6*x+3) ae (tY pJ qP kf (k:=3) aB) (oK (n:=rb) ae)) ae ae ae) I ?_
    rintro _ _ ⟨rfl,aeT⟩
    refine ⟨_,I,?_⟩
    replace σ:=σ.kL (k:=1) I aeT
    refine lE 0 σ I<|eE I<|fk call127 (C3 (op:=op) (cn:=cn) (σ.cF (k:=1) I [1]) (mG zA (k:=4+6*x+4) ae (tY pJ qP kf (k:=4) aB) I) (mG zA (k:=4+6*x+5) ae (tY pJ qP kf (k:=5) aB) I) ae (by unfold CN; omega)) rfl ?_
    rintro _ _ ⟨rfl,aer⟩
    refine ⟨_,I,?_⟩
    replace σ:=σ.kL (k:=1) I aer
    refine eE I<|mK 0 σ I fun _ σ=>lE 1 σ I<|iF I I<|lE 2 σ I<|gE 0 σ I<|eE I<|mi (z:=5) #[aG op,aG tr,aG ra,aG 0,aG cn] σ (aF.size) bm I bI fun _ g86 σ=>eE I<|oO (new:=[(op,tr,ra,(0:Int),cn)]) 4 0 σ dK I (by unfold maxLen; omega) ae fun _ g87 c88 σ=>?_
    rw [show rb=0 by omega] at kf
    rw [<- take_one kf] at σ
    refine eE I<|mK 3 σ I fun _ σ=>can (j:=1) I ae<|?_
    exact gI ⟨x+1,(cS g87),c88,(((p4+1+1+1)+1)+1+1),I,I,σ.pick [2,3,4,5,6] [0,1] aB,ae,ae⟩ aT ae
 ·obtain rfl:n=x:=ae
  rw [ax (by omega)] at σ
  refine iF I I<|eE I<|fk call79 (ib (x:=((m:Nat):Int)) (σ.cF (k:=0) I [1]) (mG zA (k:=4+6*n) ae (ara pJ qP) (oK ae)) ae ae ae) I ?_
  rintro _ _ ⟨rfl,Yp⟩
  refine ⟨_,I,?_⟩
  replace σ:=σ.kL (k:=0) I Yp
  replace σ:=(σ.fp dD 3 1)
  refine ks (fun mz l w=>∃y:Nat,∃B4:Option Addr,∃d4:Nat,∃p5:Nat,m - y=mz/\l=[(73,aM y),(0,cY gr),(2,cY de),(3,cY jh),(72,aM m)]/\St w0 w [bk gr #[.slice A nb c,aM p5,.bool false] 157,bk jh (lN i g A4 n c4 B4 y d4) 28,cI B4 y d4 (os.take y),dQ A4 n c4 es,bk zo #[aM (n / 256)] 3,bk de #[aG 0,aG 0,bM,bM] 28] [dA w1 (bk gr #[.slice A nb c,aM pz,.bool false] 157),bH fY FY 1 A nb c bs]/\y<=m/\p5=pz+4+6*n+1+y) ⟨0,none,0,(p4+1),I,I,σ.pick [1,2,0,3,4,5] [0,1] aB,(av _),ae⟩ aT ?_
  rintro _ _ _ ⟨y,B4,d4,p5,rfl,rfl,σ,hy,hp5⟩
  refine il I<|wD (fun h90=>?_) fun h90=>?_
  ·have Wa:y<m:=ae
   obtain ⟨rr,vQ⟩:∃e,os[y]?=some e:=⟨_,ag ae⟩
   have hr9:=dy.out _ (ah vQ)
   refine iT I I<|JI [8,10] [0,5,8,12,17,20,26,30,34,36,42] [1,3,4,5] [0,1] bI σ fun _ σ=>lS 0 I<|lS 0 I<|xq I ae<|eS I<|fk call79 (ib (x:=rr) (σ.cF (k:=0) I [1]) (mG zA (k:=4+6*n+1+y) ae (arb pJ qP vQ) (oK ae)) ae ae ae) I ?_
   rintro _ _ ⟨rfl,arj⟩
   refine ⟨_,I,?_⟩
   replace σ:=σ.kL (k:=0) I arj
   refine sk (σ.pick [1,3,4,5] [0,1] aB).kn<|eS I<|mi (z:=1) #[aG rr] σ (bn.size) gY I bI fun _ g92 σ=>sk (σ.pick [2,4,5,6] [0,1] aB).kn<|eS I<|oO (new:=[rr]) 3 0 σ iv I (by unfold maxLen; omega) ae fun _ g93 c94 σ=>sz rfl<|?_
   rw [<- take_one vQ] at σ
   refine eS I<|mK 2 σ I fun _ σ=>sz I<|can (j:=1) I ae<|?_
   exact gI ⟨y+1,(cS g93),c94,(p5+1),I,I,σ.pick [1,2,3,4,5,6] [0,1] aB,ae,ae⟩ aT ae
  ·obtain rfl:m=y:=ae
   rw [ax (by omega)] at σ
   exact iF I I<|gE 1 σ I<|eE I<|fB 5 σ I fun _ σ=>oR (fun e=>iJ results81 (RV.cell e bC I (σ.pV (k:=5) I) I))<|by rw [show pz+(4+6*n+1+m)=p5 by omega]; exact ⟨_,_,_,_,rfl,σ.pick [0,3,2] [0] aB⟩
structure Un.Ls (u:Un):Prop where
 lP:u.ps.length=u.n
 l0:u.e0.length=u.n0
 l1:u.e1.length=u.n
 l3:u.e3.length=u.n3
 l4:u.e4.length=u.n
 l5:u.e5.length=u.n5
 l6:u.e6.length=u.n
theorem Un.Mem.ls {u:Un} (h:u.Mem w):u.Ls:=⟨h.mP.2.1,h.m0.2.1,h.m1.2.1,h.m3.2.1,h.m4.2.1,h.m5.2.1,h.m6.2.1⟩
def zB (u:Un):Nat->Nat
 | 0=>7+2*u.n
 | 1=>7+2*u.n+(4+6*u.n0+1+u.n)
 | 2=>7+2*u.n+(4+6*u.n0+1+u.n)+(4+6*u.n3+1+u.n)
 | _=>7+2*u.n+(4+6*u.n0+1+u.n)+(4+6*u.n3+1+u.n)+(4+6*u.n5+1+u.n)
theorem Js:∀(es:List Pt) (x k:Nat) (e:Pt),es[x]?=some e->k<2->(es.flatMap Qy)[2*x+k]?=(Qy e)[k]?
 | [],_,_,_,h,_=>by cases h
 | a::es,0,k,e,h,hk=>by
  cases h
  rw [jv,iU,bD,bQ (show k<(Qy a).length from hk)]
 | a::es,x+1,k,e,h,hk=>by
  have hl:(Qy a).length=2:=rfl
  rw [jv,bU (by rw [hl]; omega),hl,show 2*(x+1)+k - 2=2*x+k by omega]
  exact Js es x k e h hk
theorem Em:∀es:List Pt,(es.flatMap Qy).length=2*es.length
 | []=>rfl
 | a::es=>by
  have hl:(Qy a).length=2:=rfl
  rw [jv,ai,hl,Em es,aR]
  omega
theorem yV {p r b:List Int} (hb:b=l++p++r) (hz:l.length=z):∀k v,p[k]?=some v->b[z+k]?=some v:=by
 subst hb hz
 intro k v h
 have:=(aE.1 h).1
 rw [bQ (by rw [ai]; omega),bU ae,Nat.add_sub_cancel_left]
 exact h
section
variable (u:Un)
theorem ark:qF u 3=qF u 2++tX u.n u.gB u.e5 u.e6:=rfl
theorem ak1:qF u 2=qF u 1++tX u.k2 u.gR u.e3 u.e4:=rfl
theorem ak2:qF u 1=qF u 0++tX u.k1 u.gL u.e0 u.e1:=rfl
theorem agh:qF u 0=yf++[y8 (u.k1:Nat),y8 (u.k2:Nat),y8 (u.n:Nat)]++(u.ps.take u.n).flatMap Qy:=rfl
theorem agi:GJ u=qF u 3++nH (Db (qF u 3) (qF u 3).length:Nat)++[]:=(bq _).symm
theorem ak3:GJ u=qF u 2++tX u.n u.gB u.e5 u.e6++nH (Db (qF u 3) (qF u 3).length:Nat):=rfl
theorem ak4:GJ u=qF u 1++tX u.k2 u.gR u.e3 u.e4++(tX u.n u.gB u.e5 u.e6++nH (Db (qF u 3) (qF u 3).length:Nat)):=by
 rw [ak3,ak1,aH (qF u 1++_)]
theorem agj:GJ u=qF u 0++tX u.k1 u.gL u.e0 u.e1++(tX u.k2 u.gR u.e3 u.e4++(tX u.n u.gB u.e5 u.e6++nH (Db (qF u 3) (qF u 3).length:Nat))):=by
 rw [ak4,ak2,aH (qF u 0++_)]
theorem arl:∃r,GJ u=(yf++[y8 (u.k1:Nat),y8 (u.k2:Nat),y8 (u.n:Nat)])++(u.ps.take u.n).flatMap Qy++r:=⟨_,by rw [agj,agh,aH (yf++_++_)]⟩
theorem arn:∃r,GJ u=[]++yf++r:=⟨_,by rw [agj,agh,cJ,aH,aH,aH]⟩
theorem agk:(GJ u)[4]?=some (y8 (u.k1:Nat))/\(GJ u)[5]?=some (y8 (u.k2:Nat))/\(GJ u)[6]?=some (y8 (u.n:Nat)):=⟨rfl,rfl,rfl⟩
variable {u} (h:u.Ls)
include h
theorem ak5:(qF u 0).length=zB u 0:=by
 rw [agh,ax (by rw [h.lP]; exact ar _),ai,Em,h.lP]
 rfl
theorem ak6:(qF u 1).length=zB u 1:=by
 rw [ak2,ai,ak5 h,Gp h.l0 h.l1]
 rfl
theorem ak7:(qF u 2).length=zB u 2:=by
 rw [ak1,ai,ak6 h,Gp h.l3 h.l4]
 rfl
theorem ak8:(qF u 3).length=zB u 3:=by
 rw [ark,ai,ak7 h,Gp h.l5 h.l6]
 rfl
end
theorem ak9 {u:Un} (h:u.Ls) (hp:u.ps[i]?=some p) (hk:k<2) (hv:(Qy p)[k]?=some v):(GJ u)[7+(2*i+k)]?=some v:=by
 obtain ⟨r,hr⟩:=arl u
 refine yV hr (z:=7) I _ _ ?_
 rw [ax (by rw [h.lP]; exact ar _),Js _ _ _ _ hp hk]
 exact hv
theorem aro {u:Un} (h:yf[k]?=some v):(GJ u)[k]?=some v:=by
 obtain ⟨r,hr⟩:=arn u
 have:=yV hr (z:=0) rfl k v h
 rwa [bD] at this
theorem V7 (h:yf[k]?=some x):0<=x/\x<256:=by
 have h1:=ah h
 unfold yf at h1
 simp only [bf,List.not_mem_nil,or_false] at h1
 omega
theorem ak' (h:-16<=x/\x<=16):s8 (y8 x)=x:=by
 unfold s8 y8
 split<;>omega
theorem Jt {pz:Nat} (hS:St w0 w1 [bk gr #[.slice A nb c,aM pz,.bool false] 157] [dA w1 (bk gr #[.slice A nb c,aM pz,.bool false] 157),bH fY FY 1 A nb c bs]) (hx:bs[pz]?=some (y8 x)) (hn:-16<=x/\x<=16):
  Calls prog 80 #[cY gr] w1 fun e w'=>e=.returned (aG x)/\St w0 w' [bk gr #[.slice A nb c,aM (pz+1),.bool false] 157] [dA w1 (bk gr #[.slice A nb c,aM pz,.bool false] 157)]:=by
 have h:=P7 hS hx (uX x) (by unfold y8; omega)
 rw [ak' hn] at h
 exact h
theorem P8 {u:Un} (dy:u.Ok) (uN:u.Ls) (hB:bs=GJ u) (h0:(bH fY FY 1 A nb c bs).P w0):
  Calls prog 46 #[.slice A nb c] w0 fun e w'=>∃Xp xp X1 x1 Z1 z1 X2 x2 Z2 z2 X3 x3 Z3 z3,e=.returned (.tuple #[.agg #[aM u.k1,aM u.k2,.slice Xp u.n xp,aM u.k1,aM u.gL,.slice X1 u.n0 x1,.slice Z1 u.n z1,aM u.k2,aM u.gR,.slice X2 u.n3 x2,.slice Z2 u.n z2,aM u.n,aM u.gB,.slice X3 u.n5 x3,.slice Z3 u.n z3],.agg #[aG 0,aG 0]])/\St w0 w' [lp Xp u.n xp u.ps,dQ X1 u.n0 x1 u.e0,cI Z1 u.n z1 u.e1,dQ X2 u.n3 x2 u.e3,cI Z2 u.n z2 u.e4,dQ X3 u.n5 x3 u.e5,cI Z3 u.n z3 u.e6] []:=by
 have q1:=dy.xg.1
 have q2:=dy.xg.2.1
 have q3:=dy.num
 have k0:=dy.cL.ln
 have k3:=dy.cR.ln
 have k5:=dy.cB.ln
 refine gQ func46 I ntmps46 I fun σ=>?_
 have nD:=h0
 have hlen:=nD.2.1
 have OG:=nD.1.cap
 replace σ:=σ.aY h0
 have hlM:yf.length=4:=rfl
 have mZ:zB u 0=7+2*u.n:=rfl
 have po:zB u 1=7+2*u.n+(4+6*u.n0+1+u.n):=rfl
 have QT:zB u 2=7+2*u.n+(4+6*u.n0+1+u.n)+(4+6*u.n3+1+u.n):=rfl
 have hz9:zB u 3=7+2*u.n+(4+6*u.n0+1+u.n)+(4+6*u.n3+1+u.n)+(4+6*u.n5+1+u.n):=rfl
 have hbl:bs.length=zB u 3+2:=by rw [hB,agi,bq,ai,ak8 uN]; rfl
 refine eE I<|iR dJ σ I fun _ de σ=>eE I<|iR lV σ I fun _ eQ σ=>vE I (fun η=>eV (c:=#[.slice A nb c,aG 0,.bool false]) uI η I I)<|eE I<|ll σ I fun _ gr σ=>?_
 replace σ:St w0 _ [bk gr #[.slice A nb c,aM 0,.bool false] 157,bk eQ #[aG 0,aG 0] 69,bk de #[aG 0,aG 0,bM,aG 0,aG 0,bM,bM,aG 0,aG 0,bM,bM,aG 0,aG 0,bM,bM] 30] [bH fY FY 1 A nb c bs]:=σ
 refine eE I<|mi (z:=1) #[.int .u8 65,.int .u8 78,.int .u8 86,.int .u8 49] σ (dX.size) iN I bI fun _ jh σ=>eE I<|cvB (es:=yf) 0 σ underlying65 underlying5 I I aB fun _ σ=>ks (fun mz l w=>∃j:Nat,4 - j=mz/\l=[(18,aM j),(0,.slice A nb c),(2,cY de),(3,cY eQ),(4,cY gr),(16,.slice (cS jh) 4 4),(17,aG 4)]/\St w0 w [bk gr #[.slice A nb c,aM j,.bool false] 157,bk eQ #[aG 0,aG 0] 69,bk de #[aG 0,aG 0,bM,aG 0,aG 0,bM,bM,aG 0,aG 0,bM,bM,aG 0,aG 0,bM,bM] 30] [bH fY FY 1 (cS jh) 4 4 yf,bH fY FY 1 A nb c bs]/\j<=4) ⟨0,I,I,σ,(av _)⟩ aT ?_
 rintro _ _ _ ⟨j,rfl,rfl,σ,hj4⟩
 refine il I<|wD (fun rP=>?_) fun rP=>?_
 ·have fh:j<4:=ae
  obtain ⟨xj,eG⟩:∃e,yf[j]?=some e:=⟨_,ag ae⟩
  have hx:=V7 eG
  refine iT I I<|vE I (fun η=>aX (i:=j) η underlying65 (dX.size) I I ae I (show (bH fY FY 1 (cS jh) 4 4 yf).P _ from σ.bW).1)<|cE I (fun η=>bE (i:=j) (j:=0) (e:=xj) η dX I I yT aB (show (bH fY FY 1 (cS jh) 4 4 yf).P _ from σ.bW).1 ae eG I)<|vE I (fun η=>dS (m:=xj) η I underlying5 underlying3 (y64 hx))<|vE I (fun η=>dS (m:=xj) η I underlying5 underlying3 (y64 hx))<|eE I<|fk call79 (ib (x:=xj) (σ.cF (k:=0) I [1]) (by rw [hB]; exact aro eG) (V7 eG) ae ae) rfl ?_
  rintro _ _ ⟨rfl,CG⟩
  refine ⟨_,I,?_⟩
  replace σ:=σ.kL (k:=0) I CG
  exact can (j:=1) I ae<|gI ⟨j+1,I,I,σ,ae⟩ aT ae
 ·obtain rfl:j=4:=ae
  refine iF I I<|eE I<|fk call79 (ib (x:=((u.k1:Nat):Int)) (σ.cF (k:=0) I [1]) (by rw [hB]; exact (agk u).1.trans (aq some (oK ae))) ae ae ae) rfl ?_
  rintro _ _ ⟨rfl,tp⟩
  refine ⟨_,I,?_⟩
  replace σ:=σ.kL (k:=0) I tp
  refine eE I<|fk call79 (ib (x:=((u.k2:Nat):Int)) (σ.cF (k:=0) I [1]) (by rw [hB]; exact (agk u).2.1.trans (aq some (oK ae))) ae ae ae) rfl ?_
  rintro _ _ ⟨rfl,uM⟩
  refine ⟨_,I,?_⟩
  replace σ:=σ.kL (k:=0) I uM
  refine vE I (fun η=>eV (c:=#[aM u.k1,aM u.k2,bM,aG 0,aG 0,bM,bM,aG 0,aG 0,bM,bM,aG 0,aG 0,bM,bM]) jo η I bI)<|eE I<|iR dJ σ I fun _ qt σ=>eE I<|fB 0 σ I fun _ σ=>eE I<|fk call79 (ib (x:=((u.n:Nat):Int)) (σ.cF (k:=1) I [1]) (by rw [hB]; exact (agk u).2.2.trans (aq some (oK ae))) ae ae ae) rfl ?_
  rintro _ _ ⟨rfl,CD⟩
  refine ⟨_,I,?_⟩
  replace σ:=σ.kL (k:=1) I CD
  replace σ:=(σ.fp dD 61 2)
  refine ks (fun mz l w=>∃i:Nat,∃A4:Option Addr,∃c4:Nat,u.n - i=mz/\l=[(36,aM i),(0,.slice A nb c),(2,cY de),(3,cY eQ),(4,cY gr),(7,cY qt),(35,aM u.n)]/\St w0 w [bk gr #[.slice A nb c,aM (7+2*i),.bool false] 157,bk qt #[aM u.k1,aM u.k2,.slice A4 i c4,aG 0,aG 0,bM,bM,aG 0,aG 0,bM,bM,aG 0,aG 0,bM,bM] 30,lp A4 i c4 (u.ps.take i),bk eQ #[aG 0,aG 0] 69,bk de #[aG 0,aG 0,bM,aG 0,aG 0,bM,bM,aG 0,aG 0,bM,bM,aG 0,aG 0,bM,bM] 30] [bH fY FY 1 (cS jh) 4 4 yf,bH fY FY 1 A nb c bs]/\i<=u.n) ⟨0,none,0,I,I,σ.pick [2,1,0,3,4] [0,1] aB,(av _)⟩ aT ?_
  rintro _ _ _ ⟨i,A4,c4,rfl,rfl,σ,hi⟩
  refine il I<|wD (fun wh=>?_) fun wh=>?_
  ·have fh:i<u.n:=ae
   obtain ⟨⟨pa,pb⟩,kf⟩:∃e,u.ps[i]?=some e:=⟨_,ag (by rw [uN.lP]; exact fh)⟩
   have hpi:=dy.xg.2.2 _ (ah kf)
   refine iT I I<|eE I<|fk call80 (Jt (x:=pa) (σ.cF (k:=0) I [1]) (by rw [hB,show (7+2*i)=7+(2*i+0) by omega]; exact ak9 uN kf aB rfl) hpi.1) rfl ?_
   rintro _ _ ⟨rfl,agf⟩
   refine ⟨_,I,?_⟩
   replace σ:=σ.kL (k:=0) I agf
   refine JI [7,9] [0,5,8,12,18,20,26,30,32,38] [1,3,4] [0,1] bI σ fun _ σ=>lS 0 I<|eS I<|fk call80 (Jt (x:=pb) (σ.cF (k:=0) I [1]) (by rw [hB,show ((7+2*i)+1)=7+(2*i+1) by omega]; exact ak9 uN kf aB rfl) hpi.2) rfl ?_
   rintro _ _ ⟨rfl,wZ⟩
   refine ⟨_,I,?_⟩
   replace σ:=σ.kL (k:=0) I wZ
   refine sk (σ.pick [1,3,4] [0,1] aB).kn<|vE I (fun η=>eV (c:=#[aG pa,aG pb]) iO η I I)<|eS I<|mi (z:=2) #[aG pa,aG pb] σ (aO.size) b6 I bI fun _ Qp σ=>sk (σ.pick [2,4,5] [0,1] aB).kn<|eS I<|oO (new:=[(pa,pb)]) 3 0 σ lW I (by unfold maxLen; omega) ae fun _ K7 TO σ=>sz rfl<|?_
   rw [<- take_one kf] at σ
   refine eS I<|mK 2 σ I fun _ σ=>sz I<|can (j:=1) I ae<|?_
   rw [show (((7+2*i)+1)+1)=7+2*(i+1) by omega] at σ
   exact gI ⟨i+1,(cS K7),TO,I,I,σ.pick [1,2,3,4,5] [0,1] aB,ae⟩ aT ae
  ·obtain rfl:i=u.n:=ae
   rw [ax (by rw [uN.lP]; exact ar _)] at σ
   refine iF I I<|eE I<|gV call43 (uY (g:=qt)) σ I fun _ σ=>?_
   replace σ:=σ.JV kF trivial (fun _ h=>h)
   replace σ:=σ.JV kF trivial (fun _ h=>h)
   replace σ:=σ.JV kF trivial (fun _ h=>h)
   replace σ:St w0 _ [kF,kF,kF,bk gr #[.slice A nb c,aM (zB u 0),.bool false] 157,bk qt #[aM u.k1,aM u.k2,.slice A4 u.n c4,aG 0,aG 0,bM,bM,aG 0,aG 0,bM,bM,aG 0,aG 0,bM,bM] 30,lp A4 u.n c4 u.ps,bk eQ #[aG 0,aG 0] 69,bk de #[aG 0,aG 0,bM,aG 0,aG 0,bM,bM,aG 0,aG 0,bM,bM,aG 0,aG 0,bM,bM] 30] [bH fY FY 1 (cS jh) 4 4 yf,bH fY FY 1 A nb c bs]:=σ
   refine ks (fun mz l w=>∃j:Nat,∃X1:Option Addr,∃x1:Nat,∃Z1:Option Addr,∃z1:Nat,∃X2:Option Addr,∃x2:Nat,∃Z2:Option Addr,∃z2:Nat,∃X3:Option Addr,∃x3:Nat,∃Z3:Option Addr,∃z3:Nat,3 - j=mz/\l=[(51,aM j),(0,.slice A nb c),(2,cY de),(3,cY eQ),(4,cY gr),(7,cY qt),(50,.agg #[.pointer (some ⟨qt,3,none⟩),.pointer (some ⟨qt,7,none⟩),.pointer (some ⟨qt,11,none⟩)])]/\St w0 w [bk gr #[.slice A nb c,aM (zB u j),.bool false] 157,bk qt #[aM u.k1,aM u.k2,.slice A4 u.n c4,aG (mI (Nat.blt 0 j) ((u.k1:Nat):Int) 0),aG (mI (Nat.blt 0 j) ((u.gL:Nat):Int) 0),.slice (mI (Nat.blt 0 j) X1 none) (mI (Nat.blt 0 j) u.n0 0) (mI (Nat.blt 0 j) x1 0),.slice (mI (Nat.blt 0 j) Z1 none) (mI (Nat.blt 0 j) u.n 0) (mI (Nat.blt 0 j) z1 0),aG (mI (Nat.blt 1 j) ((u.k2:Nat):Int) 0),aG (mI (Nat.blt 1 j) ((u.gR:Nat):Int) 0),.slice (mI (Nat.blt 1 j) X2 none) (mI (Nat.blt 1 j) u.n3 0) (mI (Nat.blt 1 j) x2 0),.slice (mI (Nat.blt 1 j) Z2 none) (mI (Nat.blt 1 j) u.n 0) (mI (Nat.blt 1 j) z2 0),aG (mI (Nat.blt 2 j) ((u.n:Nat):Int) 0),aG (mI (Nat.blt 2 j) ((u.gB:Nat):Int) 0),.slice (mI (Nat.blt 2 j) X3 none) (mI (Nat.blt 2 j) u.n5 0) (mI (Nat.blt 2 j) x3 0),.slice (mI (Nat.blt 2 j) Z3 none) (mI (Nat.blt 2 j) u.n 0) (mI (Nat.blt 2 j) z3 0)] 30,opF (Nat.blt 0 j) (star [dQ X1 u.n0 x1 u.e0,cI Z1 u.n z1 u.e1]),opF (Nat.blt 1 j) (star [dQ X2 u.n3 x2 u.e3,cI Z2 u.n z2 u.e4]),opF (Nat.blt 2 j) (star [dQ X3 u.n5 x3 u.e5,cI Z3 u.n z3 u.e6]),lp A4 u.n c4 u.ps,bk eQ #[aG 0,aG 0] 69,bk de #[aG 0,aG 0,bM,aG 0,aG 0,bM,bM,aG 0,aG 0,bM,bM,aG 0,aG 0,bM,bM] 30] [bH fY FY 1 (cS jh) 4 4 yf,bH fY FY 1 A nb c bs]/\j<=3) ⟨0,none,0,none,0,none,0,none,0,none,0,none,0,I,I,σ.pick [3,4,0,1,2,5,6,7] [0,1] aB,(av _)⟩ aT ?_
   rintro _ _ _ ⟨j,X1,x1,Z1,z1,X2,x2,Z2,z2,X3,x3,Z3,z3,rfl,rfl,σ,hj⟩
   rcases (show j=0∨j=1∨j=2∨j=3 by omega) with rfl|rfl|rfl|rfl
   ·replace σ:St w0 _ [bk gr #[.slice A nb c,aM (zB u 0),.bool false] 157,bk qt #[aM u.k1,aM u.k2,.slice A4 u.n c4,aG 0,aG 0,bM,bM,aG 0,aG 0,bM,bM,aG 0,aG 0,bM,bM] 30,kF,kF,kF,lp A4 u.n c4 u.ps,bk eQ #[aG 0,aG 0] 69,bk de #[aG 0,aG 0,bM,aG 0,aG 0,bM,bM,aG 0,aG 0,bM,bM,aG 0,aG 0,bM,bM] 30] [bH fY FY 1 (cS jh) 4 4 yf,bH fY FY 1 A nb c bs]:=σ
    refine il I<|kB (b':=true) aB<|iT I I<|vE I (fun η=>lF (v:=some ⟨qt,3,none⟩) 0 η underlying112 eC I I aB I)<|eE I<|fk call81 (xh (pz:=zB u 0) (σ.cF (k:=0) I [1]) dy.cL uN.l0 uN.l1 (by rw [hB]; exact yV (agj u) (ak5 uN)) ae) rfl ?_
    rintro _ _ ⟨A67,c68,B69,d70,rfl,Iu⟩
    refine ⟨_,I,?_⟩
    replace σ:=σ.agc (k:=0) I Iu (fun _ h=>h)
    replace σ:St w0 _ [dQ A67 u.n0 c68 u.e0,cI B69 u.n d70 u.e1,bk gr #[.slice A nb c,aM (zB u 1),.bool false] 157,bk qt #[aM u.k1,aM u.k2,.slice A4 u.n c4,aG 0,aG 0,bM,bM,aG 0,aG 0,bM,bM,aG 0,aG 0,bM,bM] 30,kF,kF,kF,lp A4 u.n c4 u.ps,bk eQ #[aG 0,aG 0] 69,bk de #[aG 0,aG 0,bM,aG 0,aG 0,bM,bM,aG 0,aG 0,bM,bM,aG 0,aG 0,bM,bM] 30] [bH fY FY 1 (cS jh) 4 4 yf,bH fY FY 1 A nb c bs]:=σ
    replace σ:=σ.pack 2
    replace σ:=σ.pick [0,1,2,4,5,6,7,8] [0,1] aB
    replace σ:St w0 _ [star [dQ A67 u.n0 c68 u.e0,cI B69 u.n d70 u.e1],bk gr #[.slice A nb c,aM (zB u 1),.bool false] 157,bk qt #[aM u.k1,aM u.k2,.slice A4 u.n c4,aG 0,aG 0,bM,bM,aG 0,aG 0,bM,bM,aG 0,aG 0,bM,bM] 30,kF,kF,lp A4 u.n c4 u.ps,bk eQ #[aG 0,aG 0] 69,bk de #[aG 0,aG 0,bM,aG 0,aG 0,bM,bM,aG 0,aG 0,bM,bM,aG 0,aG 0,bM,bM] 30] [bH fY FY 1 (cS jh) 4 4 yf,bH fY FY 1 A nb c bs]:=σ
    exact eE I<|fB 2 σ I fun _ σ=>can (i:=0) (j:=1) I ae<|gI ⟨1,A67,c68,B69,d70,X2,x2,Z2,z2,X3,x3,Z3,z3,I,I,σ.pick [1,2,0,3,4,5,6,7] [0,1] aB,ae⟩ aT ae
   ·replace σ:St w0 _ [bk gr #[.slice A nb c,aM (zB u 1),.bool false] 157,bk qt #[aM u.k1,aM u.k2,.slice A4 u.n c4,aM u.k1,aM u.gL,.slice X1 u.n0 x1,.slice Z1 u.n z1,aG 0,aG 0,bM,bM,aG 0,aG 0,bM,bM] 30,star [dQ X1 u.n0 x1 u.e0,cI Z1 u.n z1 u.e1],kF,kF,lp A4 u.n c4 u.ps,bk eQ #[aG 0,aG 0] 69,bk de #[aG 0,aG 0,bM,aG 0,aG 0,bM,bM,aG 0,aG 0,bM,bM,aG 0,aG 0,bM,bM] 30] [bH fY FY 1 (cS jh) 4 4 yf,bH fY FY 1 A nb c bs]:=σ
    refine il I<|kB (b':=true) aB<|iT I I<|vE I (fun η=>lF (v:=some ⟨qt,7,none⟩) 1 η underlying112 eC I I aB I)<|eE I<|fk call81 (xh (pz:=zB u 1) (σ.cF (k:=0) I [1]) dy.cR uN.l3 uN.l4 (by rw [hB]; exact yV (ak4 u) (ak6 uN)) ae) rfl ?_
    rintro _ _ ⟨Wy,Wz,B74,d75,rfl,Tx⟩
    refine ⟨_,I,?_⟩
    replace σ:=σ.agc (k:=0) I Tx (fun _ h=>h)
    replace σ:St w0 _ [dQ Wy u.n3 Wz u.e3,cI B74 u.n d75 u.e4,bk gr #[.slice A nb c,aM (zB u 2),.bool false] 157,bk qt #[aM u.k1,aM u.k2,.slice A4 u.n c4,aM u.k1,aM u.gL,.slice X1 u.n0 x1,.slice Z1 u.n z1,aG 0,aG 0,bM,bM,aG 0,aG 0,bM,bM] 30,star [dQ X1 u.n0 x1 u.e0,cI Z1 u.n z1 u.e1],kF,kF,lp A4 u.n c4 u.ps,bk eQ #[aG 0,aG 0] 69,bk de #[aG 0,aG 0,bM,aG 0,aG 0,bM,bM,aG 0,aG 0,bM,bM,aG 0,aG 0,bM,bM] 30] [bH fY FY 1 (cS jh) 4 4 yf,bH fY FY 1 A nb c bs]:=σ
    replace σ:=σ.pack 2
    replace σ:=σ.pick [0,1,2,3,5,6,7,8] [0,1] aB
    replace σ:St w0 _ [star [dQ Wy u.n3 Wz u.e3,cI B74 u.n d75 u.e4],bk gr #[.slice A nb c,aM (zB u 2),.bool false] 157,bk qt #[aM u.k1,aM u.k2,.slice A4 u.n c4,aM u.k1,aM u.gL,.slice X1 u.n0 x1,.slice Z1 u.n z1,aG 0,aG 0,bM,bM,aG 0,aG 0,bM,bM] 30,star [dQ X1 u.n0 x1 u.e0,cI Z1 u.n z1 u.e1],kF,lp A4 u.n c4 u.ps,bk eQ #[aG 0,aG 0] 69,bk de #[aG 0,aG 0,bM,aG 0,aG 0,bM,bM,aG 0,aG 0,bM,bM,aG 0,aG 0,bM,bM] 30] [bH fY FY 1 (cS jh) 4 4 yf,bH fY FY 1 A nb c bs]:=σ
    exact eE I<|fB 2 σ I fun _ σ=>can (i:=1) (j:=1) I ae<|gI ⟨2,X1,x1,Z1,z1,Wy,Wz,B74,d75,X3,x3,Z3,z3,I,I,σ.pick [1,2,3,0,4,5,6,7] [0,1] aB,ae⟩ aT ae
   ·replace σ:St w0 _ [bk gr #[.slice A nb c,aM (zB u 2),.bool false] 157,bk qt #[aM u.k1,aM u.k2,.slice A4 u.n c4,aM u.k1,aM u.gL,.slice X1 u.n0 x1,.slice Z1 u.n z1,aM u.k2,aM u.gR,.slice X2 u.n3 x2,.slice Z2 u.n z2,aG 0,aG 0,bM,bM] 30,star [dQ X1 u.n0 x1 u.e0,cI Z1 u.n z1 u.e1],star [dQ X2 u.n3 x2 u.e3,cI Z2 u.n z2 u.e4],kF,lp A4 u.n c4 u.ps,bk eQ #[aG 0,aG 0] 69,bk de #[aG 0,aG 0,bM,aG 0,aG 0,bM,bM,aG 0,aG 0,bM,bM,aG 0,aG 0,bM,bM] 30] [bH fY FY 1 (cS jh) 4 4 yf,bH fY FY 1 A nb c bs]:=σ
    refine il I<|kB (b':=true) aB<|iT I I<|vE I (fun η=>lF (v:=some ⟨qt,11,none⟩) 2 η underlying112 eC I I aB I)<|eE I<|fk call81 (xh (pz:=zB u 2) (σ.cF (k:=0) I [1]) dy.cB uN.l5 uN.l6 (by rw [hB]; exact yV (ak3 u) (ak7 uN)) ae) rfl ?_
    rintro _ _ ⟨A77,TH,B79,d80,rfl,TM⟩
    refine ⟨_,I,?_⟩
    replace σ:=σ.agc (k:=0) I TM (fun _ h=>h)
    replace σ:St w0 _ [dQ A77 u.n5 TH u.e5,cI B79 u.n d80 u.e6,bk gr #[.slice A nb c,aM (zB u 3),.bool false] 157,bk qt #[aM u.k1,aM u.k2,.slice A4 u.n c4,aM u.k1,aM u.gL,.slice X1 u.n0 x1,.slice Z1 u.n z1,aM u.k2,aM u.gR,.slice X2 u.n3 x2,.slice Z2 u.n z2,aG 0,aG 0,bM,bM] 30,star [dQ X1 u.n0 x1 u.e0,cI Z1 u.n z1 u.e1],star [dQ X2 u.n3 x2 u.e3,cI Z2 u.n z2 u.e4],kF,lp A4 u.n c4 u.ps,bk eQ #[aG 0,aG 0] 69,bk de #[aG 0,aG 0,bM,aG 0,aG 0,bM,bM,aG 0,aG 0,bM,bM,aG 0,aG 0,bM,bM] 30] [bH fY FY 1 (cS jh) 4 4 yf,bH fY FY 1 A nb c bs]:=σ
    replace σ:=σ.pack 2
    replace σ:=σ.pick [0,1,2,3,4,6,7,8] [0,1] aB
    replace σ:St w0 _ [star [dQ A77 u.n5 TH u.e5,cI B79 u.n d80 u.e6],bk gr #[.slice A nb c,aM (zB u 3),.bool false] 157,bk qt #[aM u.k1,aM u.k2,.slice A4 u.n c4,aM u.k1,aM u.gL,.slice X1 u.n0 x1,.slice Z1 u.n z1,aM u.k2,aM u.gR,.slice X2 u.n3 x2,.slice Z2 u.n z2,aG 0,aG 0,bM,bM] 30,star [dQ X1 u.n0 x1 u.e0,cI Z1 u.n z1 u.e1],star [dQ X2 u.n3 x2 u.e3,cI Z2 u.n z2 u.e4],lp A4 u.n c4 u.ps,bk eQ #[aG 0,aG 0] 69,bk de #[aG 0,aG 0,bM,aG 0,aG 0,bM,bM,aG 0,aG 0,bM,bM,aG 0,aG 0,bM,bM] 30] [bH fY FY 1 (cS jh) 4 4 yf,bH fY FY 1 A nb c bs]:=σ
    exact eE I<|fB 2 σ I fun _ σ=>can (i:=2) (j:=1) I ae<|gI ⟨3,X1,x1,Z1,z1,X2,x2,Z2,z2,A77,TH,B79,d80,I,I,σ.pick [1,2,3,4,0,5,6,7] [0,1] aB,ae⟩ aT ae
   ·replace σ:St w0 _ [bk gr #[.slice A nb c,aM (zB u 3),.bool false] 157,bk qt #[aM u.k1,aM u.k2,.slice A4 u.n c4,aM u.k1,aM u.gL,.slice X1 u.n0 x1,.slice Z1 u.n z1,aM u.k2,aM u.gR,.slice X2 u.n3 x2,.slice Z2 u.n z2,aM u.n,aM u.gB,.slice X3 u.n5 x3,.slice Z3 u.n z3] 30,star [dQ X1 u.n0 x1 u.e0,cI Z1 u.n z1 u.e1],star [dQ X2 u.n3 x2 u.e3,cI Z2 u.n z2 u.e4],star [dQ X3 u.n5 x3 u.e5,cI Z3 u.n z3 u.e6],lp A4 u.n c4 u.ps,bk eQ #[aG 0,aG 0] 69,bk de #[aG 0,aG 0,bM,aG 0,aG 0,bM,bM,aG 0,aG 0,bM,bM,aG 0,aG 0,bM,bM] 30] [bH fY FY 1 (cS jh) 4 4 yf,bH fY FY 1 A nb c bs]:=σ
    refine il I<|kB (b':=false) aB<|iF I I<|?_
    replace σ:=(σ.pick [2,0,1,3,4,5,6,7] [0,1] aB).unpack
    replace σ:=(σ.pick [4,0,1,2,3,5,6,7,8] [0,1] aB).unpack
    replace σ:=(σ.pick [6,0,1,2,3,4,5,7,8,9] [0,1] aB).unpack
    have hz3:=ak8 uN
    have Ou:=VU (qF u 3) (zB u 3)
    have hbt:=yV (agi u) hz3
    have wK:bs.take (zB u 3)=qF u 3:=by rw [hB,agi,bq,<- hz3,List.take_left]
    have zL:bs[zB u 3]?=some ((Db (qF u 3) (zB u 3) / 256:Nat):Int):=by rw [hB]; exact (hbt 0 _ rfl).trans (aq some (by rw [hz3]; unfold y8; omega))
    have MN:bs[zB u 3+1]?=some ((Db (qF u 3) (zB u 3)%256:Nat):Int):=by rw [hB]; exact (hbt 1 _ rfl).trans (aq some (by rw [hz3]; unfold y8; omega))
    refine lE 6 σ I<|iT I I<|lE 6 σ I<|vE I (fun η=>mR (m:=(zB u 3)) η underlying65 (dX.size) I I ae)<|eE I<|gV call45 (Jp (es0:=qF u 3) (n0:=zB u 3) (by rw [<- wK]; exact Xq yT σ.dw ae) (fun x hx=>VY hx) ae) σ rfl fun _ σ=>vE rfl (fun η=>JU (m:=(((Db (qF u 3) (zB u 3)):Nat):Int)) (s:=8) η rfl rfl aB (by rw [sh8]))<|vE rfl (fun η=>JU (m:=(((Db (qF u 3) (zB u 3)):Nat):Int)) (s:=8) η rfl rfl aB (by rw [sh8]))<|eE rfl<|fk call79 (ib (x:=((Db (qF u 3) (zB u 3) / 256:Nat):Int)) (σ.cF (k:=6) rfl [1]) zL ae ae ae) rfl ?_
    rintro _ _ ⟨rfl,TI⟩
    refine ⟨_,I,?_⟩
    replace σ:=σ.kL (k:=6) I TI
    refine vE I (fun η=>Oc (m:=(Db (qF u 3) (zB u 3))) η I I ae)<|vE I (fun η=>Oc (m:=(Db (qF u 3) (zB u 3))) η I I ae)<|eE I<|fk call79 (ib (x:=((Db (qF u 3) (zB u 3)%256:Nat):Int)) (σ.cF (k:=6) I [1]) MN ae ae ae) I ?_
    rintro _ _ ⟨rfl,ars⟩
    refine ⟨_,I,?_⟩
    replace σ:=σ.kL (k:=6) I ars
    exact lE 6 σ I<|lE 6 σ I<|il I<|kB (b':=false) (aC ae)<|iF I I<|gE 7 σ I<|vE I (fun η=>eV (c:=#[aG 0,aG 0]) oG η I I)<|eE I<|fB 10 σ I fun _ σ=>eE I<|fB 9 σ I fun _ σ=>oR (fun e=>lk results46 (RV.cell e iG I (σ.pV (k:=10) I) I) (RV.cell e ry I (σ.pV (k:=9) I) I))<|⟨A4,c4,X1,x1,Z1,z1,X2,x2,Z2,z2,X3,x3,Z3,z3,I,σ.pick [8,4,5,2,3,0,1] [] aB⟩
theorem V8 {es1:List Pt} (h0:(jD A0 n0 c0 es0).P w0) (h1:(jD A1 n1 c1 es1).P w0):
  Calls prog 25 #[.slice A0 n0 c0,.slice A1 n1 c1] w0 fun e w'=>e=.returned (.bool (decide (es0=es1)))/\Below w0.heap.size w0 w':=by
 refine gQ func25 I ntmps25 I fun σ=>?_
 have cQ:=h0.2.1
 have lu:=h0.1.cap
 have eN:=h0.1.big
 unfold maxLen at eN
 have iI:=h1.2.1
 have oI:=h1.1.cap
 have jB:=h1.1.big
 unfold maxLen at jB
 replace σ:=σ.aY h0
 replace σ:=σ.aY h1
 clear h0 h1
 refine lK I<|wN (fun lC=>?_) fun lC=>?_
 ·exact iT I I<|o1 results25 I<|⟨aq (fun b=>Ending.returned (Value.bool b)) (aC fun q=>by rw [q] at cQ; omega).symm,σ.below⟩
 ·obtain rfl:n0=n1:=ae
  refine iF I I<|ks (fun mz l w=>∃j:Nat,n0 - j=mz/\l=[(13,aM j),(0,.slice A0 n0 c0),(1,.slice A1 n0 c1),(12,aM n0)]/\St w0 w [] [jD A1 n0 c1 es1,jD A0 n0 c0 es0]/\j<=n0/\(∀x,x<j->es0[x]?=es1[x]?)) ⟨0,I,I,σ,(av _),(fun _ h=>absurd h (dB _))⟩ aT ?_
  rintro _ _ _ ⟨j,rfl,rfl,σ,hj,hq⟩
  refine il I<|wD (fun mX=>?_) fun mX=>?_
  ·have fh:j<n0:=ae
   obtain ⟨⟨pa,pb⟩,eG⟩:∃e,es0[j]?=some e:=⟨_,ag ae⟩
   obtain ⟨⟨pc,pd⟩,kf⟩:∃e,es1[j]?=some e:=⟨_,ag ae⟩
   refine iT I I<|lj [] [0,4,8,13,16,20,24,29,32] bI σ fun _ σ=>vE I (fun η=>aX (i:=j) η underlying22 (aO.size) I I ae I (show (jD A0 n0 c0 es0).P _ from σ.dw).1)<|sE I (fun η hg=>cX (v:=#[aG pa,aG pb]) (i:=j) (e:=(pa,pb)) η aO I I iX (show (jD A0 n0 c0 es0).P _ from (hg.pt (j:=1) I)).1 ae eG I)<|vE I (fun η=>aX (i:=j) η underlying22 (aO.size) I I ae I (show (jD A1 n0 c1 es1).P _ from σ.bW).1)<|sE I (fun η hg=>cX (v:=#[aG pc,aG pd]) (i:=j) (e:=(pc,pd)) η aO I I iX (show (jD A1 n0 c1 es1).P _ from (hg.pt (j:=0) I)).1 ae kf I)<|vE I (fun η=>L7 [pa,pb] [pc,pd] η Kx I I I I)<|wB (fun oL=>?_) fun oL=>?_
   ·exact iT I I<|o1 results25 I<|⟨aq (fun b=>Ending.returned (Value.bool b)) (aC fun q=>by rw [q,kf] at eG; cases eG; exact absurd oL fW).symm,σ.below⟩
   ·have hdd:pa=pc/\pb=pd:=by simpa using oL
    exact iF I I<|can (j:=1) I ae<|gI ⟨j+1,I,I,σ,ae,(Fu hq (by rw [eG,kf]; obtain ⟨rfl,rfl⟩:=hdd; rfl))⟩ aT ae
  ·exact iF I I<|o1 results25 I<|⟨aq (fun b=>Ending.returned (Value.bool b)) (a8 (KT cQ iI fun x hx=>hq x ae)).symm,σ.below⟩
theorem C4 {i g:Int} {A2 A3:Option Addr} {c2 c3:Nat} {es0:List IE} {es1:List Int} (h0:(fC A0 n0 c0 es0).P w0) (h1:(fg A1 n1 c1 es1).P w0) (h2:(fC A2 n0 c2 es0).P w0) (h3:(fg A3 n1 c3 es1).P w0):
  Calls prog 38 #[.agg #[aG i,aG g,.slice A0 n0 c0,.slice A1 n1 c1],.agg #[aG i,aG g,.slice A2 n0 c2,.slice A3 n1 c3]] w0 fun e w'=>e=.returned (.bool true)/\Below w0.heap.size w0 w':=
 (Nk h0 h1 h2 h3).mono fun e w' h=>⟨h.1.trans (by rw [a8 rfl,a8 rfl]; rfl),h.2⟩
theorem aam (h0:(jD A0 n0 c0 es0).P w0) (h1:(jD A1 n0 c1 es0).P w0):
  Calls prog 25 #[.slice A0 n0 c0,.slice A1 n0 c1] w0 fun e w'=>e=.returned (.bool true)/\Below w0.heap.size w0 w':=
 (V8 h0 h1).mono fun e w' h=>⟨h.1.trans (by rw [a8 rfl]),h.2⟩
theorem nJ {α:Type} {f:α->List Value} {F:α->PF}:(bH f F z none 0 0 ([]:List α)).P w:=⟨⟨(jP z).symm,ar _,av _,fun h=>absurd h (Nat.lt_irrefl _)⟩,rfl,fun _ h=>by cases h⟩
theorem Gq {u:Un} {Xp:Option Addr} {xp:Nat} {X1:Option Addr} {x1:Nat} {Z1:Option Addr} {z1:Nat} {X2:Option Addr} {x2:Nat} {Z2:Option Addr} {z2:Nat} {X3:Option Addr} {x3:Nat} {Z3:Option Addr} {z3:Nat} (hm:u.Mem w0) (v0:(jD Xp u.n xp u.ps).P w0) (v1:(fC X1 u.n0 x1 u.e0).P w0) (v2:(fg Z1 u.n z1 u.e1).P w0) (v3:(fC X2 u.n3 x2 u.e3).P w0) (v4:(fg Z2 u.n z2 u.e4).P w0) (v5:(fC X3 u.n5 x3 u.e5).P w0) (v6:(fg Z3 u.n z3 u.e6).P w0):
  Calls prog 21 #[.agg (uW u),.agg #[aM u.k1,aM u.k2,.slice Xp u.n xp,aM u.k1,aM u.gL,.slice X1 u.n0 x1,.slice Z1 u.n z1,aM u.k2,aM u.gR,.slice X2 u.n3 x2,.slice Z2 u.n z2,aM u.n,aM u.gB,.slice X3 u.n5 x3,.slice Z3 u.n z3]] w0 fun e w'=>e=.returned (.bool true)/\Below w0.heap.size w0 w':=by
 refine gQ func21 I ntmps21 I fun σ=>?_
 replace σ:=σ.aY hm.m6
 replace σ:=σ.aY hm.m5
 replace σ:=σ.aY hm.m4
 replace σ:=σ.aY hm.m3
 replace σ:=σ.aY hm.m1
 replace σ:=σ.aY hm.m0
 replace σ:=σ.aY hm.mP
 replace σ:=σ.aY v6
 replace σ:=σ.aY v5
 replace σ:=σ.aY v4
 replace σ:=σ.aY v3
 replace σ:=σ.aY v2
 replace σ:=σ.aY v1
 replace σ:=σ.aY v0
 exact eE I<|ll σ I fun _ de σ=>eE I<|ll σ I fun _ eQ σ=>lE 1 σ I<|lE 0 σ I<|gj I<|kB (b':=true) (jO _)<|lE 1 σ I<|lE 0 σ I<|gj I<|kB (b':=true) (jO _)<|lE 1 σ I<|lE 0 σ I<|eE I<|gV call25 (aam (σ.pat (k:=7) I) σ.bW) σ I fun _ σ=>cE I (fun η=>fT (cs:=[aM u.k1,aM u.gL,.slice u.A0 u.n0 u.c0,.slice u.A1 u.n u.c1]) η bC I σ.vN I I)<|cE I (fun η=>fT (cs:=[aM u.k1,aM u.gL,.slice X1 u.n0 x1,.slice Z1 u.n z1]) η bC I σ.gq I I)<|eE I<|gV call38 (C4 (σ.pat (k:=8) I) (σ.pat (k:=9) I) σ.dw σ.fX) σ I fun _ σ=>cE I (fun η=>fT (cs:=[aM u.k2,aM u.gR,.slice u.A3 u.n3 u.c3,.slice u.A4 u.n u.c4]) η bC I σ.vN I I)<|cE I (fun η=>fT (cs:=[aM u.k2,aM u.gR,.slice X2 u.n3 x2,.slice Z2 u.n z2]) η bC I σ.gq I I)<|eE I<|gV call38 (C4 (σ.pat (k:=10) I) (σ.pat (k:=11) I) σ.kC σ.nX) σ I fun _ σ=>cE I (fun η=>fT (cs:=[aM u.n,aM u.gB,.slice u.A5 u.n5 u.c5,.slice u.A6 u.n u.c6]) η bC I σ.vN I I)<|cE I (fun η=>fT (cs:=[aM u.n,aM u.gB,.slice X3 u.n5 x3,.slice Z3 u.n z3]) η bC I σ.gq I I)<|eE I<|gV call38 (C4 (σ.pat (k:=12) I) (σ.pat (k:=13) I) σ.rK σ.rX) σ I fun _ σ=>o1 results21 I<|⟨I,σ.below⟩
theorem P9 {u:Un} (dy:u.Ok) (uN:u.Ls) (hB:bs=GJ u) (h0:(bH fY FY 1 A nb c bs).P w0):
  Calls prog 24 #[.slice A nb c] w0 fun e w'=>∃Xp xp X1 x1 Z1 z1 X2 x2 Z2 z2 X3 x3 Z3 z3,e=.returned (.tuple #[.agg #[aM u.k1,aM u.k2,.slice Xp u.n xp,aM u.k1,aM u.gL,.slice X1 u.n0 x1,.slice Z1 u.n z1,aM u.k2,aM u.gR,.slice X2 u.n3 x2,.slice Z2 u.n z2,aM u.n,aM u.gB,.slice X3 u.n5 x3,.slice Z3 u.n z3],.agg #[aG 0,aG 0]])/\St w0 w' [lp Xp u.n xp u.ps,dQ X1 u.n0 x1 u.e0,cI Z1 u.n z1 u.e1,dQ X2 u.n3 x2 u.e3,cI Z2 u.n z2 u.e4,dQ X3 u.n5 x3 u.e5,cI Z3 u.n z3 u.e6] []:=by
 refine gQ func24 I ntmps24 I fun σ=>?_
 replace σ:=σ.aY h0
 refine eE I<|iR dJ σ I fun _ de σ=>eE I<|iR lV σ I fun _ eQ σ=>eE I<|fk call46 (P8 dy uN hB σ.bW) I ?_
 rintro _ _ ⟨Xp,xp,X1,x1,Z1,z1,X2,x2,Z2,z2,X3,x3,Z3,z3,rfl,hSd⟩
 refine ⟨_,I,?_⟩
 replace σ:=σ.more hSd
 exact eE I<|iR dJ σ I fun _ jh σ=>eE I<|iR lV σ I fun _ jY σ=>eE I<|fB 1 σ I fun _ σ=>eE I<|fB 0 σ I fun _ σ=>lE 0 σ I<|lK I<|kB (b':=false) I<|iF I I<|gE 1 σ I<|eE I<|gV call22 (Gi (u:=⟨u.k1,u.k2,u.n,Xp,xp,u.ps,u.gL,X1,u.n0,x1,u.e0,Z1,z1,u.e1,u.gR,X2,u.n3,x2,u.e3,Z2,z2,u.e4,u.gB,X3,u.n5,x3,u.e5,Z3,z3,u.e6⟩) ⟨dy.xg,dy.num,dy.xw,dy.len,dy.cL,dy.cR,dy.cB,dy.pL,dy.pR,dy.pB,dy.nL,dy.nR⟩ ⟨qi σ.pI uN.lP,qi σ.wF uN.l0,qi σ.Dh uN.l1,qi σ.JW uN.l3,qi σ.OA uN.l4,qi σ.vM uN.l5,qi (σ.owns (k:=8) I) uN.l6⟩) σ I fun _ σ=>lK I<|kB (b':=false) I<|iF I I<|gE 1 σ I<|vE I (fun η=>eV (c:=#[aG 0,aG 0]) oG η I I)<|eE I<|fB 10 σ I fun _ σ=>eE I<|fB 9 σ I fun _ σ=>oR (fun e=>lk results24 (RV.cell e iG I (σ.pV (k:=10) I) I) (RV.cell e ry I (σ.pV (k:=9) I) I))<|⟨Xp,xp,X1,x1,Z1,z1,X2,x2,Z2,z2,X3,x3,Z3,z3,I,σ.pick [2,3,4,5,6,7,8] [] aB⟩
theorem Ju {l:List Pt} (h:lI l) {j:Nat} {q:Pt} (Wb:j<i) (hj:l[j]?=some p) (hi:l[i]?=some q):p.1*q.2 - q.1*p.2≠0:=by
 obtain ⟨h1,e1⟩:=aE.1 hj
 obtain ⟨h2,e2⟩:=aE.1 hi
 have:=fH.1 h.apart j i h1 h2 Wb
 rw [e1,e2] at this
 exact this
def unZ:Un:=⟨0,0,0,none,0,[],0,none,0,0,[],none,0,[],0,none,0,0,[],none,0,[],0,none,0,0,[],none,0,[]⟩
theorem Of:unZ.Mem w:=⟨nJ,nJ,nJ,nJ,nJ,nJ,nJ⟩
theorem aan (h0:(jD A0 n0 c0 es0).P w0) (hn:n0<=100000) (hL:rp k1 k2 es0) (hp:lI es0) (yd:((n0:Nat):Int)=k1+k2 - 1):
  Calls prog 9 #[aG k1,aG k2,.slice A0 n0 c0] w0 fun e w'=>e=.returned (.bool false)/\Below w0.heap.size w0 w':=by
 have zL:=hL.1
 have MN:=hL.2.1
 have nz:=hL.2.2
 refine gQ func9 I ntmps9 I fun σ=>?_
 have cQ:=h0.2.1
 have hcp:=h0.1.cap
 replace σ:=σ.aY h0
 refine Tg I ae<|xq I ae<|lK I<|kB (b':=false) (bne_eq_false_iff_eq.2 ae)<|iF I I<|ks (fun mz l w=>∃i:Nat,n0 - i=mz/\l=[(20,aM i),(2,.slice A0 n0 c0),(18,.slice A0 n0 c0),(19,aM n0)]/\St w0 w [] [jD A0 n0 c0 es0]/\i<=n0) ⟨0,I,I,σ,(av _)⟩ aT ?_
 rintro _ _ _ ⟨i,rfl,rfl,σ,hi⟩
 refine il I<|wD (fun lC=>?_) fun lC=>?_
 ·have fh:i<n0:=ae
  obtain ⟨⟨x,y⟩,eG⟩:∃e,es0[i]?=some e:=⟨_,ag ae⟩
  have VO:=nz _ (ah eG)
  unfold pU at VO
  dsimp only at VO
  have Qf:=(hp.tQ _ (ah eG)).2
  dsimp only at Qf
  refine iT I I<|vE I (fun η=>aX (i:=i) η underlying22 (aO.size) I I ae I (show (jD A0 n0 c0 es0).P _ from σ.bW).1)<|cE I (fun η=>cX (v:=#[aG x,aG y]) (i:=i) (e:=(x,y)) η aO I I iX (show (jD A0 n0 c0 es0).P _ from σ.bW).1 ae eG I)<|eE I<|iR b6 σ I fun _ eQ σ=>eE I<|fB 0 σ I fun _ σ=>lE 0 σ I<|gj I<|wQ (fun oL=>?_) fun oL=>?_
  ·refine lE 0 σ I<|gj I<|wQ (fun rP=>?_) fun rP=>?_
   ·exact iT I I<|o1 results9 I<|absurd (show x=0/\y=0 from ⟨by omega,by omega⟩) Qf
   ·refine iF I I<|vE I (fun η=>mR (m:=i) η underlying22 (aO.size) I I ae)<|ks (fun mz l w=>∃j:Nat,i - j=mz/\l=[(37,aM j),(2,.slice A0 n0 c0),(8,cY eQ),(18,.slice A0 n0 c0),(19,aM n0),(20,aM i),(29,.pointer (some ⟨eQ,1,none⟩)),(30,aG y),(31,.bool false),(35,.slice A0 i c0),(36,aM i)]/\St w0 w [bk eQ #[aG x,aG y] 61] [jD A0 n0 c0 es0]/\j<=i) ⟨0,I,I,σ,(av _)⟩ aT ?_
    rintro _ _ _ ⟨j,rfl,rfl,σ,hj⟩
    refine il I<|wD (fun sI=>?_) fun sI=>?_
    ·have zH:j<i:=ae
     obtain ⟨⟨xa,ya⟩,GI⟩:∃e,es0[j]?=some e:=⟨_,ag ae⟩
     have CW:=nz _ (ah GI)
     unfold pU at CW
     dsimp only at CW
     have qP:(x*ya).natAbs<=1000000:=rF ae ae
     have Qn:(xa*y).natAbs<=1000000:=rF ae ae
     have hap:=Ju hp zH GI eG
     dsimp only at hap
     refine iT I I<|vE I (fun η=>xU (i:=j) η underlying22 (aO.size) I I ae ae I (show (jD A0 n0 c0 es0).P _ from σ.bW).1)<|cE I (fun η=>cX (v:=#[aG xa,aG ya]) (i:=j) (e:=(xa,ya)) η aO I I iX (show (jD A0 n0 c0 es0).P _ from σ.bW).1 ae GI I)<|eE I<|iR b6 σ I fun _ zo σ=>eE I<|fB 0 σ I fun _ σ=>lE 1 σ I<|lE 0 σ I<|ym I ae<|lE 0 σ I<|lE 1 σ I<|ym I ae<|gj I<|wQ (fun yM=>?_) fun yM=>?_
     ·exact absurd (show xa*y - x*ya=0 by omega) hap
     ·exact iF I I<|can (j:=1) I ae<|gI ⟨j+1,I,I,σ.pick [1] [0] aB,ae⟩ aT ae
    ·obtain rfl:i=j:=ae
     exact iF I I<|can (j:=1) I ae<|gI ⟨i+1,I,I,σ.pick [] [0] aB,ae⟩ aT ae
  ·refine iF I I<|vE I (fun η=>mR (m:=i) η underlying22 (aO.size) I I ae)<|ks (fun mz l w=>∃j:Nat,i - j=mz/\l=[(37,aM j),(2,.slice A0 n0 c0),(8,cY eQ),(18,.slice A0 n0 c0),(19,aM n0),(20,aM i),(35,.slice A0 i c0),(36,aM i)]/\St w0 w [bk eQ #[aG x,aG y] 61] [jD A0 n0 c0 es0]/\j<=i) ⟨0,I,I,σ,(av _)⟩ aT ?_
   rintro _ _ _ ⟨j,rfl,rfl,σ,hj⟩
   refine il I<|wD (fun tt=>?_) fun tt=>?_
   ·have zH:j<i:=ae
    obtain ⟨⟨xa,ya⟩,GI⟩:∃e,es0[j]?=some e:=⟨_,ag ae⟩
    have CW:=nz _ (ah GI)
    unfold pU at CW
    dsimp only at CW
    have qP:(x*ya).natAbs<=1000000:=rF ae ae
    have Qn:(xa*y).natAbs<=1000000:=rF ae ae
    have hap:=Ju hp zH GI eG
    dsimp only at hap
    refine iT I I<|vE I (fun η=>xU (i:=j) η underlying22 (aO.size) I I ae ae I (show (jD A0 n0 c0 es0).P _ from σ.bW).1)<|cE I (fun η=>cX (v:=#[aG xa,aG ya]) (i:=j) (e:=(xa,ya)) η aO I I iX (show (jD A0 n0 c0 es0).P _ from σ.bW).1 ae GI I)<|eE I<|iR b6 σ I fun _ tU σ=>eE I<|fB 0 σ I fun _ σ=>lE 1 σ I<|lE 0 σ I<|ym I ae<|lE 0 σ I<|lE 1 σ I<|ym I ae<|gj I<|wQ (fun wh=>?_) fun wh=>?_
    ·exact absurd (show xa*y - x*ya=0 by omega) hap
    ·exact iF I I<|can (j:=1) I ae<|gI ⟨j+1,I,I,σ.pick [1] [0] aB,ae⟩ aT ae
   ·obtain rfl:i=j:=ae
    exact iF I I<|can (j:=1) I ae<|gI ⟨i+1,I,I,σ.pick [] [0] aB,ae⟩ aT ae
 ·obtain rfl:n0=i:=ae
  exact iF I I<|o1 results9 I<|⟨I,σ.below⟩
theorem LM (hT:x' w0) (hD:me w0) (h0:(jD A0 n0 c0 es0).P w0):
  Calls prog 5 #[aG k1,aG k2,.slice A0 n0 c0] w0 fun e w'=>e=.returned (.bool true)/\Below w0.heap.size w0 w':=by
 refine gQ func5 I ntmps5 I fun σ=>?_
 replace σ:=(σ.nG hD).l9 tW hT fun e he=>by cases he
 have cQ:=h0.2.1
 replace σ:=σ.aY h0
 refine eE I<|gV call6 (VR σ.dw σ.fX) σ I fun _ σ=>iF I I<|sG I<|wD (fun lC=>?_) fun lC=>?_
 ·exact iT I I<|o1 results5 I<|⟨I,σ.below⟩
 ·refine iF I I<|eE I<|fk call20 (tB σ.bW ae) I ?_
  rintro _ _ ⟨zk,wW,rfl,xf⟩
  refine ⟨_,I,?_⟩
  replace σ:=σ.more xf
  refine eE I<|fk call7 (Jo (k1:=k1) (k2:=k2) (qi σ.jr cQ) σ.fX ae) I ?_
  rintro _ _ ((⟨rfl,hnL,hb⟩|⟨rfl,hL,Lz,hb⟩)|⟨u,hL,dy,Oz,zL,MN,rfl,hSu,mJ,mr,ua,Hj,WB,hl6⟩)
  ·refine ⟨_,I,?_⟩
   replace σ:=σ.call hb
   exact eE I<|iR dJ σ I fun _ zo σ=>eE I<|fB 0 σ I fun _ σ=>eE I<|gV call8 (P2 σ.bW ae hnL) σ I fun _ σ=>iT I I<|gj I<|kB (b':=true) I<|gE 0 σ I<|vE I (fun η=>eV (c:=#[aG 0,aG 0,bM,aG 0,aG 0,bM,bM,aG 0,aG 0,bM,bM,aG 0,aG 0,bM,bM]) jo η I I)<|eE I<|gV call21 (Gq (u:=unZ) (Xp:=none) (xp:=0) (X1:=none) (x1:=0) (Z1:=none) (z1:=0) (X2:=none) (x2:=0) (Z2:=none) (z2:=0) (X3:=none) (x3:=0) (Z3:=none) (z3:=0) Of nJ nJ nJ nJ nJ nJ nJ) σ I fun _ σ=>o1 results5 I<|⟨I,σ.below⟩
  ·refine ⟨_,I,?_⟩
   replace σ:=σ.call hb
   exact eE I<|iR dJ σ I fun _ xW σ=>eE I<|fB 0 σ I fun _ σ=>eE I<|gV call8 (CX σ.bW ae hL) σ I fun _ σ=>iF I I<|eE I<|gV call9 (af0 σ.bW ae hL Lz) σ I fun _ σ=>iT I I<|gj I<|kB (b':=true) I<|gE 0 σ I<|vE I (fun η=>eV (c:=#[aG 0,aG 0,bM,aG 0,aG 0,bM,bM,aG 0,aG 0,bM,bM,aG 0,aG 0,bM,bM]) jo η I I)<|eE I<|gV call21 (Gq (u:=unZ) (Xp:=none) (xp:=0) (X1:=none) (x1:=0) (Z1:=none) (z1:=0) (X2:=none) (x2:=0) (Z2:=none) (z2:=0) (X3:=none) (x3:=0) (Z3:=none) (z3:=0) Of nJ nJ nJ nJ nJ nJ nJ) σ I fun _ σ=>o1 results5 I<|⟨I,σ.below⟩
  ·refine ⟨_,I,?_⟩
   replace σ:=σ.more hSu
   replace σ:=σ.jX (k:=0) I dy.len
   replace σ:=σ.jX (k:=0) I mJ
   replace σ:=σ.jX (k:=0) I mr
   replace σ:=σ.jX (k:=0) I ua
   replace σ:=σ.jX (k:=0) I Hj
   replace σ:=σ.jX (k:=0) I WB
   replace σ:=σ.jX (k:=0) I hl6
   replace σ:St w0 _ [lp zk n0 wW es0] [fg u.A6 u.n u.c6 u.e6,fC u.A5 u.n5 u.c5 u.e5,fg u.A4 u.n u.c4 u.e4,fC u.A3 u.n3 u.c3 u.e3,fg u.A1 u.n u.c1 u.e1,fC u.A0 u.n0 u.c0 u.e0,jD u.Ap u.n u.cp u.ps,jD A0 n0 c0 es0,tW,oP]:=σ
   have uN:u.Ls:=⟨dy.len,mJ,mr,ua,Hj,WB,hl6⟩
   have hgp:lI es0:=by rw [<- Oz]; exact dy.xw
   have hnu:n0=u.n:=by rw [<- cQ,<- Oz]; exact dy.len
   have yd:=dy.num
   refine eE I<|iR dJ σ I fun _ qt σ=>eE I<|fB 0 σ I fun _ σ=>eE I<|gV call8 (CX (σ.pat (k:=7) I) ae hL) σ I fun _ σ=>iF I I<|eE I<|gV call9 (aan (σ.pat (k:=7) I) ae hL hgp ae) σ I fun _ σ=>iF I I<|gE 0 σ I<|eE I<|gV call22 (Gi dy ⟨σ.rX,σ.rK,σ.nX,σ.kC,σ.fX,σ.dw,σ.bW⟩) σ I fun _ σ=>gE 0 σ I<|eE I<|fk call23 (P5 dy ⟨σ.rX,σ.rK,σ.nX,σ.kC,σ.fX,σ.dw,σ.bW⟩) I ?_
   rintro _ _ ⟨Ae,ne,ce,rfl,hSe,hle⟩
   refine ⟨_,I,?_⟩
   replace σ:=σ.more hSe
   refine eE I<|fk call24 (P9 dy uN I (qi (f:=fY) σ.jr hle)) I ?_
   rintro _ _ ⟨Xp,xp,X1,x1,Z1,z1,X2,x2,Z2,z2,X3,x3,Z3,z3,rfl,hSa⟩
   refine ⟨_,I,?_⟩
   replace σ:=σ.more hSa
   replace σ:=σ.jX (k:=0) I uN.lP
   replace σ:=σ.jX (k:=0) I uN.l0
   replace σ:=σ.jX (k:=0) I uN.l1
   replace σ:=σ.jX (k:=0) I uN.l3
   replace σ:=σ.jX (k:=0) I uN.l4
   replace σ:=σ.jX (k:=0) I uN.l5
   replace σ:=σ.jX (k:=0) I uN.l6
   replace σ:St w0 _ [fc dD 5 1 Ae ne ce (fl fY (GJ u)),bk qt (uW u) 30,lp zk n0 wW es0] [fg Z3 u.n z3 u.e6,fC X3 u.n5 x3 u.e5,fg Z2 u.n z2 u.e4,fC X2 u.n3 x2 u.e3,fg Z1 u.n z1 u.e1,fC X1 u.n0 x1 u.e0,jD Xp u.n xp u.ps,fg u.A6 u.n u.c6 u.e6,fC u.A5 u.n5 u.c5 u.e5,fg u.A4 u.n u.c4 u.e4,fC u.A3 u.n3 u.c3 u.e3,fg u.A1 u.n u.c1 u.e1,fC u.A0 u.n0 u.c0 u.e0,jD u.Ap u.n u.cp u.ps,jD A0 n0 c0 es0,tW,oP]:=σ
   exact eE I<|iR dJ σ I fun _ tU σ=>eE I<|iR lV σ I fun _ C9 σ=>eE I<|fB 1 σ I fun _ σ=>eE I<|fB 0 σ I fun _ σ=>gj I<|kB (b':=true) I<|gj I<|kB (b':=true) I<|gj I<|kB (b':=true) I<|gE 0 σ I<|vE I (fun η=>eV (c:=#[aG 0,aG 0]) oG η I I)<|vE I (fun η=>EH [(0:Int),(0:Int)] [(0:Int),(0:Int)] η ahM I I I I)<|kB (b':=true) (a8 I)<|gE 3 σ I<|gE 1 σ I<|eE I<|gV call21 (Gq ⟨σ.pat (k:=13) I,σ.pat (k:=12) I,σ.pat (k:=11) I,σ.pat (k:=10) I,σ.pat (k:=9) I,σ.pat (k:=8) I,σ.pat (k:=7) I⟩ σ.rX σ.rK σ.nX σ.kC σ.fX σ.dw σ.bW) σ I fun _ σ=>lE 3 σ I<|gj I<|kB (b':=true) (eA.2 ae)<|lE 3 σ I<|gj I<|kB (b':=true) (eA.2 ae)<|lE 3 σ I<|eE I<|gV call25 (V8 (σ.pat (k:=13) I) (σ.pat (k:=14) I)) σ I fun _ σ=>o1 results5 I<|⟨aq (fun b=>Ending.returned (Value.bool b)) (a8 Oz),σ.below⟩
end Go.Proofs.YtgopcdagnicekaaGreatDoor.W

/- TopRefused over arguments as they come in. By hand. No condition. -/
namespace Go.Proofs.YtgopcdagnicekaaGreatDoor
open Go.RowKit Anv Go.ChangeShapes Go.WideShapes Go.ChangeAt Go.Joins W
theorem Jv {w0:World} {k1 k2:Int} {A0:Option Addr} {n0 c0:Nat} {es0:List Pt} (h0:(jD A0 n0 c0 es0).P w0) (hT:x' w0) (hD:me w0):
  Calls prog 5 #[.int .i64 k1,.int .i64 k2,.slice A0 n0 c0] w0 fun e w'=>e=.returned (.bool true)/\Below w0.heap.size w0 w':=
 LM hT hD h0
end Go.Proofs.YtgopcdagnicekaaGreatDoor
