/- strings.Join at a blank; row.Text. Printed by pv/gen_rtx2.py. No condition. -/
import Derived.Test.YtgopcdagnicekaaGreatDoorM41
import Derived.Test.YtgopcdagnicekaaGreatDoorM42
set_option linter.all false
open Go.Proofs.Tryz
set_option maxRecDepth 100000
set_option maxHeartbeats 4000000
namespace Go.Proofs.YtgopcdagnicekaaGreatDoor.W
open Go.RowKit Anv Go.Lib
def jt (s:List UInt8) (r:List (List UInt8)) (k:Nat):List UInt8:=s++(r.take k).flatMap fun t=>32::t
def alF (zs:List Int):List UInt8:=91::(jn (zs.map DN)++[93])
theorem qo:fN (none,0,0)=(Value.agg #[.bool false,bM]).cells.toList:=by
 show [Value.bool (neg 0),Value.slice none (zl 0) 0]=_
 rw [neg_zero,qk]; rfl
theorem ov (n:Nat) (w:World):(dW FN (List.replicate n (none,0,0))).P w:=fun e he=>by
 rw [ei he]
 exact uz w
def avj (es:List NE):Bool:=es.all fun e=>decide (zz e=0)
variable {n k j d n0 c0 n1 c1 m g i T T':Nat} {w0 w w' X Y:World} {xs ys zs h os l u:List Int} {es0 es1 ps:List NE} {A A0 A1 C:Option Addr} {B c y a b op v s t r to_ term n2 k1 k2 pa pb qa qb:Int} {e:IE} {f f' V:Nat->Int} {fs:List IE} {q:Int×Int} {P:Program} {th:List Bool} {E:TypeId}
theorem Hg (h:n<=4096):
  Calls prog 163 #[.int .i64 (n:Nat)] w0 fun e w'=>∃v,e=.returned (.tuple #[v,.int .i64 0])/\tP w0.heap.size w' v n (List.replicate n 0)/\Below w0.heap.size w0 w':=by
 refine enter func163 I ntmps163 I ?_
 intro a η σ
 refine wp_seq (aI ?_)
 revert a
 refine aA I I ?_
 refine aA I I ?_
 intro a η
 refine wpList_nil (b5 (wp_seq (wp_seq (aI ?_))))
 revert a
 refine mA I I ?_
 refine sA I (fun _ η=>cV η I I I) ?_
 intro a η
 rw [show (decide (((n:Nat):Int)<(0:Int)))=false from aC ae] at η
 revert a
 refine mA I I ?_
 refine gA I I I I (fun _ η=>ff η I) ?_
 refine gA I I I I (fun _ η=>cV η I I I) ?_
 intro a η
 rw [show (decide (((n:Nat):Int)>(4096:Int)))=false from aC ae] at η
 refine sv η I (lU η I I) ?_
 clear η a; intro a η
 refine wpList_nil (b5 ?_)
 refine rV η I (I) ?_
 refine wp_skip (b5 (wp_seq (aI ?_)))
 refine sv η I (ff η I) ?_
 clear η a; intro a η
 refine aS I (BB (f:=fN) (e0:=(none,0,0)) (q:=dD) (n:=n) η σ I underlying43 dP I I qo I I I ae (by unfold maxLen; omega) ?_)
 clear η σ a; intro a w2 g1 η σ
 replace σ:=σ.vX (ov n _) ⟨bX,trivial⟩
 revert a
 refine aA I I ?_
 refine aA I I ?_
 intro a η
 refine wpList_nil (b5 (wp_ret ?_))
 refine leave η (lk results163 (RV.tmp η I) (RV.tmp η I)) ?_
 exact ⟨_,I,⟨_,_,_,I,σ.newRow (k:=0) (j:=0) I I,df,en⟩,σ.below⟩
theorem Hh (h:n<=4096) (hk:k<n):
  Calls prog 117 #[.int .i64 (n:Nat),.int .i64 (k:Nat)] w0 fun e w'=>∃v,e=.returned (.tuple #[v,.int .i64 0])/\tP w0.heap.size w' v n ((List.replicate n 0).set k 1)/\Below w0.heap.size w0 w':=by
 refine enter func117 I ntmps117 I ?_
 intro a η σ
 refine wp_seq (aI ?_)
 revert a
 refine aA I I ?_
 refine aA I I ?_
 intro a η
 refine wpList_nil (b5 (wp_seq (aI ?_)))
 refine sv η I (ff η I) ?_
 clear η a; intro a η
 refine aS I (gG η I call163 I (Hg ae) ?_)
 rintro e w7 ⟨_,rfl,⟨A1,c2,C6,rfl,hr,Hj,hz5⟩,hb⟩
 refine ⟨_,I,?_⟩
 clear η a; intro a η
 replace σ:=σ.pM hb hr (oU hr.2.1 ⟨bX,trivial⟩)
 clear hr
 clear hb
 revert a
 refine mA I I ?_
 refine sA I (fun _ η=>je η I I) ?_
 refine sA I (fun _ η=>je η I I) ?_
 refine aA I I ?_
 refine aA I I ?_
 intro a η
 refine wpList_nil (b5 (wp_seq (wp_block (wp_seq (aI ?_)))))
 revert a
 refine mA I I ?_
 refine sA I (fun _ η=>cV η I I I) ?_
 refine aA I I ?_
 intro a η
 refine wpList_nil (b5 ?_)
 refine rV η I (I) ?_
 refine wp_seq (aI ?_)
 revert a
 refine mA I I ?_
 refine sA I (fun _ η=>cV η I I I) ?_
 intro a η
 rw [show (decide (((k:Nat):Int)<(0:Int)))=false from aC ae] at η
 revert a
 refine mA I I ?_
 refine gA I I I I (fun _ η=>ff η I) ?_
 refine gA I I I I (fun _ η=>ff η I) ?_
 refine gA I I I I (fun _ η=>cV η I I I) ?_
 intro a η
 rw [show (decide (((k:Nat):Int)>=((n:Nat):Int)))=false from aC ae] at η
 revert a
 refine sA I (fun _ η=>lU η I I) ?_
 refine aA I I ?_
 intro a η
 refine wpList_nil (b5 ?_)
 refine rV η I (I) ?_
 refine wp_skip (tK (b5 (wp_seq (aI ?_))))
 revert a
 refine mA I I ?_
 refine mA I I ?_
 intro a η
 refine aS I (gG η I call18 I (Bi aB aB) ?_)
 rintro e w11 ⟨_,rfl,⟨A8,c9,rfl,ahT⟩,hb⟩
 refine ⟨_,I,?_⟩
 clear η a; intro a η
 replace σ:=(σ.call hb).j8 ahT ⟨bX,trivial⟩
 clear ahT
 clear hb
 refine sv (v:=.pointer (some ⟨ab A1,ao A1+k*2,none⟩)) η I (m7 (i:=k) η underlying43 (az.size) I I ae I (aZ σ.jr)) ?_
 clear η a; intro a η
 refine aS I (yA (i:=k) (e:=(A8,c9,1)) (k:=0) η σ (az.size) I I I I jV ae (by assumption) I I I ?_)
 clear η σ a; intro a w12 η σ
 replace σ:=σ.tE (e:=(A8,c9,1)) (i:=1) (j:=0) I I k
 refine wpList_nil (b5 (wp_seq (aI ?_)))
 revert a
 refine mA I I ?_
 refine aA I I ?_
 refine aA I I ?_
 intro a η
 refine wpList_nil (b5 (wp_ret ?_))
 refine leave η (lk results117 (RV.tmp η I) (RV.tmp η I)) ?_
 exact ⟨_,I,⟨_,_,_,I,σ.newRow (k:=0) (j:=0) I I,(by rw [aP]; exact Hj),(by rw [fz,hz5])⟩,σ.below⟩
abbrev VE:=Option Addr×Nat×Nat×List UE
def fV (v:VE):List Value:=[.slice v.1 v.2.1 v.2.2.1]
def FV (v:VE):PF:=bH fU FU 2 v.1 v.2.1 v.2.2.1 v.2.2.2
def tl (us:List UE):Nat:=(us.map fun e=>e.2.2.1).sum
def tv (vs:List VE):Nat:=(vs.map fun v=>v.2.1+tl v.2.2.2).sum
def vz (e:UE):Int:=sg e.1 (val 4294967296 e.2.2.2.2)
def J9:List Int->List Int->Int
 | x::xs,y::ys=>if (x - y).sign=0 then J9 xs ys else (x - y).sign
 | _,_=>0
def BG (xs ys:List Int):Int:=if xs.length<ys.length then -1 else if ys.length<xs.length then 1 else J9 xs ys
theorem Xw (h:xs.length<ys.length):BG xs ys=-1:=by unfold BG; rw [au h]
theorem Xx (h:ys.length<xs.length):BG xs ys=1:=by unfold BG; rw [ak ae,au h]
theorem OU (xs:List Int):J9 xs xs=0:=by
 induction xs with
 | nil=>rfl
 | cons x xs ih=>rw [J9,Int.sub_self,au (show Int.sign 0=0 from rfl),ih]
theorem Mi:∀{xs ys:List Int} {j:Nat} {x y:Int},xs.take j=ys.take j->xs[j]?=some x->ys[j]?=some y->(x - y).sign≠0->J9 xs ys=(x - y).sign
 | [],_,_,_,_,_,h,_,_=>by cases h
 | _::_,[],_,_,_,_,_,h,_=>by cases h
 | a::xs,b::ys,0,x,y,_,h1,h2,h=>by
  rw [List.getElem?_cons_zero] at h1 h2
  cases h1; cases h2
  rw [J9,ak h]
 | a::xs,b::ys,j+1,x,y,h0,h1,h2,h=>by
  rw [iK,iK] at h0
  obtain ⟨rfl,h9⟩:=List.cons.inj h0
  rw [J9,Int.sub_self,au (show Int.sign 0=0 from rfl)]
  exact Mi h9 h1 h2 h
theorem Mj (_h:xs.length=ys.length) (h2:xs=ys):BG xs ys=0:=by
 subst h2
 unfold BG
 rw [ak ae,ak ae,OU]
theorem Xy {B:Option Addr} {c:Nat} {x:Int} (h:(es0.map zz).length=(es1.map zz).length) (hq:(es0.map zz).take j=(es1.map zz).take j) (h0:es0[j]?=some (A,c,x)) (h1:es1[j]?=some (B,d,y)) (hn:(x - y).sign≠0):BG (es0.map zz) (es1.map zz)=(x - y).sign:=by
 unfold BG
 rw [ak ae,ak ae]
 exact Mi hq (by rw [ay,h0]; rfl) (by rw [ay,h1]; rfl) hn
theorem OV {B:Option Addr} {c:Nat} {x:Int} (hq:(es0.map zz).take j=(es1.map zz).take j) (h0:es0[j]?=some (A,c,x)) (h1:es1[j]?=some (B,d,y)) (h:x=y):(es0.map zz).take (j+1)=(es1.map zz).take (j+1):=by
 rw [take_one (by rw [ay,h0]; rfl),take_one (by rw [ay,h1]; rfl),hq,h]
theorem acF (h:(a !=b)=true):a≠b:=bne_iff_ne.1 h
theorem J' {x:Int} (h:((x - y).sign !=0)=false):x=y:=by
 have h1:(x - y).sign=0:=by simpa using h
 have:=ji.1 h1
 omega
theorem Xz (h0:(bH fN FN 2 A0 n0 c0 es0).P w0) (h1:(bH fN FN 2 A1 n1 c1 es1).P w0):
  Calls prog 164 #[.slice A0 n0 c0,.slice A1 n1 c1] w0 fun e w'=>e=.returned (.int .i64 (BG (es0.map zz) (es1.map zz)))/\Below w0.heap.size w0 w':=by
 refine enter func164 I ntmps164 I ?_
 intro a η σ
 have cQ:=h0.2.1
 have eN:=aD h0.1.cap h0.1.big
 unfold maxLen at eN
 replace σ:=σ.aY h0
 clear h0
 have iI:=h1.2.1
 have jB:=aD h1.1.cap h1.1.big
 unfold maxLen at jB
 replace σ:=σ.aY h1
 clear h1
 refine wp_seq (aI ?_)
 refine sv (v:=.int .i64 0) η I (cf η I) ?_
 clear η a; intro a η
 refine wpList_nil (b5 (wp_seq (wp_block (wp_seq (aI ?_)))))
 revert a
 refine mA I I ?_
 refine sA (v:=.int .i64 (n0:Nat)) I (fun _ η=>ky η underlying43 I) ?_
 refine mA I I ?_
 refine sA (v:=.int .i64 (n1:Nat)) I (fun _ η=>ky η underlying43 I) ?_
 refine sA (v:=.bool (decide (((n0:Nat):Int)<((n1:Nat):Int)))) I (fun _ η=>cV η I I I) ?_
 refine aA I I ?_
 intro a η
 refine wpList_nil (b5 ?_)
 refine jA η I (fun vW=>?_) (fun vW=>?_)
 ·have zG:=aN vW
  refine wp_seq (aI ?_)
  refine sv (v:=.int .i64 (-1)) η I (cf η I) ?_
  clear η a; intro a η
  refine wpList_nil (b5 (wp_ret (qM (nN ?_))))
  refine leave η (iJ results164 (RV.tmp η I)) ?_
  exact ⟨by rw [Xw (by rw [aw,aw]; omega)],σ.below⟩
 ·have OW:=bP vW
  refine wp_seq (aI ?_)
  revert a
  refine mA I I ?_
  refine sA (v:=.int .i64 (n0:Nat)) I (fun _ η=>ky η underlying43 I) ?_
  refine mA I I ?_
  refine sA (v:=.int .i64 (n1:Nat)) I (fun _ η=>ky η underlying43 I) ?_
  refine sA (v:=.bool (decide (((n0:Nat):Int)>((n1:Nat):Int)))) I (fun _ η=>cV η I I I) ?_
  refine aA I I ?_
  intro a η
  refine wpList_nil (b5 ?_)
  refine jA η I (fun R6=>?_) (fun R6=>?_)
  ·have hc5:=aN R6
   refine wp_seq (aI ?_)
   refine sv (v:=.int .i64 1) η I (cf η I) ?_
   clear η a; intro a η
   refine wpList_nil (b5 (wp_ret (qM (nN ?_))))
   refine leave η (iJ results164 (RV.tmp η I)) ?_
   exact ⟨by rw [Xx (by rw [aw,aw]; omega)],σ.below⟩
  ·have hc6:=bP R6
   refine wp_skip (tK (b5 (wp_seq (wp_seq (aI ?_)))))
   revert a
   refine mA I I ?_
   refine sA (v:=.int .i64 (n0:Nat)) I (fun _ η=>ky η underlying43 I) ?_
   refine mA I I ?_
   intro a η
   refine wpList_nil (b5 (wp_block ?_))
   refine wp_loop_ghost (fun mz a w=>∃j:Nat,n0 - j=mz/\Env 37 a [(0,.slice A0 n0 c0),(1,.slice A1 n1 c1),(20,.slice A0 n0 c0),(21,.int .i64 (n0:Nat)),(22,.int .i64 (j:Nat))]/\St w0 w [] [bH fN FN 2 A1 n1 c1 es1,bH fN FN 2 A0 n0 c0 es0]/\j<=n0/\(es0.map zz).take j=(es1.map zz).take j) _ ⟨0,I,η.sub aT,σ.pick [] [0,1] aB,(av _),I⟩ ?_
   clear η σ a
   rintro mz a w7 ⟨j,rfl,η,σ,hj,hq⟩
   refine wp_seq (aI ?_)
   refine sv (v:=.bool (decide (((j:Nat):Int)<((n0:Nat):Int)))) η I (cV η I I I) ?_
   clear η a; intro a η
   refine wpList_nil (b5 (wp_seq ?_))
   refine jA η I (fun hc8=>?_) (fun hc8=>?_)
   ·have fh:j<n0:=by have:=aN hc8; omega
    obtain ⟨⟨A,c,x⟩,eG⟩:∃e,es0[j]?=some e:=⟨_,ag ae⟩
    replace σ:=σ.elem (k:=1) I eG
    obtain ⟨⟨B,d,y⟩,kf⟩:∃e,es1[j]?=some e:=⟨_,ag ae⟩
    replace σ:=σ.elem (k:=1) I kf
    refine wp_skip (b5 (wp_seq (wp_block (wp_seq (aI ?_)))))
    revert a
    refine mA I I ?_
    refine sA (v:=.pointer (some ⟨ab A0,ao A0+j*2,none⟩)) I (fun _ η=>m7 (i:=j) η underlying43 (az.size) I I ae I σ.kC.1) ?_
    refine sA (v:=.agg #[.bool (neg x),.slice A (zl x) c]) I (fun _ η=>cX (i:=j) (e:=(A,c,x)) η az I I jV σ.kC.1 ae eG I) ?_
    intro a η
    refine aS I (kQ (c:=#[.bool (neg 0),.slice none (zl 0) 0]) η σ I bA pW ?_)
    clear η σ a; intro a w10 g9 η σ
    refine sv (v:=.int .i64 (j:Nat)) η I (cf η I) ?_
    clear η a; intro a η
    refine aS I (kZ (k:=0) (c':=#[.bool (neg x),.slice A (zl x) c]) η σ (az.size) I I I I fW I I ?_)
    clear η σ a; intro a w11 η σ
    refine wpList_nil (b5 (wp_seq ?_))
    refine sQ (n:=7) (Sk [bk g9 #[.bool (neg x),.slice A (zl x) c] 52] [DJ B d y,DJ A c x,bH fN FN 2 A1 n1 c1 es1,bH fN FN 2 A0 n0 c0 es0] [] []) mixed I η σ ?_
    clear η σ; intro w12 η σ
    refine tL (i:=0) 0 0 [5,6] I bI (fun _ _ _ h=>h) η I az I σ I I I ?_
    clear η a; intro a η
    refine tM (i:=1) (rg 3 4) I bI (fun _ _ _ h=>h) η I I ?_
    clear η a; intro a η
    refine tM (i:=2) (rg 3 4) I bI (fun _ _ _ h=>h) η I I ?_
    clear η a; intro a η
    refine kV (i:=3) [4,5,6] (fun w'=>(bH fN FN 2 A1 n1 c1 es1).P w') (v:=.pointer (some ⟨ab A1,ao A1+j*2,none⟩)) I bI (fun _ _ _ h=>h) (fun _ _ _ hS=>hS.1.pat (k:=2) I) η I σ.fX (fun w' hg=>m7 (i:=j) η underlying43 (az.size) I I ae I (hg).1) ?_
    clear η a; intro a η
    refine kV (i:=4) [5,6] (fun w'=>(bH fN FN 2 A1 n1 c1 es1).P w') (v:=.agg #[.bool (neg y),.slice B (zl y) d]) I bI (fun _ _ _ h=>h) (fun _ _ _ hS=>hS.1.pat (k:=2) I) η I σ.fX (fun w' hg=>cX (i:=j) (e:=(B,d,y)) η az I I jV (hg).1 ae kf I) ?_
    clear η a; intro a η
    refine qL (i:=5) bI I I (gG η I call115 I (aau (x:=x) (y:=y) (show iY _ A c x from σ.dw) (show iY _ B d y from σ.bW)) ?_)
    rintro e w13 ⟨rfl,hb⟩
    refine ⟨_,I,?_⟩
    clear η a; intro a η
    replace σ:=σ.call hb
    clear hb
    refine ⟨.inr ⟨σ.kn.pick [0] (rg 0 4),.inr (σ.kn.pick [] [])⟩,?_⟩
    refine tA (i:=6) [] (v:=.int .i64 ((x - y).sign)) I bI (fun _ _ _ h=>h) η I (fun _=>cf η I) ?_
    clear η a; intro a η
    refine u7 bI ?_ _
    refine b5 (wp_seq (aI ?_))
    revert a
    refine mA I I ?_
    refine sA (v:=.bool ((x - y).sign !=(0:Int))) I (fun _ η=>cV η I I I) ?_
    intro a η
    refine wpList_nil (b5 ?_)
    refine jA η I (fun acG=>?_) (fun acG=>?_)
    ·have hnz:(x - y).sign≠0:=acF acG
     refine wp_seq (aI ?_)
     revert a
     refine mA I I ?_
     refine aA I I ?_
     intro a η
     refine wpList_nil (b5 (wp_ret (qM (nN (nN (qM (nN ?_)))))))
     refine leave η (iJ results164 (RV.tmp η I)) ?_
     exact ⟨by rw [Xy (by rw [aw,aw]; omega) hq eG kf hnz],σ.below⟩
    ·have hzz:x=y:=J' acG
     refine wp_skip (tK (b5 (aI ?_)))
     revert a
     refine sA (v:=.int .i64 (j+1:Nat)) I (fun _ η=>lY η I I (by rw [IntWalk.i64_in _ ae]; omega)) ?_
     refine mA I I ?_
     intro a η
     refine wpList_nil ?_
     exact b5 ⟨_,ae,⟨j+1,I,η.sub aT,σ.pick [] [2,3] aB,ae,(OV hq eG kf hzz)⟩⟩
   ·have hjn:j=n0:=by have:=bP hc8; omega
    refine wp_exit (oM (oM (wz (b5 (wp_seq (aI ?_))))))
    refine sv (v:=.int .i64 0) η I (cf η I) ?_
    clear η a; intro a η
    refine wpList_nil (b5 (wp_ret ?_))
    refine leave η (iJ results164 (RV.tmp η I)) ?_
    exact ⟨by rw [Mj (by rw [aw,aw]; omega) (by rw [ax (by rw [aw]; omega),ax (by rw [aw]; omega)] at hq; exact hq)],σ.below⟩
theorem R7 (h0:(bH fN FN 2 A0 n0 c0 es0).P w0) (h1:(bH fN FN 2 A1 n1 c1 es1).P w0):
  Calls prog 118 #[.slice A0 n0 c0,.slice A1 n1 c1] w0 fun e w'=>e=.returned (.bool ((BG (es0.map zz) (es1.map zz))==0))/\Below w0.heap.size w0 w':=by
 refine enter func118 I ntmps118 I ?_
 intro a η σ
 have cQ:=h0.2.1
 have eN:=aD h0.1.cap h0.1.big
 unfold maxLen at eN
 replace σ:=σ.aY h0
 have iI:=h1.2.1
 have jB:=aD h1.1.cap h1.1.big
 unfold maxLen at jB
 replace σ:=σ.aY h1
 refine wp_seq (aI ?_)
 refine sv (v:=.bool false) η I (cf η I) ?_
 clear η a; intro a η
 refine wpList_nil (b5 (wp_seq (aI ?_)))
 revert a
 refine mA I I ?_
 refine mA I I ?_
 intro a η
 refine aS I (gG η I call164 I (Xz σ.dw σ.bW) ?_)
 rintro e w1 ⟨rfl,hb⟩
 refine ⟨_,I,?_⟩
 clear η a; intro a η
 replace σ:=σ.call hb
 clear hb
 revert a
 refine sA (v:=.bool ((BG (es0.map zz) (es1.map zz))==(0:Int))) I (fun _ η=>cV η I I I) ?_
 refine aA I I ?_
 intro a η
 refine wpList_nil (b5 (wp_ret ?_))
 refine leave η (iJ results118 (RV.tmp η I)) ?_
 exact ⟨I,σ.below⟩
def wid (zs:List Int):Int:=zs.foldl (fun w z=>if w<(z.natAbs:Int) then (z.natAbs:Int) else w) 0
theorem acH {us:List UE} {e:UE} (h:e∈us):e.2.2.1<=tl us:=by
 induction us with
 | nil=>cases h
 | cons x us ih=>
  unfold tl at*
  rw [dk,List.sum_cons]
  rcases bf.1 h with rfl | h
  ·omega
  ·have:=ih h; omega
theorem acK {b:Bool} {c:Nat} {xs:List Nat} (h:kp w A n c xs) (hn:n<=k):zl (sg b (val 4294967296 xs))<=k:=by
 have h2:=acj h
 have e:zl (sg b (val 4294967296 xs))=nl (val 4294967296 xs):=by
  unfold sg zl
  split
  ·rw [Int.natAbs_neg,iS]
  ·rw [iS]
 omega
def Zk (k:Nat) (zs:List Int):Prop:=∀z∈zs,zl z<=k
theorem Zk.es {es:List NE} (h:Zk k zs) (e:es.map zz=zs):ZB k es:=fun x hx=>h (zz x) (e ▸ fK hx)
theorem Zk.mono (h:Zk k zs) (hm:k<=m):Zk m zs:=fun z hz=>aD (h z hz) hm
theorem Zk.map {f:Int->Int} (h:Zk k zs) (hf:∀z,zl z<=k->zl (f z)<=m):Zk m (zs.map f):=fun x hx=>by
 obtain ⟨z,hz,rfl⟩:=bG.1 hx
 exact hf z (h z hz)
theorem y6 {f:Int->Int->Int} {x:Int}:∀{xs ys:List Int},x∈List.zipWith f xs ys->∃a∈xs,∃b∈ys,x=f a b
 | [],_,h=>by simp at h
 | _::_,[],h=>by simp at h
 | a::xs,b::ys,h=>by
  rw [List.zipWith_cons_cons] at h
  rcases bf.1 h with rfl | h
  ·exact ⟨a,aJ ..,b,aJ ..,I⟩
  ·obtain ⟨a,ha,b,hb,e⟩:=y6 h
   exact ⟨a,aQ _ ha,b,aQ _ hb,e⟩
theorem Zk.zip {f:Int->Int->Int} (h:Zk k xs) (g:Zk j ys) (hf:∀x y,zl x<=k->zl y<=j->zl (f x y)<=m):Zk m (List.zipWith f xs ys):=fun x hx=>by
 obtain ⟨a,ha,b,hb,rfl⟩:=y6 hx
 exact hf a b (h a ha) (g b hb)
theorem Zk.vz {es:List UE} (h:(dW FU es).P w) (ht:tl es<=k):Zk k (es.map vz):=by
 intro z hz
 obtain ⟨e,he,rfl⟩:=bG.1 hz
 have h1:kp w e.2.1 e.2.2.1 e.2.2.2.1 e.2.2.2.2:=h e he
 exact acK h1 (aD (acH he) ht)
theorem Zk.ahW (h:Zk k zs):Zk k (ahW zs):=h.map fun _ hz=>aD (Mg _ _) hz
theorem Zk.take (h:Zk k zs) (j:Nat):Zk k (zs.take j):=fun z hz=>h z (dM hz)
theorem z7 (b:Bool):b=true∨b=false:=by cases b<;>simp
def CN (op cn:Int):Prop:=((op=5∨op=6)->cn≠0/\-512<=cn/\cn<=512)/\((op=7∨op=8)->1<=cn/\cn<=64)/\(¬(op=5∨op=6∨op=7∨op=8)->cn=0)
instance (op cn:Int):Decidable (CN op cn):=by unfold CN; infer_instance
def gl (e:IE) (g:Int):Prop:=1<=e.1/\e.1<=8/\0<=e.2.1/\e.2.1<g/\0<=e.2.2.1/\e.2.2.1<g/\((e.1=3∨e.1=4)->0<=e.2.2.2.1/\e.2.2.2.1<g/\e.2.2.2.2=0)/\(¬(e.1=3∨e.1=4)->e.2.2.2.1=0)/\
 ((e.1=5∨e.1=6)->e.2.2.2.2≠0/\-512<=e.2.2.2.2/\e.2.2.2.2<=512)/\((e.1=7∨e.1=8)->1<=e.2.2.2.2/\e.2.2.2.2<=64)/\((e.1=1∨e.1=2)->e.2.2.2.2=0)
instance (e:IE) (g:Int):Decidable (gl e g):=by unfold gl; infer_instance
def gx (op ra rb:Int):List Int:=if op=3∨op=4 then [ra,rb] else if 1<=op/\op<=8 then [ra] else []
theorem ox (op ra rb:Int):(gx op ra rb).length<=2:=by
 unfold gx
 split
 ·simp
 ·split<;>simp
def avl (B:Nat) (w:World) (v:Value) (zs:List Int):Prop:=∃A c,v=.slice A zs.length c/\(bH fI FI 1 A zs.length c zs).P w/\∀a,A=some a->B<=a.block
def uB (i g:Int) (n m:Nat):Prop:=1<=i/\i<=g/\g<=128/\n<=16384/\1<=m/\m<=128
instance (i g:Int) (n m:Nat):Decidable (uB i g n m):=by unfold uB; infer_instance
def R8 (i g:Int) (n m:Nat) (es:List IE) (os:List Int):Prop:=uB i g n m/\(∀x∈os,0<=x/\x<g)/\∀e∈es,gl e g
def asw (i g:Int) (n m:Nat) (es:List IE) (os:List Int) (k:Int):Prop:=
 (k=-1/\¬uB i g n m)∨(k=-1/\uB i g n m/\¬∀x∈os,0<=x/\x<g)∨
 ∃(q:Nat) (ek:IE),k=(q:Nat)/\uB i g n m/\(∀x∈os,0<=x/\x<g)/\es[q]?=some ek/\¬gl ek g/\∀j e,j<q->es[j]?=some e->gl e g
open Go.RowKit Anv
abbrev Rw:=List Int
def y7 (c:Int) (x:Rw):Bool:=x.all fun v=>decide (v%c=0)
def px (op c:Int) (x y:Rw):Option Rw:=
 if op=2 then some (x.map fun v=>-v)
 else if op=3 then some (List.zipWith (fun a b=>a+b) x y)
 else if op=4 then some (List.zipWith (fun a b=>a - b) x y)
 else if op=5 then some (x.map fun v=>v*c)
 else if op=6 then (if y7 c x then some (x.map fun v=>v / c) else none)
 else if op=7 then some (x.map fun v=>v*2 ^ c.toNat)
 else if op=8 then (if y7 (2 ^ c.toNat) x then some (x.map fun v=>v / 2 ^ c.toNat) else none)
 else some x
def kh (R:List Rw) (k:Int):Rw:=R.getD k.toNat []
def qf (R:List Rw) (e:IE):Option (List Rw):=(px e.1 e.2.2.2.2 (kh R e.2.2.1) (kh R e.2.2.2.1)).map fun z=>R.set e.2.1.toNat z
def exe:List Rw->List IE->Option (List Rw)
 | R,[]=>some R
 | R,e::es=>(qf R e).bind fun R'=>exe R' es
def lT (g n:Nat) (G:List Rw):List Rw:=G++List.replicate (g - G.length) (List.replicate n 0)
variable {x z:Rw} {R R1 R2 R' G O:List Rw}
theorem lH {es:List IE}:exe R (e::es)=(qf R e).bind fun R'=>exe R' es:=rfl
theorem wO:∀(es fs:List IE) (R:List Rw),exe R (es++fs)=(exe R es).bind fun R'=>exe R' fs
 | [],_,_=>rfl
 | e::es,fs,R=>by
  rw [ft,lH,lH]
  cases h:qf R e with
  | none=>rfl
  | some R1=>exact wO es fs R1
theorem EO {es:List IE} (h1:exe R es=some R1) (h2:exe R1 fs=some R2):exe R (es++fs)=some R2:=by
 rw [wO,h1]; exact h2
theorem xK (h:qf R e=some R1):exe R [e]=some R1:=by
 rw [lH,h]; rfl
theorem R9 {es:List IE} (h1:exe R es=some R1) (h2:qf R1 e=some R2):exe R (es++[e])=some R2:=EO h1 (xK h2)
theorem OX {es:List IE} (h:exe R (es++fs)=some R2):∃R1,exe R es=some R1/\exe R1 fs=some R2:=by
 rw [wO] at h
 cases h1:exe R es with
 | none=>rw [h1] at h; cases h
 | some R1=>rw [h1] at h; exact ⟨R1,rfl,h⟩
theorem Mk {y:Rw} (h:px op c x y=some z) (hx:x.length=n) (hy:y.length=n):z.length=n:=by
 unfold px at h
 (repeat' split at h)<;>first | (cases h; done) | (cases h; simp [hx,hy])
theorem yB {k:Int} (hR:R.length=g) (hn:∀r∈R,r.length=n) (h0:0<=k) (h1:k<g):(kh R k).length=n:=by
 unfold kh
 have:k.toNat<R.length:=ae
 rw [aj,ag this]
 exact hn _ (eJ this)
theorem Ka {k:Int} {f:Rw->Rw} (hR:R.length=g) (h0:0<=k) (h1:k<g):kh (R.map f) k=f (kh R k):=by
 unfold kh
 have:k.toNat<R.length:=ae
 rw [aj,aj,ay,ag this]
 rfl
theorem mS {k:Int} (hR:R.length=g) (h0:0<=k) (h1:k<g):kh (R.set k.toNat z) k=z:=by
 unfold kh
 rw [aj,iM ae]
 rfl
theorem oW {k j:Int} (h0:0<=k) (h1:0<=j) (h:k≠j):kh (R.set k.toNat z) j=kh R j:=by
 unfold kh
 rw [aj,aj,List.getElem?_set_ne ae]
theorem vk {y y':Rw} (h:¬(op=3∨op=4)):px op c x y=px op c x y':=by
 unfold px
 rw [ak (show ¬op=3 by omega),ak (show ¬op=4 by omega),ak (show ¬op=3 by omega),ak (show ¬op=4 by omega)]
theorem Hk {y:Rw} (h:px op c x y=some z) (hx:x.length=n) (hy:(op=3∨op=4)->y.length=n):z.length=n:=by
 by_cases q:op=3∨op=4
 ·exact Mk h hx (hy q)
 ·rw [vk (y':=x) q] at h
  exact Mk h hx hx
theorem z8 (h:qf R e=some R') (hM:gl e g) (hR:R.length=g) (hn:∀r∈R,r.length=n):R'.length=g/\∀r∈R',r.length=n:=by
 obtain ⟨op,to_,a,b,c⟩:=e
 unfold qf at h
 unfold gl at hM
 dsimp only at h hM
 cases hr:px op c (kh R a) (kh R b) with
 | none=>rw [hr] at h; cases h
 | some z=>
  rw [hr] at h
  obtain rfl:=aW h
  have hz:=Hk hr (yB hR hn ae ae) fun q=>yB hR hn ae ae
  refine ⟨by rw [aP]; exact hR,fun r hm=>?_⟩
  rcases dz hm with q | rfl
  ·exact hn r q
  ·exact hz
theorem z':∀(es:List IE) {R R':List Rw} {g n:Nat},exe R es=some R'->(∀e∈es,gl e g)->R.length=g->(∀r∈R,r.length=n)->R'.length=g/\∀r∈R',r.length=n
 | [],_,_,_,_,h,_,hR,hn=>by cases h; exact ⟨hR,hn⟩
 | e::es,R,R',g,n,h,hM,hR,hn=>by
  rw [lH] at h
  cases h1:qf R e with
  | none=>rw [h1] at h; cases h
  | some R1=>
   rw [h1] at h
   obtain ⟨a,b⟩:=z8 h1 (hM e (aJ ..)) hR hn
   exact z' es h (fun e he=>hM e (aQ _ he)) a b
def dt:List Int->List Int->Int
 | a::x,b::y=>a*b+dt x y
 | _,_=>0
theorem BH (b:List Int):dt [] b=0:=by cases b<;>rfl
theorem Sa:∀(x c:List Int),dt (x.map fun v=>-v) c=- dt x c
 | [],c=>by rw [List.map_nil,BH]; rfl
 | _::_,[]=>rfl
 | a::x,b::c=>by rw [dk,dt,dt,Sa x c,iP,Int.neg_add]
theorem ER (k:Int):∀(x c:List Int),dt (x.map fun v=>v*k) c=dt x c*k
 | [],c=>by rw [List.map_nil,BH,dh]
 | _::_,[]=>by simp [dt]
 | a::x,b::c=>by rw [dk,dt,dt,ER k x c,jG,Int.mul_right_comm]
theorem Sb:∀(x y c:List Int),x.length=y.length->dt (List.zipWith (fun a b=>a+b) x y) c=dt x c+dt y c
 | [],[],c,_=>by rw [List.zipWith_nil_left,BH]; rfl
 | _::_,_::_,[],_=>rfl
 | a::x,b::y,d::c,h=>by
  rw [List.zipWith_cons_cons,dt,dt,dt,Sb x y c (by simpa using h),jG]; omega
theorem Sc:∀(x y c:List Int),x.length=y.length->dt (List.zipWith (fun a b=>a - b) x y) c=dt x c - dt y c
 | [],[],c,_=>by rw [List.zipWith_nil_left,BH]; rfl
 | _::_,_::_,[],_=>rfl
 | a::x,b::y,d::c,h=>by
  rw [List.zipWith_cons_cons,dt,dt,dt,Sc x y c (by simpa using h),Int.sub_mul]; omega
theorem XA {k:Int} (h:y7 k x=true):(x.map fun v=>v / k).map (fun v=>v*k)=x:=by
 rw [eT]
 conv=>rhs; rw [<- List.map_id x]
 refine cZ fun v hv=>?_
 have:=aN (bp.1 h v hv)
 exact Int.ediv_mul_cancel (iC this)
theorem Sd {k:Int} (h:y7 k x=true) (c:List Int):dt x c=dt (x.map fun v=>v / k) c*k:=by
 rw [<- ER,XA h]
def tF (X:List (List Int)) (x:Rw):Rw:=X.map (dt x)
theorem XB (X:List (List Int)) (x:Rw):(tF X x).length=X.length:=aw _
theorem Ml {k:Int} (X:List (List Int)) (hk:k≠0) (h:y7 k x=true):y7 k (tF X x)=true/\(tF X x).map (fun v=>v / k)=tF X (x.map fun v=>v / k):=by
 refine ⟨bp.2 fun v hv=>?_,?_⟩
 ·obtain ⟨c,_,rfl⟩:=bG.1 hv
  rw [Sd h c]
  exact a8 (Int.mul_emod_left _ _)
 ·unfold tF
  rw [eT]
  refine cZ fun c _=>?_
  show dt x c / k=_
  rw [Sd h c,b8 _ hk]
theorem Mm (f:Int->Int->Int) (X:List (List Int)) (x y:Rw):List.zipWith f (tF X x) (tF X y)=X.map fun c=>f (dt x c) (dt y c):=by
 unfold tF
 rw [List.zipWith_map,List.zipWith_self]
theorem Mn {y:Rw} (X:List (List Int)) (h:px op c x y=some z) (hl:(op=3∨op=4)->x.length=y.length) (hc:op=6->c≠0):px op c (tF X x) (tF X y)=some (tF X z):=by
 have h2:(2:Int) ^ c.toNat≠0:=Int.pow_ne_zero aB
 unfold px at h ⊢
 split at h
 ·rename_i q
  cases h
  rw [au q]
  simp [tF,Sa]
 rename_i q2
 rw [ak q2]
 split at h
 ·rename_i q
  cases h
  rw [au q,Mm]
  exact aq some (cZ fun c _=>(Sb x y c (hl (.inl q))).symm)
 rename_i q3
 rw [ak q3]
 split at h
 ·rename_i q
  cases h
  rw [au q,Mm]
  exact aq some (cZ fun c _=>(Sc x y c (hl (.inr q))).symm)
 rename_i q4
 rw [ak q4]
 split at h
 ·rename_i q
  cases h
  rw [au q]
  simp [tF,ER]
 rename_i q5
 rw [ak q5]
 split at h
 ·rename_i q
  rw [au q]
  split at h
  ·rename_i hd
   cases h
   obtain ⟨a,b⟩:=Ml X (hc q) hd
   rw [au a,b]
  ·cases h
 rename_i q6
 rw [ak q6]
 split at h
 ·rename_i q
  cases h
  rw [au q]
  simp [tF,ER]
 rename_i q7
 rw [ak q7]
 split at h
 ·rename_i q
  rw [au q]
  split at h
  ·rename_i hd
   cases h
   obtain ⟨a,b⟩:=Ml X h2 hd
   rw [au a,b]
  ·cases h
 rename_i q8
 rw [ak q8]
 cases h
 rfl
theorem XC (X:List (List Int)) (h:qf R e=some R') (hM:gl e g) (hR:R.length=g) (hn:∀r∈R,r.length=n):qf (R.map (tF X)) e=some (R'.map (tF X)):=by
 obtain ⟨op,to_,a,b,c⟩:=e
 unfold qf at h ⊢
 unfold gl at hM
 dsimp only at h hM ⊢
 cases hr:px op c (kh R a) (kh R b) with
 | none=>rw [hr] at h; cases h
 | some z=>
  rw [hr] at h
  obtain rfl:=aW h
  rw [Ka hR ae ae]
  by_cases q:op=3∨op=4
  ·rw [Ka hR ae ae,Mn X hr (fun _=>(yB hR hn ae ae).trans (yB hR hn ae ae).symm) ae]
   simp
  ·rw [vk (y':=tF X (kh R b)) q,Mn X hr (fun q'=>absurd q' q) ae]
   simp
theorem Mo (X:List (List Int)):∀(es:List IE) {R R':List Rw} {g n:Nat},exe R es=some R'->(∀e∈es,gl e g)->R.length=g->(∀r∈R,r.length=n)->exe (R.map (tF X)) es=some (R'.map (tF X))
 | [],_,_,_,_,h,_,_,_=>by cases h; rfl
 | e::es,R,R',g,n,h,hM,hR,hn=>by
  rw [lH] at h ⊢
  cases h1:qf R e with
  | none=>rw [h1] at h; cases h
  | some R1=>
   rw [h1] at h
   obtain ⟨a,b⟩:=z8 h1 (hM e (aJ ..)) hR hn
   rw [XC X h1 (hM e (aJ ..)) hR hn]
   exact Mo X es h (fun e he=>hM e (aQ _ he)) a b
def rj (b:Nat) (R:List Rw):Prop:=∀r∈R,∀v∈r,v.natAbs<2 ^ b
theorem rj.mono {b c:Nat} (h:rj b R) (Bn:b<=c):rj c R:=fun r hr v hv=>cl (h r hr v hv) (bS aB Bn)
theorem BI {x b:Nat} (hv:v.natAbs<2 ^ b) (hc:c.natAbs<=2 ^ k) (hx:x=b+k):(v*c).natAbs<2 ^ x:=by
 subst hx
 rw [dL,eh]
 rcases bu c.natAbs with q | q
 ·rw [q,iU]; exact jE (eL aB) (eL aB)
 ·exact cl (Nat.mul_lt_mul_of_pos_right hv q) (bT _ hc)
theorem XD {y:Rw} {b:Nat} (h:px op c x y=some z) (hx:∀v∈x,v.natAbs<2 ^ b) (hy:(op=3∨op=4)->∀v∈y,v.natAbs<2 ^ b) (h5:op=5->c.natAbs<=512) (h7:op=7->c<=64):∀v∈z,v.natAbs<2 ^ (b+64):=by
 have hm:∀k:Nat,k<=64->2 ^ (b+k)<=2 ^ (b+64):=fun k hk=>bS aB ae
 have h1:=hm 1 aB
 rw [cT] at h1
 have h0:=hm 0 aB
 rw [dr] at h0
 unfold px at h
 split at h
 ·cases h
  intro v hv
  obtain ⟨u,hu,rfl⟩:=bG.1 hv
  have:=hx u hu
  omega
 split at h
 ·rename_i q
  cases h
  intro v hv
  rw [List.mem_iff_getElem?] at hv
  obtain ⟨i,hi⟩:=hv
  obtain ⟨u,t,hu,ht,rfl⟩:=List.getElem?_zipWith_eq_some.1 hi
  have:=hx u (ah hu)
  have:=hy (.inl q) t (ah ht)
  omega
 split at h
 ·rename_i q
  cases h
  intro v hv
  rw [List.mem_iff_getElem?] at hv
  obtain ⟨i,hi⟩:=hv
  obtain ⟨u,t,hu,ht,rfl⟩:=List.getElem?_zipWith_eq_some.1 hi
  have:=hx u (ah hu)
  have:=hy (.inr q) t (ah ht)
  omega
 split at h
 ·rename_i q
  cases h
  intro v hv
  obtain ⟨u,hu,rfl⟩:=bG.1 hv
  exact cl (BI (hx u hu) (h5 q) I) (hm 9 aB)
 have hdiv:∀(k:Int),∀v∈x.map (fun v=>v / k),y7 k x=true->v.natAbs<2 ^ (b+64):=by
  intro k v hv hd
  obtain ⟨u,hu,rfl⟩:=bG.1 hv
  have h2:=aN (bp.1 hd u hu)
  have h3:=Int.ediv_mul_cancel (iC h2)
  have h4:(u / k).natAbs<=u.natAbs:=by
   rcases kj k 0 with q | q | q
   ·rw [<- h3,dL,b8 _ ae]
    exact iB _ ae
   ·rw [q,Int.ediv_zero]; exact av _
   ·rw [<- h3,dL,b8 _ ae]
    exact iB _ ae
  have:=hx u hu
  omega
 split at h
 ·split at h
  ·rename_i hd
   cases h
   exact fun v hv=>hdiv _ v hv hd
  ·cases h
 split at h
 ·rename_i q
  cases h
  intro v hv
  obtain ⟨u,hu,rfl⟩:=bG.1 hv
  refine BI (hx u hu) ?_ I
  rw [kx]
  exact bS aB (by have:=h7 q; omega)
 split at h
 ·split at h
  ·rename_i hd
   cases h
   exact fun v hv=>hdiv _ v hv hd
  ·cases h
 cases h
 intro v hv
 have:=hx v hv
 omega
theorem Se {k:Int} {b:Nat} (h:rj b R):∀v∈kh R k,v.natAbs<2 ^ b:=by
 unfold kh
 rw [aj]
 cases hk:R[k.toNat]? with
 | none=>intro v hv; cases hv
 | some r=>exact h r (ah hk)
theorem Mp {g:Int} {b:Nat} (h:qf R e=some R') (hM:gl e g) (hb:rj b R):rj (b+64) R':=by
 obtain ⟨op,to_,a,b',c⟩:=e
 unfold qf at h
 unfold gl at hM
 dsimp only at h hM
 cases hr:px op c (kh R a) (kh R b') with
 | none=>rw [hr] at h; cases h
 | some z=>
  rw [hr] at h
  obtain rfl:=aW h
  have hz:=XD hr (Se hb) (fun _=>Se hb) ae ae
  intro r hm
  rcases dz hm with q | rfl
  ·exact hb.mono ae r q
  ·exact hz
def p2 (c:Int):Option Nat:=[1,2,3,4,5,6,7,8,9].find? fun k=>decide ((2:Int) ^ k=c)
theorem sY (h:p2 c=some m):c=2 ^ m/\1<=m/\m<=9:=by
 unfold p2 at h
 have h1:=List.find?_some h
 refine ⟨(aN h1).symm,?_⟩
 have:=List.mem_of_find?_eq_some h
 simp at this
 omega
def dY (e:IE):IE:=
 if e.1=3 then (if e.2.2.1=e.2.2.2.1 then (7,e.2.1,e.2.2.1,0,1) else e)
 else if e.1=5∨e.1=6 then
  if e.2.2.2.2=1 then (1,e.2.1,e.2.2.1,0,0)
  else if e.2.2.2.2=-1 then (2,e.2.1,e.2.2.1,0,0)
  else match p2 e.2.2.2.2 with
   | some m=>if e.1=5 then (7,e.2.1,e.2.2.1,0,m) else (8,e.2.1,e.2.2.1,0,m)
   | none=>e
 else e
def qB (f c s d:Int):Option (Int×Int):=
 if f=1 then some (s,d)
 else if f=2 then if s=1 then some (2,0) else if s=2 then some (1,0) else if s=5∨s=6 then some (s,-d) else none
 else if f=5 then
  if s=2 then some (5,-c) else if s=5/\(-512<=c*d/\c*d<=512) then some (5,c*d)
  else if s=6/\c.tmod d=0 then some (5,c.tdiv d) else if s=6/\d.tmod c=0 then some (6,d.tdiv c) else none
 else if f=6 then if s=2 then some (6,-c) else if s=6/\(-512<=c*d/\c*d<=512) then some (6,c*d) else none
 else if f=7 then if s=7/\c+d<=64 then some (7,c+d) else if s≠8 then none else if c=d then some (1,0) else if c>d then some (7,c - d) else some (8,d - c)
 else if f=8 then if s=8/\c+d<=64 then some (8,c+d) else none
 else none
def jS (a b:IE):Option IE:=
 if b.1=3∨b.1=4∨b.2.2.1≠a.2.1∨b.2.1≠a.2.1 then none
 else (qB a.1 a.2.2.2.2 b.1 b.2.2.2.2).map fun q=>dY (q.1,b.2.1,a.2.2.1,0,q.2)
def qS (b:IE):Bool:=decide (b.1=1/\b.2.1=b.2.2.1)
def iW:List IE->IE->List IE
 | [],b=>if qS b then [] else [b]
 | a::st,b=>if qS b then a::st else match jS a b with
  | none=>b::a::st
  | some x=>iW st x
def oy (es:List IE):List IE:=(es.foldl (fun st e=>iW st (dY e)) []).reverse
def Wj (op c v:Int):Prop:=(op=6->v%c=0)/\(op=8->v%2 ^ c.toNat=0)
def oS (op c v:Int):Int:=if op=2 then -v else if op=5 then v*c else if op=6 then v / c else if op=7 then v*2 ^ c.toNat else if op=8 then v / 2 ^ c.toNat else v
theorem vm:y7 c x=true↔∀v∈x,v%c=0:=by simp [y7]
theorem Kb {f:Int->Int} {p:Int->Prop} (hp:∀v,p v):(some (x.map f)=some z)↔(∀v∈x,p v)/\z=x.map f:=⟨fun e=>⟨fun v _=>hp v,(aW e).symm⟩,fun e=>by rw [e.2]⟩
theorem ki (c v:Int) (h6:op≠6) (h8:op≠8):Wj op c v:=⟨fun e=>absurd e h6,fun e=>absurd e h8⟩
theorem rN {y:Rw} (h:¬(op=3∨op=4)):px op c x y=some z↔(∀v∈x,Wj op c v)/\z=x.map (oS op c):=by
 have hid:x.map (fun v=>v)=x:=List.map_id x
 unfold px
 rw [ak (show ¬op=3 by omega),ak (show ¬op=4 by omega)]
 by_cases q2:op=2
 ·subst q2; rw [au rfl]; exact Kb fun v=>ki _ _ aB aB
 rw [ak q2]
 by_cases q5:op=5
 ·subst q5; rw [au rfl]; exact Kb fun v=>ki _ _ aB aB
 rw [ak q5]
 by_cases q6:op=6
 ·subst q6
  rw [au rfl]
  by_cases hd:y7 c x=true
  ·rw [au hd]
   have:=vm.1 hd
   simp only [Option.some.injEq]
   constructor
   ·intro e; exact ⟨fun v hv=>⟨fun _=>this v hv,fun e=>by cases e⟩,by rw [<- e]; rfl⟩
   ·rintro ⟨_,e⟩; rw [e]; rfl
  ·rw [ak hd]
   constructor
   ·intro e; cases e
   ·rintro ⟨e,_⟩; exact absurd (vm.2 fun v hv=>(e v hv).1 rfl) hd
 rw [ak q6]
 by_cases q7:op=7
 ·subst q7; rw [au rfl]; exact Kb fun v=>ki _ _ aB aB
 rw [ak q7]
 by_cases q8:op=8
 ·subst q8
  rw [au rfl]
  by_cases hd:y7 (2 ^ c.toNat) x=true
  ·rw [au hd]
   have:=vm.1 hd
   simp only [Option.some.injEq]
   constructor
   ·intro e; exact ⟨fun v hv=>⟨fun e=>(by cases e),fun _=>this v hv⟩,by rw [<- e]; rfl⟩
   ·rintro ⟨_,e⟩; rw [e]; rfl
  ·rw [ak hd]
   constructor
   ·intro e; cases e
   ·rintro ⟨e,_⟩; exact absurd (vm.2 fun v hv=>(e v hv).2 rfl) hd
 rw [ak q8]
 have hf:oS op c=fun v=>v:=by funext v; simp [oS,q2,q5,q6,q7,q8]
 rw [hf,hid]
 constructor
 ·intro e; cases e; exact ⟨fun v _=>⟨fun e=>absurd e q6,fun e=>absurd e q8⟩,rfl⟩
 ·rintro ⟨_,rfl⟩; rfl
theorem oS1 (c v:Int):oS 1 c v=v:=rfl
theorem oS2 (c v:Int):oS 2 c v=-v:=rfl
theorem Mr (c v:Int):oS 5 c v=v*c:=rfl
theorem Ms (c v:Int):oS 6 c v=v / c:=rfl
theorem XE (c v:Int):oS 7 c v=v*2 ^ c.toNat:=rfl
theorem XF (c v:Int):oS 8 c v=v / 2 ^ c.toNat:=rfl
theorem Sf (h:v%c=0):Wj 6 c v:=⟨fun _=>h,fun e=>by cases e⟩
theorem acM (h:v%2 ^ c.toNat=0):Wj 8 c v:=⟨fun e=>(by cases e),fun _=>h⟩
theorem dv (h:v%c=0):∃q,v=q*c:=⟨v / c,(Int.ediv_mul_cancel (iC h)).symm⟩
theorem md {q:Int}:q*c%c=0:=Int.mul_emod_left _ _
theorem BJ {d:Int} (hc:0<=c) (hd:0<=d):(2:Int) ^ (c+d).toNat=2 ^ c.toNat*2 ^ d.toNat:=by
 rw [Int.toNat_add hc hd,Int.pow_add]
theorem vZ (n:Nat):(2:Int) ^ n≠0:=Int.pow_ne_zero aB
theorem XG {f d k:Int} (h:qB f c s d=some (op,k)) (hf:CN f c) (hs:CN s d) (h1:Wj f c v) (h2:Wj s d (oS f c v)):Wj op k v/\oS op k v=oS s d (oS f c v):=by
 unfold CN at hf hs
 unfold qB at h
 split at h
 ·rename_i q; subst q; cases h; exact ⟨h2,rfl⟩
 split at h
 ·rename_i q; subst q
  split at h
  ·rename_i q; subst q; cases h; exact ⟨ki _ _ aB aB,rfl⟩
  split at h
  ·rename_i q; subst q; cases h; exact ⟨ki _ _ aB aB,(Int.neg_neg v).symm⟩
  split at h
  ·rename_i q
   cases h
   rcases q with rfl | rfl
   ·exact ⟨ki _ _ aB aB,by rw [Mr,Mr,oS2,jF,iP]⟩
   ·have h3:=h2.1 rfl
    rw [oS2] at h3
    refine ⟨Sf ?_,?_⟩
    ·rw [Int.emod_neg]
     obtain ⟨q,hq⟩:=dv h3
     have:v=-q*d:=by rw [iP,<- hq,Int.neg_neg]
     rw [this]; exact md
    ·rw [Ms,Ms,oS2,Int.ediv_neg]
     obtain ⟨q,hq⟩:=dv h3
     have hd:d≠0:=(hs.1 (.inr rfl)).1
     have hv:v=-q*d:=by rw [iP,<- hq,Int.neg_neg]
     rw [hq,hv,b8 _ hd,b8 _ hd,Int.neg_neg]
  ·cases h
 split at h
 ·rename_i q; subst q
  have vK:c≠0:=(hf.1 (.inl rfl)).1
  split at h
  ·rename_i q; subst q; cases h; exact ⟨ki _ _ aB aB,by rw [Mr,oS2,Mr,jF]⟩
  split at h
  ·rename_i q; obtain ⟨rfl,_⟩:=q; cases h; exact ⟨ki _ _ aB aB,by rw [Mr,Mr,Mr,bO]⟩
  split at h
  ·rename_i q
   obtain ⟨rfl,hm⟩:=q
   cases h
   have hd:d≠0:=(hs.1 (.inr rfl)).1
   have he:c=c.tdiv d*d:=(jQ (iD hm)).symm
   refine ⟨ki _ _ aB aB,?_⟩
   rw [Mr,Ms,Mr]
   conv=>rhs; rw [he,<- bO]
   rw [b8 _ hd]
  split at h
  ·rename_i q
   obtain ⟨rfl,hm⟩:=q
   cases h
   have h3:=h2.1 rfl
   rw [Mr] at h3
   obtain ⟨q,hq⟩:=dv h3
   have he:d=d.tdiv c*c:=(jQ (iD hm)).symm
   generalize d.tdiv c=t at he
   have hd:d≠0:=(hs.1 (.inr rfl)).1
   have ht:t≠0:=fun e=>hd (by rw [he,e,dh])
   have hv:v=q*t:=by
    have:v*c=q*t*c:=by rw [hq,he,bO]
    exact Int.eq_of_mul_eq_mul_right vK this
   refine ⟨Sf (by rw [hv]; exact md),?_⟩
   rw [Ms,Ms,Mr,hq,b8 _ hd,hv,b8 _ ht]
  ·cases h
 split at h
 ·rename_i q; subst q
  have vK:c≠0:=(hf.1 (.inr rfl)).1
  obtain ⟨q,hq⟩:=dv (h1.1 rfl)
  split at h
  ·rename_i q; subst q; cases h
   refine ⟨Sf (by rw [Int.emod_neg]; exact h1.1 rfl),?_⟩
   rw [Ms,oS2,Ms,Int.ediv_neg]
  split at h
  ·rename_i q'; obtain ⟨rfl,_⟩:=q'; cases h
   have h3:=h2.1 rfl
   have hd:d≠0:=(hs.1 (.inr rfl)).1
   rw [Ms,hq,b8 _ vK] at h3
   obtain ⟨t,ht⟩:=dv h3
   refine ⟨Sf (by rw [hq,ht,bO,bZ d c]; exact md),?_⟩
   rw [Ms,Ms,Ms,hq,b8 _ vK,ht,b8 _ hd,bO,bZ d c,b8 _ (j6 vK hd)]
  ·cases h
 split at h
 ·rename_i q; subst q
  obtain ⟨vW,zG⟩:=hf.2.1 (.inl rfl)
  split at h
  ·rename_i q; obtain ⟨rfl,_⟩:=q; cases h
   obtain ⟨LW,hd2⟩:=hs.2.1 (.inl rfl)
   refine ⟨ki _ _ aB aB,?_⟩
   rw [XE,XE,XE,BJ ae ae,bO]
  split at h
  ·cases h
  rename_i q
  obtain rfl:s=8:=Decidable.not_not.1 q
  obtain ⟨LW,hd2⟩:=hs.2.1 (.inr rfl)
  have h3:=h2.2 rfl
  rw [XE] at h3
  split at h
  ·rename_i q; subst q; cases h
   exact ⟨ki _ _ aB aB,by rw [oS1,XF,XE,b8 _ (vZ _)]⟩
  split at h
  ·rename_i q; cases h
   refine ⟨ki _ _ aB aB,?_⟩
   have:(2:Int) ^ c.toNat=2 ^ (c - d).toNat*2 ^ d.toNat:=by rw [<- BJ ae ae]; congr 2; omega
   rw [XE,XF,XE,this,<- bO,b8 _ (vZ _)]
  ·rename_i q1 q2; cases h
   have he:(2:Int) ^ d.toNat=2 ^ (d - c).toNat*2 ^ c.toNat:=by rw [<- BJ ae ae]; congr 2; omega
   obtain ⟨q,hq⟩:=dv h3
   have hv:v=q*2 ^ (d - c).toNat:=by
    have:v*2 ^ c.toNat=q*2 ^ (d - c).toNat*2 ^ c.toNat:=by rw [hq,he,bO]
    exact Int.eq_of_mul_eq_mul_right (vZ _) this
   refine ⟨acM (by rw [hv]; exact md),?_⟩
   rw [XF,XF,XE,hq,b8 _ (vZ _),hv,b8 _ (vZ _)]
 split at h
 ·rename_i q; subst q
  obtain ⟨vW,zG⟩:=hf.2.1 (.inr rfl)
  split at h
  ·rename_i q; obtain ⟨rfl,_⟩:=q; cases h
   obtain ⟨LW,hd2⟩:=hs.2.1 (.inr rfl)
   obtain ⟨q,hq⟩:=dv (h1.2 rfl)
   have h3:=h2.2 rfl
   rw [XF,hq,b8 _ (vZ _)] at h3
   obtain ⟨t,ht⟩:=dv h3
   refine ⟨acM (by rw [hq,ht,BJ ae ae,bO,bZ (2 ^ d.toNat)]; exact md),?_⟩
   rw [XF,XF,XF,hq,b8 _ (vZ _),ht,b8 _ (vZ _),BJ ae ae,bO,bZ (2 ^ d.toNat),b8 _ (j6 (vZ _) (vZ _))]
  ·cases h
 ·cases h
theorem ES {f d k:Int} (h:qB f c s d=some (op,k)) (hf:CN f c) (hs:CN s d) (f1:1<=f/\f<=8) (s1:1<=s/\s<=8) (s3:¬(s=3∨s=4)):1<=op/\op<=8/\¬(op=3∨op=4)/\CN op k:=by
 have hdm:∀a b:Int,a.tmod b=0->a≠0->a.tdiv b≠0/\(a.tdiv b).natAbs<=a.natAbs:=fun a b hm ha=>by
  have he:a=a.tdiv b*b:=(jQ (iD hm)).symm
  have h0:a.tdiv b≠0:=fun e=>ha (by rw [he,e,dh])
  refine ⟨h0,?_⟩
  rw [Int.natAbs_tdiv]
  exact jc ..
 unfold qB at h
 split at h
 ·cases h; exact ⟨s1.1,s1.2,s3,hs⟩
 split at h
 ·split at h
  ·cases h; unfold CN at*; omega
  split at h
  ·cases h; unfold CN at*; omega
  split at h
  ·rename_i q; cases h; unfold CN at*; omega
  ·cases h
 split at h
 ·rename_i q5; subst q5
  have hc:=hf.1 (.inl rfl)
  split at h
  ·cases h; unfold CN at*; omega
  split at h
  ·rename_i q; cases h
   have hd:=hs.1 (.inl q.1)
   have:=j6 hc.1 hd.1
   unfold CN; omega
  split at h
  ·rename_i q; cases h
   have:=hdm c d q.2 hc.1
   unfold CN; omega
  split at h
  ·rename_i q; cases h
   have hd:=hs.1 (.inr q.1)
   have:=hdm d c q.2 hd.1
   unfold CN; omega
  ·cases h
 split at h
 ·rename_i q6; subst q6
  have hc:=hf.1 (.inr rfl)
  split at h
  ·cases h; unfold CN at*; omega
  split at h
  ·rename_i q; cases h
   have hd:=hs.1 (.inr q.1)
   have:=j6 hc.1 hd.1
   unfold CN; omega
  ·cases h
 split at h
 ·rename_i q7; subst q7
  have hc:=hf.2.1 (.inl rfl)
  split at h
  ·rename_i q; cases h; have:=hs.2.1 (.inl q.1); unfold CN; omega
  split at h
  ·cases h
  rename_i q
  have hd:=hs.2.1 (.inr (Decidable.not_not.1 q))
  split at h
  ·cases h; unfold CN; omega
  split at h
  ·cases h; unfold CN; omega
  ·cases h; unfold CN; omega
 split at h
 ·rename_i q8; subst q8
  have hc:=hf.2.1 (.inr rfl)
  split at h
  ·rename_i q; cases h; have:=hs.2.1 (.inr q.1); unfold CN; omega
  ·cases h
 ·cases h
theorem BK {g:Int} (h:gl (op,t,a,b,c) g):CN op c:=by
 unfold gl at h; dsimp only at h; unfold CN; omega
theorem DP {g:Int} (h:qf R e=some R') (hM:gl e g):qf R (dY e)=some R':=by
 obtain ⟨op,t,a,b,c⟩:=e
 unfold dY
 dsimp only
 split
 ·rename_i q; subst q
  split
  ·rename_i q; subst q
   rw [<- h]
   unfold qf
   dsimp only
   congr 1
   rw [(rN aB).2 ⟨fun v _=>ki _ _ aB aB,rfl⟩]
   show some ((kh R a).map fun v=>v*2 ^ (1:Int).toNat)=some (List.zipWith (fun a b=>a+b) (kh R a) (kh R a))
   rw [List.zipWith_self]
   exact aq some (cZ fun v _=>by show v*2 ^ 1=v+v; omega)
  ·exact h
 split
 ·rename_i q3 q
  have Es:¬(op=3∨op=4):=ae
  have hcn:=BK hM
  unfold qf at h
  dsimp only at h
  cases hr:px op c (kh R a) (kh R b) with
  | none=>rw [hr] at h; cases h
  | some z=>
   rw [hr] at h
   obtain ⟨h1,h2⟩:=(rN Es).1 hr
   have key:∀Mt k':Int,¬(Mt=3∨Mt=4)->(∀v∈kh R a,Wj Mt k' v/\oS Mt k' v=oS op c v)->qf R (Mt,t,a,0,k')=some R':=fun Mt k' hn hk=>by
    unfold qf
    dsimp only
    rw [(rN hn).2 ⟨fun v hv=>(hk v hv).1,rfl⟩,cZ fun v hv=>(hk v hv).2,<- h2]
    exact h
   split
   ·rename_i qc; subst qc
    refine key 1 0 aB fun v hv=>⟨ki _ _ aB aB,?_⟩
    rcases q with rfl | rfl
    ·rw [oS1,Mr,fA]
    ·rw [oS1,Ms,Int.ediv_one]
   split
   ·rename_i qc; subst qc
    refine key 2 0 aB fun v hv=>⟨ki _ _ aB aB,?_⟩
    rcases q with rfl | rfl
    ·rw [oS2,Mr,jF,fA]
    ·rw [oS2,Ms,Int.ediv_neg,Int.ediv_one]
   split
   ·rename_i m hm
    obtain ⟨zG,_⟩:=sY hm
    split
    ·rename_i q5; subst q5
     exact key 7 m aB fun v hv=>⟨ki _ _ aB aB,by rw [XE,Mr,zG]; rfl⟩
    ·rename_i q5
     obtain rfl:op=6:=ae
     refine key 8 m aB fun v hv=>⟨acM ?_,by rw [XF,Ms,zG]; rfl⟩
     have:=(h1 v hv).1 rfl
     rwa [zG] at this
   ·unfold qf; dsimp only; rw [hr]; exact h
 ·exact h
theorem sZ {g:Int} (hM:gl e g):gl (dY e) g:=by
 obtain ⟨op,t,a,b,c⟩:=e
 unfold dY
 dsimp only
 have XH:=hM
 unfold gl at XH
 dsimp only at XH
 split
 ·split
  ·unfold gl; dsimp only; omega
  ·exact hM
 split
 ·split
  ·unfold gl; dsimp only; omega
  split
  ·unfold gl; dsimp only; omega
  split
  ·rename_i m hm
   have:=sY hm
   split
   ·unfold gl; dsimp only; omega
   ·unfold gl; dsimp only; omega
  ·exact hM
 ·exact hM
theorem BL {a b x:IE} (h:jS a b=some x):¬(b.1=3∨b.1=4)/\b.2.2.1=a.2.1/\b.2.1=a.2.1/\∃op k,qB a.1 a.2.2.2.2 b.1 b.2.2.2.2=some (op,k)/\x=dY (op,b.2.1,a.2.2.1,0,k):=by
 unfold jS at h
 split at h
 ·cases h
 ·rename_i q
  cases ht:qB a.1 a.2.2.2.2 b.1 b.2.2.2.2 with
  | none=>rw [ht] at h; cases h
  | some p=>
   rw [ht] at h
   refine ⟨by omega,by omega,by omega,p.1,p.2,rfl,(aW h).symm⟩
theorem OY {f d:Int} {p:Int×Int} (h:qB f c s d=some p):¬(f=3∨f=4):=by
 unfold qB at h
 rintro (rfl | rfl)<;>simp at h
theorem vn {a b x:IE} {g:Int} (h:jS a b=some x) (ha:gl a g) (hb:gl b g):gl x g:=by
 obtain ⟨h1,h2,h3,op,k,ht,rfl⟩:=BL h
 obtain ⟨aop,at_,aa,ab,ac⟩:=a
 obtain ⟨bop,bt,ba,bb,bc⟩:=b
 dsimp only at h1 h2 h3 ht ⊢
 have hca:=BK ha
 have GR:=BK hb
 unfold gl at ha hb
 dsimp only at ha hb
 have hm:=ES ht hca GR ⟨ha.1,ha.2.1⟩ ⟨hb.1,hb.2.1⟩ h1
 refine sZ ?_
 obtain ⟨m1,m2,m3,m4⟩:=hm
 unfold CN at m4
 unfold gl; dsimp only; omega
theorem Sg {a b x:IE} (h:jS a b=some x) (ha:gl a g) (hb:gl b g) (hR:R.length=g) (h1:qf R a=some R1) (h2:qf R1 b=some R2):qf R x=some R2:=by
 obtain ⟨n1,n2,n3,op,k,ht,rfl⟩:=BL h
 have nf:=OY ht
 obtain ⟨aop,at_,aa,ab,ac⟩:=a
 obtain ⟨bop,bt,ba,bb,bc⟩:=b
 dsimp only at n1 n2 n3 ht nf ⊢
 subst n2 n3
 have hca:=BK ha
 have GR:=BK hb
 have ha':=ha
 have Df:=hb
 unfold gl at ha' Df
 dsimp only at ha' Df
 have hm:=ES ht hca GR ⟨ha'.1,ha'.2.1⟩ ⟨Df.1,Df.2.1⟩ n1
 obtain ⟨m1,m2,m3,m4⟩:=hm
 refine DP (g:=g) ?_ (by unfold CN at m4; unfold gl; dsimp only; omega)
 unfold qf at h1 h2 ⊢
 dsimp only at h1 h2 ⊢
 cases hr:px aop ac (kh R aa) (kh R ab) with
 | none=>rw [hr] at h1; cases h1
 | some z=>
  rw [hr] at h1
  obtain rfl:=aW h1
  rw [mS hR ae ae] at h2
  cases Jz:px bop bc z (kh (R.set bt.toNat z) bb) with
  | none=>rw [Jz] at h2; cases h2
  | some z2=>
   rw [Jz] at h2
   obtain rfl:=aW h2
   obtain ⟨a1,a2⟩:=(rN nf).1 hr
   obtain ⟨b1,b2⟩:=(rN n1).1 Jz
   have hk:∀v∈kh R aa,Wj op k v/\oS op k v=oS bop bc (oS aop ac v):=fun v hv=>XG ht hca GR (a1 v hv) (b1 _ (by rw [a2]; exact fK hv))
   rw [(rN m3).2 ⟨fun v hv=>(hk v hv).1,rfl⟩,cZ fun v hv=>(hk v hv).2]
   rw [b2,a2,eT]
   simp [Function.comp_def]
theorem Kc {b:IE} (h:qS b=true) (hb:gl b g) (hR:R.length=g) (hs:qf R b=some R'):R'=R:=by
 obtain ⟨op,t,a,b',c⟩:=b
 have hq:=aN h
 dsimp only at hq
 obtain ⟨rfl,rfl⟩:=hq
 unfold gl at hb
 dsimp only at hb
 unfold qf at hs
 dsimp only at hs
 rw [(rN aB).2 ⟨fun v _=>ki _ _ aB aB,rfl⟩] at hs
 obtain rfl:=aW hs
 have:(kh R t).map (oS 1 c)=kh R t:=by
  conv=>rhs; rw [<- List.map_id (kh R t)]
  rfl
 rw [this]
 unfold kh
 have ht:t.toNat<R.length:=ae
 rw [aj,ag ht]
 exact ja ht
theorem DQ {g:Nat}:∀(st:List IE) {b:IE} {R R1 R2:List Rw},(∀e∈st,gl e g)->gl b g->R.length=g->exe R st.reverse=some R1->qf R1 b=some R2->exe R (iW st b).reverse=some R2
 | [],b,R,R1,R2,_,hb,hR,h1,h2=>by
  cases h1
  unfold iW
  split
  ·rename_i q; rw [Kc q hb hR h2]; rfl
  ·exact xK h2
 | a::st,b,R,R1,R2,σ,hb,hR,h1,h2=>by
  have hle:∀{es:List IE} {R R':List Rw},exe R es=some R'->R.length=g->R'.length=g:=fun {es}=>by
   induction es with
   | nil=>intro R R' h hR; cases h; exact hR
   | cons e es ih=>
    intro R R' h hR
    rw [lH] at h
    cases hs:qf R e with
    | none=>rw [hs] at h; cases h
    | some Q=>
     rw [hs] at h
     refine ih h ?_
     unfold qf at hs
     cases hr:px e.1 e.2.2.2.2 (kh R e.2.2.1) (kh R e.2.2.2.1) with
     | none=>rw [hr] at hs; cases hs
     | some z=>rw [hr] at hs; obtain rfl:=aW hs; rw [aP]; exact hR
  unfold iW
  split
  ·rename_i q; rw [Kc q hb (hle h1 hR) h2]; exact h1
  split
  ·rw [gz]; exact R9 h1 h2
  ·rename_i x hx
   rw [gz] at h1
   obtain ⟨Q,q1,q2⟩:=OX h1
   rw [lH] at q2
   cases hs:qf Q a with
   | none=>rw [hs] at q2; cases q2
   | some Q1=>
    rw [hs] at q2
    cases q2
    have ha:=σ a (aJ ..)
    exact DQ st (fun e he=>σ e (aQ _ he)) (vn hx ha hb) hR q1 (Sg hx ha hb (hle q1 hR) hs h2)
theorem wP {g:Int}:∀(st:List IE) {b:IE},(∀e∈st,gl e g)->gl b g->∀e∈iW st b,gl e g
 | [],b,_,hb,e,he=>by
  unfold iW at he
  split at he
  ·cases he
  ·exact aL.1 he ▸ hb
 | a::st,b,σ,hb,e,he=>by
  unfold iW at he
  split at he
  ·exact σ e he
  split at he
  ·rcases bf.1 he with rfl | he
   ·exact hb
   ·exact σ e he
  ·rename_i x hx
   exact wP st (fun e he=>σ e (aQ _ he)) (vn hx (σ a (aJ ..)) hb) e he
theorem BM:∀(st:List IE) (b:IE),(iW st b).length<=st.length+1
 | [],b=>by unfold iW; split<;>simp
 | a::st,b=>by
  unfold iW
  split
  ·omega
  split
  ·simp
  ·rename_i x _
   have:=BM st x
   rw [aR]; omega
theorem Hl {g:Nat}:∀(es:List IE) (st:List IE) {R R1 R2:List Rw},(∀e∈st,gl e g)->(∀e∈es,gl e g)->R.length=g->exe R st.reverse=some R1->exe R1 es=some R2->exe R (es.foldl (fun st e=>iW st (dY e)) st).reverse=some R2
 | [],_,_,_,_,_,_,_,h1,h2=>by cases h2; exact h1
 | e::es,st,R,R1,R2,σ,mf,hR,h1,h2=>by
  rw [lH] at h2
  cases hs:qf R1 e with
  | none=>rw [hs] at h2; cases h2
  | some Q=>
   rw [hs] at h2
   have he:=mf e (aJ ..)
   have hp:=sZ he
   exact Hl es _ (wP st σ hp) (fun e he=>mf e (aQ _ he)) hR (DQ st σ hp hR h1 (DP hs he)) h2
theorem Hm {es:List IE} (mf:∀e∈es,gl e g) (hR:R.length=g) (h:exe R es=some R2):exe R (oy es)=some R2:=
 Hl es [] (fun _ h=>by cases h) mf hR rfl h
theorem Hn {g:Int}:∀(es:List IE) (st:List IE),(∀e∈st,gl e g)->(∀e∈es,gl e g)->∀e∈es.foldl (fun st e=>iW st (dY e)) st,gl e g
 | [],_,σ,_=>σ
 | e::es,st,σ,mf=>Hn es _ (wP st σ (sZ (mf e (aJ ..)))) fun e he=>mf e (aQ _ he)
theorem DR {g:Int} {es:List IE} (mf:∀e∈es,gl e g):∀e∈oy es,gl e g:=fun e he=>Hn es [] (fun _ h=>by cases h) mf e (List.mem_reverse.1 he)
theorem Ho:∀(es:List IE) (st:List IE),(es.foldl (fun st e=>iW st (dY e)) st).length<=st.length+es.length
 | [],_=>ar _
 | e::es,st=>by
  have h1:=Ho es (iW st (dY e))
  have h2:=BM st (dY e)
  rw [List.foldl_cons,aR]; omega
theorem DS (es:List IE):(oy es).length<=es.length:=by
 have:=Ho es []
 unfold oy
 rw [iL]
 simpa using this
abbrev Ky:=Int×Int×Int×Int
def lkp:List (Ky×Int)->Ky->Option Int
 | [],_=>none
 | (q,v)::l,k=>if q=k then some v else lkp l k
theorem Mu:∀{l:List (Ky×Int)} {k:Ky} {v:Int},lkp l k=some v->(k,v)∈l
 | [],_,_,h=>by cases h
 | (q,u)::l,k,v,h=>by
  unfold lkp at h
  split at h
  ·rename_i e; cases h; rw [e]; exact aJ ..
  ·exact aQ _ (Mu h)
def qy (h:List Int) (v:Int):Int:=match h.findIdx? (fun x=>decide (x=v)) with
 | some r=>(r:Nat)
 | none=>-1
theorem yC (h:List Int) (v:Int):(qy h v=-1/\∀x∈h,x≠v)∨(0<=qy h v/\qy h v<h.length/\h.getD (qy h v).toNat 0=v):=by
 unfold qy
 split
 ·rename_i r hr
  obtain ⟨hl,hp,_⟩:=gw.1 hr
  refine .inr ⟨by omega,by omega,?_⟩
  rw [ed,aj,ag hl]
  exact aN hp
 ·rename_i hr
  refine .inl ⟨I,fun x hx e=>?_⟩
  have:=jj.1 hr x hx
  rw [e] at this
  simp at this
theorem ET {r:Nat} (hr:r<h.length):0<=qy h (h.getD r 0)/\qy h (h.getD r 0)<h.length/\h.getD (qy h (h.getD r 0)).toNat 0=h.getD r 0:=by
 rcases yC h (h.getD r 0) with ⟨_,q⟩ | q
 ·refine absurd I (q (h.getD r 0) ?_)
  rw [aj,ag hr]
  exact eJ hr
 ·exact q
structure Tb where
 held:List Int
 known:List (Ky×Int)
 next:Int
def Tb.at (t:Tb) (r:Int):Int:=t.held.getD r.toNat 0
def kG (t:Tb) (e:IE):Ky:=
 let a:=t.at e.2.2.1
 let b:=if e.1=3∨e.1=4 then t.at e.2.2.2.1 else -1
 if e.1=3/\b<a then (e.1,b,a,e.2.2.2.2) else (e.1,a,b,e.2.2.2.2)
def rO (t:Tb) (e:IE):Int×Tb:=
 if e.1=1 then (t.at e.2.2.1,t)
 else match lkp t.known (kG t e) with
  | some v=>(v,t)
  | none=>(t.next,{ t with known:=(kG t e,t.next)::t.known,next:=t.next+1 })
def r8 (h:List Int) (e:IE):IE:=(e.1,e.2.1,qy h (h.getD e.2.2.1.toNat 0),if e.1=3∨e.1=4 then qy h (h.getD e.2.2.2.1.toNat 0) else e.2.2.2.1,e.2.2.2.2)
def lx (s:Tb×List IE) (e:IE):Tb×List IE:=
 let q:=rO s.1 e
 if q.2.at e.2.1=q.1 then (q.2,s.2)
 else ({ q.2 with held:=q.2.held.set e.2.1.toNat q.1 },s.2++[if 0<=qy q.2.held q.1 then (1,e.2.1,qy q.2.held q.1,0,0) else r8 q.2.held e])
def Sh (i g:Nat):Tb:=⟨(List.range g).map fun r=>((min r i:Nat):Int),[],i+1⟩
def nQ (i g:Nat) (es:List IE):Tb×List IE:=es.foldl lx (Sh i g,[])
def pY (i g:Nat) (es:List IE):List IE:=(nQ i g es).2
def oz (i g:Nat) (es:List IE) (os:List Int):List Int:=os.map fun r=>qy (nQ i g es).1.held ((nQ i g es).1.at r)
structure Dk (t:Tb) (g:Nat) (R:List Rw) (val:Int->Rw):Prop where
 hl:t.held.length=g
 rl:R.length=g
 eq:∀r:Int,0<=r->r<g->kh R r=val (t.at r)
 lt:∀r:Int,0<=r->r<g->t.at r<t.next
 kn:∀q∈t.known,px q.1.1 q.1.2.2.2 (val q.1.2.1) (val q.1.2.2.1)=some (val q.2)/\q.2<t.next/\q.1.2.1<t.next/\(q.1.1=3∨q.1.1=4->q.1.2.2.1<t.next)
def JQ (val:Int->Rw) (k:Int) (z:Rw):Int->Rw:=fun v=>if v=k then z else val v
theorem yD {val:Int->Rw} {k:Int} (h:v<k):JQ val k z v=val v:=ak ae
theorem Si (x y:Rw):List.zipWith (fun a b=>a+b) x y=List.zipWith (fun a b=>a+b) y x:=by
 rw [List.zipWith_comm]
 congr 1
 funext a b
 exact Int.add_comm ..
theorem Sj (x y:Rw):px 3 c x y=px 3 c y x:=by
 unfold px
 rw [ak aB,au rfl,ak aB,au rfl,Si]
theorem XI {t:Tb} {val:Int->Rw} (h:Dk t g R val) (hM:gl e g):px (kG t e).1 (kG t e).2.2.2 (val (kG t e).2.1) (val (kG t e).2.2.1)=px e.1 e.2.2.2.2 (kh R e.2.2.1) (kh R e.2.2.2.1)/\(kG t e).1=e.1/\(kG t e).2.1<t.next/\((kG t e).1=3∨(kG t e).1=4->(kG t e).2.2.1<t.next):=by
 obtain ⟨op,to_,a,b,c⟩:=e
 unfold gl at hM
 dsimp only at hM
 have ea:=h.eq a ae ae
 have la:=h.lt a ae ae
 unfold kG
 dsimp only
 by_cases q:op=3∨op=4
 ·have eb:=h.eq b ae ae
  have lb:=h.lt b ae ae
  rw [au q]
  split
  ·rename_i p
   obtain ⟨rfl,_⟩:=p
   exact ⟨by rw [ea,eb]; exact Sj _ _,rfl,lb,fun _=>la⟩
  ·exact ⟨by rw [ea,eb],rfl,la,fun _=>lb⟩
 ·rw [ak q,ak ae]
  exact ⟨by rw [ea]; exact vk q,rfl,la,fun p=>absurd p q⟩
theorem XJ {t:Tb} {val:Int->Rw} (h:Dk t g R val) (hM:gl e g) (hz:px e.1 e.2.2.2.2 (kh R e.2.2.1) (kh R e.2.2.2.1)=some z):∃s5,Dk (rO t e).2 g R s5/\s5 (rO t e).1=z/\(rO t e).1<(rO t e).2.next/\(rO t e).2.held=t.held:=by
 have XH:=hM
 obtain ⟨op,to_,a,b,c⟩:=e
 unfold gl at hM
 dsimp only at hM hz
 unfold rO
 dsimp only
 split
 ·rename_i q; subst q
  refine ⟨val,h,?_,h.lt a ae ae,I⟩
  rw [<- h.eq a ae ae]
  have:=(rN aB).1 hz
  rw [this.2]
  exact (List.map_id _).symm
 obtain ⟨k1,k2,k3,k4⟩:=XI h XH
 dsimp only at k1 k2 k3 k4
 split
 ·rename_i v hv
  obtain ⟨m1,m2,_,_⟩:=h.kn _ (Mu hv)
  refine ⟨val,h,?_,m2,I⟩
  dsimp only at m1
  rw [k1,hz] at m1
  exact (aW m1).symm
 ·rename_i hv
  have hb:∀q:Ky,q.2.1<t.next->(q.1=3∨q.1=4->q.2.2.1<t.next)->px q.1 q.2.2.2 (JQ val t.next z q.2.1) (JQ val t.next z q.2.2.1)=px q.1 q.2.2.2 (val q.2.1) (val q.2.2.1):=fun q h1 h2=>by
   rw [yD h1]
   by_cases p:q.1=3∨q.1=4
   ·rw [yD (h2 p)]
   ·exact vk p
  refine ⟨JQ val t.next z,⟨h.hl,h.rl,fun r h0 h1=>?_,fun r h0 h1=>?_,fun q hq=>?_⟩,au rfl,Int.lt_succ _,rfl⟩
  ·show kh R r=JQ val t.next z (t.at r)
   rw [yD (h.lt r h0 h1)]; exact h.eq r h0 h1
  ·have:=h.lt r h0 h1
   show t.at r<t.next+1
   omega
  ·rcases bf.1 hq with rfl | hq
   ·refine ⟨?_,Int.lt_succ _,by dsimp only; omega,fun p=>by have:=k4 p; dsimp only; omega⟩
    dsimp only
    rw [hb _ k3 k4,k1,hz,JQ,au rfl]
   ·obtain ⟨m1,m2,m3,m4⟩:=h.kn q hq
    refine ⟨?_,by dsimp only; omega,by dsimp only; omega,fun p=>by have:=m4 p; dsimp only; omega⟩
    rw [hb _ m3 m4,m1,yD m2]
theorem Hp {t:Tb} {k:Int} (hl:t.held.length=g) (k0:0<=k) (k1:k<g) (r0:0<=r):({ t with held:=t.held.set k.toNat v }:Tb).at r=if r=k then v else t.at r:=by
 unfold Tb.at
 dsimp only
 rw [aj,gy]
 split
 ·rename_i e
  rw [au ae,au ae]
  rfl
 ·rw [ak ae,aj]
theorem OZ {t:Tb} {out:List IE} {val:Int->Rw} (h:Dk t g R val) (hM:gl e g) (hs:qf R e=some R'):
  ∃s5 fs,(lx (t,out) e).2=out++fs/\exe R fs=some R'/\Dk (lx (t,out) e).1 g R' s5/\(∀f∈fs,gl f g)/\fs.length<=1:=by
 have XH:=hM
 cases hz:px e.1 e.2.2.2.2 (kh R e.2.2.1) (kh R e.2.2.2.1) with
 | none=>unfold qf at hs; rw [hz] at hs; cases hs
 | some z=>
  have rR:=hs
  unfold qf at rR
  rw [hz] at rR
  have hR':R.set e.2.1.toNat z=R':=aW rR
  obtain ⟨s5,h2,hv,fh,hhd⟩:=XJ h hM hz
  unfold lx
  dsimp only
  generalize rO t e=q at h2 hv fh hhd ⊢
  obtain ⟨op,to_,a,b,c⟩:=e
  unfold gl at hM
  dsimp only at hM hz hR' ⊢
  have Wk:=h2.eq to_ ae ae
  split
  ·rename_i p
   refine ⟨s5,[],(bq _).symm,?_,?_,fun f hf=>(by cases hf),av _⟩
   ·have:R'=R:=by
     rw [<- hR']
     rw [p,hv] at Wk
     rw [<- Wk]
     unfold kh
     have ht:to_.toNat<R.length:=by have:=h.rl; omega
     rw [aj,ag ht]
     exact ja ht
    rw [this]; rfl
   ·have:R'=R:=by
     rw [<- hR']
     rw [p,hv] at Wk
     rw [<- Wk]
     unfold kh
     have ht:to_.toNat<R.length:=by have:=h.rl; omega
     rw [aj,ag ht]
     exact ja ht
    rw [this]; exact h2
  ·have Kd:Dk { q.2 with held:=q.2.held.set to_.toNat q.1 } g R' s5:=by
    refine ⟨by rw [aP]; exact h2.hl,by rw [<- hR',aP]; exact h.rl,fun r h0 h1=>?_,fun r h0 h1=>?_,h2.kn⟩
    ·rw [Hp h2.hl ae ae h0,<- hR']
     split
     ·rename_i p; rw [p,mS h.rl ae ae]; exact hv.symm
     ·rename_i p; rw [oW ae h0 (fw p)]; exact h2.eq r h0 h1
    ·rw [Hp h2.hl ae ae h0]
     split
     ·exact fh
     ·exact h2.lt r h0 h1
   split
   ·rename_i p1 p
    refine ⟨s5,[_],I,xK ?_,Kd,fun f hf=>?_,ar _⟩
    ·rcases yC q.2.held q.1 with ⟨w,_⟩ | ⟨w1,w2,w3⟩
     ·omega
     ·have h3:=h2.hl
      unfold qf
      dsimp only
      rw [(rN (op:=1) aB).2 ⟨fun v _=>ki _ _ aB aB,rfl⟩,h2.eq _ w1 ae,show q.2.at (qy q.2.held q.1)=q.1 from w3,hv,<- hR']
      rw [show z.map (oS 1 0)=z from List.map_id z]
      rfl
    ·obtain rfl:=aL.1 hf
     rcases yC q.2.held q.1 with ⟨w,_⟩ | ⟨w1,w2,w3⟩
     ·omega
     ·have h3:=h2.hl
      unfold gl
      dsimp only
      omega
   ·have h3:=h2.hl
    have ha:=ET (h:=q.2.held) (r:=a.toNat) ae
    have hb:(op=3∨op=4)->_:=fun p=>ET (h:=q.2.held) (r:=b.toNat) ae
    have key:∀r:Int,0<=r->r<g->kh R (qy q.2.held (q.2.held.getD r.toNat 0))=kh R r:=fun r h0 h1=>by
     have hh:=ET (h:=q.2.held) (r:=r.toNat) ae
     rw [h2.eq _ hh.1 ae,h2.eq r h0 h1]
     unfold Tb.at
     rw [hh.2.2]
    refine ⟨s5,[r8 q.2.held (op,to_,a,b,c)],I,xK ?_,Kd,fun f hf=>?_,ar _⟩
    ·unfold qf r8
     dsimp only
     rw [key a ae ae]
     by_cases p:op=3∨op=4
     ·rw [au p,key b ae ae,hz,<- hR']; rfl
     ·rw [ak p,hz,<- hR']; rfl
    ·obtain rfl:=aL.1 hf
     unfold r8 gl
     dsimp only
     by_cases p:op=3∨op=4
     ·have:=hb p
      rw [au p]; omega
     ·rw [ak p]; omega
theorem DT {g:Nat}:∀(es:List IE) (t:Tb) (out:List IE) {R0 R R':List Rw} {val:Int->Rw},Dk t g R val->(∀e∈es,gl e g)->(∀e∈out,gl e g)->exe R0 out=some R->exe R es=some R'->
  ∃s5,exe R0 (es.foldl lx (t,out)).2=some R'/\Dk (es.foldl lx (t,out)).1 g R' s5/\(∀f∈(es.foldl lx (t,out)).2,gl f g)/\(es.foldl lx (t,out)).2.length<=out.length+es.length
 | [],t,out,_,_,_,val,h,_,ho,h1,h2=>by cases h2; exact ⟨val,h1,h,ho,by simp⟩
 | e::es,t,out,R0,R,R',val,h,mf,ho,h1,h2=>by
  rw [lH] at h2
  cases hs:qf R e with
  | none=>rw [hs] at h2; cases h2
  | some Q=>
   rw [hs] at h2
   obtain ⟨s5,fs,e1,e2,e3,e4,e5⟩:=OZ h (mf e (aJ ..)) hs
   have:=DT es (lx (t,out) e).1 (lx (t,out) e).2 e3 (fun e he=>mf e (aQ _ he)) (by
    rw [e1]; intro f hf
    rcases aK.1 hf with q | q
    ·exact ho f q
    ·exact e4 f q) (by rw [e1]; exact EO h1 e2) h2
   obtain ⟨w,f1,f2,f3,f4⟩:=this
   refine ⟨w,f1,f2,f3,?_⟩
   have:(lx (t,out) e).2.length<=out.length+1:=by rw [e1,ai]; omega
   rw [aR]
   exact aD f4 ae
theorem mC (h:G.length<=g):(lT g n G).length=g:=by
 unfold lT; rw [ai,df]; omega
theorem BN (hg:G.length<=g) (h0:0<=r) (h1:r<g):kh (lT g n G) r=if r<G.length then G.getD r.toNat [] else List.replicate n 0:=by
 unfold kh lT
 rw [aj,gn]
 split
 ·rw [au ae,aj]
 ·rw [ak ae,cK,au ae]; rfl
theorem Hq (hn:∀r∈G,r.length=n):∀r∈lT g n G,r.length=n:=by
 intro r hr
 rcases aK.1 hr with q | q
 ·exact hn r q
 ·rw [(List.mem_replicate.1 q).2,df]
theorem acN (hi:G.length=i) (hg:i<=g):Dk (Sh i g) g (lT g n G) fun v=>if v<i then G.getD v.toNat [] else List.replicate n 0:=by
 have G6:∀r:Int,0<=r->r<g->(Sh i g).at r=((min r.toNat i:Nat):Int):=fun r h0 h1=>by
  unfold Tb.at Sh
  dsimp only
  rw [aj,ay,bN ae]
  rfl
 refine ⟨by unfold Sh; simp,mC ae,fun r h0 h1=>?_,fun r h0 h1=>?_,fun q hq=>by cases hq⟩
 ·rw [BN ae h0 h1,G6 r h0 h1,hi]
  by_cases p:r<i
  ·rw [au p,au ae]
   congr 1
   omega
  ·rw [ak p,ak ae]
 ·rw [G6 r h0 h1]
  show _<(i:Int)+1
  omega
theorem DU {es:List IE} (hi:G.length=i) (hg:i<=g) (mf:∀e∈es,gl e g) (h:exe (lT g n G) es=some R'):
  exe (lT g n G) (pY i g es)=some R'/\(∀f∈pY i g es,gl f g)/\(pY i g es).length<=es.length/\∀r:Int,0<=r->r<g->kh R' (qy (nQ i g es).1.held ((nQ i g es).1.at r))=kh R' r/\0<=qy (nQ i g es).1.held ((nQ i g es).1.at r)/\qy (nQ i g es).1.held ((nQ i g es).1.at r)<g:=by
 obtain ⟨val,f1,f2,f3,f4⟩:=DT es (Sh i g) [] (acN hi hg) mf (fun _ q=>by cases q) rfl h
 refine ⟨f1,f3,by simpa [pY,nQ] using f4,fun r h0 h1=>?_⟩
 have h3:=f2.hl
 have hh:=ET (h:=(nQ i g es).1.held) (r:=r.toNat) (by show r.toNat<(es.foldl lx (Sh i g,[])).1.held.length; omega)
 have h4:(nQ i g es).1.held.length=g:=h3
 refine ⟨?_,hh.1,by have:=hh.2.1; unfold Tb.at; omega⟩
 have h5:Dk (nQ i g es).1 g R' val:=f2
 unfold Tb.at
 rw [h5.eq _ hh.1 ae,h5.eq r h0 h1]
 unfold Tb.at
 rw [hh.2.2]
def avn (r:Int):List UInt8:=32::114::DN r
section
variable {N:Nat} {dq:List Deferred} {a:Act} {l:List (Nat×Value)} {w:World} {d:Nat} {ty:TypeId} {pos:String} {af:Array Edge} {gd:Option (Nat×Bool)}
end
theorem acO:G5 prog 116 5:=⟨by kernel_rfl,by kernel_rfl,by kernel_rfl,by kernel_rfl,by kernel_rfl⟩
theorem xL {α:Type} {f:α->List Value} {F:α->PF} {z c:Nat} {es:List α} (h:(bH f F z A n c es).P w) (hA:A=none):n=0:=by
 subst hA
 rcases bu n with h0 | h0
 ·exact h0
 ·obtain ⟨b,off,e,_⟩:=h.1.cells h0
  cases e
section
variable {N:Nat} {dq:List Deferred} {a:Act} {l:List (Nat×Value)} {w:World} {d:Nat} {ty:TypeId} {pos:String} {af:Array Edge} {gd:Option (Nat×Bool)}
end
def acP (b0:Nat) (w:World) (A:Option Addr) (n c:Nat) (es:List IE) (B:Option Addr) (m d:Nat) (os:List Int):Prop:=
 sW dD 116 5 fJ FJ b0 w A n c es/\sW dD 3 1 fI FI b0 w B m d os/\∀a b,A=some a->B=some b->a.block≠b.block
theorem St.ahY {own ps:List PF} {B:Option Addr} {c:Nat} {es:List IE} (h:St w0 w own ps) (hb:Below w.heap.size w w') (hr:acP w.heap.size w' A n c es B m d os):St w0 w' (fc dD 116 5 A n c (fl fJ es)::fc dD 3 1 B m d (fl fI os)::own) ps:=by
 have n1:∀b,(fc dD 116 5 A n c (fl fJ es)).gO b->w.heap.size<=b:=fun b q=>by
  obtain ⟨a,ha,rfl⟩:=ng q
  exact hr.1.2.2 a ha
 have h2:=h.add hb (fc dD 3 1 B m d (fl fI os)) hr.2.1.1 fun b q=>by
  obtain ⟨a,ha,rfl⟩:=ng q
  exact hr.2.1.2.2 a ha
 refine ⟨h2.below,fun f hf=>?_,fun f hf b Dg=>?_,dR.2 ⟨fun f hf b q1 q2=>?_,h2.nd⟩,h2.pers,fun p hp f hf b q1 q2=>?_⟩
 ·rcases bf.1 hf with rfl | hf
  ·exact hr.1.1
  ·exact h2.mine f hf
 ·rcases bf.1 hf with rfl | hf
  ·exact aD h.below.size (n1 b Dg)
  ·exact h2.new f hf b Dg
 ·rcases bf.1 hf with rfl | hf
  ·obtain ⟨x,hx,BO⟩:=ng q1
   obtain ⟨y,hy,hyb⟩:=ng q2
   exact hr.2.2 x y hx hy (BO.trans hyb.symm)
  ·have:=f.lt (h.mine f hf) q2
   have:=n1 b q1
   omega
 ·rcases bf.1 hf with rfl | hf
  ·have:=p.lt (h.pers p hp) q2
   have:=n1 b q1
   omega
  ·exact h2.apart p hp f hf b q1 q2
abbrev V5:=Value×Value×Value×Value×Value
def fV5 (p:V5):List Value:=[p.1,p.2.1,p.2.2.1,p.2.2.2.1,p.2.2.2.2]
def fV1 (v:Value):List Value:=[v]
section
variable {N:Nat} {dq:List Deferred} {a:Act} {l:List (Nat×Value)} {w:World} {d:Nat} {ty:TypeId} {pos:String} {af:Array Edge} {gd:Option (Nat×Bool)}
theorem vp {x y:Operand} {m n:Int} (h:b7 dq N a l) (hx:eB l x=some (.int .i64 m)) (hy:eB l y=some (.int .i64 n)):
  (execOp a.eval ⟨some d,.call ⟨.builtin .max,#[x,y],#[T,T']⟩,ty,pos,af,gd⟩).run P w=.ok (.value (.int .i64 (max m n))) w:=by
 have hv:=h.ev hx
 have Dj:=h.ev hy
 have e:(max m n:Int)=if m<n then n else m:=by split<;>omega
 rw [e]
 generalize a.eval=ρ at hv Dj ⊢
 simp [hv,Dj,go_sem]
 split<;>omega
theorem vq {x y:Operand} (h:b7 dq N a l) (hx:eB l x=some (.int .i64 (m:Nat))) (hy:eB l y=some (.int .i64 (n:Nat))):
  (execOp a.eval ⟨some d,.call ⟨.builtin .max,#[x,y],#[T,T']⟩,ty,pos,af,gd⟩).run P w=.ok (.value (.int .i64 (max m n:Nat))) w:=by
 have h1:=vp (P:=P) (d:=d) (ty:=ty) (pos:=pos) (af:=af) (gd:=gd) (w:=w) (T:=T) (T':=T') h hx hy
 rwa [show (max (m:Int) (n:Int))=((max m n:Nat):Int) by omega] at h1
end
def mvB (op rb g:Int):Int:=if op=3∨op=4 then rb+g else rb
def mvI (g:Int) (e:IE):IE:=(e.1,e.2.1+g,e.2.2.1+g,mvB e.1 e.2.2.2.1 g,e.2.2.2.2)
def mxL (d:List Int) (l:List Int):Int:=l.foldl (fun m r=>max m (d.getD r.toNat 0)) 0
def ahZ (d:List Int) (e:IE):List Int:=d.set e.2.1.toNat (mxL d (gx e.1 e.2.2.1 e.2.2.2.1)+1)
def dpt (g:Nat) (es:List IE) (os:List Int):Int:=mxL (es.foldl ahZ (List.replicate g 0)) os
def ah0 (g:Int) (os:List Int) (k:Nat):IE:=(1,g+(k:Nat),os.getD k 0,0,0)
def jnC (g:Int) (es:List IE) (os:List Int) (jU:List IE):List IE:=(es++(List.range os.length).map (ah0 g os))++jU.map (mvI g)
def jnO (g:Int) (os:List Int):List Int:=os.map (·+g)
def fO (b:Bool):List Value:=[.bool b]
def FO (_:Bool):PF:=kF
theorem kH (b:Bool):(fO b).length=1:=rfl
def Dl (e:IE):List Int:=gx e.1 e.2.2.1 e.2.2.2.1
def ly (os:List Int):List IE->List Bool×(Int->Bool)
 | []=>([],fun r=>decide (r∈os))
 | e::l=>if (ly os l).2 e.2.1 then (true::(ly os l).1,fun r=>decide (r∈Dl e) || (!decide (r=e.2.1) && (ly os l).2 r)) else (false::(ly os l).1,(ly os l).2)
theorem Mv (os:List Int) (l:List IE):(ly os l).1.length=l.length:=by
 induction l with
 | nil=>rfl
 | cons e l ih=>rw [ly]; split<;>rw [aR,aR,ih]
def scR (os:List Int) (r:Int):List IE->List Bool->Bool
 | e::l,b::bs=>(decide (r∈Dl e) && b) || (!decide (e.2.1=r) && scR os r l bs)
 | _,_=>decide (r∈os)
theorem oA {α:Type} {l:List α} {e:α} (h:l[k]?=some e):l.drop k=e::l.drop (k+1):=by
 obtain ⟨h1,h2⟩:=aE.1 h
 rw [cA h1,h2]
def za (os:List Int) (es:List IE) (t:Nat):List Bool:=List.replicate t false++(ly os (es.drop t)).1
theorem Mw {es:List IE} {t:Nat} (h:t<=es.length):(za os es t).length=es.length:=by
 rw [za,ai,df,Mv,dp]; omega
theorem Mx (os:List Int) {es:List IE} (h:es.length=n):za os es n=List.replicate n false:=by
 rw [za,bo ae]; exact bq _
theorem XK {b:Bool} {l:List Bool}:(List.replicate (k+1) false++l).set k b=List.replicate k false++b::l:=by
 rw [List.replicate_succ',aH,kg (h:=by rw [df]; exact ar _),df,eH]
 rfl
theorem EU {es:List IE} (he:es[k]?=some e):(za os es (k+1)).set k ((ly os (es.drop (k+1))).2 e.2.1)=za os es k:=by
 rw [za,za,XK,oA he,ly]
 by_cases h:(ly os (es.drop (k+1))).2 e.2.1=true
 ·rw [au h,h]
 ·rw [ak h,iz.2 h]
theorem XL {es:List IE} {t:Nat} (h:k<t):(za os es t)[k]?=some false:=by
 rw [za,bQ (by rw [df]; exact h),cK,au h]
theorem O0 {l:List Bool} {b:Bool} (h:l[k]?=some b):l.set k b=l:=by
 obtain ⟨h1,h2⟩:=aE.1 h
 rw [<- h2]; exact ja h1
def sF (g:Nat) (f:Int->Bool):List Bool:=(List.range g).map fun r=>f (r:Nat)
theorem vt (g:Nat) (f:Int->Bool):(sF g f).length=g:=by rw [sF,aw,ee]
theorem Sl {r:Nat} {f:Int->Bool} (h:r<g):(sF g f)[r]?=some (f (r:Nat)):=by
 rw [sF,ay,bN h]; rfl
theorem s6 {f f':Int->Bool} (h:∀r,f r=f' r):sF g f=sF g f':=by
 rw [show f=f' from funext h]
theorem EV {t:Nat} {f:Int->Bool} {b:Bool}:(sF g f).set t b=sF g fun r=>if r=(t:Nat) then b else f r:=by
 apply dG
 intro i
 rw [gy,sF,sF,ay,ay,aw,ee]
 by_cases h:i<g
 ·rw [bN h]
  by_cases q:t=i
  ·subst q; simp [h]
  ·have:¬((i:Int)=(t:Int)):=ae
   simp [q,this]
 ·rw [bg (by rw [ee]; omega)]
  by_cases q:t=i
  ·subst q; simp [h]
  ·simp [q]
def DV (f:Int->Bool) (l:List Int) (r:Int):Bool:=f r || decide (r∈l)
theorem EW (f:Int->Bool) (r:Int):DV f [] r=f r:=by simp [DV]
theorem Ac {q:Nat} {f:Int->Bool} (hq:l[m]?=some ((q:Nat):Int)):(sF g (DV f (l.take m))).set q true=sF g (DV f (l.take (m+1))):=by
 rw [EV]
 refine s6 fun r=>?_
 rw [DV,DV,take_one hq]
 by_cases h:r=((q:Nat):Int)
 ·rw [au h,a8 (aK.2 (.inr (by rw [h]; exact aL.2 rfl))),Bool.or_true]
 ·rw [ak h]
  congr 1
  exact gW.2 ⟨fun z=>aK.2 (.inl z),fun z=>(aK.1 z).elim id fun z=>absurd (aL.1 z) h⟩
theorem Sm (g:Nat):List.replicate g false=sF g fun _=>false:=by
 rw [sF,List.map_const',ee]
theorem My (os:List Int):sF g (DV (fun _=>false) os)=sF g (ly os []).2:=s6 fun r=>by rw [DV,ly,Bool.false_or]
theorem aaJ {es:List IE} (he:es[k]?=some e) (h:(ly os (es.drop (k+1))).2 e.2.1=false):(ly os (es.drop k)).2=(ly os (es.drop (k+1))).2:=by
 rw [oA he,ly,ak (by rw [h]; decide)]
theorem Sn {es:List IE} {t:Nat} (he:es[k]?=some e) (ht:e.2.1=(t:Nat)) (h:(ly os (es.drop (k+1))).2 e.2.1=true):sF g (DV (fun r=>if r=((t:Nat):Int) then false else (ly os (es.drop (k+1))).2 r) (Dl e))=sF g (ly os (es.drop k)).2:=by
 refine s6 fun r=>?_
 rw [oA he,ly,au h,DV]
 simp only
 rw [ht]
 by_cases q:r=((t:Nat):Int)
 ·rw [au q,a8 q,Bool.false_or,Bool.not_true,Bool.false_and,Bool.or_false]
 ·rw [ak q,aC q,Bool.not_false,Bool.true_and,Bool.or_comm]
def kpF (os:List Int):List IE->List IE
 | []=>[]
 | e::l=>if (ly os l).2 e.2.1 then e::kpF os l else kpF os l
theorem ah1 {es:List IE} (he:es[k]?=some e):(ly os es).1[k]?=some ((ly os (es.drop (k+1))).2 e.2.1):=by
 induction es generalizing k with
 | nil=>simp at he
 | cons x l ih=>
  cases k with
  | zero=>
   have:x=e:=by simpa using he
   subst this
   rw [List.drop_succ_cons,ie,ly]
   by_cases h:(ly os l).2 x.2.1=true
   ·rw [au h,h]; rfl
   ·rw [ak h,iz.2 h]; rfl
  | succ k=>
   have h1:l[k]?=some e:=by simpa using he
   rw [List.drop_succ_cons,ly,<- ih h1]
   split<;>rfl
def Wl:List IE->List Bool->List IE
 | e::es,b::bs=>if b && !qS e then e::Wl es bs else Wl es bs
 | _,_=>[]
def qg (os:List Int) (es:List IE):List IE:=Wl es (ly os es).1
theorem s9 (os:List Int) (e:IE) (l:List IE):qg os (e::l)=if (ly os l).2 e.2.1 && !qS e then e::qg os l else qg os l:=by
 unfold qg
 rw [ly]
 by_cases h:(ly os l).2 e.2.1=true
 ·rw [au h,Wl,h]
 ·rw [ak h,Wl,iz.2 h]
theorem sa (os:List Int):∀es:List IE,∀e∈qg os es,e∈es
 | [],e,h=>by cases h
 | d::es,e,h=>by
  rw [s9] at h
  split at h
  ·rcases bf.1 h with rfl | h
   ·exact aJ ..
   ·exact aQ _ (sa os es e h)
  ·exact aQ _ (sa os es e h)
theorem yF (os:List Int):∀es:List IE,(qg os es).length<=es.length
 | []=>ar _
 | e::es=>by
  rw [s9]
  have:=yF os es
  split<;>simp only [aR]<;>omega
theorem Ht (h:qf R e=some R'):∃z,px e.1 e.2.2.2.2 (kh R e.2.2.1) (kh R e.2.2.2.1)=some z/\R'=R.set e.2.1.toNat z:=by
 unfold qf at h
 cases hz:px e.1 e.2.2.2.2 (kh R e.2.2.1) (kh R e.2.2.2.1) with
 | none=>rw [hz] at h; cases h
 | some z=>rw [hz] at h; exact ⟨z,rfl,(aW h).symm⟩
theorem O1 {S:List Rw} {g:Int} (hM:gl e g) (hz:px e.1 e.2.2.2.2 (kh R e.2.2.1) (kh R e.2.2.2.1)=some z) (h:∀r∈Dl e,kh S r=kh R r):px e.1 e.2.2.2.2 (kh S e.2.2.1) (kh S e.2.2.2.1)=some z:=by
 obtain ⟨op,t,a,b,c⟩:=e
 unfold gl at hM
 dsimp only at hM hz ⊢
 unfold Dl gx at h
 dsimp only at h
 by_cases q:op=3∨op=4
 ·rw [au q] at h
  rw [h a fW,h b fW]; exact hz
 ·rw [ak q,au ae] at h
  rw [h a fW,vk (y':=kh R b) q]; exact hz
theorem Af {os:List Int} {g:Nat}:∀(es:List IE) {R R' S:List Rw},(∀e∈es,gl e g)->R.length=g->S.length=g->exe R es=some R'->(∀r:Int,0<=r->(ly os es).2 r=true->kh S r=kh R r)->(∀r∈os,0<=r)->
  ∃S',exe S (qg os es)=some S'/\∀r∈os,kh S' r=kh R' r
 | [],R,R',S,_,_,_,h,ha,ho=>by
  cases h
  exact ⟨S,I,fun r hr=>ha r (ho r hr) (a8 hr)⟩
 | e::l,R,R',S,mf,hR,hS,h,ha,ho=>by
  rw [lH] at h
  cases hs:qf R e with
  | none=>rw [hs] at h; cases h
  | some Q=>
   rw [hs] at h
   have hM:=mf e (aJ ..)
   have acQ:∀e∈l,gl e g:=fun e he=>mf e (aQ _ he)
   obtain ⟨z,hz,rfl⟩:=Ht hs
   have XH:=hM
   obtain ⟨op,t,a,b,c⟩:=e
   unfold gl at XH
   dsimp only at XH hz h ⊢
   have hQ:(R.set t.toNat z).length=g:=by rw [aP]; exact hR
   rw [s9]
   rw [ly] at ha
   dsimp only at ha ⊢
   by_cases hb:(ly os l).2 t=true
   ·rw [au hb] at ha
    have ah2:∀r∈Dl (op,t,a,b,c),kh S r=kh R r:=fun r hr=>by
     refine ha r ?_ (by dsimp only; rw [a8 hr]; rfl)
     unfold Dl gx at hr
     dsimp only at hr
     split at hr
     ·simp at hr; omega
     split at hr
     ·simp at hr; omega
     ·cases hr
    have aaK:∀r:Int,0<=r->r≠t->(ly os l).2 r=true->kh S r=kh R r:=fun r h0 u5 hr=>by
     refine ha r h0 ?_
     dsimp only
     rw [hr,aC u5]
     simp
    by_cases hn:qS (op,t,a,b,c)=true
    ·rw [hb,hn,ak aB]
     refine Af l acQ hQ hS h (fun r h0 hr=>?_) ho
     have anl:=Kc hn hM hR hs
     rw [anl]
     by_cases p:r=t
     ·subst p
      have hq:=aN hn
      dsimp only at hq
      obtain ⟨rfl,rfl⟩:=hq
      exact ah2 _ (by unfold Dl gx; simp)
     ·exact aaK r h0 p hr
    ·rw [hb,iz.2 hn,au aB]
     have QT:=O1 hM hz ah2
     have Qe:qf S (op,t,a,b,c)=some (S.set t.toNat z):=by unfold qf; rw [QT]; rfl
     have hS2:(S.set t.toNat z).length=g:=by rw [aP]; exact hS
     obtain ⟨S',s1,s2⟩:=Af l acQ hQ hS2 h (fun r h0 hr=>by
      by_cases p:r=t
      ·rw [p,mS hS ae ae,mS hR ae ae]
      ·rw [oW ae h0 (fw p),oW ae h0 (fw p)]; exact aaK r h0 p hr) ho
     exact ⟨S',by rw [lH,Qe]; exact s1,s2⟩
   ·rw [ak hb] at ha
    rw [iz.2 hb,Bool.false_and,ak aB]
    refine Af l acQ hQ hS h (fun r h0 hr=>?_) ho
    by_cases p:r=t
    ·exact absurd (p ▸ hr) hb
    ·rw [oW ae h0 (fw p)]; exact ha r h0 hr
theorem So {es:List IE} (mf:∀e∈es,gl e g) (hR:R.length=g) (ho:∀r∈os,0<=r) (h:exe R es=some R'):∃S',exe R (qg os es)=some S'/\∀r∈os,kh S' r=kh R' r:=
 Af es mf hR hR h (fun _ _ _=>rfl) ho
def gi (l:List Int) (k:Int):Int:=l.getD k.toNat 0
theorem mT {k:Int} (h0:0<=k) (h1:k<l.length):gi (l.set k.toNat v) k=v:=by
 unfold gi; rw [aj,iM ae]; rfl
theorem oX {k j:Int} (h0:0<=k) (h1:0<=j) (h:k≠j):gi (l.set k.toNat v) j=gi l j:=by
 unfold gi; rw [aj,aj,List.getElem?_set_ne ae]
def mD (i:Nat):List Int->Nat->List IE->List (Int×Int)
 | _,_,[]=>[]
 | h,k,e::es=>(gi h e.2.2.1,if e.1=3∨e.1=4 then gi h e.2.2.2.1 else gi h e.2.2.1)::mD i (h.set e.2.1.toNat ((i+1+k:Nat):Int)) (k+1) es
def pZ (i:Nat):List Int->Nat->List IE->List Int
 | h,_,[]=>h
 | h,k,e::es=>pZ i (h.set e.2.1.toNat ((i+1+k:Nat):Int)) (k+1) es
def uS (u:List Int) (k:Nat) (q:Int×Int):List Int:=((u.set q.1.toNat k).set q.2.toNat k)++[-1]
def uR:List Int->Nat->List (Int×Int)->List Int
 | u,_,[]=>u
 | u,k,q::l=>uR (uS u k q) (k+1) l
def uO (u:List Int) (n:Nat) (vs:List Int):List Int:=vs.foldl (fun u v=>u.set v.toNat n) u
def dj (i g:Nat):List Int:=(List.range g).map fun r=>((min r i:Nat):Int)
def mb (i g:Nat) (es:List IE) (os:List Int):List Int:=os.map (gi (pZ i (dj i g) 0 es))
def kS (i g:Nat) (es:List IE) (os:List Int):List Int:=uO (uR (List.replicate (i+1) (-1)) 0 (mD i (dj i g) 0 es)) es.length (mb i g es os)
structure Pk where
 at_:List Int
 free:List Bool
def kN (p:Pk):Int×Pk:=match p.free.findIdx? id with
 | some r=>((r:Nat),⟨p.at_++[((r:Nat):Int)],p.free.set r false⟩)
 | none=>((p.free.length:Nat),⟨p.at_++[((p.free.length:Nat):Int)],p.free++[false]⟩)
def jL (u:List Int) (k:Nat) (p:Pk) (v:Int):Pk:=if gi u v=(k:Nat) then { p with free:=p.free.set (gi p.at_ v).toNat true } else p
def qT (u:List Int) (k:Nat) (p:Pk) (e:IE) (q:Int×Int):Pk×IE:=
 let s:=kN (jL u k (jL u k p q.1) q.2)
 (s.2,(e.1,s.1,gi p.at_ q.1,if e.1=3∨e.1=4 then gi p.at_ q.2 else e.2.2.2.1,e.2.2.2.2))
def mE (u:List Int):Nat->Pk->List IE->List (Int×Int)->Pk×List IE
 | k,p,e::es,q::qs=>let s:=qT u k p e q; let t:=mE u (k+1) s.1 es qs; (t.1,s.2::t.2)
 | _,p,_,_=>(p,[])
def vP (i:Nat) (u:List Int):Pk:=⟨(List.range i).map (fun v=>((v:Nat):Int))++[if 0<=gi u i then (i:Int) else 0],(List.range i).map (fun v=>decide (gi u (v:Nat)<0))++if 0<=gi u i then [false] else []⟩
def DW (i g:Nat) (es:List IE) (os:List Int):Pk×List IE:=mE (kS i g es os) 0 (vP i (kS i g es os)) es (mD i (dj i g) 0 es)
def BP (i g:Nat) (es:List IE) (os:List Int):List IE:=(DW i g es os).2
def qh (i g:Nat) (es:List IE) (os:List Int):List Int:=(mb i g es os).map (gi (DW i g es os).1.at_)
def rB (i g:Nat) (es:List IE) (os:List Int):Nat:=(DW i g es os).1.free.length
theorem lh (i:Nat):∀(es:List IE) (h:List Int) (k:Nat),(mD i h k es).length=es.length
 | [],_,_=>rfl
 | e::es,h,k=>by rw [mD,aR,aR,lh i es]
theorem tc (i:Nat):∀(es:List IE) (h:List Int) (k:Nat),(pZ i h k es).length=h.length
 | [],_,_=>rfl
 | e::es,h,k=>by rw [pZ,tc i es,aP]
theorem BQ (i:Nat):∀(es fs:List IE) (h:List Int) (k:Nat),pZ i h k (es++fs)=pZ i (pZ i h k es) (k+es.length) fs
 | [],_,_,_=>rfl
 | e::es,fs,h,k=>by
  rw [ft,pZ,BQ i es,pZ,aR]
  congr 1
  omega
theorem nF {es:List IE} (he:es[k]?=some e):pZ i h 0 (es.take (k+1))=(pZ i h 0 (es.take k)).set e.2.1.toNat ((i+1+k:Nat):Int):=by
 have hk:=(aE.1 he).1
 rw [take_one he,BQ,bJ,cW ae,bD]
 rfl
theorem uC (i:Nat):∀(es:List IE) (h:List Int) (s k:Nat) (e:IE),es[k]?=some e->(mD i h s es)[k]?=some (gi (pZ i h s (es.take k)) e.2.2.1,if e.1=3∨e.1=4 then gi (pZ i h s (es.take k)) e.2.2.2.1 else gi (pZ i h s (es.take k)) e.2.2.1)
 | d::es,h,s,0,e,he=>by cases he; rfl
 | d::es,h,s,k+1,e,he=>by
  rw [mD,List.getElem?_cons_succ,iK,pZ]
  exact uC i es _ (s+1) k e he
theorem O2 {es:List IE} (mf:∀e∈es,gl e g) (hl:h.length=g) (h0:0<=r):∀j,k<=j->j<=es.length->gi (pZ i h 0 (es.take j)) r<i+1+k->gi (pZ i h 0 (es.take k)) r=gi (pZ i h 0 (es.take j)) r:=by
 intro j
 induction j with
 | zero=>intro h1 _ _; rw [Nat.le_zero.1 h1]
 | succ j ih=>
  intro h1 h2 h3
  rcases Nat.eq_or_lt_of_le h1 with q | q
  ·rw [q]
  ·have he:es[j]?=some es[j]:=ag ae
   have hM:=mf _ (ah he)
   generalize es[j]=e at he hM
   obtain ⟨op,t,a,b,c⟩:=e
   unfold gl at hM
   dsimp only at hM
   rw [nF he] at h3 ⊢
   dsimp only at h3 ⊢
   by_cases p:t=r
   ·subst p
    rw [mT h0 (by rw [tc,hl]; omega)] at h3
    omega
   ·rw [oX ae h0 p] at h3 ⊢
    exact ih ae ae h3
theorem xM {es:List IE} (mf:∀e∈es,gl e g) (hl:h.length=g) (hh:∀r:Int,0<=r->r<g->0<=gi h r/\gi h r<=i):∀j,j<=es.length->∀r:Int,0<=r->r<g->0<=gi (pZ i h 0 (es.take j)) r/\gi (pZ i h 0 (es.take j)) r<i+1+j:=by
 intro j
 induction j with
 | zero=>intro _ r h0 h1; have:=hh r h0 h1; show 0<=gi h r/\gi h r<_; omega
 | succ j ih=>
  intro hj r h0 h1
  have he:es[j]?=some es[j]:=ag ae
  have hM:=mf _ (ah he)
  generalize es[j]=e at he hM
  obtain ⟨op,t,a,b,c⟩:=e
  unfold gl at hM
  dsimp only at hM
  rw [nF he]
  dsimp only
  by_cases p:t=r
  ·subst p
   rw [mT h0 (by rw [tc,hl]; omega)]
   omega
  ·rw [oX ae h0 p]
   have:=ih ae r h0 h1
   omega
theorem aaL (h1:0<=q.1/\q.1<u.length) (h2:0<=q.2/\q.2<u.length) (hv:0<=v) (hl:v<u.length):gi (uS u k q) v=if v=q.1∨v=q.2 then (k:Int) else gi u v:=by
 have e:gi (uS u k q) v=gi ((u.set q.1.toNat k).set q.2.toNat k) v:=by
  unfold gi uS
  rw [aj,aj,bQ (by rw [aP,aP]; omega)]
 rw [e]
 by_cases p2:q.2=v
 ·rw [p2,mT hv (by rw [aP]; omega),au (.inr rfl)]
 ·rw [oX h2.1 hv p2]
  by_cases p1:q.1=v
  ·rw [p1,mT hv hl,au (.inl rfl)]
  ·rw [oX h1.1 hv p1,ak ae]
theorem Sr (u:List Int) (k:Nat) (q:Int×Int):(uS u k q).length=u.length+1:=by
 unfold uS; rw [ai,aP,aP]; rfl
theorem acR:gi (uS u k q) (u.length:Nat)=-1:=by
 unfold gi uS
 rw [aj,ed,bU (by rw [aP,aP]; exact ar _),aP,aP,eH]
 rfl
theorem aaM:∀(qs:List (Int×Int)) (u:List Int) (k:Nat),(∀(j:Nat) q,qs[j]?=some q->0<=q.1/\q.1<u.length+j/\0<=q.2/\q.2<u.length+j)->(uR u k qs).length=u.length+qs.length/\∀v:Int,0<=v->v<u.length+qs.length->
  (∃(j:Nat) (q:Int×Int),qs[j]?=some q/\(v=q.1∨v=q.2)/\gi (uR u k qs) v=((k+j:Nat):Int)/\∀(j':Nat) q',qs[j']?=some q'->(v=q'.1∨v=q'.2)->j'<=j)∨
  ((∀(j:Nat) q,qs[j]?=some q->¬(v=q.1∨v=q.2))/\gi (uR u k qs) v=if v<u.length then gi u v else -1)
 | [],u,k,_=>⟨rfl,fun v h0 h1=>.inr ⟨fun j q h=>(by cases h),(by show gi u v=_; rw [au (by simpa using h1)])⟩⟩
 | q::qs,u,k,hb=>by
  have b0:=hb 0 q rfl
  have Df:∀(j:Nat) q',qs[j]?=some q'->0<=q'.1/\q'.1<(uS u k q).length+j/\0<=q'.2/\q'.2<(uS u k q).length+j:=fun j q' h=>by
   have:=hb (j+1) q' h
   rw [Sr]; omega
  obtain ⟨l1,l2⟩:=aaM qs (uS u k q) (k+1) Df
  rw [Sr] at l1 l2
  refine ⟨by rw [uR,l1,aR]; omega,fun v h0 h1=>?_⟩
  rw [aR] at h1
  rw [uR]
  rcases l2 v h0 ae with ⟨j,q',a1,a2,a3,a4⟩ | ⟨a1,a2⟩
  ·refine .inl ⟨j+1,q',a1,a2,by rw [a3]; congr 1; omega,fun j' q2 h2 h3=>?_⟩
   cases j' with
   | zero=>omega
   | succ j'=>have:=a4 j' q2 h2 h3; omega
  ·by_cases p:v=q.1∨v=q.2
   ·refine .inl ⟨0,q,I,p,?_,fun j' q2 h2 h3=>?_⟩
    ·have hv:v<u.length:=ae
     rw [a2,au ae,aaL ae ae h0 hv,au p]; rfl
    ·cases j' with
     | zero=>exact ar _
     | succ j'=>exact absurd h3 (a1 j' q2 h2)
   ·refine .inr ⟨fun j q2 h2=>?_,?_⟩
    ·cases j with
     | zero=>cases h2; exact p
     | succ j=>exact a1 j q2 h2
    ·rw [a2]
     rcases kj v u.length with r | r | r
     ·rw [au ae,au r,aaL ae ae h0 r,ak p]
     ·rw [r,au ae,acR,ak ae]
     ·rw [ak ae,ak ae]
theorem aaN:∀(vs:List Int) (u:List Int) (n:Nat),(∀v∈vs,0<=v/\v<u.length)->(uO u n vs).length=u.length/\∀v:Int,0<=v->gi (uO u n vs) v=if v∈vs then (n:Int) else gi u v
 | [],u,n,_=>⟨rfl,fun v _=>by simp [uO]⟩
 | w::vs,u,n,hb=>by
  have hw:=hb w (aJ ..)
  obtain ⟨l1,l2⟩:=aaN vs (u.set w.toNat n) n (fun v hv=>by rw [aP]; exact hb v (aQ _ hv))
  refine ⟨by show (uO (u.set w.toNat n) n vs).length=_; rw [l1,aP],fun v h0=>?_⟩
  show gi (uO (u.set w.toNat n) n vs) v=_
  rw [l2 v h0]
  by_cases p:v∈vs
  ·rw [au p,au (aQ _ p)]
  ·rw [ak p]
   by_cases q:w=v
   ·rw [q,mT h0 ae,au (aJ ..)]
   ·rw [oX hw.1 h0 q,ak (by simp only [bf,not_or]; exact ⟨fw q,p⟩)]
structure Ss (i g:Nat) (es:List IE) (os:List Int) (U:Int->Int):Prop where
 a:∀(k:Nat) q,(mD i (dj i g) 0 es)[k]?=some q->(k:Int)<=U q.1/\(k:Int)<=U q.2
 b:∀(v:Int) (k:Nat),0<=v->v<i+1+es.length->U v=k->k<es.length->∃q,(mD i (dj i g) 0 es)[k]?=some q/\(v=q.1∨v=q.2)
 c:∀v∈mb i g es os,U v=es.length
 d:∀v:Int,0<=v->v<i+1+es.length->U v=es.length->v∈mb i g es os
 le:∀v:Int,0<=v->v<i+1+es.length->-1<=U v/\U v<=es.length
theorem qU (h0:0<=r) (h1:r<g):gi (dj i g) r=((min r.toNat i:Nat):Int):=by
 unfold gi dj
 rw [aj,ay,bN ae]; rfl
theorem lD (i g:Nat):(dj i g).length=g:=by unfold dj; simp
theorem uD {es:List IE} (mf:∀e∈es,gl e g) (j:Nat) (q:Int×Int) (h:(mD i (dj i g) 0 es)[j]?=some q):(0<=q.1/\q.1<i+1+j)/\(0<=q.2/\q.2<i+1+j):=by
 have hj:j<es.length:=by have:=(aE.1 h).1; rwa [lh] at this
 have he:es[j]?=some es[j]:=ag hj
 have hM:=mf _ (ah he)
 generalize es[j]=e at he hM
 rw [uC i es _ 0 j e he] at h
 have hq:=aW h
 have hh:=xM (i:=i) mf (lD i g) (fun r h0 h1=>by rw [qU h0 h1]; omega) j ae
 obtain ⟨op,t,a,b,c⟩:=e
 unfold gl at hM
 dsimp only at hM hq
 subst hq
 dsimp only
 have ha:=hh a ae ae
 refine ⟨ha,?_⟩
 split
 ·exact hh b ae ae
 ·exact ha
theorem aaO {es:List IE} (mf:∀e∈es,gl e g) (ho:∀r∈os,0<=r/\r<g):Ss i g es os (gi (kS i g es os))/\(kS i g es os).length=i+1+es.length:=by
 obtain ⟨l1,l2⟩:=aaM (mD i (dj i g) 0 es) (List.replicate (i+1) (-1)) 0 (fun j q h=>by
  have:=uD mf j q h
  rw [df]; omega)
 rw [df,lh] at l1 l2
 have EF:∀v∈mb i g es os,0<=v/\v<(uR (List.replicate (i+1) (-1)) 0 (mD i (dj i g) 0 es)).length:=fun v hv=>by
  obtain ⟨r,hr,rfl⟩:=bG.1 hv
  have:=xM (i:=i) mf (lD i g) (fun r h0 h1=>by rw [qU h0 h1]; omega) es.length (ar _) r (ho r hr).1 (ho r hr).2
  rw [List.take_length] at this
  rw [l1]; omega
 obtain ⟨m1,m2⟩:=aaN (mb i g es os) _ es.length EF
 refine ⟨⟨fun k q h=>?_,fun v k h0 h1 hk fh=>?_,fun v hv=>?_,fun v h0 h1 hv=>?_,fun v h0 h1=>?_⟩,by unfold kS; rw [m1,l1]⟩
 ·have hb:=uD mf k q h
  have We:k<es.length:=by have:=(aE.1 h).1; rwa [lh] at this
  have key:∀v:Int,0<=v->v<i+1+k->(v=q.1∨v=q.2)->(k:Int)<=gi (kS i g es os) v:=fun v h0 h1 hq=>by
   unfold kS
   rw [m2 v h0]
   split
   ·omega
   ·rcases l2 v h0 ae with ⟨j,q',a1,a2,a3,a4⟩ | ⟨a1,_⟩
    ·have:=a4 k q h hq
     rw [a3]; omega
    ·exact absurd hq (a1 k q h)
  exact ⟨key q.1 hb.1.1 hb.1.2 (.inl I),key q.2 hb.2.1 hb.2.2 (.inr I)⟩
 ·unfold kS at hk
  rw [m2 v h0] at hk
  split at hk
  ·omega
  ·rcases l2 v h0 ae with ⟨j,q',a1,a2,a3,a4⟩ | ⟨a1,a2⟩
   ·rw [a3] at hk
    obtain rfl:j=k:=ae
    exact ⟨q',a1,a2⟩
   ·rw [a2] at hk
    have:gi (List.replicate (i+1) (-1)) v=-1∨¬v<((i+1:Nat):Int):=by
     by_cases p:v<((i+1:Nat):Int)
     ·refine .inl ?_
      unfold gi
      rw [aj,cK,au ae]; rfl
     ·exact .inr p
    split at hk
    ·rcases this with p | p
     ·omega
     ·omega
    ·omega
 ·unfold kS
  rw [m2 v (EF v hv).1,au hv]
 ·unfold kS at hv
  rw [m2 v h0] at hv
  split at hv
  ·rename_i p; exact p
  ·rcases l2 v h0 ae with ⟨j,q',a1,a2,a3,a4⟩ | ⟨a1,a2⟩
   ·have:j<es.length:=by have:=(aE.1 a1).1; rwa [lh] at this
    omega
   ·rw [a2] at hv
    split at hv
    ·rename_i p
     unfold gi at hv
     rw [aj,cK,au ae] at hv
     simp at hv
    ·omega
 ·unfold kS
  rw [m2 v h0]
  split
  ·omega
  ·rcases l2 v h0 ae with ⟨j,q',a1,a2,a3,a4⟩ | ⟨a1,a2⟩
   ·have:j<es.length:=by have:=(aE.1 a1).1; rwa [lh] at this
    omega
   ·rw [a2]
    split
    ·rename_i p
     unfold gi
     rw [aj,cK,au ae]
     simp
    ·omega
theorem DX {es:List IE} {U:Int->Int} (mf:∀e∈es,gl e g) (ho:∀r∈os,0<=r/\r<g) (hU:Ss i g es os U) (hk:k<=es.length) (h0:0<=v) (h1:v<i+1+k) (hv:(k:Int)<=U v):∃r:Int,0<=r/\r<g/\gi (pZ i (dj i g) 0 (es.take k)) r=v:=by
 have hle:=hU.le v h0 ae
 obtain ⟨j,hj⟩:∃j:Nat,U v=j:=⟨(U v).toNat,by omega⟩
 have hb:∀r:Int,0<=r->gi (pZ i (dj i g) 0 (es.take j)) r=v->gi (pZ i (dj i g) 0 (es.take k)) r=v:=fun r hr e=>by
  rw [<- e]
  exact O2 mf (lD i g) hr j ae ae ae
 rcases aV j es.length with p | p
 ·obtain ⟨q,hq,hvq⟩:=hU.b v j h0 ae hj p
  have he:es[j]?=some es[j]:=ag p
  have hM:=mf _ (ah he)
  generalize es[j]=e at he hM
  rw [uC i es _ 0 j e he] at hq
  have hq:=aW hq
  obtain ⟨op,t,a,b,c⟩:=e
  unfold gl at hM
  dsimp only at hM hq
  subst hq
  dsimp only at hvq
  rcases hvq with e | e
  ·exact ⟨a,by omega,by omega,hb a ae e.symm⟩
  ·by_cases w:op=3∨op=4
   ·rw [au w] at e
    exact ⟨b,by omega,by omega,hb b ae e.symm⟩
   ·rw [ak w] at e
    exact ⟨a,by omega,by omega,hb a ae e.symm⟩
 ·obtain rfl:j=es.length:=ae
  obtain ⟨r,hr,e⟩:=bG.1 (hU.d v h0 ae hj)
  exact ⟨r,(ho r hr).1,(ho r hr).2,hb r (ho r hr).1 (by rw [List.take_length]; exact e)⟩
theorem zd {i g:Nat} {es:List IE} {os:List Int} {U:Int->Int} (mf:∀e∈es,gl e g) (hU:Ss i g es os U):∀(m k:Nat),m+k=es.length->∀r:Int,0<=r->r<g->(ly os (es.drop k)).2 r=true->(k:Int)<=U (gi (pZ i (dj i g) 0 (es.take k)) r)
 | 0,k,hk,r,h0,h1,ha=>by
  rw [bo ae] at ha
  have hr:=aN ha
  rw [ax (by omega),hU.c _ (bG.2 ⟨r,hr,rfl⟩)]
  omega
 | m+1,k,hk,r,h0,h1,ha=>by
  have he:es[k]?=some es[k]:=ag ae
  have hM:=mf _ (ah he)
  generalize es[k]=e at he hM
  rw [oA he,ly] at ha
  have hq:=hU.a k _ (uC i es (dj i g) 0 k e he)
  have ih:=zd mf hU m (k+1) ae
  rw [nF he] at ih
  obtain ⟨op,t,a,b,c⟩:=e
  unfold gl at hM
  dsimp only at hM ha ih hq
  have later:r≠t->(ly os (es.drop (k+1))).2 r=true->(k:Int)<=U (gi (pZ i (dj i g) 0 (es.take k)) r):=fun u5 h=>by
   have:=ih r h0 h1 h
   rw [oX ae h0 (fw u5)] at this
   omega
  by_cases w:(ly os (es.drop (k+1))).2 t=true
  ·rw [au w] at ha
   dsimp only at ha
   rcases Bool.or_eq_true_iff.1 ha with p | p
   ·have p:=aN p
    unfold Dl gx at p
    dsimp only at p
    split at p
    ·rename_i w2
     rw [au w2] at hq
     rcases bf.1 p with rfl | p
     ·exact hq.1
     ·rw [aL.1 p]; exact hq.2
    split at p
    ·rw [aL.1 p]; exact hq.1
    ·cases p
   ·obtain ⟨p1,p2⟩:=Bool.and_eq_true_iff.1 p
    exact later (by simpa using p1) p2
  ·rw [ak w] at ha
   exact later (fun e=>w (e ▸ ha)) ha
theorem php:∀(g m:Nat) (f:Nat->Nat),(∀x,x<m->f x<g)->(∀x y,x<m->y<m->f x=f y->x=y)->m<=g
 | 0,m,f,h,_=>by
  cases m with
  | zero=>exact ar _
  | succ m=>exact absurd (h 0 ae) ae
 | g+1,0,_,_,_=>av _
 | g+1,m+1,f,h,hi=>by
  have:=php g m (fun x=>if f x=g then f m else f x) (fun x hx=>by
   have h1:=h x ae
   have h2:=h m ae
   split
   ·rename_i e
    have:f m≠g:=fun e2=>by have:=hi x m ae ae (e.trans e2.symm); omega
    omega
   ·omega) (fun x y hx hy e=>by
   split at e
   ·rename_i e1
    split at e
    ·rename_i e2; exact hi x y ae ae (e1.trans e2.symm)
    ·have:=hi m y ae ae e; omega
   ·split at e
    ·have:=hi x m ae ae e; omega
    ·exact hi x y ae ae e)
  omega
def gf (l:List Bool) (x:Nat):Bool:=l.getD x true
theorem Su {l:List Bool} {x:Nat} {b:Bool} (hk:k<l.length):gf (l.set k b) x=if x=k then b else gf l x:=by
 unfold gf
 rw [aj,aj,gy]
 split
 ·rename_i e; subst e; simp
 ·rename_i e; rw [ak (fw e)]
theorem acS {l:List Bool} {x:Nat} (h:l.length<=x):gf l x=true:=by
 unfold gf; rw [aj,bg h]; rfl
theorem acT {w:Int} (h0:0<=v) (h1:v<l.length):gi (l++[w]) v=gi l v:=by
 unfold gi; rw [aj,aj,bQ ae]
theorem BR {w:Int}:gi (l++[w]) (l.length:Nat)=w:=by
 unfold gi; rw [aj,ed,bU (ar _),eH]; rfl
theorem Ah (p:Pk):∃rn:Nat,(kN p).1=rn/\rn<=p.free.length/\gf p.free rn=true/\(kN p).2.at_=p.at_++[((rn:Nat):Int)]/\(∀x,gf (kN p).2.free x=if x=rn then false else gf p.free x)/\
  (kN p).2.free.length=max p.free.length (rn+1)/\(rn=p.free.length->∀x,x<p.free.length->gf p.free x=false):=by
 unfold kN
 split
 ·rename_i r hr
  obtain ⟨hl,hp,_⟩:=gw.1 hr
  refine ⟨r,I,by omega,?_,rfl,fun x=>Su hl,?_,fun e=>ae⟩
  ·unfold gf; rw [aj,ag hl]; exact hp
  ·show (p.free.set r false).length=_
   rw [aP]; omega
 ·rename_i hr
  have rH:=jj.1 hr
  refine ⟨p.free.length,I,ar _,acS (ar _),I,fun x=>?_,?_,fun _ x hx=>?_⟩
  ·show gf (p.free++[false]) x=_
   unfold gf
   rw [aj,gn]
   rcases Nat.lt_trichotomy x p.free.length with q | q | q
   ·rw [au q,ak ae,aj]
   ·rw [ak ae,au q,q,eH]; rfl
   ·rw [ak ae,ak ae,bg (by simp; omega),aj,bg ae]
  ·show (p.free++[false]).length=_
   rw [ai,bh]; omega
  ·unfold gf
   rw [aj,ag hx]
   have:=rH _ (eJ hx)
   simpa using this
theorem Mz {p:Pk} (h0:0<=gi p.at_ v) (h1:gi p.at_ v<p.free.length):(jL u k p v).at_=p.at_/\(jL u k p v).free.length=p.free.length/\∀x:Nat,gf (jL u k p v).free x=if gi u v=(k:Nat)/\(x:Int)=gi p.at_ v then true else gf p.free x:=by
 unfold jL
 split
 ·rename_i q
  refine ⟨I,aP,fun x=>?_⟩
  dsimp only
  rw [Su ae]
  by_cases e:(x:Int)=gi p.at_ v
  ·rw [au ae,au ⟨q,e⟩]
  ·rw [ak ae,ak (fun w=>e w.2)]
 ·rename_i q
  exact ⟨I,I,fun x=>by rw [ak (fun w=>q w.1)]⟩
structure Sv (i g G:Nat) (U:Int->Int) (k:Nat) (h:List Int) (p:Pk) (R P:List Rw) (val:Int->Rw):Prop where
 rl:R.length=g
 pl:P.length=G
 eq:∀r:Int,0<=r->r<g->kh R r=val (gi h r)
 al:p.at_.length=i+1+k
 lv:∀v:Int,0<=v->v<i+1+k->(k:Int)<=U v->0<=gi p.at_ v/\gi p.at_ v<p.free.length/\gf p.free (gi p.at_ v).toNat=false/\kh P (gi p.at_ v)=val v
 inj:∀v w:Int,0<=v->v<i+1+k->(k:Int)<=U v->0<=w->w<i+1+k->(k:Int)<=U w->gi p.at_ v=gi p.at_ w->v=w
 occ:∀x:Nat,x<p.free.length->gf p.free x=false->∃v:Int,0<=v/\v<i+1+k/\(k:Int)<=U v/\gi p.at_ v=x
 fl:p.free.length<=g
theorem O3 {G:Nat} {es:List IE} {p:Pk} {P:List Rw} {val:Int->Rw} (mf:∀e∈es,gl e g) (ho:∀r∈os,0<=r/\r<g) (hU:Ss i g es os (gi u)) (he:es[k]?=some e) (hq:(mD i (dj i g) 0 es)[k]?=some q)
 (Kd:((k+1:Nat):Int)<=gi u ((i+1+k:Nat):Int)) (h:Sv i g G (gi u) k (pZ i (dj i g) 0 (es.take k)) p R P val) (hs:qf R e=some R') (hG:(qT u k p e q).1.free.length<=G):
  ∃P' s5,qf P (qT u k p e q).2=some P'/\Sv i g G (gi u) (k+1) (pZ i (dj i g) 0 (es.take (k+1))) (qT u k p e q).1 R' P' s5/\gl (qT u k p e q).2 G:=by
 have We:=(aE.1 he).1
 have hb:=uD mf k q hq
 have ha:=hU.a k q hq
 have hM:=mf e (ah he)
 rw [uC i es _ 0 k e he] at hq
 have hq:=aW hq
 obtain ⟨z,hz,rfl⟩:=Ht hs
 obtain ⟨v1,v2,v3,v4⟩:=h.lv q.1 hb.1.1 hb.1.2 ha.1
 obtain ⟨w1,w2,w3,w4⟩:=h.lv q.2 hb.2.1 hb.2.2 ha.2
 obtain ⟨f1,f2,f3⟩:=Mz v1 v2
 obtain ⟨g1,g2,g3⟩:=Mz (p:=jL u k p q.1) (v:=q.2) (by rw [f1]; exact w1) (by rw [f1,f2]; exact w2)
 rw [f1] at g1 g3
 rw [f2] at g2
 obtain ⟨rn,r1,r2,r3,r4,r5,r6,r7⟩:=Ah (jL u k (jL u k p q.1) q.2)
 rw [g1] at r4
 rw [g2] at r2 r6 r7
 have DH:∀x:Nat,gf (jL u k (jL u k p q.1) q.2).free x=if (gi u q.2=(k:Nat)/\(x:Int)=gi p.at_ q.2)∨(gi u q.1=(k:Nat)/\(x:Int)=gi p.at_ q.1) then true else gf p.free x:=fun x=>by
  rw [g3,f3]
  by_cases c1:gi u q.2=(k:Nat)/\(x:Int)=gi p.at_ q.2
  ·rw [au c1,au (.inl c1)]
  ·rw [ak c1]
   by_cases c2:gi u q.1=(k:Nat)/\(x:Int)=gi p.at_ q.1
   ·rw [au c2,au (.inr c2)]
   ·rw [ak c2,ak (by rintro (c | c); exact c1 c; exact c2 c)]
 unfold qT at hG ⊢
 dsimp only at hG ⊢
 rw [r1]
 generalize (kN (jL u k (jL u k p q.1) q.2)).2=p3 at r4 r5 r6 hG ⊢
 generalize Rp:(jL u k (jL u k p q.1) q.2).free=f2 at DH r3 r5 r7
 have MA:=h.al
 have hold:∀v:Int,0<=v->v<i+1+k->gi p3.at_ v=gi p.at_ v:=fun v h0 h1=>by rw [r4,acT h0 ae]
 have hnw:gi p3.at_ ((i+1+k:Nat):Int)=(rn:Nat):=by rw [r4,<- MA,BR]
 -- what is live behind it stands in a register that was not given
 have Sw:∀v:Int,0<=v->v<i+1+k->((k+1:Nat):Int)<=gi u v->gf f2 (gi p.at_ v).toNat=false/\gi p.at_ v≠(rn:Nat):=fun v h0 h1 h2=>by
  obtain ⟨x1,x2,x3,x4⟩:=h.lv v h0 h1 ae
  have hx:gf f2 (gi p.at_ v).toNat=false:=by
   rw [DH,ak,x3]
   rintro (⟨c1,c2⟩ | ⟨c1,c2⟩)
   ·have:=h.inj v q.2 h0 h1 ae hb.2.1 hb.2.2 ha.2 ae
    rw [this] at h2; omega
   ·have:=h.inj v q.1 h0 h1 ae hb.1.1 hb.1.2 ha.1 ae
    rw [this] at h2; omega
  refine ⟨hx,fun e=>?_⟩
  rw [e,ed,r3] at hx
  cases hx
 have ah3:∀x:Nat,x<p3.free.length->gf p3.free x=false->∃v:Int,0<=v/\v<((i+1+(k+1):Nat):Int)/\((k+1:Nat):Int)<=gi u v/\gi p3.at_ v=x:=fun x hx hf=>by
  rw [r5] at hf
  by_cases c:x=rn
  ·exact ⟨((i+1+k:Nat):Int),by omega,by omega,Kd,by rw [hnw,c]⟩
  ·rw [ak c,DH] at hf
   split at hf
   ·cases hf
   ·rename_i hn
    obtain ⟨v,v0,v1',v2',v3'⟩:=h.occ x ae hf
    refine ⟨v,v0,by omega,?_,by rw [hold v v0 v1',v3']⟩
    rcases Int.lt_or_eq_of_le v2' with c2 | c2
    ·omega
    ·obtain ⟨q',e1,e2⟩:=hU.b v k v0 ae c2.symm We
     rw [uC i es _ 0 k e he,hq] at e1
     cases e1
     exfalso
     apply hn
     rcases e2 with rfl | rfl
     ·exact .inr ⟨c2.symm,v3'.symm⟩
     ·exact .inl ⟨c2.symm,v3'.symm⟩
 obtain ⟨op,t,a,b,c⟩:=e
 have XH:=hM
 unfold gl at hM
 dsimp only at hM hz hq ⊢
 have Wk:gi (pZ i (dj i g) 0 (es.take (k+1))) t=((i+1+k:Nat):Int):=by
  rw [nF he]; dsimp only; rw [mT ae (by rw [tc,lD]; omega)]
 have ah4:∀r:Int,0<=r->r≠t->gi (pZ i (dj i g) 0 (es.take (k+1))) r=gi (pZ i (dj i g) 0 (es.take k)) r:=fun r h0 u5=>by
  rw [nF he]; dsimp only; rw [oX ae h0 (fw u5)]
 have hrn:rn<G:=ae
 refine ⟨P.set rn z,JQ val ((i+1+k:Nat):Int) z,?_,⟨by rw [aP]; exact h.rl,by rw [aP]; exact h.pl,fun r h0 h1=>?_,by rw [r4,ai,MA]; rfl,fun v h0 h1 h2=>?_,fun v w hv0 Re hv2 hw0 hw1 hw2 e=>?_,ah3,?_⟩,?_⟩
 ·unfold qf
  dsimp only
  have e1:kh R a=val q.1:=by rw [h.eq a ae ae,<- hq]
  rw [v4,<- e1]
  by_cases w:op=3∨op=4
  ·have e2:kh R b=val q.2:=by rw [h.eq b ae ae,<- hq]; dsimp only; rw [au w]
   rw [au w,w4,<- e2,hz]; rfl
  ·rw [ak w,vk (y':=kh R b) w,hz]; rfl
 ·by_cases c:r=t
  ·rw [c,Wk,mS h.rl ae ae,JQ,au rfl]
  ·have fh:=xM (i:=i) mf (lD i g) (fun r h0 h1=>by rw [qU h0 h1]; omega) k ae r h0 h1
   rw [ah4 r h0 c,oW ae h0 (fw c),yD ae]
   exact h.eq r h0 h1
 ·by_cases c:v=((i+1+k:Nat):Int)
  ·rw [c,hnw]
   refine ⟨by omega,by omega,by rw [r5,au ae],?_⟩
   rw [JQ,au rfl]
   exact mS (k:=((rn:Nat):Int)) h.pl ae ae
  ·have hv:v<i+1+k:=ae
   obtain ⟨x1,x2,x3,x4⟩:=h.lv v h0 hv ae
   obtain ⟨y1,y2⟩:=Sw v h0 hv h2
   rw [hold v h0 hv]
   refine ⟨x1,by omega,by rw [r5,ak ae]; exact y1,?_⟩
   rw [show rn=((rn:Nat):Int).toNat from rfl,oW ae x1 (fw y2),yD ae]
   exact x4
 ·by_cases c1:v=((i+1+k:Nat):Int)
  ·by_cases c2:w=((i+1+k:Nat):Int)
   ·omega
   ·have hw:w<i+1+k:=ae
    rw [c1,hnw,hold w hw0 hw] at e
    exact absurd e.symm (Sw w hw0 hw hw2).2
  ·have hv:v<i+1+k:=ae
   by_cases c2:w=((i+1+k:Nat):Int)
   ·rw [c2,hnw,hold v hv0 hv] at e
    exact absurd e (Sw v hv0 hv hv2).2
   ·have hw:w<i+1+k:=ae
    rw [hold v hv0 hv,hold w hw0 hw] at e
    exact h.inj v w hv0 hv ae hw0 hw ae e
 ·have Wi:=h.fl
  rcases aV rn p.free.length with c | c
  ·omega
  ·have rH:=r7 ae
   have hx:∀x,x<p3.free.length->∃r:Nat,r<g/\gi p3.at_ (gi (pZ i (dj i g) 0 (es.take (k+1))) (r:Nat))=(x:Nat):=fun x hx=>by
    have hfx:gf p3.free x=false:=by
     rw [r5]
     split
     ·rfl
     ·exact rH x ae
    obtain ⟨v,a1,a2,a3,a4⟩:=ah3 x hx hfx
    obtain ⟨r,b1,b2,b3⟩:=DX mf ho hU (k:=k+1) ae a1 ae a3
    exact ⟨r.toNat,by omega,by rw [Int.toNat_of_nonneg b1,b3,a4]⟩
   refine php g p3.free.length (fun x=>if RI:x<p3.free.length then Classical.choose (hx x RI) else 0) (fun x RI=>?_) (fun x y RI hy' e=>?_)
   ·rw [dif_pos RI]; exact (Classical.choose_spec (hx x RI)).1
   ·rw [dif_pos RI,dif_pos hy'] at e
    have e1:=(Classical.choose_spec (hx x RI)).2
    have e2:=(Classical.choose_spec (hx y hy')).2
    rw [e,e2] at e1
    omega
 ·unfold gl
  dsimp only
  by_cases w:op=3∨op=4
  ·rw [au w]; omega
  ·rw [ak w]; omega
theorem Hu (u:List Int) (k:Nat) (p:Pk) (e:IE) (q:Int×Int):p.free.length<=(qT u k p e q).1.free.length:=by
 obtain ⟨rn,_,_,_,_,_,r6,_⟩:=Ah (jL u k (jL u k p q.1) q.2)
 have hl:∀(p:Pk) (v:Int),(jL u k p v).free.length=p.free.length:=fun p v=>by unfold jL; split<;>simp
 unfold qT
 dsimp only
 rw [r6,hl,hl]
 omega
theorem wR (u:List Int):∀(es:List IE) (qs:List (Int×Int)) (k:Nat) (p:Pk),p.free.length<=(mE u k p es qs).1.free.length
 | [],_,_,_=>by unfold mE; exact ar _
 | _::_,[],_,_=>by unfold mE; exact ar _
 | e::es,q::qs,k,p=>by
  unfold mE
  exact aD (Hu u k p e q) (wR u es qs _ _)
theorem Hv {i g G:Nat} {es:List IE} {os:List Int} {u:List Int} (mf:∀e∈es,gl e g) (ho:∀r∈os,0<=r/\r<g) (hU:Ss i g es os (gi u)) (ve:∀k e,es[k]?=some e->(ly os (es.drop (k+1))).2 e.2.1=true):
  ∀(m k:Nat) {p:Pk} {R R' P:List Rw} {val:Int->Rw},m+k=es.length->Sv i g G (gi u) k (pZ i (dj i g) 0 (es.take k)) p R P val->exe R (es.drop k)=some R'->(mE u k p (es.drop k) ((mD i (dj i g) 0 es).drop k)).1.free.length<=G->
   ∃P' s5,exe P (mE u k p (es.drop k) ((mD i (dj i g) 0 es).drop k)).2=some P'/\Sv i g G (gi u) es.length (pZ i (dj i g) 0 es) (mE u k p (es.drop k) ((mD i (dj i g) 0 es).drop k)).1 R' P' s5/\(∀f∈(mE u k p (es.drop k) ((mD i (dj i g) 0 es).drop k)).2,gl f G)/\(mE u k p (es.drop k) ((mD i (dj i g) 0 es).drop k)).2.length=m
 | 0,k,p,R,R',P,val,hk,h,hx,hG=>by
  have hd:es.drop k=[]:=bo ae
  rw [hd] at hx hG ⊢
  cases hx
  obtain rfl:k=es.length:=ae
  rw [List.take_length] at h
  unfold mE
  exact ⟨P,val,I,h,fun f hf=>by simp at hf,rfl⟩
 | m+1,k,p,R,R',P,val,hk,h,hx,hG=>by
  have he:es[k]?=some es[k]:=ag ae
  generalize es[k]=e at he
  have hq:=uC i es (dj i g) 0 k e he
  generalize (gi (pZ i (dj i g) 0 (List.take k es)) e.2.2.1,if e.1=3∨e.1=4 then gi (pZ i (dj i g) 0 (List.take k es)) e.2.2.2.1 else gi (pZ i (dj i g) 0 (List.take k es)) e.2.2.1)=q at hq
  have hM:=mf e (ah he)
  rw [oA he] at hx hG ⊢
  rw [oA hq] at hG ⊢
  rw [mE] at hG ⊢
  dsimp only at hG ⊢
  rw [lH] at hx
  cases hs:qf R e with
  | none=>rw [hs] at hx; cases hx
  | some Q=>
   rw [hs] at hx
   have Wk:0<=e.2.1/\e.2.1<g:=by obtain ⟨op,t,a,b,c⟩:=e; unfold gl at hM; dsimp only at hM ⊢; omega
   have Kd:=zd mf hU m (k+1) ae e.2.1 Wk.1 Wk.2 (ve k e he)
   rw [nF he,mT Wk.1 (by rw [tc,lD]; omega)] at Kd
   obtain ⟨P1,avy,s1,s2,s3⟩:=O3 mf ho hU he hq Kd h hs (aD (wR u _ _ _ _) hG)
   obtain ⟨P',s5,t1,t2,t3,t4⟩:=Hv mf ho hU ve m (k+1) ae s2 hx hG
   refine ⟨P',s5,by rw [lH,s1]; exact t1,t2,fun f hf=>?_,by rw [aR,t4]⟩
   rcases bf.1 hf with rfl | hf
   ·exact s3
   ·exact t3 f hf
theorem xN (i:Nat) (u:List Int):(vP i u).free.length=if 0<=gi u i then i+1 else i:=by
 unfold vP
 dsimp only
 split<;>simp
theorem Hw {es:List IE} (hi:G.length=i) (hg:i<=g) (mf:∀e∈es,gl e g) (ho:∀r∈os,0<=r/\r<g) (ve:(ly os es).1=List.replicate es.length true) (h:exe (lT g n G) es=some R'):
  ∃P',exe (lT (rB i g es os) n G) (BP i g es os)=some P'/\(qh i g es os).map (kh P')=os.map (kh R')/\(∀f∈BP i g es os,gl f (rB i g es os))/\(∀r∈qh i g es os,0<=r/\r<rB i g es os)/\i<=rB i g es os/\rB i g es os<=g/\(BP i g es os).length=es.length:=by
 obtain ⟨hU,hul⟩:=aaO (i:=i) (os:=os) mf ho
 have ann:∀k e,es[k]?=some e->(ly os (es.drop (k+1))).2 e.2.1=true:=fun k e he=>by
  have h1:(ly os es).1[k]?=some ((ly os (es.drop (k+1))).2 e.2.1):=ah1 he
  rw [ve,cK,au (aE.1 he).1] at h1
  exact (aW h1).symm
 have hm:=wR (kS i g es os) es (mD i (dj i g) 0 es) 0 (vP i (kS i g es os))
 have JN:=xN i (kS i g es os)
 have hGi:(vP i (kS i g es os)).free.length<=rB i g es os:=hm
 have hiG:i<=rB i g es os:=by rw [JN] at hGi; split at hGi<;>omega
 have G6:∀v:Int,0<=v->v<i->gi (vP i (kS i g es os)).at_ v=v:=fun v h0 h1=>by
  unfold gi vP
  dsimp only
  rw [aj,bQ (by simp; omega),ay,bN ae]
  simp; omega
 have acV:gi (vP i (kS i g es os)).at_ (i:Nat)=if 0<=gi (kS i g es os) i then (i:Int) else 0:=by
  have hh:=BR (l:=(List.range i).map (fun v=>((v:Nat):Int))) (w:=if 0<=gi (kS i g es os) i then (i:Int) else 0)
  rw [aw,ee] at hh
  exact hh
 have WX:∀x:Nat,x<i->gf (vP i (kS i g es os)).free x=decide (gi (kS i g es os) (x:Nat)<0):=fun x hx=>by
  unfold gf vP
  dsimp only
  rw [aj,bQ (by simp; omega),ay,bN hx]
  rfl
 have ano:0<=gi (kS i g es os) i->gf (vP i (kS i g es os)).free i=false:=fun hp=>by
  unfold gf vP
  dsimp only
  rw [au hp,aj,bU fW,aw,ee,eH]
  rfl
 have h0:Sv i g (rB i g es os) (gi (kS i g es os)) 0 (pZ i (dj i g) 0 (es.take 0)) (vP i (kS i g es os)) (lT g n G) (lT (rB i g es os) n G) fun v=>if v<i then G.getD v.toNat [] else List.replicate n 0:=by
  refine ⟨mC ae,mC ae,fun r r0 r1=>?_,by unfold vP; simp,fun v v0 v1 v2=>?_,fun v w v0 v1 v2 w0 w1 w2 e=>?_,fun x hx hf=>?_,?_⟩
  ·show _=(fun v:Int=>if v<i then G.getD v.toNat [] else List.replicate n 0) (gi (dj i g) r)
   rw [BN ae r0 r1,qU r0 r1,hi]
   dsimp only
   by_cases p:r<i
   ·rw [au p,au ae]; congr 1; omega
   ·rw [ak p,ak ae]
  ·by_cases p:v<i
   ·rw [G6 v v0 p]
    refine ⟨v0,by rw [JN]; split<;>omega,?_,?_⟩
    ·rw [WX v.toNat ae,Int.toNat_of_nonneg v0]
     exact aC ae
    ·rw [BN ae v0 ae,hi]
   ·obtain rfl:v=(i:Nat):=ae
    have hp:(0:Int)<=gi (kS i g es os) i:=v2
    rw [acV,au hp]
    rw [au hp] at JN
    refine ⟨by omega,by omega,ano hp,?_⟩
    rw [BN ae ae ae,hi,ak ae]
  ·have one:∀v:Int,0<=v->v<((i+1+0:Nat):Int)->((0:Nat):Int)<=gi (kS i g es os) v->gi (vP i (kS i g es os)).at_ v=v:=fun v v0 v1 v2=>by
    by_cases p:v<i
    ·exact G6 v v0 p
    ·obtain rfl:v=(i:Nat):=ae
     have hp:(0:Int)<=gi (kS i g es os) i:=v2
     rw [acV,au hp]
   rw [one v v0 v1 v2,one w w0 w1 w2] at e
   exact e
  ·by_cases p:x<i
   ·rw [WX x p] at hf
    have:=bP hf
    exact ⟨(x:Nat),by omega,by omega,by omega,G6 _ ae ae⟩
   ·rw [JN] at hx
    split at hx
    ·rename_i hp
     obtain rfl:x=i:=ae
     exact ⟨(x:Nat),by omega,by omega,hp,by rw [acV,au hp]⟩
    ·omega
  ·rw [JN]
   split
   ·rename_i hp
    obtain ⟨r,r0,r1,r2⟩:=DX mf ho hU (k:=0) (av _) (v:=(i:Nat)) ae ae hp
    rw [show pZ i (dj i g) 0 (es.take 0)=dj i g from rfl,qU r0 r1] at r2
    omega
   ·exact hg
 obtain ⟨P',s5,t1,t2,t3,t4⟩:=Hv (G:=rB i g es os) mf ho hU ann es.length 0 (dr _) h0 h (ar _)
 have Bs:∀v∈mb i g es os,0<=v/\v<i+1+es.length/\(es.length:Int)<=gi (kS i g es os) v:=fun v hv=>by
  have h2:=hU.c v hv
  obtain ⟨r,hr,rfl⟩:=bG.1 hv
  have:=xM (i:=i) mf (lD i g) (fun r h0 h1=>by rw [qU h0 h1]; omega) es.length (ar _) r (ho r hr).1 (ho r hr).2
  rw [List.take_length] at this
  omega
 refine ⟨P',t1,?_,t3,fun r hr=>?_,hiG,t2.fl,t4⟩
 ·unfold qh mb
  rw [eT,eT]
  refine cZ fun r hr=>?_
  have hv:gi (pZ i (dj i g) 0 es) r∈mb i g es os:=bG.2 ⟨r,hr,rfl⟩
  obtain ⟨a1,a2,a3⟩:=Bs _ hv
  show kh P' (gi (DW i g es os).1.at_ (gi (pZ i (dj i g) 0 es) r))=kh R' r
  rw [t2.eq r (ho r hr).1 (ho r hr).2]
  exact (t2.lv _ a1 ae a3).2.2.2
 ·obtain ⟨v,hv,rfl⟩:=bG.1 hr
  obtain ⟨a1,a2,a3⟩:=Bs v hv
  have:=t2.lv v a1 ae a3
  exact ⟨this.1,this.2.1⟩
def EX (i g:Nat) (p:List IE×List Int):List IE×List Int:=
 let e1:=oy p.1
 (qg (oz i g e1 p.2) (pY i g e1),oz i g e1 p.2)
def lA (i g:Nat):Nat->List IE×List Int->List IE×List Int
 | 0,p=>p
 | n+1,p=>if EX i g p=p then EX i g p else lA i g n (EX i g p)
def kW (i g:Nat) (es:List IE) (os:List Int):List IE:=BP i g (lA i g 16 (es,os)).1 (lA i g 16 (es,os)).2
def oB (i g:Nat) (es:List IE) (os:List Int):List Int:=qh i g (lA i g 16 (es,os)).1 (lA i g 16 (es,os)).2
def pN (i g:Nat) (es:List IE) (os:List Int):Nat:=rB i g (lA i g 16 (es,os)).1 (lA i g 16 (es,os)).2
theorem MB (os:List Int):∀es:List IE,(ly os (qg os es)).1=List.replicate (qg os es).length true/\(ly os (qg os es)).2=(ly os es).2
 | []=>⟨rfl,rfl⟩
 | e::l=>by
  obtain ⟨a,b⟩:=MB os l
  rw [s9]
  by_cases h:(ly os l).2 e.2.1=true
  ·by_cases hn:qS e=true
   ·rw [h,hn,ak aB]
    refine ⟨a,b.trans ?_⟩
    rw [ly,au h]
    obtain ⟨op,t,x,y,c⟩:=e
    have hq:=aN hn
    dsimp only at hq h ⊢
    obtain ⟨rfl,rfl⟩:=hq
    funext r
    unfold Dl gx
    dsimp only
    rw [ak aB,au aB]
    by_cases q:r=t
    ·subst q; rw [h]; simp
    ·simp [q]
   ·rw [h,iz.2 hn,au aB,ly,b,au h,a,ly,au h]
    exact ⟨by rw [aR,fG],rfl⟩
  ·rw [iz.2 h,Bool.false_and,ak aB,ly,ak h]
   exact ⟨a,b⟩
structure oY (i g n:Nat) (G:List Rw) (es:List IE) (os:List Int) (O:List Rw):Prop where
 may:∀e∈es,gl e g
 out:∀r∈os,0<=r/\r<g
 run:∃R',exe (lT g n G) es=some R'/\os.map (kh R')=O
theorem Kh {p:List IE×List Int} (hi:G.length=i) (hg:i<=g) (h:oY i g n G p.1 p.2 O):oY i g n G (EX i g p).1 (EX i g p).2 O/\(EX i g p).1.length<=p.1.length/\(EX i g p).2.length=p.2.length/\(ly (EX i g p).2 (EX i g p).1).1=List.replicate (EX i g p).1.length true:=by
 obtain ⟨R',h1,h2⟩:=h.run
 have f1:=Hm h.may (mC ae) h1
 have f2:=DR h.may
 have f3:=DS p.1
 obtain ⟨s1,s2,s3,s4⟩:=DU hi hg f2 f1
 have so:∀r∈oz i g (oy p.1) p.2,0<=r/\r<g:=fun r hr=>by
  obtain ⟨v,hv,rfl⟩:=bG.1 hr
  have:=s4 v (h.out v hv).1 (h.out v hv).2
  exact ⟨this.2.1,this.2.2⟩
 obtain ⟨S',d1,d2⟩:=So s2 (mC ae) (fun r hr=>(so r hr).1) s1
 refine ⟨⟨fun e he=>s2 e (sa _ _ e he),so,S',d1,?_⟩,aD (yF _ _) (aD s3 f3),by unfold EX oz; simp,(MB _ _).1⟩
 rw [<- h2]
 show (oz i g (oy p.1) p.2).map _=_
 rw [cZ d2]
 unfold oz
 rw [eT]
 exact cZ fun r hr=>(s4 r (h.out r hr).1 (h.out r hr).2).1
theorem Ai {i g n:Nat} {G:List Rw} {O:List Rw} (hi:G.length=i) (hg:i<=g):∀(k:Nat) (p:List IE×List Int),oY i g n G p.1 p.2 O->oY i g n G (lA i g (k+1) p).1 (lA i g (k+1) p).2 O/\(lA i g (k+1) p).1.length<=p.1.length/\(lA i g (k+1) p).2.length=p.2.length/\(ly (lA i g (k+1) p).2 (lA i g (k+1) p).1).1=List.replicate (lA i g (k+1) p).1.length true
 | 0,p,h=>by
  have:=Kh hi hg h
  unfold lA
  split
  ·exact this
  ·exact this
 | k+1,p,h=>by
  obtain ⟨a,b,c,d⟩:=Kh hi hg h
  rw [lA]
  split
  ·exact ⟨a,b,c,d⟩
  ·obtain ⟨a',b',c',d'⟩:=Ai hi hg k (EX i g p) a
   exact ⟨a',aD b' b,c'.trans c,d'⟩
theorem BS {es:List IE} (hi:G.length=i) (hg:i<=g) (h:oY i g n G es os O):
  oY i (pN i g es os) n G (kW i g es os) (oB i g es os) O/\(kW i g es os).length<=es.length/\(oB i g es os).length=os.length/\i<=pN i g es os/\pN i g es os<=g:=by
 obtain ⟨a,b,c,d⟩:=Ai hi hg 15 (es,os) h
 obtain ⟨R',h1,h2⟩:=a.run
 obtain ⟨P',p1,p2,p3,p4,p5,p6,p7⟩:=Hw hi hg a.may a.out d h1
 exact ⟨⟨p3,p4,P',p1,p2.trans h2⟩,by unfold kW; rw [p7]; exact b,by unfold oB qh mb; rw [aw,aw]; exact c,p5,p6⟩
def rf (n:Nat) (f:Nat->Int):Rw:=(List.range n).map f
theorem td (n:Nat) (f:Nat->Int):(rf n f).length=n:=by unfold rf; simp
theorem BU (h:∀t,t<n->f t=f' t):rf n f=rf n f':=cZ fun t ht=>h t (eR.1 ht)
abbrev Fr:=Int->Nat->Int
def nt (F:Fr) (k:Int) (f:Nat->Int):Fr:=fun r=>if r=k then f else F r
theorem eU (F:Fr) (k:Int) (f:Nat->Int):nt F k f k=f:=au rfl
variable {F F1 F2 F':Fr}
theorem fj {k:Int} (h:r≠k):nt F k f r=F r:=ak h
def RF (g n:Nat) (R:List Rw) (F:Fr):Prop:=R.length=g/\∀r:Int,0<=r->r<g->kh R r=rf n (F r)
def Rn (g n:Nat) (F:Fr) (es:List IE) (F':Fr):Prop:=∀R,RF g n R F->∃R',exe R es=some R'/\RF g n R' F'
theorem Rn.nil:Rn g n F [] F:=fun R h=>⟨R,rfl,h⟩
theorem Rn.app {es:List IE} (h1:Rn g n F es F1) (h2:Rn g n F1 fs F2):Rn g n F (es++fs) F2:=fun R h=>by
 obtain ⟨R1,a,b⟩:=h1 R h
 obtain ⟨R2,c,d⟩:=h2 R1 b
 exact ⟨R2,EO a c,d⟩
theorem Rn.cons (h1:Rn g n F [e] F1) (h2:Rn g n F1 fs F2):Rn g n F (e::fs) F2:=Rn.app h1 h2
theorem RF.congr (h:RF g n R F) (e:∀r:Int,0<=r->r<g->∀t,t<n->F r t=F' r t):RF g n R F':=⟨h.1,fun r a b=>(h.2 r a b).trans (BU (e r a b))⟩
theorem Rn.post {es:List IE} (h:Rn g n F es F1) (e:∀r:Int,0<=r->r<g->∀t,t<n->F1 r t=F2 r t):Rn g n F es F2:=fun R hR=>by
 obtain ⟨R1,a,b⟩:=h R hR
 exact ⟨R1,a,b.congr e⟩
theorem Rn.pre {F0:Fr} {es:List IE} (h:Rn g n F es F1) (e:∀r:Int,0<=r->r<g->∀t,t<n->F0 r t=F r t):Rn g n F0 es F1:=fun R hR=>h R (hR.congr e)
theorem RF.set {k:Int} (h:RF g n R F) (h0:0<=k) (h1:k<g):RF g n (R.set k.toNat (rf n f)) (nt F k f):=⟨by rw [aP]; exact h.1,fun r a b=>by
 by_cases q:r=k
 ·rw [q,mS h.1 h0 h1,eU]
 ·rw [oW h0 a (fw q),fj q]; exact h.2 r a b⟩
theorem Sx (h0:0<=t) (h1:t<g) (h:∀x y,x=rf n (F a)->((op=3∨op=4)->y=rf n (F b))->px op c x y=some (rf n f)) (ha:0<=a/\a<g) (hb:(op=3∨op=4)->0<=b/\b<g):Rn g n F [(op,t,a,b,c)] (nt F t f):=fun R hR=>by
 refine ⟨R.set t.toNat (rf n f),xK ?_,hR.set h0 h1⟩
 unfold qf
 dsimp only
 rw [h _ _ (hR.2 a ha.1 ha.2) fun q=>hR.2 b (hb q).1 (hb q).2]
 rfl
theorem acW (n:Nat) (f:Nat->Int) (k:Int->Int):(rf n f).map k=rf n fun t=>k (f t):=by unfold rf; rw [eT]; rfl
section
variable {g n:Nat} {F:Fr} {t a b c:Int}
theorem BV (hop:¬(op=3∨op=4)) (ht:0<=t/\t<g) (ha:0<=a/\a<g) (dy:∀j,j<n->Wj op c (F a j)):Rn g n F [(op,t,a,b,c)] (nt F t fun j=>oS op c (F a j)):=
 Sx ht.1 ht.2 (fun x y hx _=>(rN hop).2 ⟨fun v hv=>by
  rw [hx] at hv
  obtain ⟨j,hj,rfl⟩:=bG.1 hv
  exact dy j (eR.1 hj),by rw [hx,acW]⟩) ha fun q=>absurd q hop
theorem Sy (ht:0<=t/\t<g) (ha:0<=a/\a<g):Rn g n F [(1,t,a,b,c)] (nt F t (F a)):=BV aB ht ha fun _ _=>ki _ _ aB aB
theorem SA (ht:0<=t/\t<g) (ha:0<=a/\a<g):Rn g n F [(2,t,a,b,c)] (nt F t fun j=>-F a j):=BV aB ht ha fun _ _=>ki _ _ aB aB
theorem aaQ (ht:0<=t/\t<g) (ha:0<=a/\a<g):Rn g n F [(5,t,a,b,c)] (nt F t fun j=>F a j*c):=BV aB ht ha fun _ _=>ki _ _ aB aB
theorem ah5 (ht:0<=t/\t<g) (ha:0<=a/\a<g) (h:∀j,j<n->F a j%c=0):Rn g n F [(6,t,a,b,c)] (nt F t fun j=>F a j / c):=BV aB ht ha fun j hj=>Sf (h j hj)
theorem ah6 (ht:0<=t/\t<g) (ha:0<=a/\a<g):Rn g n F [(7,t,a,b,c)] (nt F t fun j=>F a j*2 ^ c.toNat):=BV aB ht ha fun _ _=>ki _ _ aB aB
theorem MC (ht:0<=t/\t<g) (ha:0<=a/\a<g) (hb:0<=b/\b<g):Rn g n F [(3,t,a,b,c)] (nt F t fun j=>F a j+F b j):=
 Sx ht.1 ht.2 (fun x y hx hy=>by
  rw [hx,hy (.inl rfl)]
  unfold px
  rw [ak aB,au rfl]
  unfold rf
  rw [List.zipWith_map,List.zipWith_self]) ha fun _=>hb
theorem Hx (ht:0<=t/\t<g) (ha:0<=a/\a<g) (hb:0<=b/\b<g):Rn g n F [(4,t,a,b,c)] (nt F t fun j=>F a j - F b j):=
 Sx ht.1 ht.2 (fun x y hx hy=>by
  rw [hx,hy (.inr rfl)]
  unfold px
  rw [ak aB,ak aB,au rfl]
  unfold rf
  rw [List.zipWith_map,List.zipWith_self]) ha fun _=>hb
end
def sd (to_ a c:Int):IE:=if c=1 then (1,to_,a,0,0) else if c=-1 then (2,to_,a,0,0) else match p2 c with
 | some m=>(7,to_,a,0,(m:Nat))
 | none=>(5,to_,a,0,c)
def yk (e:IE):List IE:=if qS e then [] else [e]
def ze (to_:Int):Int->Int->Nat->List IE
 | _,_,0=>[]
 | a,c,n+1=>yk (sd to_ a c)++ze to_ to_ c n
theorem SB:nt F t (F t)=F:=by
 funext r
 unfold nt
 split
 ·rename_i e; rw [e]
 ·rfl
theorem SC (ht:0<=t/\t<g) (ha:0<=a/\a<g):Rn g n F [sd t a c] (nt F t fun j=>F a j*c):=by
 unfold sd
 split
 ·rename_i q; subst q
  exact (Sy ht ha).post fun r _ _ j _=>by congr 1; funext j; rw [fA]
 split
 ·rename_i q; subst q
  exact (SA ht ha).post fun r _ _ j _=>by congr 1; funext j; rw [jF,fA]
 split
 ·rename_i m hm
  refine (ah6 ht ha).post fun r _ _ j _=>?_
  rw [(sY hm).1]; rfl
 ·exact aaQ ht ha
theorem SD (h:Rn g n F [e] F') (hn:qS e=true->0<=e.2.1/\e.2.1<g):Rn g n F (yk e) F':=by
 unfold yk
 split
 ·rename_i q
  have hq:=aN q
  obtain ⟨op,t,a,b,c⟩:=e
  dsimp only at hq hn
  obtain ⟨rfl,rfl⟩:=hq
  have ht:=hn q
  intro R hR
  obtain ⟨R',h1,h2⟩:=h R hR
  obtain ⟨R2,h3,h4⟩:=Sy ht ht R hR
  rw [h1] at h3
  cases h3
  refine ⟨R,I,hR.1,fun r a1 a2=>?_⟩
  rw [SB] at h4
  rw [hR.2 r a1 a2,<- h4.2 r a1 a2]
  exact h2.2 r a1 a2
 ·exact h
theorem SE (t a c:Int):(sd t a c).2.1=t:=by unfold sd; split; rfl; split; rfl; split<;>rfl
theorem EY {g n:Nat} {t:Int} (ht:0<=t/\t<g):∀(m:Nat) {F:Fr} {a c:Int},0<=a/\a<g->(m=0->a=t)->Rn g n F (ze t a c m) (nt F t fun j=>F a j*c ^ m)
 | 0,F,a,c,ha,hm=>Rn.nil.post fun r _ _ j _=>by rw [hm rfl]; unfold nt; split<;>simp_all
 | m+1,F,a,c,ha,_=>by
  unfold ze
  refine Rn.app (SD (SC ht ha) fun _=>by rw [SE]; exact ht) ((EY ht m (a:=t) ht fun _=>rfl).post fun r _ _ j _=>?_)
  unfold nt
  split
  ·rw [au rfl,gh,bZ (c ^ m)]; exact bO ..
  ·rfl
theorem MD {g:Int} (ht:0<=t/\t<g) (ha:0<=a/\a<g) (hc:c≠0/\-512<=c/\c<=512):gl (sd t a c) g:=by
 unfold sd
 split
 ·unfold gl; dsimp only; omega
 split
 ·unfold gl; dsimp only; omega
 split
 ·rename_i m hm
  have:=sY hm
  unfold gl; dsimp only; omega
 ·unfold gl; dsimp only; omega
theorem ME {g:Int} (h:gl e g):∀f∈yk e,gl f g:=fun f hf=>by
 unfold yk at hf
 split at hf
 ·cases hf
 ·exact aL.1 hf ▸ h
theorem Al (e:IE):(yk e).length<=1:=by unfold yk; split<;>simp
theorem Am {t c:Int} {g:Int} (ht:0<=t/\t<g) (hc:c≠0/\-512<=c/\c<=512):∀(m:Nat) {a:Int},0<=a/\a<g->∀f∈ze t a c m,gl f g
 | 0,_,_,f,hf=>by cases hf
 | m+1,a,ha,f,hf=>by
  unfold ze at hf
  rcases aK.1 hf with q | q
  ·exact ME (MD ht ha hc) f q
  ·exact Am ht hc m ht f q
theorem tf (t c:Int):∀(m:Nat) (a:Int),(ze t a c m).length<=m
 | 0,_=>ar _
 | m+1,a=>by
  unfold ze
  rw [ai]
  have:=Al (sd t a c)
  have:=tf t c m t
  omega
def MF (k:Nat) (to_ term A B from_:Int) (j:Nat):List IE:=
 yk (sd to_ from_ A)++(if B=1∨(B=-1/\(k - 1 - j)%2=0) then [(3,to_,to_,(j:Int),0)] else if B=-1 then [(4,to_,to_,(j:Int),0)] else ze term (j:Nat) B (k - 1 - j)++[(3,to_,to_,term,0)])
def EG (k:Nat) (to_ term A B:Int):Int->Nat->List IE
 | _,0=>[]
 | from_,m+1=>MF k to_ term A B from_ m++EG k to_ term A B to_ m
def Dm (k:Nat) (term to_:Int) (q:Int×Int):List IE:=
 if k=1 then [] else if q.1=0/\q.2=0 then [(4,to_,0,0,0)] else if q.1=0 then ze to_ 0 q.2 (k - 1) else if q.2=0 then ze to_ ((k - 1:Nat):Int) q.1 (k - 1) else EG k to_ term q.1 q.2 ((k - 1:Nat):Int) (k - 1)
def k7 (k:Nat) (term:Int):Nat->List (Int×Int)->List IE
 | _,[]=>[]
 | i,q::l=>Dm k term ((k+i:Nat):Int) q++k7 k term (i+1) l
def lQ (k m:Nat):List Int:=if k=1 then List.replicate m 0 else (List.range m).map fun i=>((k+i:Nat):Int)
def p8 (k:Nat) (q:Int×Int) (t:Nat):Int:=q.1 ^ t*q.2 ^ (k - 1 - t)
def C7 (m t:Nat):Int:=if t=m then 1 else 0
def XM (k:Nat) (A B:Int) (m t:Nat):Int:=if m<=t then A ^ (t - m)*B ^ (k - 1 - t) else 0
theorem BW {t:Nat} {A:Int} (_:t<k) (hm:m+1<k):XM k A B (m+1) t*A+C7 m t*B ^ (k - 1 - m)=XM k A B m t:=by
 unfold XM C7
 rcases Nat.lt_trichotomy t m with q | q | q
 ·rw [ak ae,ak ae,ak ae]; simp
 ·subst q
  rw [ak ae,au rfl,au (ar _),eH]; simp
 ·rw [au ae,ak ae,au ae]
  have:t - m=(t - (m+1))+1:=ae
  rw [this,gh,dh,gN,Int.mul_right_comm]
theorem uE (n:Nat):(-1:Int) ^ n=if n%2=0 then 1 else -1:=by
 induction n with
 | zero=>rfl
 | succ n ih=>
  rw [gh,ih]
  rcases Nat.mod_two_eq_zero_or_one n with q | q
  ·rw [au q,ak ae]; rfl
  ·rw [ak ae,au ae]; rfl
def InF (k:Nat) (F:Fr):Prop:=∀m t:Nat,m<k->t<k->F ((m:Nat):Int) t=C7 m t
theorem acX {A from_:Int} (hk:m+1<k) (SF:k<=g) (ht:(k:Int)<=to_/\to_<g) (hq:(k:Int)<=term/\term<g/\term≠to_) (hf:0<=from_/\from_<g) (nz:InF k F) (Hy:∀t,t<k->F from_ t=XM k A B (m+1) t):
  ∃F',Rn g k F (MF k to_ term A B from_ m) F'/\(∀t,t<k->F' to_ t=XM k A B m t)/\∀r:Int,r≠to_->r≠term->F' r=F r:=by
 have h1:Rn g k F (yk (sd to_ from_ A)) (nt F to_ fun j=>F from_ j*A):=SD (SC ⟨by omega,ht.2⟩ hf) fun _=>by rw [SE]; omega
 unfold MF
 split
 ·rename_i q
  refine ⟨_,h1.app (MC ⟨by omega,ht.2⟩ ⟨by omega,ht.2⟩ ⟨by omega,by omega⟩),fun t wK=>?_,fun r a1 a2=>by rw [fj a1,fj a1]⟩
  rw [eU,eU,fj ae,Hy t wK,nz m t ae wK,<- BW wK hk]
  rcases q with rfl | ⟨rfl,q⟩
  ·rw [Int.one_pow,fA]
  ·rw [uE,au q,fA]
 split
 ·rename_i q1 q
  subst q
  refine ⟨_,h1.app (Hx ⟨by omega,ht.2⟩ ⟨by omega,ht.2⟩ ⟨by omega,by omega⟩),fun t wK=>?_,fun r a1 a2=>by rw [fj a1,fj a1]⟩
  rw [eU,eU,fj ae,Hy t wK,nz m t ae wK,<- BW wK hk,uE,ak ae]
  omega
 ·refine ⟨_,h1.app ((EY ⟨by omega,hq.2.1⟩ (k - 1 - m) ⟨by omega,by omega⟩ ae).app (MC ⟨by omega,ht.2⟩ ⟨by omega,ht.2⟩ ⟨by omega,hq.2.1⟩)),fun t wK=>?_,fun r a1 a2=>by rw [fj a1,fj a2,fj a1]⟩
  rw [eU,eU,fj (fw hq.2.2),eU,fj ae,Hy t wK,nz m t ae wK,<- BW wK hk]
theorem SG {g k:Nat} {to_ term A B:Int} (SF:k<=g) (ht:(k:Int)<=to_/\to_<g) (hq:(k:Int)<=term/\term<g/\term≠to_):∀(m:Nat) {F:Fr} {from_:Int},m+1<=k->0<=from_/\from_<g->(m=0->from_=to_)->InF k F->(∀t,t<k->F from_ t=XM k A B m t)->
  ∃F',Rn g k F (EG k to_ term A B from_ m) F'/\(∀t,t<k->F' to_ t=XM k A B 0 t)/\∀r:Int,r≠to_->r≠term->F' r=F r
 | 0,F,from_,_,_,hz,_,Hy=>⟨F,Rn.nil,by rw [hz rfl] at Hy; exact Hy,fun _ _ _=>rfl⟩
 | m+1,F,from_,hm,hf,_,nz,Hy=>by
  obtain ⟨F1,a1,a2,a3⟩:=acX ae SF ht hq hf nz Hy
  obtain ⟨F2,b1,b2,b3⟩:=SG SF ht hq m ae ⟨by omega,ht.2⟩ (fun _=>rfl) (fun m t hm ht'=>by rw [a3 _ ae ae]; exact nz m t hm ht') a2
  exact ⟨F2,a1.app b1,b2,fun r h1 h2=>(b3 r h1 h2).trans (a3 r h1 h2)⟩
theorem acY (hk:2<=k) (SF:k<=g) (ht:(k:Int)<=to_/\to_<g) (hq:(k:Int)<=term/\term<g/\term≠to_) (nz:InF k F):
  ∃F',Rn g k F (Dm k term to_ q) F'/\(∀t,t<k->F' to_ t=p8 k q t)/\∀r:Int,r≠to_->r≠term->F' r=F r:=by
 obtain ⟨A,B⟩:=q
 have hz:∀n:Nat,0<n->(0:Int) ^ n=0:=fun n hn=>Int.zero_pow ae
 unfold Dm
 rw [ak ae]
 dsimp only
 split
 ·rename_i c
  obtain ⟨rfl,rfl⟩:=c
  refine ⟨_,Hx ⟨by omega,ht.2⟩ ⟨by omega,by omega⟩ ⟨by omega,by omega⟩,fun t wK=>?_,fun r a1 _=>fj a1⟩
  rw [eU,Int.sub_self]
  unfold p8
  rcases bu t with c | c
  ·subst c; rw [hz (k - 1 - 0) ae,ef]
  ·rw [hz t c,dh]
 split
 ·rename_i c
  subst c
  refine ⟨_,EY ⟨by omega,ht.2⟩ (k - 1) ⟨by omega,by omega⟩ ae,fun t wK=>?_,fun r a1 _=>fj a1⟩
  rw [eU,show F 0 t=_ from nz 0 t ae wK]
  unfold p8 C7
  rcases bu t with c | c
  ·subst c; rw [au rfl]; simp
  ·rw [ak ae,hz t c,dh,dh]
 split
 ·rename_i c
  subst c
  refine ⟨_,EY ⟨by omega,ht.2⟩ (k - 1) ⟨by omega,by omega⟩ ae,fun t wK=>?_,fun r a1 _=>fj a1⟩
  rw [eU,nz (k - 1) t ae wK]
  unfold p8 C7
  by_cases c:t=k - 1
  ·subst c; rw [au rfl,eH]; simp
  ·rw [ak c,hz (k - 1 - t) ae,dh,ef]
 ·obtain ⟨F',a1,a2,a3⟩:=SG SF ht hq (k - 1) (F:=F) (from_:=((k - 1:Nat):Int)) ae ⟨by omega,by omega⟩ ae nz (fun t wK=>by
   rw [nz (k - 1) t ae wK]
   unfold XM C7
   by_cases c:t=k - 1
   ·subst c; rw [au rfl,au (ar _),eH]; simp
   ·rw [ak c,ak ae])
  exact ⟨F',a1,fun t wK=>by rw [a2 t wK]; unfold XM p8; rw [au (av _),Nat.sub_zero],a3⟩
theorem SH {g k:Nat} {term:Int} (hk:2<=k) (SF:k<=g):∀(l:List (Int×Int)) (i:Nat) {F:Fr},((k+i+l.length:Nat):Int)<=term->term<g->InF k F->
  ∃F',Rn g k F (k7 k term i l) F'/\InF k F'/\(∀(j:Nat) q,l[j]?=some q->∀t,t<k->F' ((k+i+j:Nat):Int) t=p8 k q t)/\∀r:Int,r<((k+i:Nat):Int)->F' r=F r
 | [],i,F,_,_,nz=>⟨F,Rn.nil,nz,fun j q h=>(by cases h),fun _ _=>rfl⟩
 | q::l,i,F,h1,h2,nz=>by
  rw [aR] at h1
  obtain ⟨F1,a1,a2,a3⟩:=acY (to_:=((k+i:Nat):Int)) (term:=term) hk SF ⟨by omega,by omega⟩ ⟨by omega,h2,by omega⟩ nz
  obtain ⟨F2,b1,b2,b3,b4⟩:=SH hk SF l (i+1) (F:=F1) ae h2 (fun m t hm ht=>by rw [a3 _ ae ae]; exact nz m t hm ht)
  refine ⟨F2,a1.app b1,b2,fun j q' h=>?_,fun r hr=>(b4 r ae).trans (a3 r ae ae)⟩
  cases j with
  | zero=>cases h; intro t ht; rw [b4 _ ae]; exact a2 t ht
  | succ j=>
   intro t ht
   have:=b3 j q' h t ht
   rwa [show k+(i+1)+j=k+i+(j+1) by omega] at this
def zf (k:Nat):List Rw:=(List.range k).map fun m=>rf k (C7 m)
theorem oC (k:Nat):(zf k).length=k:=by unfold zf; simp
theorem Hz (k:Nat):∀r∈zf k,r.length=k:=fun r hr=>by
 obtain ⟨m,_,rfl⟩:=bG.1 hr; exact td _ _
theorem SI {f:Nat->Nat->Int} (SF:k<=g):RF g n (lT g n ((List.range k).map fun m=>rf n (f m))) fun r=>if r<k then f r.toNat else fun _=>0:=by
 refine ⟨mC (by simpa using SF),fun r h0 h1=>?_⟩
 rw [BN (by simpa using SF) h0 h1,aw,ee]
 dsimp only
 split
 ·rw [aj,ay,bN ae]; rfl
 ·unfold rf
  apply dG
  intro i
  rw [ay,cK]
  by_cases c:i<n
  ·rw [au c,bN c]; rfl
  ·rw [ak c,bg (by rw [ee]; omega)]; rfl
theorem XN {l:List (Int×Int)} (hk:1<=k):∃R',exe (lT (k+l.length+1) k (zf k)) (k7 k ((k+l.length:Nat):Int) 0 l)=some R'/\(lQ k l.length).map (kh R')=l.map fun q=>rf k (p8 k q):=by
 have SJ:RF (k+l.length+1) k (lT (k+l.length+1) k (zf k)) _:=SI (f:=C7) ae
 rcases aV k 2 with c | c
 ·obtain rfl:k=1:=ae
  have he:∀(l:List (Int×Int)) (t:Int) (i:Nat),k7 1 t i l=[]:=fun l=>by
   induction l with
   | nil=>intro t i; rfl
   | cons q l ih=>intro t i; unfold k7 Dm; rw [au rfl,ih]; rfl
  rw [he]
  refine ⟨_,I,?_⟩
  unfold lQ
  rw [au rfl,en,SJ.2 0 ae ae]
  apply dG
  intro i
  rw [cK,ay]
  by_cases c:i<l.length
  ·rw [au c,ag c]
   simp [rf,C7,p8]
  ·rw [ak c,bg ae]; rfl
 ·obtain ⟨F',a1,a2,a3,a4⟩:=SH (g:=k+l.length+1) (term:=((k+l.length:Nat):Int)) c ae l 0 (F:=fun r=>if r<k then C7 r.toNat else fun _=>0) ae ae (fun m t hm ht=>by dsimp only; rw [au ae]; rfl)
  obtain ⟨R',h1,h2⟩:=a1 _ SJ
  refine ⟨R',h1,?_⟩
  unfold lQ
  rw [ak ae,eT]
  apply dG
  intro j
  rw [ay,ay]
  by_cases c:j<l.length
  ·rw [bN c,ag c]
   show some (kh R' ((k+j:Nat):Int))=some _
   rw [h2.2 _ ae ae]
   exact aq some (BU fun t ht=>by have:=a3 j _ (ag c) t ht; rwa [dr] at this)
  ·rw [bg (by simpa using c),bg ae]; rfl
theorem XO (hk:1<=k) (ht:(k:Int)<=to_/\to_<g) (hq:(k:Int)<=term/\term<g) (h1:-16<=q.1/\q.1<=16) (h2:-16<=q.2/\q.2<=16):∀e∈Dm k term to_ q,gl e g:=by
 have hA:∀(m:Nat) (from_:Int),m<k->0<=from_/\from_<g->q.1≠0->q.2≠0->∀e∈EG k to_ term q.1 q.2 from_ m,gl e g:=fun m=>by
  induction m with
  | zero=>intro f _ _ _ _ e he; cases he
  | succ m ih=>
   intro f hm hf q1 q2 e he
   unfold EG at he
   rcases aK.1 he with c | c
   ·unfold MF at c
    rcases aK.1 c with c | c
    ·exact ME (MD ⟨by omega,ht.2⟩ hf ⟨q1,by omega,by omega⟩) e c
    split at c
    ·obtain rfl:=aL.1 c; unfold gl; dsimp only; omega
    split at c
    ·obtain rfl:=aL.1 c; unfold gl; dsimp only; omega
    rcases aK.1 c with c | c
    ·exact Am ⟨by omega,hq.2⟩ ⟨q2,by omega,by omega⟩ _ ⟨by omega,by omega⟩ e c
    ·obtain rfl:=aL.1 c; unfold gl; dsimp only; omega
   ·exact ih to_ ae ⟨by omega,ht.2⟩ q1 q2 e c
 intro e he
 unfold Dm at he
 split at he
 ·cases he
 split at he
 ·obtain rfl:=aL.1 he; unfold gl; dsimp only; omega
 split at he
 ·exact Am ⟨by omega,ht.2⟩ ⟨by omega,by omega,by omega⟩ _ ⟨by omega,by omega⟩ e he
 split at he
 ·exact Am ⟨by omega,ht.2⟩ ⟨by omega,by omega,by omega⟩ _ ⟨by omega,by omega⟩ e he
 ·exact hA _ _ ae ⟨by omega,by omega⟩ ae ae e he
theorem XP (term to_:Int) (q:Int×Int) (hk:k<=8):(Dm k term to_ q).length<=64:=by
 have hA:∀(m:Nat) (from_:Int),(EG k to_ term q.1 q.2 from_ m).length<=9*m:=fun m=>by
  induction m with
  | zero=>intro f; exact ar _
  | succ m ih=>
   intro f
   unfold EG MF
   rw [ai,ai]
   have a1:=Al (sd to_ f q.1)
   have a2:=ih to_
   have a3:=tf term q.2 (k - 1 - m) (m:Nat)
   split
   ·rw [bh]; omega
   split
   ·rw [bh]; omega
   ·rw [ai,bh]; omega
 unfold Dm
 split
 ·exact av _
 split
 ·exact (by decide:(1:Nat)<=64)
 split
 ·have:=tf to_ q.2 (k - 1) 0; omega
 split
 ·have:=tf to_ q.1 (k - 1) ((k - 1:Nat):Int); omega
 ·have:=hA (k - 1) ((k - 1:Nat):Int); omega
theorem MG {k g:Nat} {term:Int} (hk:1<=k):∀(l:List (Int×Int)) (i:Nat),((k+i+l.length:Nat):Int)<=term->term<g->(∀q∈l,(-16<=q.1/\q.1<=16)/\-16<=q.2/\q.2<=16)->∀e∈k7 k term i l,gl e g
 | [],_,_,_,_,e,he=>by cases he
 | q::l,i,h1,h2,hl,e,he=>by
  rw [aR] at h1
  unfold k7 at he
  rcases aK.1 he with c | c
  ·exact XO hk ⟨by omega,by omega⟩ ⟨by omega,h2⟩ (hl q (aJ ..)).1 (hl q (aJ ..)).2 e c
  ·exact MG hk l (i+1) ae h2 (fun q hq=>hl q (aQ _ hq)) e c
theorem MH {k:Nat} (term:Int) (hk:k<=8):∀(l:List (Int×Int)) (i:Nat),(k7 k term i l).length<=64*l.length
 | [],_=>ar _
 | q::l,i=>by
  unfold k7
  rw [ai,aR]
  have:=XP term ((k+i:Nat):Int) q hk
  have:=MH term hk l (i+1)
  omega
theorem ah9 {l:List (Int×Int)} (hk:1<=k) (hl:∀q∈l,(-16<=q.1/\q.1<=16)/\-16<=q.2/\q.2<=16):oY k (k+l.length+1) k (zf k) (k7 k ((k+l.length:Nat):Int) 0 l) (lQ k l.length) (l.map fun q=>rf k (p8 k q)):=by
 refine ⟨MG hk l 0 ae ae hl,fun r hr=>?_,XN hk⟩
 unfold lQ at hr
 split at hr
 ·have:=(List.mem_replicate.1 hr).2; omega
 ·obtain ⟨m,hm,rfl⟩:=bG.1 hr
  have:=eR.1 hm
  omega
def ev:Nat->(Nat->Int)->Int->Int->Int
 | 0,c,_,_=>c 0
 | e+1,c,X,Y=>Y*ev e c X Y+c (e+1)*X ^ (e+1)
def tG (c:Nat->Int):Nat->Int
 | 0=>0
 | j+1=>c j
def lm (A B:Int) (c:Nat->Int) (j:Nat):Int:=A*c j - B*tG c j
def pc (u v:Int):Nat->Nat->Int
 | 0,j=>if j=0 then 1 else 0
 | e+1,j=>u*tG (pc u v e) j+v*pc u v e j
def sup (e:Nat) (c:Nat->Int):Prop:=∀j,e<j->c j=0
theorem BX {c d:Nat->Int} {X Y:Int}:∀e,(∀j,j<=e->c j=d j)->ev e c X Y=ev e d X Y
 | 0,h=>h 0 (ar _)
 | e+1,h=>by rw [ev,ev,BX e fun j hj=>h j ae,h (e+1) (ar _)]
theorem BZ {X Y:Int} (c d:Nat->Int):∀e,ev e (fun j=>c j+d j) X Y=ev e c X Y+ev e d X Y
 | 0=>rfl
 | e+1=>by rw [ev,ev,ev,BZ c d e,ke,jG]; omega
theorem yG {X Y:Int} (k:Int) (c:Nat->Int):∀e,ev e (fun j=>k*c j) X Y=k*ev e c X Y
 | 0=>rfl
 | e+1=>by rw [ev,ev,yG k c e,ke,eP,bO]
theorem EZ {X Y:Int} (c:Nat->Int):∀e,ev (e+1) (tG c) X Y=X*ev e c X Y
 | 0=>by rw [ev,ev,ev]; show Y*0+c 0*X ^ (0+1)=X*c 0; rw [ef,Int.zero_add,bD,gh,Int.pow_zero,eZ,bZ]
 | e+1=>by
  rw [ev,EZ c e,ev]
  show Y*(X*ev e c X Y)+c (e+1)*X ^ (e+1+1)=X*(Y*ev e c X Y+c (e+1)*X ^ (e+1))
  rw [ke,gh X (e+1),eP,<- bO (c (e+1)),bZ X (c (e+1)*X ^ (e+1))]
theorem SK {X Y:Int} {c:Nat->Int} {e:Nat} (h:sup e c):ev (e+1) c X Y=Y*ev e c X Y:=by
 rw [ev,h (e+1) ae,dh,gN]
theorem ah' {A X Y:Int} {c:Nat->Int} {e:Nat} (h:sup e c):ev (e+1) (lm A B c) X Y=(A*Y - B*X)*ev e c X Y:=by
 have:lm A B c=fun j=>A*c j+-B*tG c j:=by funext j; unfold lm; rw [iP]; omega
 rw [this,BZ (fun j=>A*c j) (fun j=>-B*tG c j),yG,yG,EZ,SK h,Int.sub_mul,iP,bO,bO]
 omega
theorem B7 (u v:Int):∀e,sup e (pc u v e)
 | 0,j,h=>ak ae
 | e+1,j,h=>by
  rw [pc]
  cases j with
  | zero=>omega
  | succ j=>rw [tG,B7 u v e j ae,B7 u v e (j+1) ae,ef,ef]; rfl
theorem aaR {u v X Y:Int}:∀e,ev e (pc u v e) X Y=(u*X+v*Y) ^ e
 | 0=>by rw [Int.pow_zero]; rfl
 | e+1=>by
  have:pc u v (e+1)=fun j=>u*tG (pc u v e) j+v*pc u v e j:=rfl
  rw [this,BZ (fun j=>u*tG (pc u v e) j) (fun j=>v*pc u v e j),yG,yG,EZ,SK (B7 u v e),aaR e,gh,bZ ((u*X+v*Y) ^ e),jG,bO,bO]
theorem acZ (A B:Int) (c:Nat->Int) (j:Nat):tG (lm A B c) j=lm A B (tG c) j:=by
 cases j with
 | zero=>simp [tG,lm]
 | succ j=>rfl
theorem Ca {A B u v:Int} (h1:u*A+v*B=1):∀(e:Nat) (c:Nat->Int),sup e c->∃g:Nat->Int,(e=0->∀j,g j=0)/\sup (e - 1) g/\∀j,c j=ev e c A B*pc u v e j+lm A B g j
 | 0,c,hc=>⟨fun _=>0,fun _ _=>rfl,fun _ _=>rfl,fun j=>by
  have hl:lm A B (fun _=>0) j=0:=by unfold lm; cases j<;>simp [tG]
  rw [hl,ev,pc]
  by_cases q:j=0
  ·subst q; simp
  ·rw [hc j ae,ak q]; simp⟩
 | e+1,c,hc=>by
  obtain ⟨ga,a0,a1,a2⟩:=Ca h1 e (fun j=>if j<=e then c j else 0) fun j hj=>ak ae
  obtain ⟨gb,b0,b1,b2⟩:=Ca h1 e (fun j=>if j=e then c (e+1) else 0) fun j hj=>ak ae
  have mx:∀j,c j=(if j<=e then c j else 0)+tG (fun j=>if j=e then c (e+1) else 0) j:=fun j=>by
   cases j with
   | zero=>simp [tG]
   | succ j=>
    show c (j+1)=(if j+1<=e then c (j+1) else 0)+if j=e then c (e+1) else 0
    rcases Nat.lt_trichotomy j e with q | q | q
    ·rw [au ae,ak ae]; simp
    ·subst q; rw [ak ae,au rfl]; simp
    ·rw [hc (j+1) ae,ak ae,ak ae]; rfl
  have XQ:ev (e+1) c A B=B*ev e (fun j=>if j<=e then c j else 0) A B+A*ev e (fun j=>if j=e then c (e+1) else 0) A B:=by
   rw [<- EZ,<- SK (fun j hj=>ak ae),<- BZ]
   exact BX _ fun j _=>mx j
  generalize ev e (fun j=>if j<=e then c j else 0) A B=al at a2 XQ
  generalize ev e (fun j=>if j=e then c (e+1) else 0) A B=be at b2 XQ
  refine ⟨fun j=>(al*u - be*v)*pc u v e j+(ga j+tG gb j),fun h=>ae,fun j hj=>?_,fun j=>?_⟩
  ·dsimp only
   rw [B7 u v e j ae]
   have h3:ga j=0:=by
    cases e with
    | zero=>exact a0 rfl j
    | succ e=>exact a1 j ae
   have h4:tG gb j=0:=by
    cases j with
    | zero=>rfl
    | succ j=>
     show gb j=0
     cases e with
     | zero=>exact b0 rfl j
     | succ e=>exact b1 j ae
   rw [h3,h4]; simp
  ·have e1:tG (fun j=>if j=e then c (e+1) else 0) j=be*tG (pc u v e) j+lm A B (tG gb) j:=by
    cases j with
    | zero=>show (0:Int)=be*0+lm A B (tG gb) 0; unfold lm; simp [tG]
    | succ j=>rw [<- acZ]; exact b2 j
   have hl:lm A B (fun j=>(al*u - be*v)*pc u v e j+(ga j+tG gb j)) j=(al*u - be*v)*lm A B (pc u v e) j+lm A B ga j+lm A B (tG gb) j:=by
    have hs:tG (fun j=>(al*u - be*v)*pc u v e j+(ga j+tG gb j)) j=(al*u - be*v)*tG (pc u v e) j+(tG ga j+tG (tG gb) j):=by cases j<;>simp [tG]
    unfold lm
    rw [hs]
    simp only [ke,Int.mul_sub]
    rw [eP A,eP B]
    omega
   have key:al*pc u v e j+be*tG (pc u v e) j=(B*al+A*be)*pc u v (e+1) j+(al*u - be*v)*lm A B (pc u v e) j:=by
    show _=(B*al+A*be)*(u*tG (pc u v e) j+v*pc u v e j)+(al*u - be*v)*(A*pc u v e j - B*tG (pc u v e) j)
    generalize pc u v e j=p
    generalize tG (pc u v e) j=s
    have t1:(B*al+A*be)*(u*s+v*p)+(al*u - be*v)*(A*p - B*s)=(u*A+v*B)*(al*p+be*s):=by
     simp only [ke,jG,Int.mul_sub,Int.sub_mul]
     simp only [bZ,eP]
     omega
    rw [t1,h1,eZ]
   rw [XQ,mx j,a2 j,e1,hl]
   omega
def lq (t a c:Int):List IE:=if c=0 then [(4,t,a,a,0)] else if c=1 then (if t=a then [] else [(1,t,a,0,0)]) else if c=-1 then [(2,t,a,0,0)] else [(5,t,a,0,c)]
def xm (t c:Int):List IE:=if c=1 then [] else if c=-1 then [(2,t,t,0,0)] else [(6,t,t,0,c)]
def Cb (t c:Int):Int->Int->Nat->List IE
 | a,k,0=>lq t a k
 | a,k,n+1=>if k*c>512∨k*c< -512 then lq t a k++Cb t c t c n else Cb t c a (k*c) n
def xn (t a c:Int) (e:Nat):List IE:=if (c=0/\0<e)∨c=1∨c=-1 then lq t a (if c=-1/\e%2=0 then 1 else c) else Cb t c a 1 e
section
variable {g n:Nat} {F:Fr} {t a c:Int}
theorem oZ (ht:0<=t/\t<g) (ha:0<=a/\a<g):Rn g n F (lq t a c) (nt F t fun j=>F a j*c):=by
 unfold lq
 split
 ·rename_i q; subst q
  exact (Hx ht ha ha).post fun r _ _ j _=>by congr 1; funext j; rw [Int.sub_self,ef]
 split
 ·rename_i q; subst q
  split
  ·rename_i q; subst q
   exact Rn.nil.post fun r _ _ j _=>by simp only [fA]; exact (congrFun (congrFun SB r) j).symm
  ·exact (Sy ht ha).post fun r _ _ j _=>by congr 1; funext j; rw [fA]
 split
 ·rename_i q; subst q
  exact (SA ht ha).post fun r _ _ j _=>by congr 1; funext j; rw [jF,fA]
 ·exact aaQ ht ha
theorem Ki (hc:c≠0) (ht:0<=t/\t<g) (hf:∀j,j<n->F t j=f j*c):Rn g n F (xm t c) (nt F t f):=by
 unfold xm
 split
 ·rename_i q; subst q
  exact Rn.nil.post fun r _ _ j hj=>by
   unfold nt
   split
   ·rename_i e; rw [e,hf j hj,fA]
   ·rfl
 split
 ·rename_i q; subst q
  exact (SA ht ht).post fun r _ _ j hj=>by
   unfold nt
   split
   ·show -F t j=f j; rw [hf j hj]; omega
   ·rfl
 ·exact (ah5 ht ht fun j hj=>by rw [hf j hj]; exact Int.mul_emod_left _ _).post fun r _ _ j hj=>by
   unfold nt
   split
   ·show F t j / c=f j; rw [hf j hj,b8 _ hc]
   ·rfl
end
theorem Kj {g n:Nat} {t c:Int} (ht:0<=t/\t<g):∀(m:Nat) {F:Fr} {a k:Int},0<=a/\a<g->Rn g n F (Cb t c a k m) (nt F t fun j=>F a j*(k*c ^ m))
 | 0,F,a,k,ha=>(oZ ht ha).post fun r _ _ j _=>by simp
 | m+1,F,a,k,ha=>by
  unfold Cb
  split
  ·exact (oZ ht ha).app ((Kj ht m (a:=t) ht).post fun r _ _ j _=>by
    unfold nt
    split
    ·rw [au rfl,gh,bZ (c ^ m) c]; exact bO ..
    ·rfl)
  ·exact (Kj ht m ha).post fun r _ _ j _=>by
    unfold nt
    split
    ·rw [gh,bZ (c ^ m) c,bO]
    ·rfl
theorem ac0 {e:Nat} (ht:0<=t/\t<g) (ha:0<=a/\a<g):Rn g n F (xn t a c e) (nt F t fun j=>F a j*c ^ e):=by
 unfold xn
 split
 ·rename_i q
  have hc:(if c=-1/\e%2=0 then 1 else c)=c ^ e:=by
   rcases q with ⟨rfl,he⟩ | rfl | rfl
   ·rw [ak ae,Int.zero_pow ae]
   ·rw [ak ae,Int.one_pow]
   ·rw [uE]
    by_cases w:e%2=0
    ·rw [au ⟨rfl,w⟩,au w]
    ·rw [ak (fun h=>w h.2),ak w]
  rw [hc]
  exact oZ ht ha
 ·exact (Kj ht e ha).post fun r _ _ j _=>by simp
theorem nK {g:Int} (ht:0<=t/\t<g) (ha:0<=a/\a<g) (hc:-512<=c/\c<=512):∀e∈lq t a c,gl e g:=fun e he=>by
 unfold lq at he
 split at he
 ·obtain rfl:=aL.1 he; unfold gl; dsimp only; omega
 split at he
 ·split at he
  ·cases he
  ·obtain rfl:=aL.1 he; unfold gl; dsimp only; omega
 split at he
 ·obtain rfl:=aL.1 he; unfold gl; dsimp only; omega
 ·obtain rfl:=aL.1 he; unfold gl; dsimp only; omega
theorem oD (t a c:Int):(lq t a c).length<=1:=by unfold lq; (repeat' split)<;>simp
theorem MI {g:Int} (ht:0<=t/\t<g) (hc:c≠0/\-512<=c/\c<=512):∀e∈xm t c,gl e g:=fun e he=>by
 unfold xm at he
 split at he
 ·cases he
 split at he
 ·obtain rfl:=aL.1 he; unfold gl; dsimp only; omega
 ·obtain rfl:=aL.1 he; unfold gl; dsimp only; omega
theorem MJ (t c:Int):(xm t c).length<=1:=by unfold xm; (repeat' split)<;>simp
theorem E0 {g t c:Int} (ht:0<=t/\t<g) (hc:-512<=c/\c<=512):∀(m:Nat) {a k:Int},0<=a/\a<g->-512<=k/\k<=512->∀e∈Cb t c a k m,gl e g
 | 0,a,k,ha,hk,e,he=>nK ht ha hk e he
 | m+1,a,k,ha,hk,e,he=>by
  unfold Cb at he
  split at he
  ·rcases aK.1 he with q | q
   ·exact nK ht ha hk e q
   ·exact E0 ht hc m ht hc e q
  ·exact E0 ht hc m ha ae e he
theorem E1 (t c:Int):∀(m:Nat) (a k:Int),(Cb t c a k m).length<=m+1
 | 0,a,k=>oD t a k
 | m+1,a,k=>by
  unfold Cb
  split
  ·rw [ai]; have:=oD t a k; have:=E1 t c m t c; omega
  ·have:=E1 t c m a (k*c); omega
theorem XR {g:Int} {e:Nat} (ht:0<=t/\t<g) (ha:0<=a/\a<g) (hc:-512<=c/\c<=512):∀f∈xn t a c e,gl f g:=fun f hf=>by
 unfold xn at hf
 split at hf
 ·exact nK ht ha (by split<;>omega) f hf
 ·exact E0 ht hc e ha ae f hf
theorem XS (t a c:Int) (e:Nat):(xn t a c e).length<=e+1:=by
 unfold xn
 split
 ·have:=oD t a (if c=-1/\e%2=0 then 1 else c); omega
 ·exact E1 t c e a 1
abbrev Pt:=Int×Int
def kT (a b:Int):Int:=(Int.gcd a b:Nat)
def yH:List Int:=(List.range 17).flatMap fun u=>[((u:Nat):Int),-((u:Nat):Int)]
def bz (p:Pt):Int×Int×Int:=
 let g:=kT p.1 p.2
 if g=0 then (0,0,0) else if p.2=0 then (g,p.1.tdiv g,0)
 else match yH.find? (fun s=>decide ((g - s*p.1).tmod p.2=0)) with
  | some s=>(g,s,(g - s*p.1).tdiv p.2)
  | none=>(g,0,0)
def aia (p:Pt):Bool:=decide (1<=(bz p).1/\(bz p).1<=16/\p.1.tmod (bz p).1=0/\p.2.tmod (bz p).1=0/\(bz p).2.1*p.1+(bz p).2.2*p.2=(bz p).1/\-16<=(bz p).2.1/\(bz p).2.1<=16/\-16<=(bz p).2.2/\(bz p).2.2<=16/\kT (p.1.tdiv (bz p).1) (p.2.tdiv (bz p).1)=1)
theorem ac1:∀a:Fin 33,∀b:Fin 33,(a.1=16/\b.1=16)∨aia ((a.1:Int) - 16,(b.1:Int) - 16)=true:=by decide+kernel
def pU (p:Pt):Prop:=(-16<=p.1/\p.1<=16)/\-16<=p.2/\p.2<=16
variable {p:Pt}
theorem aaS (h:pU p) (h0:¬(p.1=0/\p.2=0)):aia p=true:=by
 unfold pU at h
 have:=ac1 ⟨(p.1+16).toNat,by omega⟩ ⟨(p.2+16).toNat,by omega⟩
 dsimp only at this
 rcases this with q | q
 ·omega
 ·rw [show (((p.1+16).toNat:Nat):Int) - 16=p.1 by omega,show (((p.2+16).toNat:Nat):Int) - 16=p.2 by omega] at q
  exact q
def whole (p:Pt):Pt:=(p.1.tdiv (bz p).1,p.2.tdiv (bz p).1)
structure MK (p:Pt):Prop where
 tQ:pU p
 u:-16<=(bz p).2.1/\(bz p).2.1<=16
 v:-16<=(bz p).2.2/\(bz p).2.2<=16
 one:(bz p).2.1*p.1+(bz p).2.2*p.2=1
theorem pO (h:pU p) (h0:¬(p.1=0/\p.2=0)):1<=(bz p).1/\(bz p).1<=16/\p.1=(whole p).1*(bz p).1/\p.2=(whole p).2*(bz p).1/\MK (whole p):=by
 have hq:=aN (aaS h h0)
 obtain ⟨g1,g2,d1,d2,e,u1,u2,v1,v2,gg⟩:=hq
 have p1:p.1=(whole p).1*(bz p).1:=(jQ (iD d1)).symm
 have p2:p.2=(whole p).2*(bz p).1:=(jQ (iD d2)).symm
 have bd:∀x y:Int,x=y*(bz p).1->-16<=x/\x<=16->-16<=y/\y<=16:=fun x y hx hb=>by
  have:y.natAbs<=x.natAbs:=by rw [hx,dL]; exact iB _ ae
  omega
 have nz:pU (whole p):=⟨bd _ _ p1 h.1,bd _ _ p2 h.2⟩
 have u5:¬((whole p).1=0/\(whole p).2=0):=fun w=>h0 ⟨by rw [p1,w.1,dh],by rw [p2,w.2,dh]⟩
 have hw:=aN (aaS nz u5)
 obtain ⟨w1,w2,_,_,we,wu1,wu2,wv1,wv2,_⟩:=hw
 have hg1:(bz (whole p)).1=1:=by
  have hg:(bz (whole p)).1=kT (whole p).1 (whole p).2∨(bz (whole p)).1=0:=by
   unfold bz
   dsimp only
   split
   ·exact .inr I
   split
   ·exact .inl I
   split
   ·exact .inl I
   ·exact .inl I
  rcases hg with q | q
  ·exact q.trans gg
  ·omega
 exact ⟨g1,g2,p1,p2,nz,⟨wu1,wu2⟩,⟨wv1,wv2⟩,by rw [we,hg1]⟩
def pl (n j:Nat):Int:=((n+j:Nat):Int)
def fm (n j:Nat):Int:=((2*n+j:Nat):Int)
def pz (n:Nat):Int:=((3*n:Nat):Int)
def Qi (n:Nat) (p q:Pt) (k i:Int) (e:Nat):List IE:=
 (if (bz p).2.1*q.1+(bz p).2.2*q.2≠0∨e=0 then xn (pz n) k ((bz p).2.1*q.1+(bz p).2.2*q.2) e++[(4,i,i,pz n,0)] else [])++xm i (p.1*q.2 - q.1*p.2)
def DY (n:Nat) (p:Pt) (k:Int) (e:Nat):Nat->List Pt->List IE
 | _,[]=>[]
 | i,q::l=>Qi n p q k (i:Nat) e++DY n p k e (i+1) l
def Kk (n:Nat) (A B:Int) (e j:Nat):List IE:=
 if j=e then lq (pl n e) (pl n (e - 1)) (-B)
 else (if 0<j then lq (pz n) (pl n (j - 1)) B else [])++lq (pl n j) (pl n j) A++(if 0<j then [(4,pl n j,pl n j,pz n,0)] else [])
def SL (n:Nat) (A B:Int) (e:Nat):Nat->List IE
 | 0=>Kk n A B e 0
 | j+1=>Kk n A B e (j+1)++SL n A B e j
def gb (th:List Bool) (j:Nat):Bool:=th.getD j false
def mF (u:Int) (j:Nat) (th:List Bool):Bool:=decide (0<j) && gb th (j - 1) && decide (u≠0)
def nV (v:Int) (j:Nat) (th:List Bool):Bool:=gb th j && decide (v≠0)
def HJ (n:Nat) (u v:Int) (j:Nat) (th:List Bool):List IE:=
 (if mF u j th then lq (pz n) (fm n (j - 1)) u else [])++
 (if nV v j th && mF u j th then lq (fm n j) (fm n j) v++[(3,fm n j,fm n j,pz n,0)] else if nV v j th then lq (fm n j) (fm n j) v else if mF u j th then lq (fm n j) (pz n) 1 else [])
def vu (u v:Int) (j:Nat) (th:List Bool):List Bool:=th.set j (nV v j th || mF u j th)
def As (n:Nat) (u v:Int):Nat->List Bool->List IE×List Bool
 | 0,th=>(HJ n u v 0 th,vu u v 0 th)
 | j+1,th=>(HJ n u v (j+1) th++(As n u v j (vu u v (j+1) th)).1,(As n u v j (vu u v (j+1) th)).2)
def Kl (n:Nat) (u v:Int):Nat->Nat->List Bool->List IE×List Bool
 | _,0,th=>([],th)
 | d,m+1,th=>((As n u v d th).1++(Kl n u v (d+1) m (As n u v d th).2).1,(Kl n u v (d+1) m (As n u v d th).2).2)
def Wm (e:Nat):List Bool:=true::List.replicate e false
def Cc (n:Nat) (p:Pt) (k:Int) (e:Nat):List IE×List Bool:=(lq (fm n 0) k 1++(Kl n (bz p).2.1 (bz p).2.2 1 e (Wm e)).1,(Kl n (bz p).2.1 (bz p).2.2 1 e (Wm e)).2)
def zJ (n:Nat):Nat->List Bool->List IE
 | _,[]=>[]
 | j,b::l=>(if b then [(3,pl n j,pl n j,fm n j,0)] else [])++zJ n (j+1) l
def Km (n:Nat) (p:Pt) (k:Int) (e:Nat):List IE:=SL n p.1 p.2 e e++(Cc n p k e).1++zJ n 0 (Cc n p k e).2
def core (n:Nat):Nat->List Pt->List IE
 | _,[]=>[]
 | k,[_]=>lq (pl n 0) (k:Nat) 1
 | k,p::q::l=>DY n p (k:Nat) (l.length+1) (k+1) (q::l)++core n (k+1) (q::l)++Km n p (k:Nat) (l.length+1)
def Qj (n:Nat):Nat->List Pt->List IE
 | _,[]=>[]
 | k,p::l=>DY n p (k:Nat) l.length (k+1) l++Qj n (k+1) l
def bkF (n:Nat):Nat->List Pt->List IE
 | _,[]=>[]
 | _,[_]=>[]
 | k,p::q::l=>bkF n (k+1) (q::l)++Km n p (k:Nat) (l.length+1)
theorem HN (n:Nat):∀(l:List Pt) (k:Nat),l≠[]->core n k l=Qj n k l++lq (pl n 0) ((k+l.length - 1:Nat):Int) 1++bkF n k l
 | [],_,h=>absurd rfl h
 | [p],k,_=>by simp [core,Qj,DY,bkF]
 | p::q::l,k,_=>by
  rw [core,HN n (q::l) (k+1) fW,show Qj n k (p::q::l)=DY n p (k:Nat) (l.length+1) (k+1) (q::l)++Qj n (k+1) (q::l) from rfl,show bkF n k (p::q::l)=bkF n (k+1) (q::l)++Km n p (k:Nat) (l.length+1) from rfl]
  simp only [aH,aR]
  rw [show k+1+(l.length+1) - 1=k+(l.length+1+1) - 1 by omega]
section
variable {n:Nat} {F:Fr}
theorem ac2 {q:Pt} {k i:Int} {e:Nat} {h:Nat->Int} (hk:0<=k/\k<n) (hi:0<=i/\i<n) (hd:p.1*q.2 - q.1*p.2≠0) (hh:∀t,t<n->F i t - ((bz p).2.1*q.1+(bz p).2.2*q.2) ^ e*F k t=h t*(p.1*q.2 - q.1*p.2)):
  ∃F',Rn (3*n+1) n F (Qi n p q k i e) F'/\(∀t,t<n->F' i t=h t)/\∀r:Int,r≠i->r≠pz n->F' r=F r:=by
 unfold Qi
 have SM:0<=pz n/\pz n<((3*n+1:Nat):Int):=by unfold pz; omega
 have u5:i≠pz n:=by unfold pz; omega
 have hnk:k≠pz n:=by unfold pz; omega
 generalize hx:(bz p).2.1*q.1+(bz p).2.2*q.2=x at hh ⊢
 by_cases w:x≠0∨e=0
 ·rw [au w]
  have h1:=(ac0 (g:=3*n+1) (n:=n) (F:=F) (t:=pz n) (a:=k) (c:=x) (e:=e) SM ⟨hk.1,by omega⟩).app (Hx (t:=i) (a:=i) (b:=pz n) (c:=0) ⟨hi.1,by omega⟩ ⟨hi.1,by omega⟩ SM)
  refine ⟨_,h1.app (Ki (f:=h) hd ⟨hi.1,by omega⟩ fun j hj=>?_),fun t ht=>by rw [eU],fun r a1 a2=>by rw [fj a1,fj a1,fj a2]⟩
  rw [eU,eU,fj u5,<- hh j hj,bZ]
 ·rw [ak w]
  refine ⟨_,Rn.nil.app (Ki (f:=h) hd ⟨hi.1,by omega⟩ fun j hj=>?_),fun t ht=>by rw [eU],fun r a1 a2=>fj a1⟩
  rw [<- hh j hj,show x=0 by omega,Int.zero_pow ae,dh,Int.sub_zero]
theorem SN {p:Pt} {k e:Nat} {c G:Nat->Nat->Int} (hp:MK p) (hk:k<n) (he:1<=e) (hc:∀t,t<n->∀j,c t j=ev e (c t) p.1 p.2*pc (bz p).2.1 (bz p).2.2 e j+lm p.1 p.2 (G t) j) (hG:∀t,t<n->sup (e - 1) (G t)):∀(l:List Pt) (i:Nat) {F:Fr},k<i->i+l.length<=n->(∀q∈l,p.1*q.2 - q.1*p.2≠0)->(∀t,t<n->F ((k:Nat):Int) t=ev e (c t) p.1 p.2)->
  (∀(j:Nat) q,l[j]?=some q->∀t,t<n->F ((i+j:Nat):Int) t=ev e (c t) q.1 q.2)->
  ∃F',Rn (3*n+1) n F (DY n p ((k:Nat):Int) e i l) F'/\(∀(j:Nat) q,l[j]?=some q->∀t,t<n->F' ((i+j:Nat):Int) t=ev (e - 1) (G t) q.1 q.2)/\∀r:Int,r<((i:Nat):Int)->F' r=F r
 | [],i,F,_,_,_,_,_=>⟨F,Rn.nil,fun j q h=>(by cases h),fun _ _=>rfl⟩
 | q::l,i,F,h1,h2,hd,hV,hl=>by
  rw [aR] at h2
  have xD:∀t,t<n->F ((i:Nat):Int) t - ((bz p).2.1*q.1+(bz p).2.2*q.2) ^ e*F ((k:Nat):Int) t=ev (e - 1) (G t) q.1 q.2*(p.1*q.2 - q.1*p.2):=fun t ht=>by
   have h0:=hl 0 q rfl t ht
   rw [dr] at h0
   rw [h0,hV t ht]
   have h3:ev e (c t) q.1 q.2=ev e (fun j=>ev e (c t) p.1 p.2*pc (bz p).2.1 (bz p).2.2 e j+lm p.1 p.2 (G t) j) q.1 q.2:=BX e fun j _=>hc t ht j
   obtain ⟨d,rfl⟩:∃d,e=d+1:=⟨e - 1,by omega⟩
   rw [h3,BZ (fun j=>ev (d+1) (c t) p.1 p.2*pc (bz p).2.1 (bz p).2.2 (d+1) j) (lm p.1 p.2 (G t)),yG,aaR,ah' (e:=d) (hG t ht),bZ (ev (d+1) (c t) p.1 p.2)]
   have hx:∀a b:Int,a+b - a=b:=fun a b=>ae
   rw [hx,bZ p.2 q.1,bZ]
   rfl
  obtain ⟨F1,a1,a2,a3⟩:=ac2 (h:=fun t=>ev (e - 1) (G t) q.1 q.2) (k:=((k:Nat):Int)) (i:=((i:Nat):Int)) ⟨by omega,by omega⟩ ⟨by omega,by omega⟩ (hd q (aJ ..)) xD
  have hz:∀j:Nat,j<n->((j:Nat):Int)≠pz n:=fun j hj=>by unfold pz; omega
  obtain ⟨F2,b1,b2,b3⟩:=SN hp hk he hc hG l (i+1) (F:=F1) ae ae (fun q hq=>hd q (aQ _ hq)) (fun t ht=>by rw [a3 _ ae (hz k hk)]; exact hV t ht) (fun j q' hj t ht=>by
   have hjl:=(aE.1 hj).1
   rw [a3 _ ae (hz _ ae)]
   have:=hl (j+1) q' hj t ht
   rwa [show i+1+j=i+(j+1) by omega])
  refine ⟨F2,a1.app b1,fun j q' hj t ht=>?_,fun r hr=>(b3 r ae).trans (a3 r ae (by unfold pz; omega))⟩
  cases j with
  | zero=>cases hj; rw [dr,b3 _ ae]; exact a2 t ht
  | succ j=>
   have:=b2 j q' hj t ht
   rwa [show i+1+j=i+(j+1) by omega] at this
theorem ac3 {A:Int} {e:Nat} {G:Nat->Nat->Int} (he:1<=e) (zK:e<n) (hG:∀t,t<n->sup (e - 1) (G t)):∀(m:Nat) {F:Fr},m<=e->(∀j,j<=m->j<e->∀t,t<n->F (pl n j) t=G t j)->
  ∃F',Rn (3*n+1) n F (SL n A B e m) F'/\(∀j,j<=m->∀t,t<n->F' (pl n j) t=lm A B (G t) j)/\∀r:Int,r≠pz n->(∀j,j<=m->r≠pl n j)->F' r=F r:=by
 have SM:0<=pz n/\pz n<((3*n+1:Nat):Int):=by unfold pz; omega
 have xE:∀j,j<n->0<=pl n j/\pl n j<((3*n+1:Nat):Int)/\pl n j≠pz n:=fun j hj=>by unfold pl pz; omega
 have SO:∀i j,i≠j->pl n i≠pl n j:=fun i j h=>by unfold pl; omega
 have one:∀(m:Nat) {F:Fr},m<=e->(∀j,j<=m->j<e->∀t,t<n->F (pl n j) t=G t j)->∃F',Rn (3*n+1) n F (Kk n A B e m) F'/\(∀t,t<n->F' (pl n m) t=lm A B (G t) m)/\∀r:Int,r≠pz n->r≠pl n m->F' r=F r:=fun m F hm hF=>by
  unfold Kk
  by_cases w:m=e
  ·subst w
   rw [au rfl]
   refine ⟨_,oZ ⟨(xE m zK).1,(xE m zK).2.1⟩ ⟨(xE (m - 1) ae).1,(xE (m - 1) ae).2.1⟩,fun t ht=>?_,fun r _ a2=>fj a2⟩
   rw [eU,hF (m - 1) ae ae t ht]
   unfold lm
   rw [hG t ht m ae]
   cases m with
   | zero=>omega
   | succ m=>show G t m*-B=A*0 - B*G t m; rw [jF,ef,Int.zero_sub,bZ]
  ·rw [ak w]
   have DL:=xE m ae
   by_cases w0:0<m
   ·rw [au w0,au w0]
    have qP:=xE (m - 1) ae
    refine ⟨_,((oZ SM ⟨qP.1,qP.2.1⟩).app (oZ (c:=A) ⟨DL.1,DL.2.1⟩ ⟨DL.1,DL.2.1⟩)).app (Hx ⟨DL.1,DL.2.1⟩ ⟨DL.1,DL.2.1⟩ SM),fun t ht=>?_,fun r a1 a2=>by rw [fj a2,fj a2,fj a1]⟩
    rw [eU,eU,fj DL.2.2,fj (fw DL.2.2),eU,hF m (ar _) ae t ht,hF (m - 1) ae ae t ht]
    unfold lm
    cases m with
    | zero=>omega
    | succ m=>show G t (m+1)*A - G t m*B=_; rw [bZ A,bZ B]; rfl
   ·rw [ak w0,ak w0]
    refine ⟨_,(Rn.nil.app (oZ (t:=pl n m) (a:=pl n m) (c:=A) ⟨DL.1,DL.2.1⟩ ⟨DL.1,DL.2.1⟩)).app Rn.nil,fun t ht=>?_,fun r a1 a2=>fj a2⟩
    rw [eU,hF m (ar _) ae t ht]
    obtain rfl:m=0:=ae
    unfold lm
    rw [bZ]; simp [tG]
 intro m
 induction m with
 | zero=>
  intro F hm hF
  obtain ⟨F',a1,a2,a3⟩:=one 0 hm hF
  exact ⟨F',a1,fun j hj t ht=>by rw [Nat.le_zero.1 hj]; exact a2 t ht,fun r h1 h2=>a3 r h1 (h2 0 (ar _))⟩
 | succ m ih=>
  intro F hm hF
  obtain ⟨F1,a1,a2,a3⟩:=one (m+1) hm hF
  obtain ⟨F2,b1,b2,b3⟩:=ih (F:=F1) ae (fun j hj hje t ht=>by rw [a3 _ (xE j ae).2.2 (SO _ _ ae)]; exact hF j ae hje t ht)
  refine ⟨F2,a1.app b1,fun j hj t ht=>?_,fun r h1 h2=>(b3 r h1 fun j hj=>h2 j ae).trans (a3 r h1 (h2 (m+1) (ar _)))⟩
  by_cases w:j=m+1
  ·subst w
   rw [b3 _ (xE (m+1) ae).2.2 fun i hi=>SO _ _ ae]
   exact a2 t ht
  ·exact b2 j ae t ht
def Cd (n _e:Nat) (V:Nat->Int) (u v:Int) (d:Nat) (F:Fr) (th:List Bool) (j:Nat):Prop:=(gb th j=true->∀t,t<n->F (fm n j) t=V t*pc u v d j)/\(gb th j=false->pc u v d j=0)
theorem Ko {b:Bool} (hj:j<th.length):gb (th.set j b) i=if i=j then b else gb th i:=by
 unfold gb
 rw [aj,aj,gy]
 by_cases w:j=i
 ·subst w; simp [hj]
 ·rw [ak w,ak (fw w)]
theorem SP {e:Nat} {u:Int} (hj:j<=e) (zK:e<n) (XT:th.length=e+1) (h1:Cd n e V u v d F th j) (h2:0<j->Cd n e V u v d F th (j - 1)):
  ∃F',Rn (3*n+1) n F (HJ n u v j th) F'/\Cd n e V u v (d+1) F' (vu u v j th) j/\∀r:Int,r≠pz n->r≠fm n j->F' r=F r:=by
 have SM:0<=pz n/\pz n<((3*n+1:Nat):Int):=by unfold pz; omega
 have O4:∀j,j<n->(0<=fm n j/\fm n j<((3*n+1:Nat):Int))/\fm n j≠pz n:=fun j hj=>by unfold fm pz; omega
 have Oo:=O4 j ae
 have hfi:=O4 (j - 1) ae
 have hT:gb (vu u v j th) j=(nV v j th || mF u j th):=by unfold vu; rw [Ko ae,au rfl]
 have hpc:pc u v (d+1) j=u*tG (pc u v d) j+v*pc u v d j:=rfl
 have wG:mF u j th=true->0<j/\∀t,t<n->F (fm n (j - 1)) t=V t*tG (pc u v d) j:=fun w=>by
  unfold mF at w
  simp only [bL,iA] at w
  refine ⟨w.1.1,fun t ht=>?_⟩
  rw [(h2 w.1.1).1 w.1.2 t ht]
  obtain ⟨i,rfl⟩:∃i,j=i+1:=⟨j - 1,by omega⟩
  rfl
 have aaU:mF u j th=false->u*tG (pc u v d) j=0:=fun w=>by
  unfold mF at w
  by_cases c:0<j
  ·by_cases c2:u=0
   ·rw [c2,dh]
   ·have:gb th (j - 1)=false:=by
     cases hb:gb th (j - 1) with
     | false=>rfl
     | true=>rw [hb] at w; simp [c,c2] at w
    have:=(h2 c).2 this
    obtain ⟨i,rfl⟩:∃i,j=i+1:=⟨j - 1,by omega⟩
    show u*pc u v d i=0
    rw [show pc u v d i=0 from this,ef]
  ·obtain rfl:j=0:=ae
   show u*0=0
   exact ef _
 have G0:nV v j th=true->∀t,t<n->F (fm n j) t=V t*pc u v d j:=fun w=>by
  unfold nV at w
  simp only [bL] at w
  exact h1.1 w.1
 have aaV:nV v j th=false->v*pc u v d j=0:=fun w=>by
  unfold nV at w
  by_cases c2:v=0
  ·rw [c2,dh]
  ·have:gb th j=false:=by
    cases hb:gb th j with
    | false=>rfl
    | true=>rw [hb] at w; simp [c2] at w
   rw [h1.2 this,ef]
 unfold HJ Cd
 rw [hT]
 cases hl:mF u j th with
 | true=>
  obtain ⟨hj0,yi⟩:=wG hl
  have s1:=oZ (g:=3*n+1) (n:=n) (F:=F) (t:=pz n) (a:=fm n (j - 1)) (c:=u) SM hfi.1
  cases ho:nV v j th with
  | true=>
   refine ⟨_,s1.app ((oZ (t:=fm n j) (a:=fm n j) (c:=v) Oo.1 Oo.1).app (MC Oo.1 Oo.1 SM)),⟨fun _ t ht=>?_,fun w=>by cases w⟩,fun r a1 a2=>by rw [fj a2,fj a2,fj a1]⟩
   rw [eU,eU,fj Oo.2,fj (fw Oo.2),eU,G0 ho t ht,yi t ht,hpc,ke]
   rw [bO,bO,bZ _ v,bZ _ u,Int.add_comm]
  | false=>
   refine ⟨_,s1.app (oZ (t:=fm n j) (a:=pz n) (c:=1) Oo.1 SM),⟨fun _ t ht=>?_,fun w=>by cases w⟩,fun r a1 a2=>by rw [fj a2,fj a1]⟩
   rw [eU,eU,yi t ht,hpc,aaV ho,gN,fA,bO,bZ _ u]
 | false=>
  cases ho:nV v j th with
  | true=>
   refine ⟨_,Rn.nil.app (oZ (t:=fm n j) (a:=fm n j) (c:=v) Oo.1 Oo.1),⟨fun _ t ht=>?_,fun w=>by cases w⟩,fun r a1 a2=>fj a2⟩
   rw [eU,G0 ho t ht,hpc,aaU hl,Int.zero_add,bO,bZ _ v]
  | false=>
   exact ⟨F,Rn.nil.app Rn.nil,⟨fun w=>(by cases w),fun _=>by rw [hpc,aaU hl,aaV ho]; rfl⟩,fun _ _ _=>rfl⟩
theorem E2 (u v:Int) (j:Nat) (th:List Bool):(vu u v j th).length=th.length:=by unfold vu; rw [aP]
theorem E3 (n:Nat) (u v:Int):∀(j:Nat) (th:List Bool),(As n u v j th).2.length=th.length
 | 0,th=>E2 u v 0 th
 | j+1,th=>by rw [As]; dsimp only; rw [E3 n u v j,E2]
theorem E4 (n:Nat) (u v:Int):∀(m d:Nat) (th:List Bool),(Kl n u v d m th).2.length=th.length
 | 0,_,_=>rfl
 | m+1,d,th=>by rw [Kl]; dsimp only; rw [E4 n u v m,E3]
theorem ac4 {e:Nat} {u:Int} (zK:e<n):∀(m:Nat) {F:Fr} {th:List Bool},m<=e->th.length=e+1->(∀j,j<=m->Cd n e V u v d F th j)->
  ∃F',Rn (3*n+1) n F (As n u v m th).1 F'/\(∀j,j<=m->Cd n e V u v (d+1) F' (As n u v m th).2 j)/\(∀r:Int,r≠pz n->(∀j,j<=m->r≠fm n j)->F' r=F r)/\∀j,m<j->gb (As n u v m th).2 j=gb th j:=by
 have O4:∀j,j<n->fm n j≠pz n:=fun j hj=>by unfold fm pz; omega
 have SO:∀i j,i≠j->fm n i≠fm n j:=fun i j h=>by unfold fm; omega
 intro m
 induction m with
 | zero=>
  intro F th hm XT h
  obtain ⟨F',a1,a2,a3⟩:=SP hm zK XT (h 0 (ar _)) (fun w=>absurd w ae)
  refine ⟨F',a1,fun j hj=>by rw [Nat.le_zero.1 hj]; exact a2,fun r h1 h2=>a3 r h1 (h2 0 (ar _)),fun j hj=>?_⟩
  show gb (vu u v 0 th) j=_
  unfold vu
  rw [Ko ae,ak ae]
 | succ m ih=>
  intro F th hm XT h
  obtain ⟨F1,a1,a2,a3⟩:=SP hm zK XT (h (m+1) (ar _)) (fun _=>h m ae)
  have WS:∀j,j≠m+1->gb (vu u v (m+1) th) j=gb th j:=fun j hj=>by unfold vu; rw [Ko ae,ak hj]
  obtain ⟨F2,b1,b2,b3,b4⟩:=ih (F:=F1) (th:=vu u v (m+1) th) ae (by rw [E2]; exact XT) (fun j hj=>by
   have:=h j ae
   unfold Cd at this ⊢
   rw [WS j ae,a3 _ (O4 j ae) (SO _ _ ae)]
   exact this)
  refine ⟨F2,a1.app b1,fun j hj=>?_,fun r h1 h2=>(b3 r h1 fun j hj=>h2 j ae).trans (a3 r h1 (h2 (m+1) (ar _))),fun j hj=>?_⟩
  ·by_cases w:j=m+1
   ·subst w
    unfold Cd at a2 ⊢
    rw [show gb (As n u v (m+1) th).2 (m+1)=gb (vu u v (m+1) th) (m+1) from b4 (m+1) ae,b3 _ (O4 (m+1) ae) fun i hi=>SO _ _ ae]
    exact a2
   ·exact b2 j ae
  ·show gb (As n u v m (vu u v (m+1) th)).2 j=_
   rw [b4 j ae,WS j ae]
theorem ac5 {e:Nat} {u:Int} (zK:e<n):∀(m d:Nat) {F:Fr} {th:List Bool},d+m=e->th.length=e+1->(∀j,j<=e->Cd n e V u v d F th j)->(∀j,d<j->gb th j=false)->
  ∃F',Rn (3*n+1) n F (Kl n u v (d+1) m th).1 F'/\(∀j,j<=e->Cd n e V u v e F' (Kl n u v (d+1) m th).2 j)/\∀r:Int,r≠pz n->(∀j,j<=e->r≠fm n j)->F' r=F r:=by
 intro m
 induction m with
 | zero=>
  intro d F th hd XT h _
  obtain rfl:d=e:=ae
  exact ⟨F,Rn.nil,h,fun _ _ _=>I⟩
 | succ m ih=>
  intro d F th hd XT h hz
  obtain ⟨F1,a1,a2,a3,a4⟩:=ac4 zK (d+1) ae XT (fun j hj=>h j ae)
  have hz':∀j,d+1<j->gb (As n u v (d+1) th).2 j=false:=fun j hj=>by rw [a4 j hj]; exact hz j ae
  obtain ⟨F2,b1,b2,b3⟩:=ih (d+1) ae (by rw [E3]; exact XT) (fun j hj=>by
   by_cases w:j<=d+1
   ·exact a2 j w
   ·refine ⟨fun q=>?_,fun _=>B7 u v (d+1) j ae⟩
    rw [hz' j ae] at q; cases q) hz'
  exact ⟨F2,a1.app b1,b2,fun r h1 h2=>(b3 r h1 h2).trans (a3 r h1 fun j hj=>h2 j ae)⟩
theorem ML {e:Nat} {V:Nat->Int} {u v:Int} {L:Nat->Nat->Int} (zK:e<n):∀(th:List Bool) (i:Nat) {F:Fr},i+th.length=e+1->(∀j,j<th.length->(gb th j=true->∀t,t<n->F (fm n (i+j)) t=V t*pc u v e (i+j))/\(gb th j=false->pc u v e (i+j)=0))->(∀j,j<th.length->∀t,t<n->F (pl n (i+j)) t=L t (i+j))->
  ∃F',Rn (3*n+1) n F (zJ n i th) F'/\(∀j,j<th.length->∀t,t<n->F' (pl n (i+j)) t=L t (i+j)+V t*pc u v e (i+j))/\∀r:Int,(∀j,i<=j->j<=e->r≠pl n j)->F' r=F r
 | [],i,F,_,_,_=>⟨F,Rn.nil,fun j h=>absurd h fW,fun _ _=>rfl⟩
 | b::th,i,F,hi,h1,h2=>by
  rw [aR] at hi h1 h2
  have xE:0<=pl n i/\pl n i<((3*n+1:Nat):Int):=by unfold pl; omega
  have O4:0<=fm n i/\fm n i<((3*n+1:Nat):Int):=by unfold fm; omega
  have s:∃F1,Rn (3*n+1) n F (if b then [(3,pl n i,pl n i,fm n i,0)] else []) F1/\(∀t,t<n->F1 (pl n i) t=L t i+V t*pc u v e i)/\∀r,r≠pl n i->F1 r=F r:=by
   have g1:=h1 0 ae
   have g2:=h2 0 ae
   rw [dr] at g1 g2
   cases b with
   | true=>
    refine ⟨_,MC xE xE O4,fun t ht=>?_,fun r hr=>fj hr⟩
    rw [eU,g2 t ht,g1.1 rfl t ht]
   | false=>exact ⟨F,Rn.nil,fun t ht=>by rw [g2 t ht,g1.2 rfl,ef,gN],fun _ _=>rfl⟩
  obtain ⟨F1,a1,a2,a3⟩:=s
  obtain ⟨F2,b1,b2,b3⟩:=ML (v:=v) (L:=L) zK th (i+1) (F:=F1) ae (fun j hj=>by
   have:=h1 (j+1) ae
   rw [show i+(j+1)=i+1+j by omega] at this
   rw [a3 _ (by unfold fm pl; omega)]
   exact this) (fun j hj t ht=>by
   have:=h2 (j+1) ae t ht
   rw [show i+(j+1)=i+1+j by omega] at this
   rw [a3 _ (by unfold pl; omega)]
   exact this)
  refine ⟨F2,a1.app b1,fun j hj t ht=>?_,fun r hr=>(b3 r fun j h1 h2=>hr j ae h2).trans (a3 r (hr i (ar _) ae))⟩
  cases j with
  | zero=>rw [dr,b3 _ fun j _ _=>by unfold pl; omega]; exact a2 t ht
  | succ j=>
   rw [aR] at hj
   have:=b2 j ae t ht
   rwa [show i+1+j=i+(j+1) by omega] at this
theorem ac6 {e:Nat} {G:Nat->Nat->Int} (he:1<=e) (zK:e<n) (hk:k<n) (hG:∀t,t<n->sup (e - 1) (G t)) (hF:∀j,j<e->∀t,t<n->F (pl n j) t=G t j) (hV:∀t,t<n->F ((k:Nat):Int) t=V t):
  ∃F',Rn (3*n+1) n F (Km n p ((k:Nat):Int) e) F'/\(∀j,j<=e->∀t,t<n->F' (pl n j) t=lm p.1 p.2 (G t) j+V t*pc (bz p).2.1 (bz p).2.2 e j)/\∀r:Int,r<n->F' r=F r:=by
 have xE:∀j,pl n j=((n+j:Nat):Int):=fun _=>rfl
 have O4:∀j,fm n j=((2*n+j:Nat):Int):=fun _=>rfl
 have SM:pz n=((3*n:Nat):Int):=rfl
 obtain ⟨F1,a1,a2,a3⟩:=ac3 (A:=p.1) (B:=p.2) he zK hG e (F:=F) (ar _) (fun j _ hj=>hF j hj)
 have anq:∀t,t<n->F1 ((k:Nat):Int) t=V t:=fun t ht=>by rw [a3 _ ae fun j _=>by rw [xE]; omega]; exact hV t ht
 have s0:=oZ (g:=3*n+1) (n:=n) (F:=F1) (t:=fm n 0) (a:=((k:Nat):Int)) (c:=1) (by rw [O4]; omega) ae
 obtain ⟨F2,b1,b2,b3⟩:=ac5 (V:=V) (u:=(bz p).2.1) (v:=(bz p).2.2) zK e 0 (F:=nt F1 (fm n 0) fun j=>F1 ((k:Nat):Int) j*1) (th:=Wm e) (bD _) (by unfold Wm; simp) (fun j hj=>by
  unfold Cd Wm gb
  cases j with
  | zero=>exact ⟨fun _ t ht=>by rw [eU,anq t ht]; rfl,fun w=>by simp at w⟩
  | succ j=>exact ⟨fun w=>(by rw [List.getD_cons_succ,aj,cK] at w; split at w<;>cases w),fun _=>rfl⟩) (fun j hj=>by
  unfold Wm gb
  cases j with
  | zero=>omega
  | succ j=>rw [List.getD_cons_succ,aj,cK]; split<;>rfl)
 have hlen:(Cc n p ((k:Nat):Int) e).2.length=e+1:=by unfold Cc; dsimp only; rw [E4]; unfold Wm; simp
 obtain ⟨F3,c1,c2,c3⟩:=ML (V:=V) (u:=(bz p).2.1) (v:=(bz p).2.2) (L:=fun t=>lm p.1 p.2 (G t)) zK (Cc n p ((k:Nat):Int) e).2 0 (F:=F2) (by rw [hlen,bD]) (fun j hj=>by
  rw [bD]
  exact b2 j ae) (fun j hj t ht=>by
  rw [bD,b3 _ (by rw [xE]; omega) fun i _=>by rw [xE,O4]; omega,fj (by rw [xE,O4]; omega)]
  exact a2 j ae t ht)
 refine ⟨F3,(a1.app (s0.app b1)).app c1,fun j hj t ht=>?_,fun r hr=>?_⟩
 ·have:=c2 j ae t ht
  rwa [bD] at this
 ·rw [c3 r fun j _ _=>by rw [xE]; omega,b3 r ae fun j _=>by rw [O4]; omega,fj (by rw [O4]; omega)]
  exact a3 r ae fun j _=>by rw [xE]; omega
theorem MM:∀(l:List Pt) (k:Nat) {F:Fr} {c:Nat->Nat->Int},l≠[]->k+l.length=n->(∀p∈l,MK p)->l.Pairwise (fun p q=>p.1*q.2 - q.1*p.2≠0)->(∀t,t<n->sup (l.length - 1) (c t))->
  (∀(j:Nat) q,l[j]?=some q->∀t,t<n->F ((k+j:Nat):Int) t=ev (l.length - 1) (c t) q.1 q.2)->
  ∃F',Rn (3*n+1) n F (core n k l) F'/\(∀j,j<l.length->∀t,t<n->F' (pl n j) t=c t j)/\∀r:Int,r<((k:Nat):Int)->F' r=F r
 | [],_,_,_,h,_,_,_,_,_=>absurd rfl h
 | [p],k,F,c,_,hk,_,_,_,hl=>by
  rw [bh] at hk
  refine ⟨_,oZ (by unfold pl; omega) ae,fun j hj t ht=>?_,fun r hr=>fj (by unfold pl; omega)⟩
  rw [bh] at hj
  obtain rfl:j=0:=ae
  rw [eU,fA]
  have:=hl 0 p rfl t ht
  rwa [dr] at this
 | p::q::l,k,F,c,_,hk,hp,hpw,hc,hl=>by
  have hlen:(p::q::l).length - 1=l.length+1:=by simp
  rw [hlen] at hc hl
  have MN:k+(l.length+1+1)=n:=hk
  have JC:=hp p (aJ ..)
  obtain ⟨anr,ans⟩:=dR.1 hpw
  have Wn:∀t,∃g:Nat->Int,t<n->sup (l.length+1 - 1) g/\∀j,c t j=ev (l.length+1) (c t) p.1 p.2*pc (bz p).2.1 (bz p).2.2 (l.length+1) j+lm p.1 p.2 g j:=fun t=>by
   by_cases ht:t<n
   ·obtain ⟨g,_,g1,g2⟩:=Ca JC.one (l.length+1) (c t) (hc t ht)
    exact ⟨g,fun _=>⟨g1,g2⟩⟩
   ·exact ⟨fun _=>0,fun h=>absurd h ht⟩
  obtain ⟨G,hG⟩:=Classical.axiomOfChoice Wn
  have hV:∀t,t<n->F ((k:Nat):Int) t=ev (l.length+1) (c t) p.1 p.2:=fun t ht=>by have:=hl 0 p rfl t ht; rwa [dr] at this
  obtain ⟨F1,a1,a2,a3⟩:=SN JC ae ae (fun t ht=>(hG t ht).2) (fun t ht=>(hG t ht).1) (q::l) (k+1) ae (by rw [aR]; omega) anr hV (fun j q' hj t ht=>by
   have:=hl (j+1) q' hj t ht
   rwa [show k+1+j=k+(j+1) by omega])
  obtain ⟨F2,b1,b2,b3⟩:=MM (q::l) (k+1) (c:=G) fW (by rw [aR]; omega) (fun p hm=>hp p (aQ _ hm)) ans (fun t ht=>(hG t ht).1) a2
  obtain ⟨F3,c1,c2,c3⟩:=ac6 (n:=n) (p:=p) (k:=k) (e:=l.length+1) (G:=G) (V:=fun t=>ev (l.length+1) (c t) p.1 p.2) (F:=F2) ae ae ae (fun t ht=>(hG t ht).1) (fun j hj=>b2 j (by rw [aR]; exact hj)) (fun t ht=>by rw [b3 _ ae,a3 _ ae]; exact hV t ht)
  refine ⟨F3,(a1.app b1).app c1,fun j hj t ht=>?_,fun r hr=>?_⟩
  ·rw [c2 j (by simp at hj; omega) t ht,(hG t ht).2 j]; omega
  ·rw [c3 r ae,b3 r ae,a3 r ae]
end
def O5 (t c:Int):Nat->List IE
 | 0=>[]
 | m+1=>xm t c++O5 t c m
def O6 (n:Nat):Nat->List Pt->List IE
 | _,[]=>[]
 | k,p::l=>O5 ((k:Nat):Int) (bz p).1 (n - 1)++O6 n (k+1) l
def qC (l:List Pt):List IE:=O6 l.length 0 l++core l.length 0 (l.map whole)
def tZ (n:Nat):List Int:=(List.range n).map (pl n)
theorem SQ {g n:Nat} {t c:Int} (hc:c≠0) (ht:0<=t/\t<g) {f:Nat->Int}:∀(m:Nat) {F:Fr},(∀j,j<n->F t j=f j*c ^ m)->Rn g n F (O5 t c m) (nt F t f)
 | 0,F,h=>Rn.nil.post fun r _ _ j hj=>by
  unfold nt
  split
  ·rename_i e; rw [e,h j hj,Int.pow_zero,fA]
  ·rfl
 | m+1,F,h=>by
  unfold O5
  refine (Ki (f:=fun j=>f j*c ^ m) hc ht fun j hj=>by rw [h j hj,gh,bO]).app ((SQ hc ht m fun j _=>by rw [eU]).post fun r _ _ j _=>?_)
  unfold nt
  split<;>rfl
theorem aaW (A B:Int) (t:Nat):∀e,t<=e->ev e (fun j=>if j=t then 1 else 0) A B=A ^ t*B ^ (e - t)
 | 0,h=>by rw [Nat.le_zero.1 h,ev]; simp
 | e+1,h=>by
  rw [ev]
  by_cases w:t=e+1
  ·subst w
   have hz:∀e':Nat,e'<=e->ev e' (fun j=>if j=e+1 then (1:Int) else 0) A B=0:=fun e'=>by
    induction e' with
    | zero=>intro _; rw [ev,ak (show ¬0=e+1 by omega)]
    | succ e' ih=>intro h'; rw [ev,ih ae,ak (show ¬e'+1=e+1 by omega)]; simp
   rw [hz e (ar _),au rfl,eH]; simp
  ·rw [aaW A B t e ae,ak ae,dh,gN,eP,show e+1 - t=e - t+1 by omega,gh,bZ B]
theorem SR {n:Nat} (hn:1<=n):∀(l:List Pt) (k:Nat) {F:Fr},k+l.length<=n->(∀p∈l,pU p/\¬(p.1=0/\p.2=0))->(∀(j:Nat) p,l[j]?=some p->∀t,t<n->F ((k+j:Nat):Int) t=p8 n p t)->
  ∃F',Rn (3*n+1) n F (O6 n k l) F'/\(∀(j:Nat) p,l[j]?=some p->∀t,t<n->F' ((k+j:Nat):Int) t=p8 n (whole p) t)/\∀r:Int,r<((k:Nat):Int)->F' r=F r
 | [],k,F,_,_,_=>⟨F,Rn.nil,fun j p h=>(by cases h),fun _ _=>rfl⟩
 | p::l,k,F,hk,hp,hl=>by
  rw [aR] at hk
  obtain ⟨g1,g2,e1,e2,_⟩:=pO (hp p (aJ ..)).1 (hp p (aJ ..)).2
  have h0:∀t,t<n->F ((k:Nat):Int) t=p8 n (whole p) t*(bz p).1 ^ (n - 1):=fun t ht=>by
   have:=hl 0 p rfl t ht
   rw [dr] at this
   rw [this]
   unfold p8
   have hg:(bz p).1 ^ (n - 1)=(bz p).1 ^ t*(bz p).1 ^ (n - 1 - t):=by rw [<- Int.pow_add]; congr 1; omega
   rw [hg]
   conv=>lhs; rw [e1,e2]
   rw [Int.mul_pow,Int.mul_pow]
   simp only [bO,bZ,eP]
  have s:=SQ (g:=3*n+1) (n:=n) (t:=((k:Nat):Int)) (c:=(bz p).1) (f:=p8 n (whole p)) ae ae (n - 1) h0
  obtain ⟨F2,b1,b2,b3⟩:=SR hn l (k+1) (F:=nt F ((k:Nat):Int) (p8 n (whole p))) ae (fun p hm=>hp p (aQ _ hm)) (fun j q hj t ht=>by
   rw [fj ae]
   have:=hl (j+1) q hj t ht
   rwa [show k+(j+1)=k+1+j by omega] at this)
  refine ⟨F2,s.app b1,fun j q hj t ht=>?_,fun r hr=>by rw [b3 r ae,fj ae]⟩
  cases j with
  | zero=>cases hj; rw [dr,b3 _ ae,eU]
  | succ j=>
   have:=b2 j q hj t ht
   rwa [show k+1+j=k+(j+1) by omega] at this
structure lI (l:List Pt):Prop where
 some_:1<=l.length/\l.length<=15
 tQ:∀p∈l,pU p/\¬(p.1=0/\p.2=0)
 apart:l.Pairwise fun p q=>p.1*q.2 - q.1*p.2≠0
theorem zg {l:List Pt} (h:lI l):(l.map whole).Pairwise fun p q=>p.1*q.2 - q.1*p.2≠0:=by
 rw [List.pairwise_map]
 refine h.apart.imp_of_mem fun {p q} hp hq hd e=>hd ?_
 obtain ⟨_,_,p1,p2,_⟩:=pO (h.tQ p hp).1 (h.tQ p hp).2
 obtain ⟨_,_,q1,q2,_⟩:=pO (h.tQ q hq).1 (h.tQ q hq).2
 have:p.1*q.2 - q.1*p.2=((whole p).1*(whole q).2 - (whole q).1*(whole p).2)*((bz p).1*(bz q).1):=by
  conv=>lhs; rw [p1,p2,q1,q2]
  rw [Int.sub_mul]
  simp only [bO,bZ,eP]
 rw [this,e,dh]
def C8 (l:List Pt):List Rw:=l.map fun p=>rf l.length (p8 l.length p)
theorem ac7 {l:List Pt} (h:lI l):∃R',exe (lT (3*l.length+1) l.length (C8 l)) (qC l)=some R'/\(tZ l.length).map (kh R')=zf l.length:=by
 have hn:=h.some_.1
 have rY:C8 l=(List.range l.length).map fun m=>rf l.length (p8 l.length (l.getD m (0,0))):=by
  unfold C8
  apply dG
  intro i
  rw [ay,ay]
  by_cases c:i<l.length
  ·rw [bN c,ag c]
   simp [aj,c]
  ·rw [bg ae,bg (by simpa using c)]; rfl
 have SJ:=SI (g:=3*l.length+1) (k:=l.length) (n:=l.length) (f:=fun m=>p8 l.length (l.getD m (0,0))) ae
 rw [<- rY] at SJ
 obtain ⟨F1,a1,a2,_⟩:=SR (n:=l.length) hn l 0 (F:=fun r=>if r<l.length then p8 l.length (l.getD r.toNat (0,0)) else fun _=>0) ae h.tQ (fun j p hj t _=>by
  have hjl:=(aE.1 hj).1
  rw [au ae,ed,bD,aj,hj]
  rfl)
 obtain ⟨F2,b1,b2,_⟩:=MM (n:=l.length) (l.map whole) 0 (F:=F1) (c:=fun t j=>if j=t then 1 else 0) (by intro e; rw [List.map_eq_nil_iff] at e; rw [e] at hn; simp at hn) fW (fun p hp=>by
  obtain ⟨q,hq,rfl⟩:=bG.1 hp
  exact (pO (h.tQ q hq).1 (h.tQ q hq).2).2.2.2.2) (zg h) (fun t ht j hj=>by rw [aw] at hj; exact ak ae) (fun j q hj t ht=>by
  rw [ay] at hj
  cases hp:l[j]? with
  | none=>rw [hp] at hj; cases hj
  | some p=>
   rw [hp] at hj
   cases hj
   rw [a2 j p hp t ht,aw,aaW _ _ t _ ae]
   rfl)
 obtain ⟨R',h1,h2⟩:=(a1.app b1) _ SJ
 refine ⟨R',h1,?_⟩
 unfold tZ zf
 rw [eT]
 refine cZ fun m hm=>?_
 have DL:=eR.1 hm
 show kh R' (pl l.length m)=_
 rw [h2.2 _ (by unfold pl; omega) (by unfold pl; omega)]
 refine BU fun t ht=>?_
 rw [b2 m (by simpa using DL) t ht]
 unfold C7
 by_cases c:m=t
 ·rw [au c,au c.symm]
 ·rw [ak c,ak (fw c)]
theorem tg {x:Int} (hx:-16<=x/\x<=16) (hy:-16<=y/\y<=16):-256<=x*y/\x*y<=256:=by
 have:(x*y).natAbs<=16*16:=by rw [dL]; exact bR ae ae
 omega
theorem MO {g t c:Int} (ht:0<=t/\t<g) (hc:c≠0/\-512<=c/\c<=512):∀m,∀e∈O5 t c m,gl e g
 | 0,e,he=>by cases he
 | m+1,e,he=>by
  unfold O5 at he
  rcases aK.1 he with q | q
  ·exact MI ht hc e q
  ·exact MO ht hc m e q
theorem MP (t c:Int):∀m,(O5 t c m).length<=m
 | 0=>ar _
 | m+1=>by unfold O5; rw [ai]; have:=MJ t c; have:=MP t c m; omega
theorem MQ {n:Nat}:∀(l:List Pt) (k:Nat),k+l.length<=n->(∀p∈l,pU p/\¬(p.1=0/\p.2=0))->∀e∈O6 n k l,gl e ((3*n+1:Nat):Int)
 | [],_,_,_,e,he=>by cases he
 | p::l,k,hk,hp,e,he=>by
  rw [aR] at hk
  obtain ⟨g1,g2,_⟩:=pO (hp p (aJ ..)).1 (hp p (aJ ..)).2
  unfold O6 at he
  rcases aK.1 he with q | q
  ·exact MO ae ae _ e q
  ·exact MQ l (k+1) ae (fun p hm=>hp p (aQ _ hm)) e q
theorem MR (n:Nat):∀(l:List Pt) (k:Nat),(O6 n k l).length<=(n - 1)*l.length
 | [],_=>av _
 | p::l,k=>by
  unfold O6
  rw [ai,aR,fZ]
  have:=MP ((k:Nat):Int) (bz p).1 (n - 1)
  have:=MR n l (k+1)
  omega
theorem XU {q:Pt} {k i:Int} {e:Nat} (hp:MK p) (hq:MK q) (hd:p.1*q.2 - q.1*p.2≠0) (hk:0<=k/\k<n) (hi:0<=i/\i<n):∀f∈Qi n p q k i e,gl f ((3*n+1:Nat):Int):=fun f hf=>by
 have b1:=tg hp.u hq.tQ.1
 have b2:=tg hp.v hq.tQ.2
 have b3:=tg hp.tQ.1 hq.tQ.2
 have b4:=tg hq.tQ.1 hp.tQ.2
 unfold Qi at hf
 rcases aK.1 hf with c | c
 ·split at c
  ·rcases aK.1 c with c | c
   ·exact XR (by unfold pz; omega) ae ae f c
   ·obtain rfl:=aL.1 c; unfold gl pz; dsimp only; omega
  ·cases c
 ·exact MI ae ⟨hd,by omega,by omega⟩ f c
theorem XV (n:Nat) (p q:Pt) (k i:Int) (e:Nat):(Qi n p q k i e).length<=e+3:=by
 unfold Qi
 rw [ai]
 have:=MJ i (p.1*q.2 - q.1*p.2)
 split
 ·rw [ai,bh]
  have:=XS (pz n) k ((bz p).2.1*q.1+(bz p).2.2*q.2) e
  omega
 ·simp; omega
theorem MS {n:Nat} {p:Pt} {k e:Nat} (hp:MK p) (hk:k<n):∀(l:List Pt) (i:Nat),i+l.length<=n->(∀q∈l,MK q/\p.1*q.2 - q.1*p.2≠0)->∀f∈DY n p ((k:Nat):Int) e i l,gl f ((3*n+1:Nat):Int)
 | [],_,_,_,f,hf=>by cases hf
 | q::l,i,hi,hl,f,hf=>by
  rw [aR] at hi
  unfold DY at hf
  have hq:=hl q (aJ ..)
  rcases aK.1 hf with c | c
  ·exact XU hp hq.1 hq.2 ae ae f c
  ·exact MS hp hk l (i+1) ae (fun q hm=>hl q (aQ _ hm)) f c
theorem E5 (n:Nat) (p:Pt) (k:Int) (e:Nat):∀(l:List Pt) (i:Nat),(DY n p k e i l).length<=(e+3)*l.length
 | [],_=>av _
 | q::l,i=>by
  unfold DY
  rw [ai,aR,fZ]
  have:=XV n p q k ((i:Nat):Int) e
  have:=E5 n p k e l (i+1)
  omega
theorem XW {e:Nat} {A:Int} (zK:e<n) (hA:-16<=A/\A<=16) (hB:-16<=B/\B<=16):∀m,m<=e->∀f∈SL n A B e m,gl f ((3*n+1:Nat):Int):=by
 have one:∀m,m<=e->∀f∈Kk n A B e m,gl f ((3*n+1:Nat):Int):=fun m hm f hf=>by
  unfold Kk at hf
  split at hf
  ·exact nK (by unfold pl; omega) (by unfold pl; omega) ae f hf
  ·rcases aK.1 hf with c | c
   ·rcases aK.1 c with c | c
    ·split at c
     ·exact nK (by unfold pz; omega) (by unfold pl; omega) ae f c
     ·cases c
    ·exact nK (by unfold pl; omega) (by unfold pl; omega) ae f c
   ·split at c
    ·obtain rfl:=aL.1 c; unfold gl pl pz; dsimp only; omega
    ·cases c
 intro m
 induction m with
 | zero=>exact fun h=>one 0 h
 | succ m ih=>
  intro h f hf
  unfold SL at hf
  rcases aK.1 hf with c | c
  ·exact one (m+1) h f c
  ·exact ih ae f c
theorem XX (n:Nat) (A B:Int) (e:Nat):∀m,(SL n A B e m).length<=3*(m+1):=by
 have one:∀m,(Kk n A B e m).length<=3:=fun m=>by
  unfold Kk
  split
  ·have:=oD (pl n e) (pl n (e - 1)) (-B); omega
  ·have h1:=oD (pz n) (pl n (m - 1)) B
   have h2:=oD (pl n m) (pl n m) A
   rw [ai,ai]
   by_cases c:0<m
   ·rw [au c,au c,bh]; omega
   ·rw [ak c,ak c]; simp; omega
 intro m
 induction m with
 | zero=>exact one 0
 | succ m ih=>unfold SL; rw [ai]; have:=one (m+1); omega
theorem XY {e:Nat} {u:Int} (zK:e<n) (hu:-16<=u/\u<=16) (hv:-16<=v/\v<=16):∀m,m<=e->∀th,∀f∈(As n u v m th).1,gl f ((3*n+1:Nat):Int):=by
 have one:∀m,m<=e->∀th,∀f∈HJ n u v m th,gl f ((3*n+1:Nat):Int):=fun m hm th f hf=>by
  unfold HJ at hf
  rcases aK.1 hf with c | c
  ·split at c
   ·exact nK (by unfold pz; omega) (by unfold fm; omega) ae f c
   ·cases c
  split at c
  ·rcases aK.1 c with c | c
   ·exact nK (by unfold fm; omega) (by unfold fm; omega) ae f c
   ·obtain rfl:=aL.1 c; unfold gl fm pz; dsimp only; omega
  split at c
  ·exact nK (by unfold fm; omega) (by unfold fm; omega) ae f c
  split at c
  ·exact nK (by unfold fm; omega) (by unfold pz; omega) ae f c
  ·cases c
 intro m
 induction m with
 | zero=>exact fun h=>one 0 h
 | succ m ih=>
  intro h th f hf
  unfold As at hf
  rcases aK.1 hf with c | c
  ·exact one (m+1) h th f c
  ·exact ih ae _ f c
theorem SS (n:Nat) (u v:Int):∀m th,((As n u v m th).1).length<=3*(m+1):=by
 have one:∀m th,(HJ n u v m th).length<=3:=fun m th=>by
  unfold HJ
  rw [ai]
  have h1:=oD (pz n) (fm n (m - 1)) u
  have h2:=oD (fm n m) (fm n m) v
  have h3:=oD (fm n m) (pz n) 1
  have h4:(if mF u m th then lq (pz n) (fm n (m - 1)) u else []).length<=1:=by split; exact h1; exact av _
  have h5:(if nV v m th && mF u m th then lq (fm n m) (fm n m) v++[(3,fm n m,fm n m,pz n,0)] else if nV v m th then lq (fm n m) (fm n m) v else if mF u m th then lq (fm n m) (pz n) 1 else []).length<=2:=by
   split
   ·rw [ai,bh]; omega
   split
   ·omega
   split
   ·omega
   ·exact av _
  omega
 intro m
 induction m with
 | zero=>exact fun th=>one 0 th
 | succ m ih=>intro th; unfold As; dsimp only; rw [ai]; have:=one (m+1) th; have:=ih (vu u v (m+1) th); omega
theorem MT {n e:Nat} {u v:Int} (zK:e<n) (hu:-16<=u/\u<=16) (hv:-16<=v/\v<=16):∀m d th,d+m<=e+1->∀f∈(Kl n u v d m th).1,gl f ((3*n+1:Nat):Int)
 | 0,_,_,_,f,hf=>by cases hf
 | m+1,d,th,hd,f,hf=>by
  unfold Kl at hf
  rcases aK.1 hf with c | c
  ·exact XY zK hu hv d ae th f c
  ·exact MT zK hu hv m (d+1) _ ae f c
theorem Ce (n:Nat) (u v:Int):∀m d th,((Kl n u v d m th).1).length<=3*(d+m)*m
 | 0,_,_=>av _
 | m+1,d,th=>by
  unfold Kl
  dsimp only
  rw [ai]
  have h1:=SS n u v d th
  have h2:=Ce n u v m (d+1) (As n u v d th).2
  have h3:3*(d+1+m)*m<=3*(d+(m+1))*m:=ew (by congr 2; omega)
  rw [fZ]
  omega
theorem H4 {n e:Nat} (zK:e<n):∀(th:List Bool) (i:Nat),i+th.length<=e+1->∀f∈zJ n i th,gl f ((3*n+1:Nat):Int)
 | [],_,_,f,hf=>by cases hf
 | b::th,i,hi,f,hf=>by
  rw [aR] at hi
  unfold zJ at hf
  rcases aK.1 hf with c | c
  ·split at c
   ·obtain rfl:=aL.1 c; unfold gl pl fm; dsimp only; omega
   ·cases c
  ·exact H4 zK th (i+1) ae f c
theorem H5 (n:Nat):∀(th:List Bool) (i:Nat),(zJ n i th).length<=th.length
 | [],_=>ar _
 | b::th,i=>by
  unfold zJ
  rw [ai,aR]
  have:=H5 n th (i+1)
  split<;>simp<;>omega
theorem E6 (n:Nat) (p:Pt) (k:Int) (e:Nat):(Cc n p k e).2.length=e+1:=by unfold Cc; dsimp only; rw [E4]; unfold Wm; simp
theorem XZ {e:Nat} (hp:MK p) (hk:k<n) (zK:e<n):∀f∈Km n p ((k:Nat):Int) e,gl f ((3*n+1:Nat):Int):=fun f hf=>by
 unfold Km at hf
 rcases aK.1 hf with c | c
 ·rcases aK.1 c with c | c
  ·exact XW zK hp.tQ.1 hp.tQ.2 e (ar _) f c
  ·unfold Cc at c
   rcases aK.1 c with c | c
   ·exact nK (by unfold fm; omega) ae ae f c
   ·exact MT zK hp.u hp.v e 1 _ ae f c
 ·exact H4 zK _ 0 (by rw [E6]; omega) f c
theorem MU {k:Int} {e:Nat} (he:e<=14):(Km n p k e).length<=740:=by
 unfold Km
 rw [ai,ai]
 have h1:=XX n p.1 p.2 e e
 have h2:=H5 n (Cc n p k e).2 0
 rw [E6] at h2
 have h3:(Cc n p k e).1.length<=1+3*(1+e)*e:=by
  unfold Cc
  dsimp only
  rw [ai]
  have:=oD (fm n 0) k 1
  have:=Ce n (bz p).2.1 (bz p).2.2 e 1 (Wm e)
  omega
 have h4:3*(1+e)*e<=3*(1+14)*14:=bR (bT _ ae) he
 omega
theorem H6 {n:Nat}:∀(l:List Pt) (k:Nat),k+l.length=n->(∀p∈l,MK p)->l.Pairwise (fun p q=>p.1*q.2 - q.1*p.2≠0)->∀f∈core n k l,gl f ((3*n+1:Nat):Int)
 | [],_,_,_,_,f,hf=>by cases hf
 | [p],k,hk,_,_,f,hf=>by
  rw [bh] at hk
  exact nK (by unfold pl; omega) ae ae f hf
 | p::q::l,k,hk,hp,hpw,f,hf=>by
  have MN:k+(l.length+1+1)=n:=hk
  obtain ⟨h1,h2⟩:=dR.1 hpw
  have JC:=hp p (aJ ..)
  unfold core at hf
  rcases aK.1 hf with c | c
  ·rcases aK.1 c with c | c
   ·exact MS JC ae (q::l) (k+1) (by rw [aR]; omega) (fun r hr=>⟨hp r (aQ _ hr),h1 r hr⟩) f c
   ·exact H6 (q::l) (k+1) (by rw [aR]; omega) (fun r hr=>hp r (aQ _ hr)) h2 f c
  ·exact XZ JC ae ae f c
theorem H7 (n:Nat):∀(l:List Pt) (k:Nat),l.length<=15->(core n k l).length<=1000*l.length
 | [],_,_=>av _
 | [p],k,_=>by have:=oD (pl n 0) ((k:Nat):Int) 1; unfold core; rw [bh]; omega
 | p::q::l,k,h=>by
  have hl:l.length<=13:=by simp at h; omega
  unfold core
  rw [ai,ai]
  have h1:=E5 n p ((k:Nat):Int) (l.length+1) (q::l) (k+1)
  have h2:=H7 n (q::l) (k+1) (by rw [aR]; omega)
  have h3:=MU (n:=n) (p:=p) (k:=((k:Nat):Int)) (e:=l.length+1) ae
  have h4:(l.length+1+3)*(q::l).length<=17*14:=bR ae (by rw [aR]; omega)
  simp only [aR] at*
  omega
theorem aib {l:List Pt} (h:lI l):oY l.length (3*l.length+1) l.length (C8 l) (qC l) (tZ l.length) (zf l.length):=by
 refine ⟨fun e he=>?_,fun r hr=>?_,ac7 h⟩
 ·unfold qC at he
  rcases aK.1 he with c | c
  ·exact MQ l 0 ae h.tQ e c
  ·exact H6 (l.map whole) 0 fW (fun p hp=>by
    obtain ⟨q,hq,rfl⟩:=bG.1 hp
    exact (pO (h.tQ q hq).1 (h.tQ q hq).2).2.2.2.2) (zg h) e c
 ·obtain ⟨m,hm,rfl⟩:=bG.1 hr
  have:=eR.1 hm
  unfold pl
  omega
theorem ac8 {l:List Pt} (h:l.length<=15):(qC l).length<=16000:=by
 unfold qC
 rw [ai]
 have h1:=MR l.length l 0
 have h2:=H7 l.length (l.map whole) 0 (by simpa using h)
 have h3:(l.length - 1)*l.length<=14*15:=bR ae h
 rw [aw] at h2
 omega
open Anv
def stp (c:UInt8):Prop:=c.toNat=32∨c.toNat=93
def ndg (c:UInt8):Prop:=c.toNat=45∨(48<=c.toNat/\c.toNat<=57)
def Rz (t:List UInt8) (z:Int):Prop:=(∃d,t=45::d/\Ok 1 d/\z=sg true (numOf d))∨((t.getD 0 0).toNat≠45/\Ok 0 t/\z=sg false (numOf t))
def Rb (t:List UInt8) (b:Nat):Prop:=(∃d b',t=45::d/\Fb 1 d b'/\b=b'+1)∨((t.getD 0 0).toNat≠45/\Fb 0 t b)
def SU (s:List UInt8) (p q:Nat):List UInt8:=(s.drop p).take (q - p)
def Seg (s:List UInt8) (p q:Nat):Prop:=p<=q/\q<=s.length/\(∀i,p<=i->i<q->¬stp (s.getD i 0))/\(q<s.length->stp (s.getD q 0))
def Sen (s:List UInt8) (p q:Nat):Prop:=p<=q/\q<=s.length/\(∀i,p<=i->i<q->ndg (s.getD i 0))/\(q<s.length->¬ndg (s.getD q 0))
inductive Go (s:List UInt8):Nat->List Int->List Int ⊕ Nat->Prop
 | bad {p q b:Nat} {zs:List Int} (h:Seg s p q) (hb:Rb (SU s p q) b):Go s p zs (.inr (p+b))
 | fin {p:Nat} {zs:List Int} {z:Int} (h:Seg s p s.length) (hz:Rz (SU s p s.length) z):Go s p zs (.inr s.length)
 | more {p q:Nat} {zs:List Int} {z:Int} (h:Seg s p q) (hz:Rz (SU s p q) z) (hc:(s.getD q 0).toNat=93) (hq:q+1<s.length):Go s p zs (.inr (q+1))
 | done {p q:Nat} {zs:List Int} {z:Int} (h:Seg s p q) (hz:Rz (SU s p q) z) (hc:(s.getD q 0).toNat=93) (hq:q+1=s.length):Go s p zs (.inl (zs++[z]))
 | next {p q:Nat} {zs:List Int} {z:Int} {r:List Int ⊕ Nat} (h:Seg s p q) (hz:Rz (SU s p q) z) (hq:q<s.length) (hc:(s.getD q 0).toNat=32) (hr:Go s (q+1) (zs++[z]) r):Go s p zs r
inductive Rd0 (s:List UInt8):List Int ⊕ Nat->Prop
 | no (h:s=[]∨(s.getD 0 0).toNat≠91):Rd0 s (.inr 0)
 | void (h:(s.getD 0 0).toNat=91) (h1:(s.getD 1 0).toNat=93) (h2:s.length=2):Rd0 s (.inl [])
 | tail (h:(s.getD 0 0).toNat=91) (h1:(s.getD 1 0).toNat=93) (h2:2<s.length):Rd0 s (.inr 2)
 | go (h:(s.getD 0 0).toNat=91) (h0:s≠[]) (h1:¬(1<s.length/\(s.getD 1 0).toNat=93)) {r:List Int ⊕ Nat} (hr:Go s 1 [] r):Rd0 s r
def tH (a b:Int) (j:Nat):Int:=if j=0 then a else b
section
variable {N:Nat} {dq:List Deferred} {a:Act} {l:List (Nat×Value)} {w:World} {d:Nat} {ty:TypeId} {pos:String} {af:Array Edge} {gd:Option (Nat×Bool)}
theorem xO {T:TypeId} {x y:Operand} {m n:Int} (h:b7 dq N a l) (hT:P.underlying T=some (.array 2 E)) (hE:∃i,P.info? E=some i/\i.size=1) (hz:∃i,P.info? T=some i/\i.zero=some (.agg #[.int .i64 0,.int .i64 0])) (hx:eB l x=some (.int .i64 m)) (hy:eB l y=some (.int .i64 n)):
  (execOp a.eval ⟨some d,.build T #[(0,x),(1,y)],ty,pos,af,gd⟩).run P w=.ok (.value (.agg #[.int .i64 m,.int .i64 n])) w:=by
 have Q5:(zeroValue T).run P w=.ok (.agg #[.int .i64 0,.int .i64 0]) w:=by obtain ⟨i,hi,hv⟩:=hz; simp [zeroValue,typeInfo,hi,hv]
 simp [execOp,h.ev hx,h.ev hy,Instr.build,Q5,run_underlying hT,Sem.run_bind,run_sizeOf hE,Instr.fill,Value.cells]
theorem se {T:TypeId} {x y:Operand} {m n:Int} (h:b7 dq N a l) (hT:P.underlying T=some (.array 2 E)) (hE:mM P E) (hx:eB l x=some (.agg #[.int .i64 m,.int .i64 n])) (hy:eB l y=some (.int .i64 (j:Nat))) (hj:j<2):
  (execOp a.eval ⟨some d,.index T x y,ty,pos,af,gd⟩).run P w=.ok (.value (.int .i64 (tH m n j))) w:=by
 have hs:=run_sizeOf (w:=w) hE.size
 rcases (show j=0∨j=1 by omega) with rfl | rfl
 ·simp [execOp,h.ev hx,h.ev hy,Instr.index,asIntOf,run_underlying hT,Sem.run_bind,part,hE.agg,hs,tH]
 ·simp [execOp,h.ev hx,h.ev hy,Instr.index,asIntOf,run_underlying hT,Sem.run_bind,part,hE.agg,hs,tH]
end
def RP (n1 n2 k1 k2:Int):Prop:=0<=n1/\n1<=4096/\0<=n2/\n2<=4096/\1<=k1/\k1<=8/\1<=k2/\k2<=8
instance (n1 n2 k1 k2:Int):Decidable (RP n1 n2 k1 k2):=by unfold RP; infer_instance
def SV (n k:Nat):Nat:=(n+k - 1) / k
def mU (n1 n2 k1 k2:Nat):Nat:=max (SV n1 k1) (SV n2 k2)
theorem SW (hk:1<=k):n<=k*SV n k:=by
 unfold SV
 have h1:=Nat.div_add_mod (n+k - 1) k
 have h2:=dF (n+k - 1) hk
 omega
theorem X0 (hk:1<=k) (hn:0<n):1<=SV n k:=by
 unfold SV
 rw [Nat.le_div_iff_mul_le hk]; omega
theorem MV (n:Nat):SV n 1=n:=by unfold SV; omega
def EP (n1 n2 k1 k2:Nat) (t:Int):Prop:=max t 1<(min n1 n2:Nat)/\mU n1 n2 k1 k2<max n1 n2
instance (n1 n2 k1 k2:Nat) (t:Int):Decidable (EP n1 n2 k1 k2 t):=by unfold EP; infer_instance
def ant (k1 k2:Nat) (t:Int):Nat->Nat->Nat->Nat
 | 0,_,_=>0
 | f+1,n1,n2=>if EP n1 n2 k1 k2 t then ant k1 k2 t f (mU n1 n2 k1 k2) (mU n1 n2 k1 k2)+1 else 0
theorem MW {n1:Int} (h:RP n1 n2 k1 k2) (j:Nat):(0<=tH n1 n2 j/\tH n1 n2 j<=4096)/\(1<=tH k1 k2 j/\tH k1 k2 j<=8):=by
 unfold RP at h
 unfold tH
 split<;>omega
theorem aid {n1:Int} (h:∀i,i<2->0<=tH n1 n2 i/\tH n1 n2 i<=4096) (k:∀i,i<2->1<=tH k1 k2 i/\tH k1 k2 i<=8):RP n1 n2 k1 k2:=by
 have h0:=h 0 aB
 have h1:=h 1 aB
 have g0:=k 0 aB
 have g1:=k 1 aB
 simp [tH] at h0 h1 g0 g1
 unfold RP
 omega
theorem MX {C:Nat->Prop} (h:∀i,i<j->C i) (hj:C j):∀i,i<j+1->C i:=fun i hi=>by
 rcases aV i j with h1 | h1
 ·exact h i h1
 ·obtain rfl:i=j:=ae
  exact hj
theorem aaX (hn:n<=4096) (hk:1<=k) (hk8:k<=8):
  Calls prog 145 #[.int .i64 (n:Nat),.int .i64 (k:Nat)] w0 fun e w'=>e=.returned (.int .i64 (SV n k:Nat))/\Below w0.heap.size w0 w':=by
 refine enter func145 I ntmps145 I ?_
 intro a η σ
 refine wp_seq (aI ?_)
 refine sv (v:=.int .i64 0) η I (cf η I) ?_
 clear η a; intro a η
 refine wpList_nil (b5 (wp_seq (aI ?_)))
 revert a
 refine mA I I ?_
 refine mA I I ?_
 refine sA (v:=.int .i64 (n+k:Nat)) I (fun _ η=>lY η I I (by rw [IntWalk.i64_in _ ae]; omega)) ?_
 refine sA (v:=.int .i64 ((n+k) - 1:Nat)) I (fun _ η=>uh η I I (by rw [IntWalk.i64_in _ ae]; omega)) ?_
 refine mA I I ?_
 refine sA I (fun _ η=>nP η I I ae (Xg ae)) ?_
 refine aA I I ?_
 intro a η
 refine wpList_nil (b5 (wp_ret ?_))
 refine leave η (iJ results145 (RV.tmp η I)) ?_
 exact ⟨I,σ.below⟩
theorem SX {n1:Int}:
  Calls prog 144 #[.int .i64 n1,.int .i64 n2,.int .i64 k1,.int .i64 k2] w0 fun e w'=>e=.returned (.bool (decide (RP n1 n2 k1 k2)))/\Below w0.heap.size w0 w':=by
 refine enter func144 I ntmps144 I ?_
 intro a η σ
 refine wp_seq (aI ?_)
 refine sv (v:=.bool false) η I (cf η I) ?_
 clear η a; intro a η
 refine wpList_nil (b5 (wp_seq (wp_seq (aI ?_))))
 revert a
 refine mA I I ?_
 refine mA I I ?_
 refine sA (v:=.agg #[.int .i64 n1,.int .i64 n2]) I (fun _ η=>xO η underlying231 (bn.size) pG I I) ?_
 refine mA I I ?_
 intro a η
 refine wpList_nil (b5 (wp_block ?_))
 refine wp_loop_ghost (fun mz a w=>∃j:Nat,2 - j=mz/\Env 39 a [(2,.int .i64 k1),(3,.int .i64 k2),(15,.agg #[.int .i64 n1,.int .i64 n2]),(16,.int .i64 (j:Nat))]/\St w0 w [] []/\j<=2/\∀i,i<j->0<=tH n1 n2 i/\tH n1 n2 i<=4096) _ ⟨0,I,η.sub aT,σ.pick [] [] aB,aB,(fun i hi=>absurd hi (dB _))⟩ ?_
 clear η σ a
 rintro mz a w51 ⟨j,rfl,η,σ,hj,aie⟩
 refine wp_seq (aI ?_)
 refine sv (v:=.bool (decide (((j:Nat):Int)<(2:Int)))) η I (cV η I I I) ?_
 clear η a; intro a η
 refine wpList_nil (b5 (wp_seq ?_))
 refine jA η I (fun Kq=>?_) (fun Kq=>?_)
 ·have anv:=aN Kq
  have fh:j<2:=ae
  refine wp_skip (b5 (wp_seq (wp_block (wp_seq (aI ?_)))))
  revert a
  refine sA (v:=.int .i64 (tH n1 n2 j)) I (fun _ η=>se (m:=n1) (n:=n2) (j:=j) η underlying231 bn I I ae) ?_
  refine aA I I ?_
  intro a η
  refine wpList_nil (b5 (wp_seq (aI ?_)))
  revert a
  refine mA I I ?_
  refine sA (v:=.bool (decide ((tH n1 n2 j)<(0:Int)))) I (fun _ η=>cV η I I I) ?_
  refine mA I I ?_
  intro a η
  rcases z7 (decide ((tH n1 n2 j)<(0:Int))) with SY | SY
  ·rw [SY] at η
   have avF:=aN SY
   revert a
   refine kA I I I I I ?_
   refine kA I I I I I ?_
   refine sA (v:=.bool true) I (fun _ η=>lU η I I) ?_
   intro a η
   refine wpList_nil (b5 ?_)
   refine GY η I (I) ?_
   refine wp_seq (aI ?_)
   refine sv (v:=.bool false) η I (cf η I) ?_
   clear η a; intro a η
   refine wpList_nil (b5 (wp_ret (qM (nN (nN (qM (nN ?_)))))))
   refine leave η (iJ results144 (RV.tmp η I)) ?_
   exact ⟨by rw [aC fun h=>by have:=MW h j; omega],σ.below⟩
  ·rw [SY] at η
   have avG:=bP SY
   revert a
   refine gA (v:=.int .i64 (tH n1 n2 j)) I I I I (fun _ η=>ff η I) ?_
   refine gA (v:=.bool (decide ((tH n1 n2 j)>(4096:Int)))) I I I I (fun _ η=>cV η I I I) ?_
   refine sA (v:=.bool (decide ((tH n1 n2 j)>(4096:Int)))) I (fun _ η=>lU η I I) ?_
   intro a η
   refine wpList_nil (b5 ?_)
   refine jA η I (fun ac9=>?_) (fun ac9=>?_)
   ·have avH:=aN ac9
    refine wp_seq (aI ?_)
    refine sv (v:=.bool false) η I (cf η I) ?_
    clear η a; intro a η
    refine wpList_nil (b5 (wp_ret (qM (nN (nN (qM (nN ?_)))))))
    refine leave η (iJ results144 (RV.tmp η I)) ?_
    exact ⟨by rw [aC fun h=>by have:=MW h j; omega],σ.below⟩
   ·have avI:=bP ac9
    refine wp_skip (tK (b5 (aI ?_)))
    revert a
    refine sA (v:=.int .i64 (j+1:Nat)) I (fun _ η=>lY η I I (by rw [IntWalk.i64_in _ ae]; omega)) ?_
    refine mA I I ?_
    intro a η
    refine wpList_nil ?_
    exact b5 ⟨_,ae,⟨j+1,I,η.sub aT,σ.pick [] [] aB,ae,(MX aie ae)⟩⟩
 ·have avJ:=bP Kq
  obtain rfl:j=2:=ae
  refine wp_exit (oM (oM (wz (b5 (wp_seq (wp_seq (aI ?_)))))))
  revert a
  refine mA I I ?_
  refine mA I I ?_
  refine sA (v:=.agg #[.int .i64 k1,.int .i64 k2]) I (fun _ η=>xO η underlying231 (bn.size) pG I I) ?_
  refine mA I I ?_
  intro a η
  refine wpList_nil (b5 (wp_block ?_))
  refine wp_loop_ghost (fun mz a w=>∃j:Nat,2 - j=mz/\Env 39 a [(28,.agg #[.int .i64 k1,.int .i64 k2]),(29,.int .i64 (j:Nat))]/\St w0 w [] []/\j<=2/\∀i,i<j->1<=tH k1 k2 i/\tH k1 k2 i<=8) _ ⟨0,I,η.sub aT,σ.pick [] [] aB,aB,(fun i hi=>absurd hi (dB _))⟩ ?_
  clear η σ a
  rintro mz a w61 ⟨j,rfl,η,σ,hj,aif⟩
  refine wp_seq (aI ?_)
  refine sv (v:=.bool (decide (((j:Nat):Int)<(2:Int)))) η I (cV η I I I) ?_
  clear η a; intro a η
  refine wpList_nil (b5 (wp_seq ?_))
  refine jA η I (fun ac'=>?_) (fun ac'=>?_)
  ·have avL:=aN ac'
   have fh:j<2:=ae
   refine wp_skip (b5 (wp_seq (wp_block (wp_seq (aI ?_)))))
   revert a
   refine sA (v:=.int .i64 (tH k1 k2 j)) I (fun _ η=>se (m:=k1) (n:=k2) (j:=j) η underlying231 bn I I ae) ?_
   refine aA I I ?_
   intro a η
   refine wpList_nil (b5 (wp_seq (aI ?_)))
   revert a
   refine mA I I ?_
   refine sA (v:=.bool (decide ((tH k1 k2 j)<(1:Int)))) I (fun _ η=>cV η I I I) ?_
   refine mA I I ?_
   intro a η
   rcases z7 (decide ((tH k1 k2 j)<(1:Int))) with SZ | SZ
   ·rw [SZ] at η
    have avM:=aN SZ
    revert a
    refine kA I I I I I ?_
    refine kA I I I I I ?_
    refine sA (v:=.bool true) I (fun _ η=>lU η I I) ?_
    intro a η
    refine wpList_nil (b5 ?_)
    refine GY η I (I) ?_
    refine wp_seq (aI ?_)
    refine sv (v:=.bool false) η I (cf η I) ?_
    clear η a; intro a η
    refine wpList_nil (b5 (wp_ret (qM (nN (nN (qM (nN ?_)))))))
    refine leave η (iJ results144 (RV.tmp η I)) ?_
    exact ⟨by rw [aC fun h=>by have:=MW h j; omega],σ.below⟩
   ·rw [SZ] at η
    have avN:=bP SZ
    revert a
    refine gA (v:=.int .i64 (tH k1 k2 j)) I I I I (fun _ η=>ff η I) ?_
    refine gA (v:=.bool (decide ((tH k1 k2 j)>(8:Int)))) I I I I (fun _ η=>cV η I I I) ?_
    refine sA (v:=.bool (decide ((tH k1 k2 j)>(8:Int)))) I (fun _ η=>lU η I I) ?_
    intro a η
    refine wpList_nil (b5 ?_)
    refine jA η I (fun ada=>?_) (fun ada=>?_)
    ·have avO:=aN ada
     refine wp_seq (aI ?_)
     refine sv (v:=.bool false) η I (cf η I) ?_
     clear η a; intro a η
     refine wpList_nil (b5 (wp_ret (qM (nN (nN (qM (nN ?_)))))))
     refine leave η (iJ results144 (RV.tmp η I)) ?_
     exact ⟨by rw [aC fun h=>by have:=MW h j; omega],σ.below⟩
    ·have avP:=bP ada
     refine wp_skip (tK (b5 (aI ?_)))
     revert a
     refine sA (v:=.int .i64 (j+1:Nat)) I (fun _ η=>lY η I I (by rw [IntWalk.i64_in _ ae]; omega)) ?_
     refine mA I I ?_
     intro a η
     refine wpList_nil ?_
     exact b5 ⟨_,ae,⟨j+1,I,η.sub aT,σ.pick [] [] aB,ae,(MX aif ae)⟩⟩
  ·have avQ:=bP ac'
   obtain rfl:j=2:=ae
   refine wp_exit (oM (oM (wz (b5 (wp_seq (aI ?_))))))
   refine sv (v:=.bool true) η I (cf η I) ?_
   clear η a; intro a η
   refine wpList_nil (b5 (wp_ret ?_))
   refine leave η (iJ results144 (RV.tmp η I)) ?_
   exact ⟨by rw [a8 (aid aie aif)],σ.below⟩
theorem H8 {n2 k1 k2:Nat} (h1:n1<=4096) (h2:n2<=4096) (g1:1<=k1) (g2:1<=k2) (f1:k1<=8) (f2:k2<=8):
  Calls prog 96 #[.int .i64 (n1:Nat),.int .i64 (n2:Nat),.int .i64 (k1:Nat),.int .i64 (k2:Nat)] w0 fun e w'=>e=.returned (.tuple #[.int .i64 (mU n1 n2 k1 k2:Nat),.int .i64 0])/\Below w0.heap.size w0 w':=by
 refine enter func96 I ntmps96 I ?_
 intro a η σ
 refine wp_seq (aI ?_)
 revert a
 refine aA I I ?_
 refine aA I I ?_
 intro a η
 refine wpList_nil (b5 (wp_seq (wp_seq (aI ?_))))
 revert a
 refine mA I I ?_
 refine mA I I ?_
 refine mA I I ?_
 refine mA I I ?_
 intro a η
 refine aS I (gG η I call144 I (SX) ?_)
 rintro e w51 ⟨rfl,hb⟩
 refine ⟨_,I,?_⟩
 clear η a; intro a η
 replace σ:=σ.call hb
 clear hb
 rw [show (decide (RP ((n1:Nat):Int) ((n2:Nat):Int) ((k1:Nat):Int) ((k2:Nat):Int)))=true from (a8 (show RP n1 n2 k1 k2 by unfold RP; omega))] at η
 refine sv η I (om η I I) ?_
 clear η a; intro a η
 refine wpList_nil (b5 ?_)
 refine rV η I (I) ?_
 refine wp_skip (b5 (wp_seq (aI ?_)))
 revert a
 refine mA I I ?_
 refine mA I I ?_
 intro a η
 refine aS I (gG η I call145 I (aaX ae ae ae) ?_)
 rintro e Wo ⟨rfl,hb⟩
 refine ⟨_,I,?_⟩
 clear η a; intro a η
 replace σ:=σ.call hb
 clear hb
 revert a
 refine mA I I ?_
 refine mA I I ?_
 intro a η
 refine aS I (gG η I call145 I (aaX ae ae ae) ?_)
 rintro e w53 ⟨rfl,hb⟩
 refine ⟨_,I,?_⟩
 clear η a; intro a η
 replace σ:=σ.call hb
 clear hb
 revert a
 refine sA I (fun _ η=>vq η I I) ?_
 refine aA I I ?_
 refine aA I I ?_
 intro a η
 refine wpList_nil (b5 (wp_ret ?_))
 refine leave η (lk results96 (RV.tmp η I) (RV.tmp η I)) ?_
 exact ⟨I,σ.below⟩
theorem O7 {n2 k1 k2:Nat} (h1:n1<=4096) (h2:n2<=4096) (g1:1<=k1) (g2:1<=k2) (f1:k1<=8) (f2:k2<=8):
  Calls prog 95 #[.int .i64 (n1:Nat),.int .i64 (n2:Nat),.int .i64 (k1:Nat),.int .i64 (k2:Nat),.int .i64 t] w0 fun e w'=>e=.returned (.tuple #[.bool (decide (EP n1 n2 k1 k2 t)),.int .i64 0])/\Below w0.heap.size w0 w':=by
 refine enter func95 I ntmps95 I ?_
 intro a η σ
 refine wp_seq (aI ?_)
 revert a
 refine aA I I ?_
 refine aA I I ?_
 intro a η
 refine wpList_nil (b5 (wp_seq (aI ?_)))
 revert a
 refine mA I I ?_
 refine mA I I ?_
 refine mA I I ?_
 refine mA I I ?_
 intro a η
 refine aS I (gG η I call96 I (H8 ae ae ae ae ae ae) ?_)
 rintro e w51 ⟨rfl,hb⟩
 refine ⟨_,I,?_⟩
 clear η a; intro a η
 replace σ:=σ.call hb
 revert a
 refine mA I I ?_
 refine sA I (fun _ η=>je η I I) ?_
 refine sA I (fun _ η=>je η I I) ?_
 refine aA I I ?_
 refine aA I I ?_
 intro a η
 refine wpList_nil (b5 (wp_seq (wp_seq (aI ?_))))
 revert a
 refine mA I I ?_
 refine sA I (fun _ η=>cV η I I I) ?_
 intro a η
 refine wpList_nil (b5 ?_)
 refine rV η I (I) ?_
 refine wp_skip (b5 (wp_seq (aI ?_)))
 revert a
 refine mA I I ?_
 refine mA I I ?_
 refine sA I (fun _ η=>Rt η I I) ?_
 refine mA I I ?_
 refine sA I (fun _ η=>vp η I I) ?_
 refine sA I (fun _ η=>cV η I I I) ?_
 refine mA I I ?_
 intro a η
 rcases z7 (decide (((min n1 n2:Nat):Int)>(max t (1:Int)))) with S0 | S0
 ·rw [S0] at η
  have anv:=aN S0
  revert a
  refine gA I I I I (fun _ η=>ff η I) ?_
  refine gA I I I I (fun _ η=>ff η I) ?_
  refine gA I I I I (fun _ η=>ff η I) ?_
  refine gA I I I I (fun _ η=>vq η I I) ?_
  refine gA I I I I (fun _ η=>cV η I I I) ?_
  refine sA I (fun _ η=>lU η I I) ?_
  refine aA I I ?_
  refine aA I I ?_
  intro a η
  refine wpList_nil (b5 (wp_ret ?_))
  refine leave η (lk results95 (RV.tmp η I) (RV.tmp η I)) ?_
  exact ⟨aq (fun b=>Ending.returned (Value.tuple #[Value.bool b,Value.int .i64 0])) (gW.2 (by unfold EP; omega)),σ.below⟩
 ·rw [S0] at η
  have avR:=bP S0
  revert a
  refine kA I I I I I ?_
  refine kA I I I I I ?_
  refine kA I I I I I ?_
  refine kA I I I I I ?_
  refine kA I I I I I ?_
  refine sA I (fun _ η=>lU η I I) ?_
  refine aA I I ?_
  refine aA I I ?_
  intro a η
  refine wpList_nil (b5 (wp_ret ?_))
  refine leave η (lk results95 (RV.tmp η I) (RV.tmp η I)) ?_
  exact ⟨by rw [aC fun h=>by unfold EP at h; omega],σ.below⟩
theorem zts {es:List NE} {c:Nat} {z:Int} (hz:es.map zz=xs) (he:es[j]?=some (A,c,z)):xs.take (j+1)=xs.take j++[z]:=
 take_one (by rw [<- hz,ay,he]; rfl)
def avS (w:World) (v:Value) (n:Nat) (qp:List (List Int)):Prop:=∃A c vs,v=.slice A n c/\(bH fL FL 1 A n c vs).P w/\vs.map lz=qp
def lr (xs:List Int) (m j:Nat):List Int:=(xs.drop (j*m)).take m++List.replicate (m - (xs.drop (j*m)).length) 0
theorem O8 {es:List NE} (hz:es.map zz=xs.drop (j*m)) (hl:es.length=n):(es.drop (min n m)).map zz=xs.drop ((j+1)*m):=by
 rw [List.map_drop,hz,List.drop_drop,cG]
 have h:(xs.drop (j*m)).length=n:=by rw [<- hz,aw,hl]
 rw [dp] at h
 rcases Nat.le_total n m with hm | hm
 ·rw [cW hm,bo ae,bo ae]
 ·rw [Nat.min_eq_right hm]
theorem S1 {es:List NE} (hz:es.map zz=xs.drop (j*m)) (hl:es.length=n):(es.take m++(List.replicate m ((none,0,0):NE)).drop n).map zz=lr xs m j:=by
 have h:(xs.drop (j*m)).length=n:=by rw [<- hz,aw,hl]
 unfold lr
 rw [cD,List.map_take,hz,List.drop_replicate,en,h]
theorem S2 {es:List NE} (hl:es.length=n):(es.take m++(List.replicate m ((none,0,0):NE)).drop n).length=m:=by
 rw [ai,bJ,dp,df,hl]
 omega
theorem O9 {os:List LE} {c:Nat} {es:List NE} (ho:os.map lz=(List.range j).map (lr xs m)) (h:es.map zz=lr xs m j):(os++[(A,n,c,es)]).map lz=(List.range (j+1)).map (lr xs m):=by
 rw [cD,ho,iw,cD]
 congr 1
 exact aq (fun l=>[l]) h
def qq (xs:List Int):Nat:=(xs.reverse.dropWhile (·==0)).length
theorem X4 (xs:List Int):qq (xs.take 0)=0:=by rw [jI]; rfl
theorem DZ (xs:List Int):qq (xs++[0])=qq xs:=by simp [qq]
theorem H9 {x:Int} (h:x≠0):qq (xs++[x])=xs.length+1:=by
 unfold qq
 rw [List.reverse_append,List.reverse_singleton,List.singleton_append,List.dropWhile_cons_of_neg (by simpa using h),aR,iL]
def avT (w:World) (v:Value) (n:Nat) (zs:List Int):Prop:=∃A c es,v=.slice A n c/\(bH fN FN 2 A n c es).P w/\es.map zz=zs
def MY (qp:List (List Int)) (k m:Nat):Nat->Nat
 | 0=>m
 | i+1=>max (MY qp k m i) (i*k+(qp.getD i []).length)
def E7 (xs:List Int) (p:Nat) (l:List Int):Nat->List Int
 | 0=>l
 | j+1=>(E7 xs p l j).set (p+j) ((E7 xs p l j).getD (p+j) 0+xs.getD j 0)
def H' (qp:List (List Int)) (k T:Nat):Nat->List Int
 | 0=>List.replicate T 0
 | i+1=>E7 (qp.getD i []) (i*k) (H' qp k T i) (qp.getD i []).length
theorem vv (xs:List Int) (p:Nat) (l:List Int):∀j,(E7 xs p l j).length=l.length
 | 0=>rfl
 | j+1=>by rw [E7,aP,vv]
theorem xP (qp:List (List Int)) (k T:Nat):∀i,(H' qp k T i).length=T
 | 0=>df
 | i+1=>by rw [H',vv,xP]
theorem Kr (qp:List (List Int)) (k m:Nat):∀i,m<=MY qp k m i
 | 0=>ar _
 | i+1=>aD (Kr qp k m i) (Nat.le_max_left ..)
theorem S3 (qp:List (List Int)) (k m:Nat) {i:Nat}:∀{n:Nat},i<n->i*k+(qp.getD i []).length<=MY qp k m n
 | 0,h=>ae
 | n+1,h=>by
  rcases aV i n with h1 | h1
  ·exact aD (S3 qp k m h1) (Nat.le_max_left ..)
  ·obtain rfl:i=n:=ae
   exact Nat.le_max_right ..
theorem MZ {es0:List LE} {qp:List (List Int)} {c:Nat} {es:List NE} (hz:es0.map lz=qp) (he:es0[i]?=some (A,n,c,es)) (hl:es.length=n):qp.getD i []=es.map zz/\(qp.getD i []).length=n:=by
 have e:qp.getD i []=es.map zz:=by rw [aj,<- hz,ay,he]; rfl
 exact ⟨e,by rw [e,aw,hl]⟩
theorem X5 {es:List NE} {p:Nat} {E:Option Addr} {f c:Nat} {x:Int} (ho:ps.map zz=E7 xs p l j) (hx:xs=es.map zz) (he:es[j]?=some (C,d,x)) (hp:ps[p+j]?=some (E,f,y)):(ps.set (p+j) (A,c,y+x)).map zz=E7 xs p l (j+1):=by
 have e1:xs.getD j 0=x:=by rw [hx,aj,ay,he]; rfl
 have e2:(E7 xs p l j).getD (p+j) 0=y:=by rw [<- ho,aj,ay,hp]; rfl
 rw [E7,e1,e2,<- ho,fz]
theorem M0 (x y:Int):zl (x+y)<=max (zl x) (zl y)+1:=by
 refine gC ?_
 have h1:x.natAbs<4294967296 ^ max (zl x) (zl y):=cl (xz _) (bS aB (Nat.le_max_left ..))
 have h2:y.natAbs<4294967296 ^ max (zl x) (zl y):=cl (xz _) (bS aB (Nat.le_max_right ..))
 have h3:=Int.natAbs_add_le x y
 rw [cT]
 omega
theorem S4 {a b p c:Nat} (h:Zk a (ps.map zz)) (hv:zl v<=b) (Qh:a<=b):Zk b ((ps.set p (A,c,v)).map zz):=by
 intro z hz
 rw [fz] at hz
 rcases rM hz with h1 | h1
 ·exact aD (h z h1) Qh
 ·rw [h1]; exact hv
theorem adb {α:Type} {f:α->List Value} {z c:Nat} {es:List α} (hz:∀e,(f e).length=z) (h:Rd z w A n c (fl f es)) (hm:m<=n):Rd z w A m m (fl f (es.take m)):=by
 have h1:m*z<=n*z:=bB _ hm
 have h2:=h.len
 rw [vi hz]
 refine ⟨by rw [bJ]; omega,ar _,aD hm (aD h.cap h.big),fun hp=>?_⟩
 obtain ⟨b,off,rfl,fh,hc⟩:=h.cells ae
 exact ⟨b,off,I,fh,fun i hi=>by rw [hc i ae,eM hi]⟩
theorem aih (h0:(bH fN FN 2 A0 n0 c0 es0).P w0) (mZ:es0.map zz=xs) (hn:n0<=100000000):
  Calls prog 150 #[.slice A0 n0 c0] w0 fun e w'=>e=.returned (.int .i64 (((qq xs:Nat):Int) - 1))/\Below w0.heap.size w0 w':=by
 refine enter func150 I ntmps150 I ?_
 intro a η σ
 have cQ:=h0.2.1
 have eN:=aD h0.1.cap h0.1.big
 unfold maxLen at eN
 replace σ:=σ.aY h0
 clear h0
 refine wp_seq (aI ?_)
 refine sv (v:=.int .i64 0) η I (cf η I) ?_
 clear η a; intro a η
 refine wpList_nil (b5 (wp_scope_straight (wp_seq (aI ?_))))
 revert a
 refine mA I I ?_
 refine sA (v:=.int .i64 (n0:Nat)) I (fun _ η=>ky η underlying43 I) ?_
 refine sA (v:=.int .i64 (((n0:Nat):Int) - (1:Int))) I (fun _ η=>uh η I I (IntWalk.i64_in _ ae)) ?_
 refine aA I I ?_
 intro a η
 refine wpList_nil (b5 (wp_seq (wp_label (b5 (wp_seq ?_)))))
 refine cut (fun a w=>∃q:Nat,Env 18 a [(3,.int .i64 (((q:Nat):Int) - 1))]/\St w0 w [] []/\qq xs=q) ?_ ?_
 ·refine wp_block ?_
  refine wp_loop_ghost (fun mz a w=>∃i:Nat,i=mz/\Env 18 a [(0,.slice A0 n0 c0),(3,.int .i64 (((i:Nat):Int) - 1))]/\St w0 w [] [bH fN FN 2 A0 n0 c0 es0]/\i<=n0/\qq xs=qq (xs.take i)) _ ⟨n0,I,η.sub aT,σ.pick [] [0] aB,(ar _),(by rw [ax (by rw [<- mZ,aw]; omega)])⟩ ?_
  clear η σ a
  rintro mz a w51 ⟨i,rfl,η,σ,hi,hd⟩
  refine wp_seq (wp_seq (aI ?_))
  revert a
  refine mA I I ?_
  refine sA (v:=.bool (decide (((i:Nat):Int) - 1>=(0:Int)))) I (fun _ η=>cV η I I I) ?_
  intro a η
  refine wpList_nil (b5 ?_)
  refine jA η I (fun Kq=>?_) (fun Kq=>?_)
  ·obtain ⟨j,hj⟩:∃j:Nat,((i:Nat):Int) - 1=(j:Nat):=⟨i - 1,by have:=aN Kq; omega⟩
   rw [hj] at η
   obtain rfl:i=j+1:=ae
   clear hj
   obtain ⟨⟨A,c,x⟩,eG⟩:∃e,es0[j]?=some e:=⟨_,ag ae⟩
   replace σ:=σ.elem (k:=0) I eG
   refine wp_skip (b5 (wp_seq (wp_block (wp_seq (aI ?_)))))
   revert a
   refine mA I I ?_
   refine mA I I ?_
   refine sA (v:=.pointer (some ⟨ab A0,ao A0+j*2,none⟩)) I (fun _ η=>m7 (i:=j) η underlying43 (az.size) I I ae I σ.dw.1) ?_
   refine sA (v:=.agg #[.bool (neg x),.slice A (zl x) c]) I (fun _ η=>cX (i:=j) (e:=(A,c,x)) η az I I jV σ.dw.1 ae eG I) ?_
   intro a η
   refine aS I (gG η I call60 I (wv (z:=x)) ?_)
   rintro e w53 ⟨rfl,hb⟩
   refine ⟨_,I,?_⟩
   clear η a; intro a η
   replace σ:=σ.call hb
   clear hb
   refine sv (v:=.bool (x.sign !=(0:Int))) η I (cV η I I I) ?_
   clear η a; intro a η
   refine wpList_nil (b5 ?_)
   refine jA η I (fun Ia=>?_) (fun Ia=>?_)
   ·have zE:x≠0:=fun h0=>by rw [h0] at Ia; simp at Ia
    rw [show ((j:Nat):Int)=((j+1:Nat):Int) - 1 by omega] at η
    refine wp_exit ?_
    refine ahl I (oM (oM (wz (b5 ?_))))
    exact ⟨j+1,η.sub aT,σ.pick [] [] aB,(hd.trans (by rw [zts mZ eG,H9 zE,bJ,<- mZ,aw]; omega))⟩
   ·have zE:x=0:=ji.1 (by have:=Ia; simpa using this)
    refine wp_skip (tK (b5 (aI ?_)))
    revert a
    refine mA I I ?_
    refine sA (v:=.int .i64 (((j:Nat):Int) - (1:Int))) I (fun _ η=>uh η I I (IntWalk.i64_in _ ae)) ?_
    refine aA I I ?_
    intro a η
    refine wpList_nil ?_
    exact b5 ⟨_,ae,⟨j,I,η.sub aT,σ.pick [] [1] aB,ae,(by rw [hd,zts mZ eG,zE,DZ])⟩⟩
  ·obtain rfl:i=0:=by have:=bP Kq; omega
   refine wp_exit (oM (oM (wz (b5 ?_))))
   exact ⟨0,η.sub aT,σ.pick [] [] aB,(hd.trans (X4 _))⟩
 clear η σ a
 rintro a w55 ⟨q,η,σ,hq⟩
 refine wp_seq (aI ?_)
 revert a
 refine mA I I ?_
 refine aA I I ?_
 intro a η
 refine wpList_nil (b5 (wp_ret (amH ?_)))
 refine leave η (iJ results150 (RV.tmp η I)) ?_
 exact ⟨by rw [hq],σ.below⟩
def anw (xs ys:List Int) (i:Nat):Int:=xs.getD i 0+ys.getD i 0
def Qk (xs ys:List Int) (N:Nat):Nat->List Int
 | 0=>List.replicate N 0
 | i+1=>E7 (ys.map (xs.getD i 0*·)) i (Qk xs ys N i) ys.length
theorem tk (xs ys:List Int) (N:Nat):∀i,(Qk xs ys N i).length=N
 | 0=>df
 | i+1=>by rw [Qk,vv,tk]
theorem X6 {es:List NE} {p:Nat} {E:Option Addr} {f c:Nat} {x z:Int} (ho:ps.map zz=E7 (ys.map (x*·)) p l j) (hz:es.map zz=ys) (he:es[j]?=some (C,d,y)) (hp:ps[p+j]?=some (E,f,z)):(ps.set (p+j) (A,c,z+x*y)).map zz=E7 (ys.map (x*·)) p l (j+1):=by
 have e1:(ys.map (x*·)).getD j 0=x*y:=by rw [aj,ay,<- hz,ay,he]; rfl
 have e2:(E7 (ys.map (x*·)) p l j).getD (p+j) 0=z:=by rw [<- ho,aj,ay,hp]; rfl
 rw [E7,e1,e2,<- ho,fz]
theorem aii (h0:(bH fN FN 2 A0 n0 c0 es0).P w0) (mZ:es0.map zz=xs) (h1:(bH fN FN 2 A1 n1 c1 es1).P w0) (po:es1.map zz=ys) (JY:Zk 1000 xs) (zL:Zk 1000 ys) (h00:0<n0) (h01:0<n1) (pJ:n0<=300) (Wp:n1<=300):
  Calls prog 53 #[.slice A0 n0 c0,.slice A1 n1 c1] w0 fun e w'=>∃v,e=.returned (.tuple #[v,.int .i64 (n0*n1:Nat)])/\tP w0.heap.size w' v (n0+n1 - 1) (Qk xs ys (n0+n1 - 1) n0)/\Below w0.heap.size w0 w':=by
 refine enter func53 I ntmps53 I ?_
 intro a η σ
 have cQ:=h0.2.1
 have iI:=h1.2.1
 have eN:=aD h0.1.cap h0.1.big
 unfold maxLen at eN
 replace σ:=(σ.aY h1).aY h0
 clear h0 h1
 refine wp_seq (aI ?_)
 revert a
 refine aA I I ?_
 refine aA I I ?_
 intro a η
 refine wpList_nil (b5 (wp_seq (wp_seq (aI ?_))))
 revert a
 refine mA I I ?_
 refine sA (v:=.int .i64 (n0:Nat)) I (fun _ η=>ky η underlying43 I) ?_
 refine sA (v:=.bool (((n0:Nat):Int)==(0:Int))) I (fun _ η=>cV η I I I) ?_
 intro a η
 rw [show (((n0:Nat):Int)==(0:Int))=false from (du.2 ae)] at η
 revert a
 refine mA I I ?_
 refine gA (v:=.slice A1 n1 c1) I I I I (fun _ η=>ff η I) ?_
 refine gA (v:=.int .i64 (n1:Nat)) I I I I (fun _ η=>ky η underlying43 I) ?_
 refine gA (v:=.bool (((n1:Nat):Int)==(0:Int))) I I I I (fun _ η=>cV η I I I) ?_
 intro a η
 rw [show (((n1:Nat):Int)==(0:Int))=false from (du.2 ae)] at η
 refine sv (v:=.bool false) η I (lU η I I) ?_
 clear η a; intro a η
 refine wpList_nil (b5 ?_)
 refine rV η I (I) ?_
 refine wp_skip (b5 (wp_seq (aI ?_)))
 revert a
 refine mA I I ?_
 refine sA (v:=.int .i64 (n0:Nat)) I (fun _ η=>ky η underlying43 I) ?_
 refine mA I I ?_
 refine sA (v:=.int .i64 (n1:Nat)) I (fun _ η=>ky η underlying43 I) ?_
 refine sA (v:=.int .i64 (n0+n1:Nat)) I (fun _ η=>lY η I I (by rw [IntWalk.i64_in _ ae]; omega)) ?_
 refine sA (v:=.int .i64 ((n0+n1) - 1:Nat)) I (fun _ η=>uh η I I (by rw [IntWalk.i64_in _ ae]; omega)) ?_
 intro a η
 refine aS I (BB (f:=fN) (e0:=(none,0,0)) (q:=dD) (n:=(n0+n1) - 1) η σ I underlying43 dP I I qo I I I ae (by unfold maxLen; omega) ?_)
 clear η σ a; intro a Wo de η σ
 replace σ:=σ.vX (ov (n0+n1 - 1) _) ⟨bX,trivial⟩
 refine sv (v:=.slice (cS de) ((n0+n1) - 1) ((n0+n1) - 1)) η I (cf η I) ?_
 clear η a; intro a η
 refine wpList_nil (b5 (wp_seq (aI ?_)))
 refine sv (v:=.int .i64 0) η I (cf η I) ?_
 clear η a; intro a η
 refine wpList_nil (b5 (wp_seq (wp_seq (aI ?_))))
 revert a
 refine mA I I ?_
 refine sA (v:=.int .i64 (n0:Nat)) I (fun _ η=>ky η underlying43 I) ?_
 refine mA I I ?_
 intro a η
 refine wpList_nil (b5 (wp_block ?_))
 refine wp_loop_ghost (fun mz a w=>∃(i q:Nat) (os:List NE),n0 - i=mz/\Env 62 a [(1,.slice A1 n1 c1),(6,.slice (cS de) ((n0+n1) - 1) ((n0+n1) - 1)),(7,.int .i64 (q:Nat)),(27,.slice A0 n0 c0),(28,.int .i64 (n0:Nat)),(29,.int .i64 (i:Nat))]/\St w0 w [fc dD 52 2 (cS de) ((n0+n1) - 1) ((n0+n1) - 1) (fl fN os)] [bH fN FN 2 A0 n0 c0 es0,bH fN FN 2 A1 n1 c1 es1,dW FN os]/\i<=n0/\q=i*n1/\os.map zz=Qk xs ys ((n0+n1) - 1) i/\Zk (2000+300*i) (os.map zz)) _ ⟨0,0,(List.replicate ((n0+n1) - 1) (none,0,0)),I,η.sub aT,σ.pick [0] [1,2,0] aB,(av _),ae,(by rw [en]; rfl),(fun z hz=>by rw [en] at hz; rw [ei hz]; exact aD (by rw [qk]; omega) (av _))⟩ ?_
 clear η σ a
 rintro mz a w53 ⟨i,q,os,rfl,η,σ,hi,hq,ho,hkz⟩
 refine wp_seq (aI ?_)
 refine sv (v:=.bool (decide (((i:Nat):Int)<((n0:Nat):Int)))) η I (cV η I I I) ?_
 clear η a; intro a η
 refine wpList_nil (b5 (wp_seq ?_))
 refine jA η I (fun Ia=>?_) (fun Ia=>?_)
 ·have avW:i<n0:=by have:=aN Ia; omega
  obtain ⟨⟨A,c,x⟩,eG⟩:∃e,es0[i]?=some e:=⟨_,ag ae⟩
  replace σ:=σ.elem (k:=0) I eG
  have Cf:zl x<=1000:=JY.es mZ _ (ah eG)
  have nz:i*n1<=90000:=bR (show i<=300 by omega) Wp
  have hxi:xs.getD i 0=x:=by rw [aj,<- mZ,ay,eG]; rfl
  have hyl:ys.length=n1:=by rw [<- po,aw,iI]
  refine wp_skip (b5 (wp_seq (wp_block (wp_seq (aI ?_)))))
  revert a
  refine mA I I ?_
  refine sA (v:=.pointer (some ⟨ab A0,ao A0+i*2,none⟩)) I (fun _ η=>m7 (i:=i) η underlying43 (az.size) I I ae I σ.dw.1) ?_
  refine sA (v:=.agg #[.bool (neg x),.slice A (zl x) c]) I (fun _ η=>cX (i:=i) (e:=(A,c,x)) η az I I jV σ.dw.1 ae eG I) ?_
  intro a η
  refine aS I (kQ (c:=#[.bool (neg 0),.slice none (zl 0) 0]) η σ I bA pW ?_)
  clear η σ a; intro a w56 sf η σ
  refine sv (v:=.int .i64 (i:Nat)) η I (cf η I) ?_
  clear η a; intro a η
  refine aS I (kZ (k:=0) (c':=#[.bool (neg x),.slice A (zl x) c]) η σ (az.size) I I I I fW I I ?_)
  clear η σ a; intro a w57 η σ
  refine wpList_nil (b5 (wp_seq (aI ?_)))
  revert a
  refine mA I I ?_
  refine sA (v:=.int .i64 (n1:Nat)) I (fun _ η=>ky η underlying43 I) ?_
  refine mA I I ?_
  intro a η
  refine wpList_nil (b5 (wp_block ?_))
  refine wp_loop_ghost (fun mz a w=>∃(j p:Nat) (ps:List NE),n1 - j=mz/\Env 62 a [(1,.slice A1 n1 c1),(6,.slice (cS de) ((n0+n1) - 1) ((n0+n1) - 1)),(7,.int .i64 (p:Nat)),(8,.int .i64 (i:Nat)),(9,cY sf),(27,.slice A0 n0 c0),(28,.int .i64 (n0:Nat)),(29,.int .i64 (i:Nat)),(34,.slice A1 n1 c1),(35,.int .i64 (n1:Nat)),(36,.int .i64 (j:Nat))]/\St w0 w [fc dD 52 2 (cS de) ((n0+n1) - 1) ((n0+n1) - 1) (fl fN ps),bk sf #[.bool (neg x),.slice A (zl x) c] 52] [bH fN FN 2 A0 n0 c0 es0,bH fN FN 2 A1 n1 c1 es1,DJ A c x,dW FN ps]/\j<=n1/\p=q+j/\ps.map zz=E7 (ys.map (x*·)) i (Qk xs ys ((n0+n1) - 1) i) j/\Zk (2000+300*i+j) (ps.map zz)) _ ⟨0,q,os,I,η.sub aT,σ.pick [1,0] [1,2,0,3] aB,(av _),ae,ho,hkz⟩ ?_
  clear η σ a
  rintro mz a w58 ⟨j,p,ps,rfl,η,σ,hj,hp,JB,Ks⟩
  refine wp_seq (aI ?_)
  refine sv (v:=.bool (decide (((j:Nat):Int)<((n1:Nat):Int)))) η I (cV η I I I) ?_
  clear η a; intro a η
  refine wpList_nil (b5 (wp_seq ?_))
  refine jA η I (fun ade=>?_) (fun ade=>?_)
  ·have fh:j<n1:=by have:=aN ade; omega
   have xE:ps.length=n0+n1 - 1:=by rw [<- aw (f:=zz),JB,vv,tk]
   obtain ⟨⟨C,d,y⟩,kf⟩:∃e,es1[j]?=some e:=⟨_,ag ae⟩
   replace σ:=σ.elem (k:=1) I kf
   obtain ⟨⟨E,f,z⟩,vQ⟩:∃e,ps[i+j]?=some e:=⟨_,ag ae⟩
   replace σ:=σ.tD (k:=4) I vQ
   have J7:zl y<=1000:=zL.es po _ (ah kf)
   have hzz:zl z<=2000+300*i+j:=Ks.es rfl _ (ah vQ)
   have hxy:=JP x y
   refine wp_skip (b5 (wp_seq (wp_block (wp_seq (aI ?_)))))
   revert a
   refine mA I I ?_
   refine sA (v:=.pointer (some ⟨ab A1,ao A1+j*2,none⟩)) I (fun _ η=>m7 (i:=j) η underlying43 (az.size) I I ae I σ.kC.1) ?_
   refine sA (v:=.agg #[.bool (neg y),.slice C (zl y) d]) I (fun _ η=>cX (i:=j) (e:=(C,d,y)) η az I I jV σ.kC.1 ae kf I) ?_
   intro a η
   refine aS I (kQ (c:=#[.bool (neg 0),.slice none (zl 0) 0]) η σ I bA pW ?_)
   clear η σ a; intro a w61 C9 η σ
   refine sv (v:=.int .i64 (j:Nat)) η I (cf η I) ?_
   clear η a; intro a η
   refine aS I (kZ (k:=0) (c':=#[.bool (neg y),.slice C (zl y) d]) η σ (az.size) I I I I fW I I ?_)
   clear η σ a; intro a w62 η σ
   refine wpList_nil (b5 (wp_seq ?_))
   refine sQ (n:=16) (Sk [bk C9 #[.bool (neg y),.slice C (zl y) d] 52,bk sf #[.bool (neg x),.slice A (zl x) c] 52] [DJ E f z,DJ C d y,bH fN FN 2 A0 n0 c0 es0,bH fN FN 2 A1 n1 c1 es1,DJ A c x,dW FN ps] [15] [fc dD 52 2 (cS de) ((n0+n1) - 1) ((n0+n1) - 1) (fl fN ps)]) mixed I η σ ?_
   clear η σ; intro w63 η σ
   refine tM (i:=0) [14,15] I bI (fun _ _ _ h=>h) η I I ?_
   clear η a; intro a η
   refine tM (i:=1) [3,14,15] I bI (fun _ _ _ h=>h) η I I ?_
   clear η a; intro a η
   refine tM (i:=2) [3,14,15] I bI (fun _ _ _ h=>h) η I I ?_
   clear η a; intro a η
   refine tA (i:=3) [14,15] (v:=.int .i64 (i+j:Nat)) I bI (fun _ _ _ h=>h) η I (fun _=>lY η I I (by rw [IntWalk.i64_in _ ae]; omega)) ?_
   clear η a; intro a η
   refine tM (i:=4) [8,9,13,14,15] I bI (fun _ _ _ h=>h) η I I ?_
   clear η a; intro a η
   refine tM (i:=5) [7,8,9,13,14,15] I bI (fun _ _ _ h=>h) η I I ?_
   clear η a; intro a η
   refine tM (i:=6) [7,8,9,13,14,15] I bI (fun _ _ _ h=>h) η I I ?_
   clear η a; intro a η
   refine tA (i:=7) [8,9,13,14,15] (v:=.int .i64 (i+j:Nat)) I bI (fun _ _ _ h=>h) η I (fun _=>lY η I I (by rw [IntWalk.i64_in _ ae]; omega)) ?_
   clear η a; intro a η
   refine kV (i:=8) [9,13,14,15] (fun w'=>(fc dD 52 2 (cS de) ((n0+n1) - 1) ((n0+n1) - 1) (fl fN ps)).P w') (v:=.pointer (some ⟨ab (cS de),ao (cS de)+(i+j)*2,none⟩)) I bI (fun _ _ _ h=>h) (fun _ _ hj hS=>(hS.two I hj).owns (k:=0) I) η I σ.l8 (fun w' hg=>m7 (i:=i+j) η underlying43 (az.size) I I ae I (aZ hg)) ?_
   clear η a; intro a η
   refine kV (i:=9) [13,14,15] (fun w'=>(fc dD 52 2 (cS de) ((n0+n1) - 1) ((n0+n1) - 1) (fl fN ps)).P w') (v:=.agg #[.bool (neg z),.slice E (zl z) f]) I bI (fun _ _ _ h=>h) (fun _ _ hj hS=>(hS.two I hj).owns (k:=0) I) η I σ.l8 (fun w' hg=>cX (i:=i+j) (e:=(E,f,z)) η az I I jV (aZ hg) ae vQ I) ?_
   clear η a; intro a η
   refine tL (i:=10) 1 2 (rg 12 4) I bI (fun _ _ _ h=>h) η I az I σ I I I ?_
   clear η a; intro a η
   refine tL (i:=11) 0 0 (rg 12 4) I bI (fun _ _ _ h=>h) η I az I σ I I I ?_
   clear η a; intro a η
   have avY:=JP x y
   refine qL (i:=12) bI I I (gG η I call97 I (LV (x:=x) (y:=y) (show iY _ A c x from σ.nX) (show iY _ C d y from σ.dw) ae ae) ?_)
   rintro e w68 ⟨_,rfl,⟨A65,c66,rfl,aij⟩,hb⟩
   refine ⟨_,I,?_⟩
   clear η a; intro a η
   replace σ:=(σ.call hb).j8 aij ⟨bV I,bX,bV I,trivial⟩
   clear aij
   clear hb
   refine ⟨.inr ⟨σ.kn.pick [0,2] (rg 1 6),.inr (σ.kn.pick [1] [])⟩,?_⟩
   have av0:=ab2 z (x*y)
   refine qL (i:=13) bI I I (gG η I call63 I (DF (x:=z) (y:=x*y) (show iY _ E f z from σ.dw) (show iY _ A65 c66 (x*y) from σ.bW) ae ae) ?_)
   rintro e w73 ⟨_,rfl,⟨A70,X7,rfl,aik⟩,hb⟩
   refine ⟨_,I,?_⟩
   clear η a; intro a η
   replace σ:=(σ.call hb).j8 aik ⟨bV I,bX,bV I,trivial⟩
   clear aik
   clear hb
   refine ⟨.inr ⟨σ.kn.pick [0,2] (rg 2 6),.inr (σ.kn.pick [1] [])⟩,?_⟩
   refine kV (i:=14) [15] (fun w'=>(fc dD 52 2 (cS de) ((n0+n1) - 1) ((n0+n1) - 1) (fl fN ps)).P w') (v:=.pointer (some ⟨ab (cS de),ao (cS de)+(i+j)*2,none⟩)) I bI (fun _ _ _ h=>h) (fun _ _ hj hS=>(hS.two I hj).owns (k:=0) I) η I σ.l8 (fun w' hg=>m7 (i:=i+j) η underlying43 (az.size) I I ae I (aZ hg)) ?_
   clear η a; intro a η
   refine qL (i:=15) bI I I (yA (i:=i+j) (e:=(A70,X7,(z+(x*y)))) (k:=1) η σ (az.size) I I I I jV ae xE I I I ?_)
   clear η σ a; intro a w74 η σ
   replace σ:=σ.tE (e:=(A70,X7,(z+(x*y)))) (i:=7) (j:=0) I I (i+j)
   refine ⟨.inr ⟨σ.kn.pick [0,2] (rg 3 6),.inl I⟩,?_⟩
   refine u7 bI ?_ _
   refine b5 (aI ?_)
   revert a
   refine mA I I ?_
   refine sA (v:=.int .i64 (p+1:Nat)) I (fun _ η=>lY η I I (by rw [IntWalk.i64_in _ ae]; omega)) ?_
   refine aA I I ?_
   intro a η
   refine wpList_nil (tK (b5 (aI ?_)))
   revert a
   refine sA (v:=.int .i64 (j+1:Nat)) I (fun _ η=>lY η I I (by rw [IntWalk.i64_in _ ae]; omega)) ?_
   refine mA I I ?_
   intro a η
   refine wpList_nil ?_
   exact b5 ⟨_,ae,⟨j+1,p+1,(ps.set (i+j) (A70,X7,(z+(x*y)))),I,η.sub aT,σ.pick [1,2] [5,6,7,0] aB,ae,ae,(X6 JB po kf vQ),(S4 Ks (by have:=M0 z (x*y); have:=JP x y; omega) ae)⟩⟩
  ·obtain rfl:n1=j:=by have:=bP ade; omega
   refine wp_exit (oM (oM (wz (tK (b5 (aI ?_))))))
   revert a
   refine sA (v:=.int .i64 (i+1:Nat)) I (fun _ η=>lY η I I (by rw [IntWalk.i64_in _ ae]; omega)) ?_
   refine mA I I ?_
   intro a η
   refine wpList_nil ?_
   exact b5 ⟨_,ae,⟨i+1,p,ps,I,η.sub aT,σ.pick [0] [0,1,3] aB,ae,(by rw [cG]; omega),(by rw [JB,Qk,hyl,hxi]),(Ks.mono ae)⟩⟩
 ·obtain rfl:n0=i:=by have:=bP Ia; omega
  refine wp_exit (oM (oM (wz (b5 (wp_seq (aI ?_))))))
  revert a
  refine mA I I ?_
  refine mA I I ?_
  refine aA I I ?_
  refine aA I I ?_
  intro a η
  refine wpList_nil (b5 (wp_ret ?_))
  refine leave η (lk results53 (RV.tmp η I) (RV.tmp η I)) ?_
  subst hq
  exact ⟨_,I,⟨_,_,os,I,σ.newRow (k:=0) (j:=2) I I,(by rw [<- aw (f:=zz),ho,tk]),ho⟩,σ.below⟩
def sg (f:Nat->Int):Nat->Int
 | 0=>0
 | n+1=>sg f n+f n
theorem lB {f g:Nat->Int}:∀{n:Nat},(∀i,i<n->f i=g i)->sg f n=sg g n
 | 0,_=>rfl
 | n+1,h=>by rw [sg,sg,lB fun i hi=>h i (km hi),h n (fx n)]
theorem Ew (f g:Nat->Int):∀n,sg (fun i=>f i+g i) n=sg f n+sg g n
 | 0=>rfl
 | n+1=>by rw [sg,sg,sg,Ew f g n]; omega
theorem yv (c:Int) (f:Nat->Int):∀n,sg (fun i=>c*f i) n=c*sg f n
 | 0=>(ef c).symm
 | n+1=>by rw [sg,sg,yv c f n,ke]
theorem X8 (c:Int) (f:Nat->Int) (n:Nat):sg (fun i=>f i*c) n=sg f n*c:=by
 rw [bZ,<- yv]
 exact lB fun i _=>bZ _ _
theorem nh {f:Nat->Int}:∀{n:Nat},(∀i,i<n->f i=0)->sg f n=0
 | 0,_=>rfl
 | n+1,h=>by rw [sg,nh fun i hi=>h i (km hi),h n (fx n)]; rfl
theorem Kt {f:Nat->Int} {j:Nat}:∀{n:Nat},j<n->(∀i,i<n->i≠j->f i=0)->sg f n=f j
 | 0,h,_=>absurd h (dB _)
 | n+1,hj,h=>by
  rcases aV j n with h1 | h1
  ·rw [sg,Kt h1 fun i hi=>h i (km hi),h n (fx n) ae,gN]
  ·obtain rfl:j=n:=ae
   rw [sg,nh fun i hi=>h i (km hi) ae,Int.zero_add]
theorem Av {f:Nat->Int} {n:Nat}:∀{m:Nat},n<=m->(∀i,n<=i->i<m->f i=0)->sg f m=sg f n
 | 0,h,_=>by rw [Nat.le_zero.1 h]
 | m+1,h,h0=>by
  rcases aV n (m+1) with h1 | h1
  ·rw [sg,Av ae fun i a b=>h0 i a (km b),h0 m ae (fx m),gN]
  ·obtain rfl:n=m+1:=ae
   rfl
theorem Cg (f:Nat->Int):∀n,sg f (n+1)=f 0+sg (fun i=>f (i+1)) n
 | 0=>by simp [sg]
 | n+1=>by rw [sg,Cg f n,sg]; omega
theorem S5:∀(n:Nat) (f:Nat->Int),sg f (n+1)=sg (fun i=>f (n - i)) (n+1)
 | 0,_=>rfl
 | n+1,f=>by
  rw [sg,S5 n f,Cg (fun i=>f (n+1 - i)),Int.add_comm]
  congr 1
  exact lB fun i _=>by rw [show n+1 - (i+1)=n - i by omega]
abbrev co (xs:List Int) (k:Nat):Int:=xs.getD k 0
theorem kP (h:xs.length<=k):co xs k=0:=by
 rw [co,aj,bg h]; rfl
theorem E8 (hl:xs.length=ys.length) (h:∀k,co xs k=co ys k):xs=ys:=by
 apply dG
 intro k
 rcases aV k xs.length with h1 | h1
 ·have:=h k
  rw [co,co,aj,aj,ag h1,ag ae] at this
  rw [ag h1,ag ae]
  exact aq some this
 ·rw [bg h1,bg ae]
theorem S6 (h:k<n):co ((List.range n).map f) k=f k:=by
 rw [co,aj,ay,bN h]; rfl
theorem X9 (xs:List Int) (c:Int) (k:Nat):co (xs.map (c*·)) k=c*co xs k:=by
 rw [co,co,aj,aj,ay]
 cases xs[k]? with
 | none=>exact (ef c).symm
 | some x=>rfl
theorem adg (l:List Int) (p k:Nat) (v:Int):co (l.set p v) k=if p=k/\k<l.length then v else co l k:=by
 rw [co,co,aj,aj,gy]
 by_cases h:p=k
 ·subst h
  by_cases h1:p<l.length
  ·simp [h1]
  ·simp [h1]
 ·simp [h]
theorem M1 (zs:List Int) (p:Nat) (l:List Int) (k:Nat):∀j,co (E7 zs p l j) k=co l k+if p<=k/\k<p+j/\k<l.length then co zs (k - p) else 0
 | 0=>by rw [E7,ak ae,gN]
 | j+1=>by
  rw [E7,adg,vv]
  by_cases h:p+j=k/\k<l.length
  ·obtain ⟨rfl,h2⟩:=h
   rw [au ⟨rfl,h2⟩,au ⟨by omega,by omega,h2⟩]
   have:=M1 zs p l (p+j) j
   rw [ak ae,gN] at this
   rw [show p+j - p=j by omega,<- this]
  ·rw [ak h,M1 zs p l k j]
   congr 1
   by_cases h1:p<=k/\k<p+j/\k<l.length
   ·rw [au h1,au ⟨h1.1,by omega,h1.2.2⟩]
   ·rw [ak h1,ak ae]
def cv (f g:Nat->Int) (k:Nat):Int:=sg (fun i=>f i*g (k - i)) (k+1)
theorem aa1 (xs ys:List Int) (N k:Nat) (hk:k<N):∀i,co (Qk xs ys N i) k=sg (fun t=>if t<=k then co xs t*co ys (k - t) else 0) i
 | 0=>by
  rw [Qk,sg,co,aj,cK,au hk]
  rfl
 | i+1=>by
  rw [Qk,M1,aa1 xs ys N k hk i,sg,tk]
  congr 1
  by_cases h:i<=k
  ·rw [au h]
   by_cases h2:k<i+ys.length
   ·rw [au ⟨h,h2,hk⟩,X9]
   ·rw [ak ae,kP (xs:=ys) ae,ef]
  ·rw [ak h,ak ae]
def ni (xs ys:List Int):List Int:=if xs.length=0∨ys.length=0 then [] else Qk xs ys (xs.length+ys.length - 1) xs.length
theorem Ch (h:0<xs.length) (h':0<ys.length):(ni xs ys).length=xs.length+ys.length - 1:=by
 rw [ni,ak ae,tk]
theorem Ku (h:xs.length+ys.length<=k+1):cv (co xs) (co ys) k=0:=nh fun i hi=>by
 rcases aV i xs.length with h1 | h1
 ·show co xs i*co ys (k - i)=0
  rw [kP (xs:=ys) ae,ef]
 ·show co xs i*co ys (k - i)=0
  rw [kP h1,dh]
theorem X' (h:xs.length=0∨ys.length=0) (k:Nat):cv (co xs) (co ys) k=0:=nh fun i hi=>by
 show co xs i*co ys (k - i)=0
 rcases h with h | h
 ·rw [kP ae,dh]
 ·rw [kP (xs:=ys) ae,ef]
theorem Ci (xs ys:List Int) (k:Nat):co (ni xs ys) k=cv (co xs) (co ys) k:=by
 unfold ni
 by_cases h:xs.length=0∨ys.length=0
 ·rw [au h,X' h]; rfl
 ·rw [ak h]
  rcases aV k (xs.length+ys.length - 1) with hk | hk
  ·rw [aa1 xs ys _ k hk]
   unfold cv
   rcases Nat.le_total xs.length (k+1) with h1 | h1
   ·rw [Av h1 fun i a _=>by show co xs i*_=0; rw [kP a,dh]]
    exact lB fun i hi=>au ae
   ·rw [Av h1 fun i a _=>ak ae]
    exact lB fun i hi=>au ae
  ·rw [Ku ae,kP (by rw [tk]; omega)]
theorem vw (f g:Nat->Int) (k:Nat):cv f g k=cv g f k:=by
 unfold cv
 rw [S5]
 exact lB fun i hi=>by
  show f (k - i)*g (k - (k - i))=g i*f (k - i)
  rw [show k - (k - i)=i by omega,bZ]
theorem S7 {g g':Nat->Int} (h:∀i,f i=f' i) (h':∀i,g i=g' i) (k:Nat):cv f g k=cv f' g' k:=by
 rw [funext h,funext h']
def anz (xs ys:List Int):List Int:=(List.range (max xs.length ys.length)).map (anw xs ys)
def anA (xs ys:List Int) (i:Nat):Int:=xs.getD i 0 - ys.getD i 0
def av2 (xs ys:List Int):List Int:=(List.range (max xs.length ys.length)).map (anA xs ys)
theorem Ya (xs:List Int):qq xs<=xs.length:=by
 unfold qq
 refine aD (List.dropWhile_sublist _).length_le ?_
 rw [iL]
 exact ar _
theorem adh {x:Int} (h:k<xs.length):co (xs++[x]) k=co xs k:=by
 rw [co,co,aj,aj,bQ h]
theorem M3 (xs:List Int) (x:Int):co (xs++[x]) xs.length=x:=by
 rw [co,aj,bU (ar _),eH]; rfl
theorem Ib (xs:List Int) (k:Nat):co (xs++[0]) k=co xs k:=by
 rcases aV k xs.length with h | h
 ·exact adh h
 ·rcases aV xs.length k with h1 | h1
  ·rw [kP (by rw [ai]; simp; omega),kP h]
  ·obtain rfl:k=xs.length:=ae
   rw [M3,kP (ar _)]
theorem Yb:∀(m:Nat) (xs:List Int),xs.length=m->∀n,qq xs<=n↔∀k,n<=k->co xs k=0:=by
 intro m
 induction m with
 | zero=>
  intro xs hl n
  obtain rfl:=dc hl
  exact ⟨fun _ k _=>I,fun _=>av _⟩
 | succ m ih=>
  intro xs hl n
  rcases List.eq_nil_or_concat xs with rfl | ⟨l,x,rfl⟩
  ·cases hl
  ·rw [List.concat_eq_append] at hl ⊢
   rw [ai] at hl
   have mr:l.length=m:=by simpa using hl
   by_cases hx:x=0
   ·subst hx
    rw [DZ,ih l mr]
    exact ⟨fun h k hk=>(Ib l k).trans (h k hk),fun h k hk=>(Ib l k).symm.trans (h k hk)⟩
   ·rw [H9 hx]
    refine ⟨fun h k hk=>kP (by rw [ai]; simp; omega),fun h=>?_⟩
    refine Nat.lt_of_not_le fun h1=>hx ?_
    rw [<- M3 l x]
    exact h _ h1
theorem vA (xs:List Int) (n:Nat):qq xs<=n↔∀k,n<=k->co xs k=0:=Yb _ xs rfl n
def D0 (xs:List Int):List Int:=xs.take (qq xs)
theorem Cj (xs:List Int):(D0 xs).length=qq xs:=by
 rw [D0,bJ]
 exact cW (Ya xs)
theorem AA (xs:List Int) (k:Nat):co (D0 xs) k=co xs k:=by
 rcases aV k (qq xs) with h | h
 ·rw [co,co,aj,aj,D0,eM h]
 ·rw [kP (by rw [Cj]; exact h),(vA xs (qq xs)).1 (ar _) k h]
theorem Er:D0 xs=D0 ys↔∀k,co xs k=co ys k:=by
 constructor
 ·intro h k
  rw [<- AA xs,<- AA ys,h]
 ·intro h
  have e:qq xs=qq ys:=Nat.le_antisymm ((vA _ _).2 fun k hk=>(h k).trans ((vA _ _).1 (ar _) k hk)) ((vA _ _).2 fun k hk=>(h k).symm.trans ((vA _ _).1 (ar _) k hk))
  exact E8 (by rw [Cj,Cj,e]) fun k=>by rw [AA,AA,h]
def xD (a b:Int):List Int->Int
 | []=>0
 | x::xs=>xD a b xs*a+x*b ^ xs.length
def yl (n:Int):Prop:=-16<=n/\n<=16
instance (n:Int):Decidable (yl n):=by unfold yl; infer_instance
def Tp (p:Pt):List Value:=[aG p.1,aG p.2]
def FPt (_:Pt):PF:=kF
theorem iX (p:Pt):(Tp p).length=2:=rfl
theorem Kx:G5 prog 61 2:=⟨by kernel_rfl,by kernel_rfl,by kernel_rfl,by kernel_rfl,by kernel_rfl⟩
theorem lJ {m n:Int} (h:-1000000000<=m/\m<=1000000000):IntKind.i64.wrap (m.tdiv n)=m.tdiv n:=by
 have:(m.tdiv n).natAbs<=m.natAbs:=by rw [Int.natAbs_tdiv]; exact jc ..
 exact IntWalk.i64_in _ ae
theorem O' (x y:Int):kT y (x.tmod y)=kT x y:=by
 show ((Nat.gcd y.natAbs (x.tmod y).natAbs:Nat):Int)=((Nat.gcd x.natAbs y.natAbs:Nat):Int)
 rw [Int.natAbs_tmod,Nat.gcd_comm y.natAbs,<- Nat.gcd_rec,Nat.gcd_comm]
theorem gcd_zero (x:Int):kT x 0=((x.natAbs:Nat):Int):=by unfold kT; rw [Int.gcd_zero_right]
theorem Yg (x:Int) (h:y≠0):(x.tmod y).natAbs<y.natAbs:=by
 rw [Int.natAbs_tmod]; exact dF _ ae
theorem Tq (a b:Int) (h1:-16<=a) (h2:a<=16) (h3:-16<=b) (h4:b<=16):0<=kT a b/\kT a b<=16:=by
 unfold kT
 refine ⟨by omega,?_⟩
 rcases bu a.natAbs with h | h
 ·obtain rfl:a=0:=ae
  rw [Int.gcd_zero_left]; omega
 ·have:=Nat.le_of_dvd h (Nat.gcd_dvd_left a.natAbs b.natAbs)
  have e:Int.gcd a b=Nat.gcd a.natAbs b.natAbs:=rfl
  omega
theorem RS (h:¬(a=0/\b=0)):kT a b≠0:=fun e=>h (by
 unfold kT at e
 have:=Int.gcd_eq_zero_iff.1 (show Int.gcd a b=0 by omega)
 exact this)
def Kz (p:Pt):Int:=if p.2<0∨(p.2=0/\p.1<0) then -(kT p.1 p.2) else kT p.1 p.2
def p9 (p:Pt):Pt:=if kT p.1 p.2=0 then p else (p.1.tdiv (Kz p),p.2.tdiv (Kz p))
theorem Pa (p q:Pt):[p.1,p.2]=[q.1,q.2]↔p=q:=by
 obtain ⟨a,b⟩:=p
 obtain ⟨c,d⟩:=q
 simp
def wa (l:List Pt):Prop:=∃(i j:Nat) (p q:Pt),i<j/\l[i]?=some p/\l[j]?=some q/\p9 p=p9 q
theorem Yh {es:List Pt} {e:Pt} (h:∀(x y:Nat) (p q:Pt),x<y->y<j->es[x]?=some p->es[y]?=some q->p9 p≠p9 q) (hn:∀(x:Nat) (p:Pt),x<j->es[x]?=some p->p9 p≠p9 e) (he:es[j]?=some e):
  ∀(x y:Nat) (p q:Pt),x<y->y<j+1->es[x]?=some p->es[y]?=some q->p9 p≠p9 q:=fun x y p q h1 h2 h3 h4=>by
 rcases aV y j with c | c
 ·exact h x y p q h1 c h3 h4
 ·obtain rfl:y=j:=ae
  rw [he] at h4
  cases h4
  exact hn x p h1 h3
theorem Yi {es:List Pt} {e f:Pt} (h:∀(x:Nat) (p:Pt),x<m->es[x]?=some p->p9 p≠p9 e) (hf:es[m]?=some f) (u5:¬p9 f=p9 e):∀(x:Nat) (p:Pt),x<m+1->es[x]?=some p->p9 p≠p9 e:=fun x p h1 h2=>by
 rcases aV x m with c | c
 ·exact h x p c h2
 ·obtain rfl:x=m:=ae
  rw [hf] at h2
  cases h2
  exact u5
theorem Tr:∀u,u<17->∀j,j<2->yH[2*u+j]?=some (tH ((u:Nat):Int) (-((u:Nat):Int)) j):=by decide+kernel
theorem Yj {u:Nat} (hu:u<17) (hj:j<2):yH[2*u+j]?=some (tH ((u:Nat):Int) (-((u:Nat):Int)) j):=Tr u hu j hj
theorem adr {u:Nat} (hu:u<=16):-16<=tH ((u:Nat):Int) (-((u:Nat):Int)) j/\tH ((u:Nat):Int) (-((u:Nat):Int)) j<=16:=by
 unfold tH; split<;>omega
theorem Yk {g:Int} (h:∀(x:Nat),x<k->∀s,yH[x]?=some s->¬(g - s*a).tmod b=0) (hc:yH[k]?=some s) (hn:¬(g - s*a).tmod b=0):∀(x:Nat),x<k+1->∀s,yH[x]?=some s->¬(g - s*a).tmod b=0:=fun x h1 s' h2=>by
 rcases aV x k with c | c
 ·exact h x c s' h2
 ·obtain rfl:x=k:=ae
  rw [hc] at h2
  cases h2
  exact hn
theorem Yl {p:Int->Bool}:∀{k:Nat} {s:Int},(∀x,x<k->∀s,l[x]?=some s->p s=false)->l[k]?=some s->p s=true->l.find? p=some s:=by
 induction l with
 | nil=>intro k s _ h; cases h
 | cons a l ih=>
  intro k s h1 h2 h3
  cases k with
  | zero=>cases h2; rw [List.find?_cons_of_pos h3]
  | succ k=>
   rw [List.find?_cons_of_neg (by rw [h1 0 ae a rfl]; decide)]
   exact ih (fun x hx s hs=>h1 (x+1) ae s hs) h2 h3
theorem aip (hg:kT a b≠0) (hb:b≠0) (h:∀(x:Nat),x<k->∀s,yH[x]?=some s->¬(kT a b - s*a).tmod b=0) (hc:yH[k]?=some s) (hz:(kT a b - s*a).tmod b=0):bz (a,b)=(kT a b,s,(kT a b - s*a).tdiv b):=by
 unfold bz
 dsimp only
 rw [ak hg,ak hb,Yl (fun x hx s hs=>aC (h x hx s hs)) hc (a8 hz)]
def aiq (a b:Int):Bool:=decide (b=0) || yH.any fun s=>decide ((kT a b - s*a).tmod b=0)
theorem ads:∀a:Fin 33,∀b:Fin 33,aiq ((a.1:Int) - 16) ((b.1:Int) - 16)=true:=by decide+kernel
theorem Ym {u:Nat} (h1:-16<=a/\a<=16) (h2:-16<=b/\b<=16) (hb:b≠0) (h:∀(x:Nat),x<2*u+2->∀s,yH[x]?=some s->¬(kT a b - s*a).tmod b=0) (hu:u<=16):u<16:=by
 rcases aV u 16 with c | c
 ·exact c
 ·exfalso
  have hq:=ads ⟨(a+16).toNat,by omega⟩ ⟨(b+16).toNat,by omega⟩
  dsimp only at hq
  rw [show (((a+16).toNat:Nat):Int) - 16=a by omega,show (((b+16).toNat:Nat):Int) - 16=b by omega] at hq
  unfold aiq at hq
  rw [aC hb,Bool.false_or] at hq
  obtain ⟨s,hs,hz⟩:=List.any_eq_true.1 hq
  obtain ⟨x,hx⟩:=dO hs
  have JL:=(aE.1 hx).1
  have:yH.length=34:=by decide
  exact h x ae s hx (aN hz)
section
variable {N:Nat} {dq:List Deferred} {a:Act} {l:List (Nat×Value)} {w:World} {d:Nat} {ty:TypeId} {pos:String} {af:Array Edge} {gd:Option (Nat×Bool)}
theorem xU {w1:World} {x y:Operand} {E c c' z p:Nat} {vs:List Value} {k:IntKind} (h:b7 dq N a l) (hT:P.underlying T=some (.slice E)) (hE:∃j,P.info? E=some j/\j.size=z) (hx:eB l x=some (.slice A m c')) (hy:eB l y=some (.int k (i:Nat))) (hi:i<m) (hn:0<n) (hp:i*z=p) (hr:Rd z w1 A n c vs):
  (execOp a.eval ⟨some d,.indexAddr T x y,ty,pos,af,gd⟩).run P w=.ok (.value (.pointer (some ⟨Go.Proofs.YtgopcdagnicekaaGreatDoor.ab A,ao A+p,none⟩))) w:=by
 subst hp
 exact oo h hT hE (hx.trans (by rw [<- hr.ab hn])) hy hi
end
theorem D2 {n:Int}:
  Calls prog 109 #[aG n] w0 fun e w'=>e=.returned (.bool (decide (yl n)))/\Below w0.heap.size w0 w':=by
 refine gQ func109 I ntmps109 I fun σ=>xo I<|wD (fun lC=>?_) fun lC=>?_
 ·exact Dn I<|o1 results109 I<|⟨aq (fun b=>Ending.returned (Value.bool b)) (gW.2 (by unfold yl at*; omega)),σ.below⟩
 ·exact o1 results109 I<|⟨by rw [aC fun h=>by unfold yl at*; omega],σ.below⟩
theorem wb:
  Calls prog 69 #[.agg #[aG pa,aG pb]] w0 fun e w'=>e=.returned (.bool (decide (yl pa/\yl pb)))/\Below w0.heap.size w0 w':=by
 refine gQ func69 I ntmps69 I fun σ=>eE I<|ll σ I fun _ de σ=>lE 0 σ I<|eE I<|gV call109 (D2) σ I fun _ σ=>wD (fun mX=>?_) fun mX=>?_
 ·exact lE 0 σ I<|eE I<|gV call109 (D2) σ I fun _ σ=>o1 results69 I<|⟨aq (fun b=>Ending.returned (Value.bool b)) (gW.2 (by unfold yl at*; omega)),σ.below⟩
 ·exact o1 results69 I<|⟨by rw [aC fun h=>by unfold yl at*; omega],σ.below⟩
theorem M9:
  Calls prog 71 #[.agg #[aG pa,aG pb]] w0 fun e w'=>e=.returned (.bool (decide ([pa,pb]=[(0:Int),0])))/\Below w0.heap.size w0 w':=by
 exact gQ func71 I ntmps71 I fun σ=>eE I<|ll σ I fun _ de σ=>gE 0 σ I<|vE I (fun η=>eV iO η I I)<|vE I (fun η=>EH [pa,pb] [(0:Int),(0:Int)] η Kx I I I I)<|o1 results71 I<|⟨I,σ.below⟩
theorem Pb {n:Int} (h1:-1000000<=n) (h2:n<=1000000):
  Calls prog 224 #[aG n] w0 fun e w'=>e=.returned (aM n.natAbs)/\Below w0.heap.size w0 w':=by
 refine gQ func224 I ntmps224 I fun σ=>il I<|wD (fun lC=>?_) fun lC=>?_
 ·exact iT I I<|Ye I ae<|o1 results224 I<|⟨aq (fun k=>Ending.returned (aG k)) ae,σ.below⟩
 ·exact iF I I<|o1 results224 I<|⟨aq (fun k=>Ending.returned (aG k)) ae,σ.below⟩
theorem D3 {m n:Int} (h1:-1000000<=m) (h2:m<=1000000) (h3:-1000000<=n) (h4:n<=1000000):
  Calls prog 190 #[aG m,aG n] w0 fun e w'=>e=.returned (aG (kT m n))/\Below w0.heap.size w0 w':=by
 refine gQ func190 I ntmps190 I fun σ=>ks (fun mz l w=>∃x:Int,∃y:Int,y.natAbs=mz/\l=[(0,aG x),(1,aG y)]/\St w0 w [] []/\kT x y=kT m n/\(-1000000<=x/\x<=1000000)/\(-1000000<=y/\y<=1000000)) ⟨m,n,I,I,σ,I,⟨h1,h2⟩,⟨h3,h4⟩⟩ aT ?_
 rintro _ _ _ ⟨x,y,rfl,rfl,σ,hg,hx,hyb⟩
 refine lK I<|wN (fun lC=>?_) fun lC=>?_
 ·have hmb:=Yg x lC
  exact iT I I<|lj [] [0,4,8,12,16,20] bI σ fun _ σ=>vE I (fun η=>uu η I I ae I)<|gI ⟨y,(x.tmod y),I,I,σ,((O' x y).trans hg),hyb,ae⟩ aT ae
 ·have hgf:((x.natAbs:Nat):Int)=kT m n:=by rw [<- hg,lC]; exact (gcd_zero x).symm
  exact iF I I<|eE I<|gV call224 (Pb ae ae) σ I fun _ σ=>o1 results190 I<|⟨aq (fun k=>Ending.returned (aG k)) hgf,σ.below⟩
theorem M' (hp:pU (pa,pb)):
  Calls prog 156 #[.agg #[aG pa,aG pb]] w0 fun e w'=>e=.returned (.agg #[aG (p9 (pa,pb)).1,aG (p9 (pa,pb)).2])/\Below w0.heap.size w0 w':=by
 obtain ⟨⟨b1,b2⟩,b3,b4⟩:=hp
 dsimp only at b1 b2 b3 b4
 have hgb:=Tq pa pb ae ae ae ae
 refine gQ func156 I ntmps156 I fun σ=>eE I<|ll σ I fun _ de σ=>eE I<|iR b6 σ I fun _ eQ σ=>lE 1 σ I<|lE 1 σ I<|eE I<|gV call190 (D3 (m:=pa) (n:=pb) ae ae ae ae) σ I fun _ σ=>gj I<|wQ (fun oL=>?_) fun oL=>?_
 ·exact iT I I<|gE 1 σ I<|eE I<|fB 0 σ I fun _ σ=>oR (fun e=>iJ results156 (RV.cell e aO I σ.gq I))<|⟨by unfold p9 Kz; dsimp only; first | (rw [au ae]; done) | (rw [ak ae,au ae]; done) | (rw [ak ae,ak ae]; done),σ.below⟩
 ·refine iF I I<|lE 1 σ I<|il I<|wD (fun rP=>?_) fun rP=>?_
  ·exact iT I I<|iT I I<|Ye I ae<|lj [9] [0,5,8,12,16,21,24,28,32,38] bI σ fun _ σ=>lS 1 I<|vE I (fun η=>nP (m:=pa) (n:=(-(kT pa pb))) η I I ae (lJ ae))<|lS 1 I<|vE I (fun η=>nP (m:=pb) (n:=(-(kT pa pb))) η I I ae (lJ ae))<|vE I (fun η=>eV (c:=#[aG (pa.tdiv (-(kT pa pb))),aG (pb.tdiv (-(kT pa pb)))]) iO η I I)<|eS I<|fB 0 σ I fun _ σ=>sz I<|oR (fun e=>iJ results156 (RV.cell e aO I σ.gq I))<|⟨by unfold p9 Kz; dsimp only; first | (rw [au ae]; done) | (rw [ak ae,au ae]; done) | (rw [ak ae,ak ae]; done),σ.below⟩
  ·refine iF I I<|lE 1 σ I<|gj I<|wQ (fun sI=>?_) fun sI=>?_
   ·refine lE 1 σ I<|il I<|wD (fun wU=>?_) fun wU=>?_
    ·exact iT I I<|Ye I ae<|lj [9] [0,5,8,12,16,21,24,28,32,38] bI σ fun _ σ=>lS 1 I<|vE I (fun η=>nP (m:=pa) (n:=(-(kT pa pb))) η I I ae (lJ ae))<|lS 1 I<|vE I (fun η=>nP (m:=pb) (n:=(-(kT pa pb))) η I I ae (lJ ae))<|vE I (fun η=>eV (c:=#[aG (pa.tdiv (-(kT pa pb))),aG (pb.tdiv (-(kT pa pb)))]) iO η I I)<|eS I<|fB 0 σ I fun _ σ=>sz I<|oR (fun e=>iJ results156 (RV.cell e aO I σ.gq I))<|⟨by unfold p9 Kz; dsimp only; first | (rw [au ae]; done) | (rw [ak ae,au ae]; done) | (rw [ak ae,ak ae]; done),σ.below⟩
    ·exact iF I I<|lj [9] [0,5,8,12,16,21,24,28,32,38] bI σ fun _ σ=>lS 1 I<|vE I (fun η=>nP (m:=pa) (n:=(kT pa pb)) η I I ae (lJ ae))<|lS 1 I<|vE I (fun η=>nP (m:=pb) (n:=(kT pa pb)) η I I ae (lJ ae))<|vE I (fun η=>eV (c:=#[aG (pa.tdiv (kT pa pb)),aG (pb.tdiv (kT pa pb))]) iO η I I)<|eS I<|fB 0 σ I fun _ σ=>sz I<|oR (fun e=>iJ results156 (RV.cell e aO I σ.gq I))<|⟨by unfold p9 Kz; dsimp only; first | (rw [au ae]; done) | (rw [ak ae,au ae]; done) | (rw [ak ae,ak ae]; done),σ.below⟩
   ·exact iF I I<|lj [9] [0,5,8,12,16,21,24,28,32,38] bI σ fun _ σ=>lS 1 I<|vE I (fun η=>nP (m:=pa) (n:=(kT pa pb)) η I I ae (lJ ae))<|lS 1 I<|vE I (fun η=>nP (m:=pb) (n:=(kT pa pb)) η I I ae (lJ ae))<|vE I (fun η=>eV (c:=#[aG (pa.tdiv (kT pa pb)),aG (pb.tdiv (kT pa pb))]) iO η I I)<|eS I<|fB 0 σ I fun _ σ=>sz I<|oR (fun e=>iJ results156 (RV.cell e aO I σ.gq I))<|⟨by unfold p9 Kz; dsimp only; first | (rw [au ae]; done) | (rw [ak ae,au ae]; done) | (rw [ak ae,ak ae]; done),σ.below⟩
theorem adu (hp:pU (pa,pb)) (hq:pU (qa,qb)):
  Calls prog 111 #[.agg #[aG pa,aG pb],.agg #[aG qa,aG qb]] w0 fun e w'=>e=.returned (.tuple #[.bool (decide (p9 (pa,pb)=p9 (qa,qb))),aG 0])/\Below w0.heap.size w0 w':=by
 exact gQ func111 I ntmps111 I fun σ=>eE I<|ll σ I fun _ de σ=>eE I<|ll σ I fun _ eQ σ=>gE 1 σ I<|eE I<|gV call69 (wb) σ I fun _ σ=>kB (b':=true) (a8 (show yl pa/\yl pb from hp))<|gE 0 σ I<|eE I<|gV call69 (wb) σ I fun _ σ=>kB (b':=true) (a8 (show yl qa/\yl qb from hq))<|iF I I<|lj [] [1,9,6,14,16,20,24] bI σ fun _ σ=>gS 1 I<|gS 0 I<|eS I<|gV call156 (M' hp) σ I fun _ σ=>sk σ.kn<|eS I<|gV call156 (M' hq) σ I fun _ σ=>sk σ.kn<|vE I (fun η=>EH [(p9 (pa,pb)).1,(p9 (pa,pb)).2] [(p9 (qa,qb)).1,(p9 (qa,qb)).2] η Kx I I I I)<|o2 results111 I<|⟨by rw [gW.2 (Pa _ _)],σ.below⟩
theorem adv (hp:pU (pa,pb)) (hq:pU (qa,qb)):
  Calls prog 205 #[.agg #[aG pa,aG pb],.agg #[aG qa,aG qb]] w0 fun e w'=>e=.returned (.tuple #[aG (pa*qb - qa*pb),aG 0])/\Below w0.heap.size w0 w':=by
 have m1:=tg hp.1 hq.2
 have m2:=tg hq.1 hp.2
 dsimp only at m1 m2
 exact gQ func205 I ntmps205 I fun σ=>eE I<|ll σ I fun _ de σ=>eE I<|ll σ I fun _ eQ σ=>gE 1 σ I<|eE I<|gV call69 (wb) σ I fun _ σ=>kB (b':=true) (a8 (show yl pa/\yl pb from hp))<|gE 0 σ I<|eE I<|gV call69 (wb) σ I fun _ σ=>kB (b':=true) (a8 (show yl qa/\yl qb from hq))<|iF I I<|lE 1 σ I<|lE 0 σ I<|ym I ae<|lE 0 σ I<|lE 1 σ I<|ym I ae<|xq I ae<|o2 results205 I<|⟨I,σ.below⟩
theorem Iq {es0:List Pt} (h0:(bH Tp FPt 2 A0 n0 c0 es0).P w0) (nz:∀p∈es0,pU p):
  Calls prog 72 #[.slice A0 n0 c0] w0 fun e w'=>∃(x y:Int) (t:Bool),e=.returned (.tuple #[aG x,aG y,.bool t])/\(t=true↔wa es0)/\Below w0.heap.size w0 w':=by
 refine gQ func72 I ntmps72 I fun σ=>?_
 have cQ:=h0.2.1
 have lu:=h0.1.cap
 have eN:=h0.1.big
 unfold maxLen at eN
 replace σ:=σ.aY h0
 refine ks (fun mz l w=>∃j:Nat,n0 - j=mz/\l=[(13,aM j),(0,.slice A0 n0 c0),(11,.slice A0 n0 c0),(12,aM n0)]/\St w0 w [] [bH Tp FPt 2 A0 n0 c0 es0]/\j<=n0/\(∀(x y:Nat) (p q:Pt),x<y->y<j->es0[x]?=some p->es0[y]?=some q->p9 p≠p9 q)) ⟨0,I,I,σ,(av _),(fun _ _ _ _ _ h=>absurd h (dB _))⟩ aT ?_
 rintro _ _ _ ⟨j,rfl,rfl,σ,hj,v7⟩
 refine il I<|wD (fun lC=>?_) fun lC=>?_
 ·have fh:j<n0:=ae
  obtain ⟨⟨pa,pb⟩,eG⟩:∃e,es0[j]?=some e:=⟨_,ag ae⟩
  refine iT I I<|vE I (fun η=>aX (i:=j) η underlying22 (aO.size) I I ae I σ.bW.1)<|cE I (fun η=>cX (i:=j) (e:=(pa,pb)) η aO I I iX σ.bW.1 ae eG I)<|eE I<|iR b6 σ I fun _ eQ σ=>eE I<|fB 0 σ I fun _ σ=>vE I (fun η=>mR (m:=j) η underlying22 (aO.size) I I ae)<|ks (fun mz l w=>∃m:Nat,j - m=mz/\l=[(22,aM m),(0,.slice A0 n0 c0),(5,aM j),(6,cY eQ),(11,.slice A0 n0 c0),(12,aM n0),(13,aM j),(20,.slice A0 j c0),(21,aM j)]/\St w0 w [bk eQ #[aG pa,aG pb] 61] [bH Tp FPt 2 A0 n0 c0 es0]/\m<=j/\(∀(x:Nat) (p:Pt),x<m->es0[x]?=some p->p9 p≠p9 (pa,pb))) ⟨0,I,I,σ,(av _),(fun _ _ h=>absurd h (dB _))⟩ aT ?_
  rintro _ _ _ ⟨m,rfl,rfl,σ,hm,hni⟩
  refine il I<|wD (fun oL=>?_) fun oL=>?_
  ·have WR:m<j:=ae
   obtain ⟨⟨qa,qb⟩,kf⟩:∃e,es0[m]?=some e:=⟨_,ag ae⟩
   refine iT I I<|vE I (fun η=>xU (i:=m) η underlying22 (aO.size) I I ae ae I σ.bW.1)<|cE I (fun η=>cX (i:=m) (e:=(qa,qb)) η aO I I iX σ.bW.1 ae kf I)<|eE I<|iR b6 σ I fun _ jY σ=>eE I<|fB 0 σ I fun _ σ=>gE 0 σ I<|gE 1 σ I<|eE I<|gV call111 (adu (nz _ (ah kf)) (nz _ (ah eG))) σ I fun _ σ=>dE I (fun sI=>?_) fun sI=>?_
   ·exact o3 results72 I<|⟨_,_,_,I,⟨fun _=>⟨_,_,_,_,WR,kf,eG,sI⟩,fun _=>I⟩,σ.below⟩
   ·exact can (j:=1) I ae<|gI ⟨m+1,I,I,σ.pick [1] [0] aB,ae,(Yi hni kf sI)⟩ aT ae
  ·obtain rfl:j=m:=ae
   exact iF I I<|can (j:=1) I ae<|gI ⟨j+1,I,I,σ.pick [] [0] aB,ae,(Yh v7 hni eG)⟩ aT ae
 ·obtain rfl:j=n0:=ae
  exact iF I I<|o3 results72 I<|⟨_,_,_,I,⟨fun h=>(by cases h),fun ⟨x,y,p,q,h1,h2,h3,h4⟩=>absurd h4 (v7 x y p q h1 (by have:=(aE.1 h3).1; omega) h2 h3)⟩,σ.below⟩
theorem yJ (hp:pU (pa,pb)) (Pc:¬(pa=0/\pb=0)):
  Calls prog 174 #[.agg #[aG pa,aG pb]] w0 fun e w'=>e=.returned (.tuple #[aG (bz (pa,pb)).1,aG (bz (pa,pb)).2.1,aG (bz (pa,pb)).2.2,aG 0])/\Below w0.heap.size w0 w':=by
 have hp9:=hp
 obtain ⟨⟨b1,b2⟩,b3,b4⟩:=hp9
 dsimp only at b1 b2 b3 b4
 have hgb:=Tq pa pb ae ae ae ae
 have OE:=RS Pc
 refine gQ func174 I ntmps174 I fun σ=>eE I<|ll σ I fun _ de σ=>lE 0 σ I<|lE 0 σ I<|eE I<|gV call190 (D3 (m:=pa) (n:=pb) ae ae ae ae) σ I fun _ σ=>gE 0 σ I<|eE I<|gV call69 (wb (pa:=pa) (pb:=pb)) σ I fun _ σ=>kB (b':=true) (a8 (show yl pa/\yl pb from hp))<|iF I I<|gj I<|kB (b':=false) (du.2 OE)<|iF I I<|lE 0 σ I<|gj I<|wQ (fun mX=>?_) fun mX=>?_
 ·have L2:=mX
  exact iT I I<|lj [] [0,4,9,12,16,20,24,28,32] bI σ fun _ σ=>lS 0 I<|vE I (fun η=>nP (m:=pa) (n:=(kT pa pb)) η I I OE (lJ ae))<|oR (fun e=>ahz results174 (RV.tmp e I) (RV.tmp e I) (RV.tmp e I) (RV.tmp e I))<|⟨by unfold bz; dsimp only; rw [ak OE,au L2],σ.below⟩
 ·have L2:=mX
  refine iF I I<|ks (fun mz l w=>∃u:Nat,17 - u=mz/\l=[(7,aM u),(1,cY de),(6,aG (kT pa pb))]/\St w0 w [bk de #[aG pa,aG pb] 61] []/\u<=16/\(∀(x:Nat),x<2*u->∀s,yH[x]?=some s->¬(kT pa pb - s*pa).tmod pb=0)) ⟨0,I,I,σ,aB,(fun _ h=>absurd h ae)⟩ aT ?_
  rintro _ _ _ ⟨u,rfl,rfl,σ,hu,Gu⟩
  refine Ye I ae<|vE I (fun η=>xO η underlying231 (bn.size) pG I I)<|ks (fun mz l w=>∃j:Nat,2 - j=mz/\l=[(37,aM j),(1,cY de),(6,aG (kT pa pb)),(7,aM u),(36,.agg #[aM u,aG (-((u:Nat):Int))])]/\St w0 w [bk de #[aG pa,aG pb] 61] []/\j<=2/\(∀(x:Nat),x<2*u+j->∀s,yH[x]?=some s->¬(kT pa pb - s*pa).tmod pb=0)) ⟨0,I,I,σ,aB,Gu⟩ aT ?_
  rintro _ _ _ ⟨j,rfl,rfl,σ,hj,ve⟩
  refine il I<|wD (fun oL=>?_) fun oL=>?_
  ·have hlj:j<2:=ae
   have hcd:=Yj (u:=u) (j:=j) ae hlj
   have hsb:=adr (u:=u) (j:=j) hu
   have hmb:=tg hsb ⟨b1,b2⟩
   refine iT I I<|vE I (fun η=>se (m:=((u:Nat):Int)) (n:=(-((u:Nat):Int))) (j:=j) η underlying231 bn I I ae)<|lE 0 σ I<|ym I ae<|xq I ae<|lE 0 σ I<|vE I (fun η=>uu (m:=((kT pa pb) - ((tH ((u:Nat):Int) (-((u:Nat):Int)) j)*pa))) (n:=pb) η I I L2 I)<|gj I<|wQ (fun rP=>?_) fun rP=>?_
   ·exact iT I I<|lj [] [0,4,8,12,16,21,24,28,32,37,40,44,48,52,56] bI σ fun _ σ=>lS 0 I<|ym I ae<|xq I ae<|lS 0 I<|vE I (fun η=>nP (m:=((kT pa pb) - ((tH ((u:Nat):Int) (-((u:Nat):Int)) j)*pa))) (n:=pb) η I I L2 (lJ ae))<|oR (fun e=>ahz results174 (RV.tmp e I) (RV.tmp e I) (RV.tmp e I) (RV.tmp e I))<|⟨by rw [aip OE L2 ve hcd rP],σ.below⟩
   ·exact iF I I<|can (j:=1) I ae<|gI ⟨j+1,I,I,σ,ae,(Yk ve hcd rP)⟩ aT ae
  ·obtain rfl:j=2:=ae
   have hul:u<16:=Ym ⟨b1,b2⟩ ⟨b3,b4⟩ L2 ve hu
   exact iF I I<|can (j:=1) I ae<|gI ⟨u+1,I,I,σ,ae,ve⟩ aT ae
abbrev fC:=bH fJ FJ 5
abbrev fg:=bH fI FI 1
abbrev pf:=bH fN FN 2
abbrev jD:=bH Tp FPt 2
abbrev Gw:=bH fL FL 1
abbrev dQ (A:Option Addr) (n c:Nat) (es:List IE):PF:=fc dD 116 5 A n c (fl fJ es)
abbrev cI (A:Option Addr) (n c:Nat) (es:List Int):PF:=fc dD 3 1 A n c (fl fI es)
abbrev Dq (A:Option Addr) (n c:Nat) (es:List NE):PF:=fc dD 52 2 A n c (fl fN es)
abbrev lp (A:Option Addr) (n c:Nat) (es:List Pt):PF:=fc dD 61 2 A n c (fl Tp es)
abbrev mc (A:Option Addr) (n c:Nat) (es:List LE):PF:=fc dD 43 1 A n c (fl fL es)
abbrev kX (A:Option Addr) (n c:Nat) (es:List Bool):PF:=fc dD 4 1 A n c (fl fO es)
abbrev lN (i g:Nat) (A:Option Addr) (n c:Nat) (B:Option Addr) (m d:Nat):Array Value:=#[.int .i64 (i:Nat),.int .i64 (g:Nat),.slice A n c,.slice B m d]
def Tt:List Nat:=[0,1,56,2,57,49,28,3,61,58,42,50,38,29,17,4,62,47,59,36,45,43,51,22,53,39,33,30,24,18,12,5,63,55,48,27,60,41,37,16,46,35,44,21,52,32,23,11,54,26,40,15,34,20,31,10,25,14,19,9,13,8,7,6]
def me (w:World):Prop:=∀j,j<64->w.cell? ⟨1,j,none⟩=some (.int .u8 (Tt.getD j 0:Nat))
theorem me.lt (h:me w):1<w.heap.size:=block_lt_of_cell (h 0 ae)
def oP:PF:=⟨me,fun b=>b=1,fun h e=>by subst e; exact h.lt,fun h _ hk j hj=>(World.cell?_of_block (hk 1 rfl)).trans (h j hj)⟩
theorem St.nG {ps:List PF} (h:St w0 w0 [] ps) (hw:me w0):St w0 w0 [] (oP::ps):=h.l9 oP hw fun e he=>by cases he
section
variable {N:Nat} {dq:List Deferred} {a:Act} {l:List (Nat×Value)} {w:World} {d:Nat} {ty:TypeId} {pos:String} {af:Array Edge} {gd:Option (Nat×Bool)}
theorem Na {x y:Operand} {yt:Nat} {m n:Int} (h:b7 dq N a l) (hx:eB l x=some (aG m)) (hy:eB l y=some (aG n)):
  (execOp a.eval ⟨some d,.binOp .and T x y yt,ty,pos,af,gd⟩).run P w=.ok (.value (aG (bits .and .i64 m n))) w:=by
 refine cV h hx hy ?_
 have e2:(Op.intBits .and .i64 m n:Sem Value).run P w=.ok (aG (bits .and .i64 m n)) w:=rfl
 simp [eqGuard,binOp]
 exact e2
end
def air (c:Int):Bool:=decide (bits .and .i64 c (c - 1)=0)==(decide (c=1) || (p2 c).isSome)
theorem adw:∀c:Fin 512,air ((c.1:Int)+1)=true:=by decide+kernel
theorem Nb (h0:1<=c) (h1:c<=512):(bits .and .i64 c (c - 1)=0)↔(c=1∨(p2 c).isSome=true):=by
 have h:=adw ⟨(c - 1).toNat,by omega⟩
 dsimp only at h
 rw [show (((c - 1).toNat:Nat):Int)+1=c by omega] at h
 unfold air at h
 have h2:=eq_of_beq h
 constructor
 ·intro q
  rw [a8 q] at h2
  simpa using h2.symm
 ·intro q
  exact aN (h2.trans (by simpa using q))
theorem aa4 (h:(p2 c).isSome=true):∃m,p2 c=some m/\c=((2 ^ m:Nat):Int)/\1<=m/\m<=9:=by
 obtain ⟨m,hm⟩:=Option.isSome_iff_exists.1 h
 obtain ⟨h1,h2,h3⟩:=sY hm
 exact ⟨m,hm,by rw [h1]; simp,h2,h3⟩
theorem Nc (h:c=((2 ^ m:Nat):Int)) (hb:c<=512):IntKind.u64.wrap c=((2 ^ m:Nat):Int):=by
 have h0:0<=c:=by rw [h]; exact Int.natCast_nonneg _
 rw [<- h]; exact IntWalk.u64_in _ ae
theorem Tu (h1:c≠1) (h2:c≠-1) (v7:∀m,p2 c≠some m):sd t a c=(5,t,a,0,c):=by
 unfold sd
 rw [ak h1,ak h2]
 cases hq:p2 c with
 | none=>rfl
 | some m=>exact absurd hq (v7 m)
theorem tn (h:¬(op=1/\t=a)):yk (op,t,a,b,c)=[(op,t,a,b,c)]:=by unfold yk qS; rw [ak (by simpa using h)]
theorem adx (h:op=1/\t=a):yk (op,t,a,b,c)=[]:=by unfold yk qS; rw [au (by simpa using h)]
theorem ady (hD:me w0):
  Calls prog 170 #[.int .u64 2] w0 fun e w'=>e=.returned (aG 1)/\Below w0.heap.size w0 w':=by
 refine gQ func170 I ntmps170 I fun σ=>?_
 replace σ:=σ.nG hD
 exact gj I<|kB (b':=false) I<|iF I I<|vE I (fun η=>om (v:=.int .u64 18446744073709551614) η I bI)<|vE I (fun η=>cV (v:=.int .u64 2) η I I bI)<|vE I (fun η=>cV (v:=.int .u64 571740426102707730) η I I bI)<|vE I (fun η=>cV (v:=.int .u64 1) η I I bI)<|vE I (fun η=>my (i:=1) η underlying291 (dX.size) I I aB aB)<|cE I (fun η=>mN η dX I ((show me _ from σ.bW) 1 aB))<|vE I (fun η=>dS η I underlying5 underlying3 I)<|o1 results170 I<|⟨I,σ.below⟩
theorem adz (hD:me w0):
  Calls prog 170 #[.int .u64 4] w0 fun e w'=>e=.returned (aG 2)/\Below w0.heap.size w0 w':=by
 refine gQ func170 I ntmps170 I fun σ=>?_
 replace σ:=σ.nG hD
 exact gj I<|kB (b':=false) I<|iF I I<|vE I (fun η=>om (v:=.int .u64 18446744073709551612) η I bI)<|vE I (fun η=>cV (v:=.int .u64 4) η I I bI)<|vE I (fun η=>cV (v:=.int .u64 1143480852205415460) η I I bI)<|vE I (fun η=>cV (v:=.int .u64 3) η I I bI)<|vE I (fun η=>my (i:=3) η underlying291 (dX.size) I I aB aB)<|cE I (fun η=>mN η dX I ((show me _ from σ.bW) 3 aB))<|vE I (fun η=>dS η I underlying5 underlying3 I)<|o1 results170 I<|⟨I,σ.below⟩
theorem adA (hD:me w0):
  Calls prog 170 #[.int .u64 8] w0 fun e w'=>e=.returned (aG 3)/\Below w0.heap.size w0 w':=by
 refine gQ func170 I ntmps170 I fun σ=>?_
 replace σ:=σ.nG hD
 exact gj I<|kB (b':=false) I<|iF I I<|vE I (fun η=>om (v:=.int .u64 18446744073709551608) η I bI)<|vE I (fun η=>cV (v:=.int .u64 8) η I I bI)<|vE I (fun η=>cV (v:=.int .u64 2286961704410830920) η I I bI)<|vE I (fun η=>cV (v:=.int .u64 7) η I I bI)<|vE I (fun η=>my (i:=7) η underlying291 (dX.size) I I aB aB)<|cE I (fun η=>mN η dX I ((show me _ from σ.bW) 7 aB))<|vE I (fun η=>dS η I underlying5 underlying3 I)<|o1 results170 I<|⟨I,σ.below⟩
theorem adB (hD:me w0):
  Calls prog 170 #[.int .u64 16] w0 fun e w'=>e=.returned (aG 4)/\Below w0.heap.size w0 w':=by
 refine gQ func170 I ntmps170 I fun σ=>?_
 replace σ:=σ.nG hD
 exact gj I<|kB (b':=false) I<|iF I I<|vE I (fun η=>om (v:=.int .u64 18446744073709551600) η I bI)<|vE I (fun η=>cV (v:=.int .u64 16) η I I bI)<|vE I (fun η=>cV (v:=.int .u64 4573923408821661840) η I I bI)<|vE I (fun η=>cV (v:=.int .u64 15) η I I bI)<|vE I (fun η=>my (i:=15) η underlying291 (dX.size) I I aB aB)<|cE I (fun η=>mN η dX I ((show me _ from σ.bW) 15 aB))<|vE I (fun η=>dS η I underlying5 underlying3 I)<|o1 results170 I<|⟨I,σ.below⟩
theorem adC (hD:me w0):
  Calls prog 170 #[.int .u64 32] w0 fun e w'=>e=.returned (aG 5)/\Below w0.heap.size w0 w':=by
 refine gQ func170 I ntmps170 I fun σ=>?_
 replace σ:=σ.nG hD
 exact gj I<|kB (b':=false) I<|iF I I<|vE I (fun η=>om (v:=.int .u64 18446744073709551584) η I bI)<|vE I (fun η=>cV (v:=.int .u64 32) η I I bI)<|vE I (fun η=>cV (v:=.int .u64 9147846817643323680) η I I bI)<|vE I (fun η=>cV (v:=.int .u64 31) η I I bI)<|vE I (fun η=>my (i:=31) η underlying291 (dX.size) I I aB aB)<|cE I (fun η=>mN η dX I ((show me _ from σ.bW) 31 aB))<|vE I (fun η=>dS η I underlying5 underlying3 I)<|o1 results170 I<|⟨I,σ.below⟩
theorem adD (hD:me w0):
  Calls prog 170 #[.int .u64 64] w0 fun e w'=>e=.returned (aG 6)/\Below w0.heap.size w0 w':=by
 refine gQ func170 I ntmps170 I fun σ=>?_
 replace σ:=σ.nG hD
 exact gj I<|kB (b':=false) I<|iF I I<|vE I (fun η=>om (v:=.int .u64 18446744073709551552) η I bI)<|vE I (fun η=>cV (v:=.int .u64 64) η I I bI)<|vE I (fun η=>cV (v:=.int .u64 18295693635286647360) η I I bI)<|vE I (fun η=>cV (v:=.int .u64 63) η I I bI)<|vE I (fun η=>my (i:=63) η underlying291 (dX.size) I I aB aB)<|cE I (fun η=>mN η dX I ((show me _ from σ.bW) 63 aB))<|vE I (fun η=>dS η I underlying5 underlying3 I)<|o1 results170 I<|⟨I,σ.below⟩
theorem adE (hD:me w0):
  Calls prog 170 #[.int .u64 128] w0 fun e w'=>e=.returned (aG 7)/\Below w0.heap.size w0 w':=by
 refine gQ func170 I ntmps170 I fun σ=>?_
 replace σ:=σ.nG hD
 exact gj I<|kB (b':=false) I<|iF I I<|vE I (fun η=>om (v:=.int .u64 18446744073709551488) η I bI)<|vE I (fun η=>cV (v:=.int .u64 128) η I I bI)<|vE I (fun η=>cV (v:=.int .u64 18144643196863743104) η I I bI)<|vE I (fun η=>cV (v:=.int .u64 62) η I I bI)<|vE I (fun η=>my (i:=62) η underlying291 (dX.size) I I aB aB)<|cE I (fun η=>mN η dX I ((show me _ from σ.bW) 62 aB))<|vE I (fun η=>dS η I underlying5 underlying3 I)<|o1 results170 I<|⟨I,σ.below⟩
theorem adF (hD:me w0):
  Calls prog 170 #[.int .u64 256] w0 fun e w'=>e=.returned (aG 8)/\Below w0.heap.size w0 w':=by
 refine gQ func170 I ntmps170 I fun σ=>?_
 replace σ:=σ.nG hD
 exact gj I<|kB (b':=false) I<|iF I I<|vE I (fun η=>om (v:=.int .u64 18446744073709551360) η I bI)<|vE I (fun η=>cV (v:=.int .u64 256) η I I bI)<|vE I (fun η=>cV (v:=.int .u64 17842542320017934592) η I I bI)<|vE I (fun η=>cV (v:=.int .u64 61) η I I bI)<|vE I (fun η=>my (i:=61) η underlying291 (dX.size) I I aB aB)<|cE I (fun η=>mN η dX I ((show me _ from σ.bW) 61 aB))<|vE I (fun η=>dS η I underlying5 underlying3 I)<|o1 results170 I<|⟨I,σ.below⟩
theorem adG (hD:me w0):
  Calls prog 170 #[.int .u64 512] w0 fun e w'=>e=.returned (aG 9)/\Below w0.heap.size w0 w':=by
 refine gQ func170 I ntmps170 I fun σ=>?_
 replace σ:=σ.nG hD
 exact gj I<|kB (b':=false) I<|iF I I<|vE I (fun η=>om (v:=.int .u64 18446744073709551104) η I bI)<|vE I (fun η=>cV (v:=.int .u64 512) η I I bI)<|vE I (fun η=>cV (v:=.int .u64 17238340566326317568) η I I bI)<|vE I (fun η=>cV (v:=.int .u64 59) η I I bI)<|vE I (fun η=>my (i:=59) η underlying291 (dX.size) I I aB aB)<|cE I (fun η=>mN η dX I ((show me _ from σ.bW) 59 aB))<|vE I (fun η=>dS η I underlying5 underlying3 I)<|o1 results170 I<|⟨I,σ.below⟩
theorem anL (h1:1<=m) (h2:m<=9) (hD:me w0):Calls prog 170 #[.int .u64 ((2 ^ m:Nat):Int)] w0 fun e w'=>e=.returned (aM m)/\Below w0.heap.size w0 w':=by
 rcases (show m=1∨m=2∨m=3∨m=4∨m=5∨m=6∨m=7∨m=8∨m=9 by omega) with rfl | rfl | rfl | rfl | rfl | rfl | rfl | rfl | rfl
 ·exact ady hD
 ·exact adz hD
 ·exact adA hD
 ·exact adB hD
 ·exact adC hD
 ·exact adD hD
 ·exact adE hD
 ·exact adF hD
 ·exact adG hD
theorem tz (h1:1<=m) (h2:m<=9) (hD:me w0):
  Calls prog 128 #[.int .u64 (2 ^ m:Nat)] w0 fun e w'=>e=.returned (aM m)/\Below w0.heap.size w0 w':=by
 refine gQ func128 I ntmps128 I fun σ=>?_
 replace σ:=σ.nG hD
 exact iF I I<|eE I<|gV call170 (anL h1 h2 σ.bW) σ I fun _ σ=>o1 results128 I<|⟨I,σ.below⟩
theorem Ir {es:List Pt} (h:∀(x:Nat) (p:Pt),x<j->es[x]?=some p->pU p) (he:es[j]?=some (pa,pb)) (hp:yl pa/\yl pb):∀(x:Nat) (p:Pt),x<j+1->es[x]?=some p->pU p:=fun x p h1 h2=>by
 rcases aV x j with c | c
 ·exact h x p c h2
 ·obtain rfl:x=j:=ae
  rw [he] at h2
  cases h2
  exact hp
def Co (l:List Pt):Prop:=1<=l.length/\l.length<=15/\∀p∈l,pU p
instance (l:List Pt):Decidable (Co l):=by unfold Co pU; infer_instance
theorem D4 {es0:List Pt} (h0:(jD A0 n0 c0 es0).P w0):
  Calls prog 82 #[.slice A0 n0 c0] w0 fun e w'=>e=.returned (.bool (decide (Co es0)))/\Below w0.heap.size w0 w':=by
 refine gQ func82 I ntmps82 I fun σ=>?_
 have cQ:=h0.2.1
 have lu:=h0.1.cap
 have eN:=h0.1.big
 unfold maxLen at eN
 replace σ:=σ.aY h0
 clear h0
 refine ks (fun mz l w=>∃j:Nat,n0 - j=mz/\l=[(7,aM j),(0,.slice A0 n0 c0),(5,.slice A0 n0 c0),(6,aM n0)]/\St w0 w [] [jD A0 n0 c0 es0]/\j<=n0/\(∀(x:Nat) (p:Pt),x<j->es0[x]?=some p->pU p)) ⟨0,I,I,σ,(av _),(fun _ _ h=>absurd h (dB _))⟩ aT ?_
 rintro _ _ _ ⟨j,rfl,rfl,σ,hj,rH⟩
 refine il I<|wD (fun lC=>?_) fun lC=>?_
 ·have fh:j<n0:=ae
  obtain ⟨⟨pa,pb⟩,eG⟩:∃e,es0[j]?=some e:=⟨_,ag ae⟩
  refine iT I I<|vE I (fun η=>aX (i:=j) η underlying22 (aO.size) I I ae I (show (jD A0 n0 c0 es0).P _ from σ.bW).1)<|cE I (fun η=>cX (i:=j) (e:=(pa,pb)) η aO I I iX (show (jD A0 n0 c0 es0).P _ from σ.bW).1 ae eG I)<|eE I<|iR b6 σ I fun _ eQ σ=>eE I<|fB 0 σ I fun _ σ=>gE 0 σ I<|eE I<|gV call69 (wb (pa:=pa) (pb:=pb)) σ I fun _ σ=>wD (fun oL=>?_) fun oL=>?_
  ·exact iF I I<|can (j:=1) I ae<|gI ⟨j+1,I,I,σ.pick [] [0] aB,ae,(Ir rH eG oL)⟩ aT ae
  ·exact iT I I<|o1 results82 I<|⟨by rw [aC fun q=>oL (q.2.2 _ (ah eG))],σ.below⟩
 ·obtain rfl:j=n0:=ae
  refine iF I I<|xo I<|wD (fun rP=>?_) fun rP=>?_
  ·exact Dn I<|o1 results82 I<|⟨aq (fun b=>Ending.returned (Value.bool b)) (gW.2 ⟨fun q=>⟨by omega,by omega,fun p hp=>by obtain ⟨x,hx⟩:=dO hp; exact rH x p (by have:=(aE.1 hx).1; omega) hx⟩,fun q=>by have:=q.2.1; omega⟩),σ.below⟩
  ·exact o1 results82 I<|⟨by rw [aC fun q=>by have:=q.1; omega],σ.below⟩
theorem Is (hD:me w0) (h1:-512<=c) (h2:c<=512):
  Calls prog 85 #[aG t,aG a,aG c] w0 fun e w'=>e=.returned (.agg #[aG (sd t a c).1,aG (sd t a c).2.1,aG (sd t a c).2.2.1,aG (sd t a c).2.2.2.1,aG (sd t a c).2.2.2.2])/\Below w0.heap.size w0 w':=by
 refine gQ func85 I ntmps85 I fun σ=>?_
 replace σ:=σ.nG hD
 refine eE I<|iR bm σ I fun _ de σ=>gj I<|wQ (fun mX=>?_) fun mX=>?_
 ·refine iT I I<|vE I (fun η=>eV (c:=#[aG 1,aG t,aG a,aG 0,aG 0]) dg η I I)<|eE I<|fB 0 σ I fun _ σ=>oR (fun e=>iJ results85 (RV.cell e aF I σ.gq I))<|?_
  have ht:sd t a c=((1:Int),t,a,(0:Int),(0:Int)):=by unfold sd; rw [au ae]
  exact ⟨by rw [ht],σ.below⟩
 ·refine iF I I<|gj I<|wQ (fun oL=>?_) fun oL=>?_
  ·refine iT I I<|vE I (fun η=>eV (c:=#[aG 2,aG t,aG a,aG 0,aG 0]) dg η I I)<|eE I<|fB 0 σ I fun _ σ=>oR (fun e=>iJ results85 (RV.cell e aF I σ.gq I))<|?_
   have ht:sd t a c=((2:Int),t,a,(0:Int),(0:Int)):=by unfold sd; rw [ak ae,au ae]
   exact ⟨by rw [ht],σ.below⟩
  ·refine iF I I<|sG I<|wD (fun rP=>?_) fun rP=>?_
   ·refine xq I ae<|vE I (fun η=>Na η I I)<|gj I<|wQ (fun sI=>?_) fun sI=>?_
    ·have Cp:=((Nb ae ae).1 sI).resolve_left ae
     obtain ⟨m,hm,KA,qP,Ql⟩:=aa4 Cp
     refine iT I I<|vE I (fun η=>dS η I underlying3 underlying99 (Nc KA ae))<|eE I<|gV call128 (tz qP Ql σ.bW) σ I fun _ σ=>vE I (fun η=>eV (c:=#[aG 7,aG t,aG a,aG 0,aM m]) dg η I I)<|eE I<|fB 0 σ I fun _ σ=>oR (fun e=>iJ results85 (RV.cell e aF I σ.gq I))<|?_
     have ht:sd t a c=((7:Int),t,a,(0:Int),((m:Nat):Int)):=by unfold sd; rw [ak ae,ak ae,hm]
     exact ⟨by rw [ht],σ.below⟩
    ·have v7:∀m,p2 c≠some m:=fun m q=>sI ((Nb ae ae).2 (.inr (by rw [q]; rfl)))
     refine iF I I<|vE I (fun η=>eV (c:=#[aG 5,aG t,aG a,aG 0,aG c]) dg η I I)<|eE I<|fB 0 σ I fun _ σ=>oR (fun e=>iJ results85 (RV.cell e aF I σ.gq I))<|?_
     have ht:sd t a c=((5:Int),t,a,(0:Int),c):=Tu ae ae v7
     exact ⟨by rw [ht],σ.below⟩
   ·have v7:∀m,p2 c≠some m:=fun m q=>by have:=sY q; have h9:(0:Int)<2^m:=Int.pow_pos aB; omega
    refine iF I I<|vE I (fun η=>eV (c:=#[aG 5,aG t,aG a,aG 0,aG c]) dg η I I)<|eE I<|fB 0 σ I fun _ σ=>oR (fun e=>iJ results85 (RV.cell e aF I σ.gq I))<|?_
    have ht:sd t a c=((5:Int),t,a,(0:Int),c):=Tu ae ae v7
    exact ⟨by rw [ht],σ.below⟩
section
variable {N:Nat} {dq:List Deferred} {a:Act} {l:List (Nat×Value)} {w:World} {d:Nat} {ty:TypeId} {pos:String} {af:Array Edge} {gd:Option (Nat×Bool)}
end
section
variable {P:Program} {ro:Option Nat} {m k:Nat} {K:Act->World->Prop} {Q:Exit->Act->World->Prop} {N:Nat} {dq:List Deferred} {a:Act} {l:List (Nat×Value)} {w:World}
variable {d:Nat} {ty:TypeId} {pos:String} {af:Array Edge} {gd:Option (Nat×Bool)}
theorem yQ {z:Operand} {xs:Array Operand} {Ts:Array TypeId} {vs:Array Value} {l0:Nat} {R:Ending->World->Prop} (h:b7 dq N a l) (hd:Nat.blt d N=true) (hz:eB l z=some (.func (.yield l0) #[] #[]))
 (hx:xs.toList.map (eB l)=vs.toList.map some) (hY:YieldAt (WF none) k P l0 vs w R)
 (hK:∀e w',R e w'->∃v,e=.returned v/\∀a',b7 dq N a' ((d,v)::l)->K a' w'):
  Oper.wpIn (WF ro) m P ⟨some d,.call ⟨.value z,xs,Ts⟩,ty,pos,af,gd⟩ a w K Q:=by
 have he:xs.map a.eval=vs:=by
  apply jx
  rw [fe]
  generalize xs.toList=xl at hx ⊢
  generalize vs.toList=vl at hx ⊢
  induction xl generalizing vl with
  | nil=>cases vl with
   | nil=>rfl
   | cons=>simp at hx
  | cons x xl ih=>cases vl with
   | nil=>simp at hx
   | cons v vl=>
    simp only [dk,eY] at hx ⊢
    exact ⟨h.ev hx.1,ih vl hx.2⟩
 obtain ⟨fn,tmps,assign,body,hy,hR⟩:=hY
 have hv:=h.ev hz
 have hr:(execOp a.eval ⟨some d,.call ⟨.value z,xs,Ts⟩,ty,pos,af,gd⟩).run P w=.ok (.round l0 fn tmps assign body) w:=by
  simp [execOp,resolve,invoke,Deferred.ofValue,hv,he,hy]
 have hR2:RoundIn (WF ro) (m - 1) P l0 fn tmps assign body w R:=⟨hR.1,fun c cs _=>hR.2 c cs (room_wide _)⟩
 refine ⟨fun _ _=>trivial,?_⟩
 have e0:Oper.semAt (WF ro).round a.eval ⟨some d,.call ⟨.value z,xs,Ts⟩,ty,pos,af,gd⟩=execOp a.eval ⟨some d,.call ⟨.value z,xs,Ts⟩,ty,pos,af,gd⟩:=Oper.semAt_eq _ _ _ fun _ h=>by cases h
 rw [e0,hr]
 refine ⟨fun hd=>(by cases hd),hR2.mono fun e w' he=>?_⟩
 obtain ⟨v,rfl,Dj⟩:=hK e w' he
 exact Dj _ (h.put hd v)
end
abbrev YE:=Nat×IE
def Pn (x:YE):Value:=.int .i64 (x.1:Nat)
def YH (x:YE):Value:=.agg #[.int .i64 x.2.1,.int .i64 x.2.2.1,.int .i64 x.2.2.2.1,.int .i64 x.2.2.2.2.1,.int .i64 x.2.2.2.2.2]
def Po (es:List IE) (k:Nat):List YE:=(List.range k).map fun t=>(es.length - 1 - t,es.getD (es.length - 1 - t) (0,0,0,0,0))
theorem AJ (es:List IE) (k:Nat):(Po es k).length=k:=by rw [Po,aw,ee]
theorem TV {es:List IE} (he:es[j]?=some e) (hk:k+j+1=es.length):Po es (k+1)=Po es k++[(j,e)]:=by
 rw [Po,iw,cD,dk,List.map_nil,show es.length - 1 - k=j by omega,aj,he]
 rfl
def KB (p:World->Prop) (X Y:World):Prop:=p X->p Y
def bwP (B:Nat) (A:Option Addr) (n c:Nat) (es:List IE) (w:World):Prop:=w.heap[B]?=some (.cells #[.slice A n c] 25 (0,0))/\(bH fJ FJ 5 A n c es).P w
def awE {α:Type} (P:Program) (g:Nat) (lb:Array Value) (encs:α->Array Value) (Kp:World->World->Prop) (S Sp:List α->Prop) (N:Nat) (w:World):Prop:=
 ∀(l:Nat) (J Jx:List α->World->Prop) (X:World),Below w.heap.size w X->w.heap.size+2<=X.heap.size->OwnFrom X.heap.size J->OwnFrom X.heap.size Jx->
  (∀pre x Y,J pre Y->pre.length<N->YieldAt (WF none) 7 P l (encs x) Y fun e Z=>(e=.returned (.bool true)/\J (pre++[x]) Z/\Kp Y Z)∨(e=.returned (.bool false)/\Jx (pre++[x]) Z/\Kp Y Z))->
  J [] X->Calls P g (#[.func (.yield l) #[] #[]]++lb) X fun e Z=>(∃v,e=.returned v)/\((∃xs,S xs/\J xs Z)∨∃pre,Sp pre/\Jx pre Z)
def TW {α:Type} (B:Nat) (Kp:World->World->Prop) (kK:List α->World->Prop) (Ix:Code->List α->World->Prop) (xs:List α) (W:World):Exit->Act->World->Prop
 | .normal,_,Z=>KeepsFrom B W Z/\Kp W Z/\kK xs Z
 | .ret,_,Z=>KeepsFrom B W Z/\Kp W Z/\Ix .ret xs Z
 | .exit id,_,Z=>KeepsFrom B W Z/\Kp W Z/\Ix (.exit id) xs Z
 | _,_,_=>False
def D9 (fn:FuncId) (t:Array Value) (ps:Array Tmp) (asg bd:Code) (D:Nat) (st:LoopState) (pe:Option Code):Loop:={ state:=st,pending:=pe,fn:=fn,tmps:=t,params:=ps,assign:=asg,body:=bd,defers:=D }
def CH (r:Loop) (D:Nat) (W:World):Prop:=W.heap[D+1]?=some (.loop r)/\W.heap[D]?=some (.deferred (some []))
theorem AK {β:Type} (r:Loop) (D:Nat):OwnFrom (D+2) (fun (_:β) W=>CH r D W):=fun _ X Y row hs hg hr=>
 ⟨(hg.block _ (lt_of_block hs.1) fun e=>by have:=(hr _ e.symm).1; omega).trans hs.1,(hg.block _ (lt_of_block hs.2) fun e=>by have:=(hr _ e.symm).1; omega).trans hs.2⟩
theorem nU {β:Type} {B C:Nat} {kK:β->World->Prop} (h:OwnFrom B kK) (hB:B<=C):OwnFrom C kK:=fun s X Y row hs hg hr=>h s X Y row hs hg fun r e=>⟨aD hB (hr r e).1,(hr r e).2⟩
theorem oJ {r r':Loop} {D:Nat} {W:World} (h:CH r D W):CH r' D (W.putObj (D+1) (.loop r')):=
 ⟨World.putObj_heap_same (lt_of_block h.1),(World.putObj_heap_other ae).trans h.2⟩
theorem sj {r:Loop} {D:Nat} (h:CH r D X) (hk:KeepsFrom D X Y):CH r D Y:=⟨hk.same _ _ ae h.1 rfl,hk.same _ _ (ar _) h.2 rfl⟩
section
variable {P:Program} {Q:Exit->Act->World->Prop} {N:Nat} {dq:List Deferred} {a:Act} {l:List (Nat×Value)} {w:World}
end
theorem KU:
  Calls prog 213 #[.slice A0 n0 c0] w0 fun e w'=>∃g,e=.returned (.func (.func 238) #[] #[cY g])/\w'.heap[g]?=some (.cells #[.slice A0 n0 c0] 25 (0,0))/\w0.heap.size<=g/\Below w0.heap.size w0 w':=by
 refine enter func213 I ntmps213 I ?_
 intro a η σ
 refine wp_seq (aI ?_)
 refine aS I (ns η σ I I I ?_)
 clear η σ a; intro a Wo de η σ
 refine sv η I (cf η I) ?_
 clear η a; intro a η
 refine wpList_nil (b5 (wp_seq (aI ?_)))
 revert a
 refine sA I (fun _ η=>fi (us:=#[]) (vs:=#[cY de]) η I I) ?_
 refine aA I I ?_
 intro a η
 refine wpList_nil (b5 (wp_ret ?_))
 refine leave η (iJ results213 (RV.tmp η I)) ?_
 exact ⟨de,I,σ.gq,σ.new _ (ah (i:=0) I) _ I,σ.below⟩
theorem TX {i g:Int}:
  Calls prog 184 #[.agg #[.int .i64 i,.int .i64 g,.slice A0 n0 c0,.slice A1 n1 c1]] w0 fun e w'=>∃b,e=.returned (.func (.func 211) #[] #[cY b])/\w'.heap[b]?=some (.cells #[.int .i64 i,.int .i64 g,.slice A0 n0 c0,.slice A1 n1 c1] 28 (0,0))/\w0.heap.size<=b/\Below w0.heap.size w0 w':=by
 refine enter func184 I ntmps184 I ?_
 intro a η σ
 refine wp_seq (aI ?_)
 refine aS I (ns η σ I I I ?_)
 clear η σ a; intro a Wo de η σ
 refine sv η I (cf η I) ?_
 clear η a; intro a η
 refine wpList_nil (b5 (wp_seq (aI ?_)))
 revert a
 refine sA I (fun _ η=>fi (us:=#[]) (vs:=#[cY de]) η I I) ?_
 refine aA I I ?_
 intro a η
 refine wpList_nil (b5 (wp_ret ?_))
 refine leave η (iJ results184 (RV.tmp η I)) ?_
 exact ⟨de,I,σ.gq,σ.new _ (ah (i:=0) I) _ I,σ.below⟩
theorem qW (h:Below w.heap.size w w'):w.grownBy w' none:=⟨h.os,h.tape,h.output,h.size,fun k hk _=>h.block k hk⟩
theorem Nl {B:Nat} (h:Below w.heap.size w w'):KeepsFrom B w w':=⟨h.size,fun k _ _ hk _=>(h.block k (lt_of_block hk)).trans hk⟩
theorem kO {α:Type} {f:α->List Value} {F:α->PF} (hF:∀e b,¬(F e).gO b) {z c:Nat} {es:List α} (hz:0<z):wI (bH f F z A n c es):=fun w b h hf=>by
 rcases hf with ⟨hp,off,rfl⟩ | ⟨e,_,hf⟩
 ·obtain ⟨b',o,e',fh,hc⟩:=h.1.cells hp
  cases e'
  have Ep:0<n*z:=jE hp hz
  have h1:=hc 0 Ep
  rw [dr,ag (by rw [h.1.len]; exact Ep)] at h1
  have h2:w.heap[b]?=some w.heap[b]:=gX fh
  refine ⟨_,h2,?_⟩
  unfold World.cell? at h1
  rw [h2] at h1
  revert h1
  cases w.heap[b]<;>simp [Obj.isCells]
 ·exact (hF e b hf).elim
def TY (B:Nat) (i g:Int) (A0:Option Addr) (n0 c0:Nat) (A1:Option Addr) (n1 c1:Nat) (es:List IE) (os:List Int) (w:World):Prop:=
 (bk B #[.int .i64 i,.int .i64 g,.slice A0 n0 c0,.slice A1 n1 c1] 28).P w/\(bH fJ FJ 5 A0 n0 c0 es).P w/\(bH fI FI 1 A1 n1 c1 os).P w
theorem Fv {B D:Nat} {i g:Int} {es:List IE} {row:Option Nat} (h:TY B i g A0 n0 c0 A1 n1 c1 es os X) (hg:X.grownBy Y row) (hr:∀r,row=some r->D<=r/\∃o:Obj,X.heap[r]?=some o/\o.isCells=false):TY B i g A0 n0 c0 A1 n1 c1 es os Y:=
 ⟨kr iH h.1 hg hr,kr (kO (fun _ _ h=>h) aB) h.2.1 hg hr,kr (kO (fun _ _ h=>h) aB) h.2.2 hg hr⟩
def KX (n:Nat) (p:World->Prop) (X Y:World):Prop:=X.heap.size<=Y.heap.size/\(∀b o,n+2<=b->X.heap[b]?=some o->Y.heap[b]?=some o)/\(p X->p Y)
theorem IM {p:World->Prop} {Z:World} (h:KX n p X Y) (k:KX n p Y Z):KX n p X Z:=⟨aD h.1 k.1,fun b o hb ho=>k.2.1 b o hb (h.2.1 b o hb ho),fun q=>k.2.2 (h.2.2 q)⟩
section
variable {B n0 c0 n1 c1:Nat} {i g:Int} {A0 A1:Option Addr} {es:List IE} {os:List Int} {w:World}
theorem TZ {o o':Obj} (h:X.heap[n+1]?=some o) (hc:o.isCells=false):KX n (TY B i g A0 n0 c0 A1 n1 c1 es os) X (X.putObj (n+1) o'):=by
 have hg:=grownBy_putObj' X (n+1) o'
 exact ⟨hg.size,fun b q hb hq=>(World.putObj_heap_other ae).trans hq,fun hp=>Fv hp hg fun r e=>by cases e; exact ⟨av _,o,h,hc⟩⟩
theorem Nn (hp:TY B i g A0 n0 c0 A1 n1 c1 es os w) (hX:Below w.heap.size w X):TY B i g A0 n0 c0 A1 n1 c1 es os X:=Fv (D:=0) hp (qW hX) fun r e=>by cases e
end
def kaF (n:Nat) (X:World):PF:=
 ⟨fun w=>X.heap.size<=w.heap.size/\∀b o,n<=b->X.heap[b]?=some o->w.heap[b]?=some o,fun b=>n<=b/\b<X.heap.size,fun h hb=>cl hb.2 h.1,
  fun h hs hk=>⟨aD h.1 hs,fun b o hb ho=>(hk b ⟨hb,lt_of_block ho⟩).trans (h.2 b o hb ho)⟩⟩
def wj (n:Nat):List PF->Prop
 | []=>True
 | e::l=>(∀b,e.gO b->b<n)/\wj n l
theorem wj.at {n:Nat}:∀{l:List PF},wj n l->∀e∈l,∀b,e.gO b->b<n
 | e::_,h,f,hf=>by
  rcases bf.1 hf with rfl | hf
  ·exact h.1
  ·exact wj.at h.2 f hf
theorem Nq {n:Nat}:∀{l:List PF},(∀e∈l,∀b,e.gO b->b<n)->wj n l
 | [],_=>trivial
 | e::l,h=>⟨h e (aJ ..),Nq fun f hf=>h f (aQ _ hf)⟩
section
variable {w0 w X Y:World} {own ps:List PF} {n k:Nat}
theorem T0 (h:St w0 w own ps):wj w.heap.size own:=Nq fun e he _ hb=>e.lt (h.mine e he) hb
theorem St.abi (h:St w0 w own ps) (hf:wj n own):St w0 w own (kaF n w::ps):=h.l9 (kaF n w) ⟨ar _,fun _ _ _ h=>h⟩ fun e he b hb hk=>by
 have h1:=hf.at e he b hb
 have h2:n<=b:=hk.1
 omega
theorem St.abj {c:Array Value} {t:TypeId} (h:St w0 w own ps) (hf:wj n own) (hg:n<=g) (hp:(bk g c t).P w):St w0 w own (bk g c t::ps):=h.l9 _ hp fun e he b hb hk=>by
 have h1:=hf.at e he b hb
 obtain rfl:b=g:=hk
 omega
theorem St.ka (h:St w0 w own ps) (hk:ps[k]?=some (kaF n X)):KeepsFrom n X w:=⟨(h.pat hk).1,fun b o hb ho _=>(h.pat hk).2 b o hb ho⟩
theorem St.kax {p:World->Prop} (h:St w0 w own ps) (hk:ps[k]?=some (kaF n X)) (hp:p w):KX n p X w:=⟨(h.pat hk).1,fun b o hb ho=>(h.pat hk).2 b o ae ho,fun _=>hp⟩
theorem abk {B i0:Nat} {i g:Int} {es:List IE} (h:Below X.heap.size X Y):KX i0 (TY B i g A0 n0 c0 A1 n1 c1 es os) X Y:=⟨h.size,fun b _ _ hb=>(h.block b (lt_of_block hb)).trans hb,fun q=>Nn q h⟩
end
theorem Ds {x:Int} (h:x=y):(x !=y)=false:=by subst h; simp
def Mis (es:List IE) (n:Nat) (pre:List YE):Prop:=∃pr x,pre=pr++[x]/\pr.length<n/\¬(x.1+pr.length+1=n/\es[x.1]?=some x.2)
theorem Lh {es:List NE} {c:Nat} {z:Int} (hz:es.map zz=xs) (he:es[j]?=some (A,c,z)):xs.take (j+1)=xs.take j++[z]:=
 take_one (by rw [<- hz,ay,he]; rfl)
theorem uf {z:Int} (h:z.natAbs<4294967296 ^ 1):zl z<=k+1:=aD (gC h) ae
theorem Za {es fs:List NE} {B:Option Addr} {c:Nat} {x:Int} (h:es.map zz=xs) (k:fs.map zz=xs) (he:es[j]?=some (A,c,x)) (hf:fs[j]?=some (B,d,y)):x=y:=by
 have h1:xs[j]?=some x:=by rw [<- h,ay,he]; rfl
 have h2:xs[j]?=some y:=by rw [<- k,ay,hf]; rfl
 rw [h1] at h2
 exact aW h2
theorem Zb (h0:(bH fN FN 2 A0 n0 c0 es0).P w0) (mZ:es0.map zz=xs) (hn:n0<=100000000):
  Calls prog 193 #[.slice A0 n0 c0] w0 fun e w'=>∃v,e=.returned v/\tP w0.heap.size w' v n0 (xs.map (- ·))/\Below w0.heap.size w0 w':=by
 subst mZ
 refine enter func193 I ntmps193 I ?_
 intro a η σ
 have cQ:=h0.2.1
 have eN:=aD h0.1.cap h0.1.big
 unfold maxLen at eN
 replace σ:=σ.aY h0
 clear h0
 refine wp_seq (aI ?_)
 refine sv (v:=bM) η I (cf η I) ?_
 clear η a; intro a η
 refine wpList_nil (b5 (wp_seq (aI ?_)))
 refine sv (v:=.slice A0 n0 c0) η I (ff η I) ?_
 clear η a; intro a η
 refine aS I (gG η I call226 I (Hf (E:=kF) (g:=(- ·)) (first:=#[]) (caps:=#[]) σ.bW trivial call62 (fun _ _ _ _ _ _ _ hx=>rZ fW (QN hx)) hn) ?_)
 rintro e w57 ⟨_,rfl,⟨A51,c52,ajK,rfl,hr,apD,UJ⟩,hb⟩
 refine ⟨_,I,?_⟩
 clear η a; intro a η
 replace σ:=σ.pM hb hr (oU hr.2.1 ⟨bX,trivial⟩)
 clear hr
 clear hb
 refine sv (v:=.slice A51 n0 c52) η I (cf η I) ?_
 clear η a; intro a η
 refine wpList_nil (b5 (wp_ret ?_))
 refine leave η (iJ results193 (RV.tmp η I)) ?_
 exact ⟨_,I,⟨_,_,_,I,σ.newRow (k:=0) (j:=0) I I,apD,UJ⟩,σ.below⟩
def Wd (t:List UInt8) (z p q:Int):Prop:=(p=0/\q=0/\Rz t z)∨(p=6/\∃b:Nat,q=b/\Rb t b)
def Wr (t:List UInt8) (z b:Int):Prop:=(b=-1/\Rz t z)∨∃c:Nat,b=c/\Rb t c
def axy (zs:List Int):List UInt8:=91::zs.flatMap fun z=>DN z++[32]
end Go.Proofs.YtgopcdagnicekaaGreatDoor.W
