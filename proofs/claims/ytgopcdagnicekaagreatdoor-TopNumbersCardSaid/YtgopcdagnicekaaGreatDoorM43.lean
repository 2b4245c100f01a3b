/- strings.Join at a blank; row.Text. Printed by pv/gen_rtx2.py. No condition. -/
import Derived.Test.YtgopcdagnicekaaGreatDoorM1
import Derived.Test.YtgopcdagnicekaaGreatDoorM12
import Derived.Test.YtgopcdagnicekaaGreatDoorM41
import Derived.Test.YtgopcdagnicekaaGreatDoorM42
import Derived.Test.YtgopcdagnicekaaGreatDoorM28
import Derived.Test.YtgopcdagnicekaaGreatDoorM6
import Derived.Test.YtgopcdagnicekaaGreatDoorM31
import Derived.Test.YtgopcdagnicekaaGreatDoorM11
import Derived.Test.YtgopcdagnicekaaGreatDoorM13
import Derived.Test.YtgopcdagnicekaaGreatDoorM36
import Derived.Test.YtgopcdagnicekaaGreatDoorM37
import Derived.Test.YtgopcdagnicekaaGreatDoorM29
import Derived.Test.YtgopcdagnicekaaGreatDoorM40

set_option linter.unusedVariables false
set_option linter.unusedSimpArgs false
set_option linter.all false
set_option maxRecDepth 100000
set_option maxHeartbeats 4000000
namespace Go.Proofs.YtgopcdagnicekaaGreatDoor.W
open Go.RowKit Anv Go.Lib
def jt (s:List UInt8) (r:List (List UInt8)) (k:Nat):List UInt8:=s++(r.take k).flatMap fun t=>32::t
def ajq (zs:List Int):List UInt8:=91::(jn (zs.map Cb)++[93])
theorem mu:fN (none,0,0)=(Value.agg #[.bool false,bA]).cells.toList:=by
 show [Value.bool (neg 0),Value.slice none (zl 0) 0]=_
 rw [neg_zero,mo]; rfl
theorem kI (n:Nat) (w:World):(bL FN (List.replicate n (none,0,0))).P w:=fun e he=>by
 rw [lW he]
 exact rj w
def asv (es:List NE):Bool:=es.all fun e=>decide (zz e=0)
theorem Fx {n:Nat} {w0:World} (h:n<=4096):
  Calls Tryz.prog 163 #[.int .i64 (n:Nat)] w0 fun e w'=>∃v,e=.returned (.tuple #[v,.int .i64 0])/\qC w0.heap.size w' v n (List.replicate n 0)/\Below w0.heap.size w0 w':=by
 refine enter Tryz.func163 rfl Tryz.ntmps163 rfl ?_
 intro a η σ
 refine wp_seq (aj ?_)
 revert a
 refine aA rfl rfl ?_
 refine aA rfl rfl ?_
 intro a η
 refine wpList_nil (aT (wp_seq (wp_seq (aj ?_))))
 revert a
 refine mA rfl rfl ?_
 refine sA rfl (fun _ η=>bg η rfl rfl rfl) ?_
 intro a η
 rw [show (decide (((n:Nat):Int)<(0:Int)))=false from bR ae] at η
 revert a
 refine mA rfl rfl ?_
 refine gA rfl rfl rfl rfl (fun _ η=>b7 η rfl) ?_
 refine gA rfl rfl rfl rfl (fun _ η=>bg η rfl rfl rfl) ?_
 intro a η
 rw [show (decide (((n:Nat):Int)>(4096:Int)))=false from bR ae] at η
 refine sv η rfl (ij η rfl rfl) ?_
 clear η a; intro a η
 refine wpList_nil (aT ?_)
 refine oD η rfl (rfl) ?_
 refine wp_skip (aT (wp_seq (aj ?_)))
 refine sv η rfl (b7 η rfl) ?_
 clear η a; intro a η
 refine au rfl (zg (f:=fN) (e0:=(none,0,0)) (q:=ar) (n:=n) η σ rfl Tryz.underlying43 bK rfl rfl mu rfl rfl rfl ae (by unfold maxLen; omega) ?_)
 clear η σ a; intro a w2 g1 η σ
 replace σ:=σ.sU (kI n _) ⟨aL,trivial⟩
 revert a
 refine aA rfl rfl ?_
 refine aA rfl rfl ?_
 intro a η
 refine wpList_nil (aT (wp_ret ?_))
 refine leave η (gC Tryz.results163 (RV.tmp η rfl) (RV.tmp η rfl)) ?_
 exact ⟨_,rfl,⟨_,_,_,rfl,σ.newRow (k:=0) (j:=0) rfl rfl,jH,mN⟩,σ.below⟩
theorem Fy {n k:Nat} {w0:World} (h:n<=4096) (hk:k<n):
  Calls Tryz.prog 117 #[.int .i64 (n:Nat),.int .i64 (k:Nat)] w0 fun e w'=>∃v,e=.returned (.tuple #[v,.int .i64 0])/\qC w0.heap.size w' v n ((List.replicate n 0).set k 1)/\Below w0.heap.size w0 w':=by
 refine enter Tryz.func117 rfl Tryz.ntmps117 rfl ?_
 intro a η σ
 refine wp_seq (aj ?_)
 revert a
 refine aA rfl rfl ?_
 refine aA rfl rfl ?_
 intro a η
 refine wpList_nil (aT (wp_seq (aj ?_)))
 refine sv η rfl (b7 η rfl) ?_
 clear η a; intro a η
 refine au rfl (cV η rfl Tryz.call163 rfl (Fx ae) ?_)
 rintro e w7 ⟨_,rfl,⟨A1,c2,zk,rfl,hr,KD,hz5⟩,hb⟩
 refine ⟨_,rfl,?_⟩
 clear η a; intro a η
 replace σ:=σ.lN hb hr (lh hr.2.1 ⟨aL,trivial⟩)
 clear hr
 clear hb
 revert a
 refine mA rfl rfl ?_
 refine sA rfl (fun _ η=>dQ η rfl rfl) ?_
 refine sA rfl (fun _ η=>dQ η rfl rfl) ?_
 refine aA rfl rfl ?_
 refine aA rfl rfl ?_
 intro a η
 refine wpList_nil (aT (wp_seq (wp_block (wp_seq (aj ?_)))))
 revert a
 refine mA rfl rfl ?_
 refine sA rfl (fun _ η=>bg η rfl rfl rfl) ?_
 refine aA rfl rfl ?_
 intro a η
 refine wpList_nil (aT ?_)
 refine oD η rfl (rfl) ?_
 refine wp_seq (aj ?_)
 revert a
 refine mA rfl rfl ?_
 refine sA rfl (fun _ η=>bg η rfl rfl rfl) ?_
 intro a η
 rw [show (decide (((k:Nat):Int)<(0:Int)))=false from bR ae] at η
 revert a
 refine mA rfl rfl ?_
 refine gA rfl rfl rfl rfl (fun _ η=>b7 η rfl) ?_
 refine gA rfl rfl rfl rfl (fun _ η=>b7 η rfl) ?_
 refine gA rfl rfl rfl rfl (fun _ η=>bg η rfl rfl rfl) ?_
 intro a η
 rw [show (decide (((k:Nat):Int)>=((n:Nat):Int)))=false from bR ae] at η
 revert a
 refine sA rfl (fun _ η=>ij η rfl rfl) ?_
 refine aA rfl rfl ?_
 intro a η
 refine wpList_nil (aT ?_)
 refine oD η rfl (rfl) ?_
 refine wp_skip (qA (aT (wp_seq (aj ?_))))
 revert a
 refine mA rfl rfl ?_
 refine mA rfl rfl ?_
 intro a η
 refine au rfl (cV η rfl Tryz.call18 rfl (yU ai ai) ?_)
 rintro e w11 ⟨_,rfl,⟨A8,c9,rfl,afP⟩,hb⟩
 refine ⟨_,rfl,?_⟩
 clear η a; intro a η
 replace σ:=(σ.call hb).eO afP ⟨aL,trivial⟩
 clear afP
 clear hb
 refine sv (v:=.pointer (some ⟨ab A1,ao A1+k*2,none⟩)) η rfl (jy (i:=k) η Tryz.underlying43 (ah.size) rfl rfl ae rfl (ax σ.dm)) ?_
 clear η a; intro a η
 refine au rfl (vT (i:=k) (e:=(A8,c9,1)) (k:=0) η σ (ah.size) rfl rfl rfl rfl eF ae (by assumption) rfl rfl rfl ?_)
 clear η σ a; intro a w12 η σ
 replace σ:=σ.qp (e:=(A8,c9,1)) (i:=1) (j:=0) rfl rfl k
 refine wpList_nil (aT (wp_seq (aj ?_)))
 revert a
 refine mA rfl rfl ?_
 refine aA rfl rfl ?_
 refine aA rfl rfl ?_
 intro a η
 refine wpList_nil (aT (wp_ret ?_))
 refine leave η (gC Tryz.results117 (RV.tmp η rfl) (RV.tmp η rfl)) ?_
 exact ⟨_,rfl,⟨_,_,_,rfl,σ.newRow (k:=0) (j:=0) rfl rfl,(by rw [cH]; exact KD),(by rw [qK,hz5])⟩,σ.below⟩
abbrev VE:=Option Addr×Nat×Nat×List UE
def fV (v:VE):List Value:=[.slice v.1 v.2.1 v.2.2.1]
def FV (v:VE):PF:=ag fU FU 2 v.1 v.2.1 v.2.2.1 v.2.2.2
def tl (us:List UE):Nat:=(us.map fun e=>e.2.2.1).sum
def tv (vs:List VE):Nat:=(vs.map fun v=>v.2.1+tl v.2.2.2).sum
def vz (e:UE):Int:=sg e.1 (val 4294967296 e.2.2.2.2)
def Iu:List Int->List Int->Int
 | x::xs,y::ys=>if (x - y).sign=0 then Iu xs ys else (x - y).sign
 | _,_=>0
def zo (xs ys:List Int):Int:=if xs.length<ys.length then -1 else if ys.length<xs.length then 1 else Iu xs ys
theorem Vq {xs ys:List Int} (h:xs.length<ys.length):zo xs ys=-1:=by unfold zo; rw [aR h]
theorem Vr {xs ys:List Int} (h:ys.length<xs.length):zo xs ys=1:=by unfold zo; rw [aQ ae,aR h]
theorem M4 (xs:List Int):Iu xs xs=0:=by
 induction xs with
 | nil=>rfl
 | cons x xs ih=>rw [Iu,Int.sub_self,aR (show Int.sign 0=0 from rfl),ih]
theorem KE:∀{xs ys:List Int} {j:Nat} {x y:Int},xs.take j=ys.take j->xs[j]?=some x->ys[j]?=some y->(x - y).sign≠0->Iu xs ys=(x - y).sign
 | [],_,_,_,_,_,h,_,_=>by cases h
 | _::_,[],_,_,_,_,_,h,_=>by cases h
 | a::xs,b::ys,0,x,y,_,h1,h2,h=>by
  rw [List.getElem?_cons_zero] at h1 h2
  cases h1; cases h2
  rw [Iu,aQ h]
 | a::xs,b::ys,j+1,x,y,h0,h1,h2,h=>by
  rw [xo,xo] at h0
  obtain ⟨rfl,h9⟩:=List.cons.inj h0
  rw [Iu,Int.sub_self,aR (show Int.sign 0=0 from rfl)]
  exact KE h9 h1 h2 h
theorem KF {xs ys:List Int} (_h:xs.length=ys.length) (h2:xs=ys):zo xs ys=0:=by
 subst h2
 unfold zo
 rw [aQ ae,aQ ae,M4]
theorem Vs {es0 es1:List NE} {j:Nat} {A B:Option Addr} {c d:Nat} {x y:Int} (h:(es0.map zz).length=(es1.map zz).length) (hq:(es0.map zz).take j=(es1.map zz).take j) (h0:es0[j]?=some (A,c,x)) (h1:es1[j]?=some (B,d,y)) (hn:(x - y).sign≠0):zo (es0.map zz) (es1.map zz)=(x - y).sign:=by
 unfold zo
 rw [aQ ae,aQ ae]
 exact KE hq (by rw [bo,h0]; rfl) (by rw [bo,h1]; rfl) hn
theorem M5 {es0 es1:List NE} {j:Nat} {A B:Option Addr} {c d:Nat} {x y:Int} (hq:(es0.map zz).take j=(es1.map zz).take j) (h0:es0[j]?=some (A,c,x)) (h1:es1[j]?=some (B,d,y)) (h:x=y):(es0.map zz).take (j+1)=(es1.map zz).take (j+1):=by
 rw [take_one (by rw [bo,h0]; rfl),take_one (by rw [bo,h1]; rfl),hq,h]
theorem aaC {a b:Int} (h:(a !=b)=true):a≠b:=bne_iff_ne.1 h
theorem Iv {x y:Int} (h:((x - y).sign !=0)=false):x=y:=by
 have h1:(x - y).sign=0:=by simpa using h
 have:=yL.1 h1
 omega
theorem Vt {A0:Option Addr} {n0 c0:Nat} {es0:List NE} {A1:Option Addr} {n1 c1:Nat} {es1:List NE} {w0:World} (h0:(ag fN FN 2 A0 n0 c0 es0).P w0) (h1:(ag fN FN 2 A1 n1 c1 es1).P w0):
  Calls Tryz.prog 164 #[.slice A0 n0 c0,.slice A1 n1 c1] w0 fun e w'=>e=.returned (.int .i64 (zo (es0.map zz) (es1.map zz)))/\Below w0.heap.size w0 w':=by
 refine enter Tryz.func164 rfl Tryz.ntmps164 rfl ?_
 intro a η σ
 have a8:=h0.2.1
 have bW:=bq h0.1.cap h0.1.big
 unfold maxLen at bW
 replace σ:=σ.aE h0
 clear h0
 have cY:=h1.2.1
 have eC:=bq h1.1.cap h1.1.big
 unfold maxLen at eC
 replace σ:=σ.aE h1
 clear h1
 refine wp_seq (aj ?_)
 refine sv (v:=.int .i64 0) η rfl (aV η rfl) ?_
 clear η a; intro a η
 refine wpList_nil (aT (wp_seq (wp_block (wp_seq (aj ?_)))))
 revert a
 refine mA rfl rfl ?_
 refine sA (v:=.int .i64 (n0:Nat)) rfl (fun _ η=>eW η Tryz.underlying43 rfl) ?_
 refine mA rfl rfl ?_
 refine sA (v:=.int .i64 (n1:Nat)) rfl (fun _ η=>eW η Tryz.underlying43 rfl) ?_
 refine sA (v:=.bool (decide (((n0:Nat):Int)<((n1:Nat):Int)))) rfl (fun _ η=>bg η rfl rfl rfl) ?_
 refine aA rfl rfl ?_
 intro a η
 refine wpList_nil (aT ?_)
 refine dY η rfl (fun sP=>?_) (fun sP=>?_)
 ·have xx:=bX sP
  refine wp_seq (aj ?_)
  refine sv (v:=.int .i64 (-1)) η rfl (aV η rfl) ?_
  clear η a; intro a η
  refine wpList_nil (aT (wp_ret (mZ (j9 ?_))))
  refine leave η (dA Tryz.results164 (RV.tmp η rfl)) ?_
  exact ⟨by rw [Vq (by rw [aZ,aZ]; omega)],σ.below⟩
 ·have M6:=fT sP
  refine wp_seq (aj ?_)
  revert a
  refine mA rfl rfl ?_
  refine sA (v:=.int .i64 (n0:Nat)) rfl (fun _ η=>eW η Tryz.underlying43 rfl) ?_
  refine mA rfl rfl ?_
  refine sA (v:=.int .i64 (n1:Nat)) rfl (fun _ η=>eW η Tryz.underlying43 rfl) ?_
  refine sA (v:=.bool (decide (((n0:Nat):Int)>((n1:Nat):Int)))) rfl (fun _ η=>bg η rfl rfl rfl) ?_
  refine aA rfl rfl ?_
  intro a η
  refine wpList_nil (aT ?_)
  refine dY η rfl (fun P6=>?_) (fun P6=>?_)
  ·have hc5:=bX P6
   refine wp_seq (aj ?_)
   refine sv (v:=.int .i64 1) η rfl (aV η rfl) ?_
   clear η a; intro a η
   refine wpList_nil (aT (wp_ret (mZ (j9 ?_))))
   refine leave η (dA Tryz.results164 (RV.tmp η rfl)) ?_
   exact ⟨by rw [Vr (by rw [aZ,aZ]; omega)],σ.below⟩
  ·have hc6:=fT P6
   refine wp_skip (qA (aT (wp_seq (wp_seq (aj ?_)))))
   revert a
   refine mA rfl rfl ?_
   refine sA (v:=.int .i64 (n0:Nat)) rfl (fun _ η=>eW η Tryz.underlying43 rfl) ?_
   refine mA rfl rfl ?_
   intro a η
   refine wpList_nil (aT (wp_block ?_))
   refine wp_loop_ghost (fun mz a w=>∃j:Nat,n0 - j=mz/\Env 37 a [(0,.slice A0 n0 c0),(1,.slice A1 n1 c1),(20,.slice A0 n0 c0),(21,.int .i64 (n0:Nat)),(22,.int .i64 (j:Nat))]/\St w0 w [] [ag fN FN 2 A1 n1 c1 es1,ag fN FN 2 A0 n0 c0 es0]/\j<=n0/\(es0.map zz).take j=(es1.map zz).take j) _ ⟨0,rfl,η.sub ay,σ.pick [] [0,1] ai,(bm _),rfl⟩ ?_
   clear η σ a
   rintro mz a w7 ⟨j,rfl,η,σ,hj,hq⟩
   refine wp_seq (aj ?_)
   refine sv (v:=.bool (decide (((j:Nat):Int)<((n0:Nat):Int)))) η rfl (bg η rfl rfl rfl) ?_
   clear η a; intro a η
   refine wpList_nil (aT (wp_seq ?_))
   refine dY η rfl (fun hc8=>?_) (fun hc8=>?_)
   ·have cD:j<n0:=by have:=bX hc8; omega
    obtain ⟨⟨A,c,x⟩,b5⟩:∃e,es0[j]?=some e:=⟨_,aw ae⟩
    replace σ:=σ.elem (k:=1) rfl b5
    obtain ⟨⟨B,d,y⟩,iH⟩:∃e,es1[j]?=some e:=⟨_,aw ae⟩
    replace σ:=σ.elem (k:=1) rfl iH
    refine wp_skip (aT (wp_seq (wp_block (wp_seq (aj ?_)))))
    revert a
    refine mA rfl rfl ?_
    refine sA (v:=.pointer (some ⟨ab A0,ao A0+j*2,none⟩)) rfl (fun _ η=>jy (i:=j) η Tryz.underlying43 (ah.size) rfl rfl ae rfl σ.eY.1) ?_
    refine sA (v:=.agg #[.bool (neg x),.slice A (zl x) c]) rfl (fun _ η=>bF (i:=j) (e:=(A,c,x)) η ah rfl rfl eF σ.eY.1 ae b5 rfl) ?_
    intro a η
    refine au rfl (fA (c:=#[.bool (neg 0),.slice none (zl 0) 0]) η σ rfl aG lZ ?_)
    clear η σ a; intro a w10 g9 η σ
    refine sv (v:=.int .i64 (j:Nat)) η rfl (aV η rfl) ?_
    clear η a; intro a η
    refine au rfl (fW (k:=0) (c':=#[.bool (neg x),.slice A (zl x) c]) η σ (ah.size) rfl rfl rfl rfl cT rfl rfl ?_)
    clear η σ a; intro a w11 η σ
    refine wpList_nil (aT (wp_seq ?_))
    refine pw (n:=7) (Sk [bk g9 #[.bool (neg x),.slice A (zl x) c] 52] [BW B d y,BW A c x,ag fN FN 2 A1 n1 c1 es1,ag fN FN 2 A0 n0 c0 es0] [] []) mixed rfl η σ ?_
    clear η σ; intro w12 η σ
    refine tL (i:=0) 0 0 [5,6] rfl aK (fun _ _ _ h=>h) η rfl ah rfl σ rfl rfl rfl ?_
    clear η a; intro a η
    refine tM (i:=1) (rg 3 4) rfl aK (fun _ _ _ h=>h) η rfl rfl ?_
    clear η a; intro a η
    refine tM (i:=2) (rg 3 4) rfl aK (fun _ _ _ h=>h) η rfl rfl ?_
    clear η a; intro a η
    refine fH (i:=3) [4,5,6] (fun w'=>(ag fN FN 2 A1 n1 c1 es1).P w') (v:=.pointer (some ⟨ab A1,ao A1+j*2,none⟩)) rfl aK (fun _ _ _ h=>h) (fun _ _ _ hS=>hS.1.pat (k:=2) rfl) η rfl σ.cF (fun w' hg=>jy (i:=j) η Tryz.underlying43 (ah.size) rfl rfl ae rfl (hg).1) ?_
    clear η a; intro a η
    refine fH (i:=4) [5,6] (fun w'=>(ag fN FN 2 A1 n1 c1 es1).P w') (v:=.agg #[.bool (neg y),.slice B (zl y) d]) rfl aK (fun _ _ _ h=>h) (fun _ _ _ hS=>hS.1.pat (k:=2) rfl) η rfl σ.cF (fun w' hg=>bF (i:=j) (e:=(B,d,y)) η ah rfl rfl eF (hg).1 ae iH rfl) ?_
    clear η a; intro a η
    refine mY (i:=5) aK rfl rfl (cV η rfl Tryz.call115 rfl (Yv (x:=x) (y:=y) (show dK _ A c x from σ.bC) (show dK _ B d y from σ.aU)) ?_)
    rintro e w13 ⟨rfl,hb⟩
    refine ⟨_,rfl,?_⟩
    clear η a; intro a η
    replace σ:=σ.call hb
    clear hb
    refine ⟨.inr ⟨σ.kn.pick [0] (rg 0 4),.inr (σ.kn.pick [] [])⟩,?_⟩
    refine tA (i:=6) [] (v:=.int .i64 ((x - y).sign)) rfl aK (fun _ _ _ h=>h) η rfl (fun _=>aV η rfl) ?_
    clear η a; intro a η
    refine rN aK ?_ _
    refine aT (wp_seq (aj ?_))
    revert a
    refine mA rfl rfl ?_
    refine sA (v:=.bool ((x - y).sign !=(0:Int))) rfl (fun _ η=>bg η rfl rfl rfl) ?_
    intro a η
    refine wpList_nil (aT ?_)
    refine dY η rfl (fun aaD=>?_) (fun aaD=>?_)
    ·have hnz:(x - y).sign≠0:=aaC aaD
     refine wp_seq (aj ?_)
     revert a
     refine mA rfl rfl ?_
     refine aA rfl rfl ?_
     intro a η
     refine wpList_nil (aT (wp_ret (mZ (j9 (j9 (mZ (j9 ?_)))))))
     refine leave η (dA Tryz.results164 (RV.tmp η rfl)) ?_
     exact ⟨by rw [Vs (by rw [aZ,aZ]; omega) hq b5 iH hnz],σ.below⟩
    ·have hzz:x=y:=Iv aaD
     refine wp_skip (qA (aT (aj ?_)))
     revert a
     refine sA (v:=.int .i64 (j+1:Nat)) rfl (fun _ η=>im η rfl rfl (by rw [IntWalk.i64_in _ ae]; omega)) ?_
     refine mA rfl rfl ?_
     intro a η
     refine wpList_nil ?_
     exact aT ⟨_,ae,⟨j+1,rfl,η.sub ay,σ.pick [] [2,3] ai,ae,(M5 hq b5 iH hzz)⟩⟩
   ·have hjn:j=n0:=by have:=fT hc8; omega
    refine wp_exit (kW (kW (tt (aT (wp_seq (aj ?_))))))
    refine sv (v:=.int .i64 0) η rfl (aV η rfl) ?_
    clear η a; intro a η
    refine wpList_nil (aT (wp_ret ?_))
    refine leave η (dA Tryz.results164 (RV.tmp η rfl)) ?_
    exact ⟨by rw [KF (by rw [aZ,aZ]; omega) (by rw [bD (by rw [aZ]; omega),bD (by rw [aZ]; omega)] at hq; exact hq)],σ.below⟩
theorem P7 {A0:Option Addr} {n0 c0:Nat} {es0:List NE} {A1:Option Addr} {n1 c1:Nat} {es1:List NE} {w0:World} (h0:(ag fN FN 2 A0 n0 c0 es0).P w0) (h1:(ag fN FN 2 A1 n1 c1 es1).P w0):
  Calls Tryz.prog 118 #[.slice A0 n0 c0,.slice A1 n1 c1] w0 fun e w'=>e=.returned (.bool ((zo (es0.map zz) (es1.map zz))==0))/\Below w0.heap.size w0 w':=by
 refine enter Tryz.func118 rfl Tryz.ntmps118 rfl ?_
 intro a η σ
 have a8:=h0.2.1
 have bW:=bq h0.1.cap h0.1.big
 unfold maxLen at bW
 replace σ:=σ.aE h0
 have cY:=h1.2.1
 have eC:=bq h1.1.cap h1.1.big
 unfold maxLen at eC
 replace σ:=σ.aE h1
 refine wp_seq (aj ?_)
 refine sv (v:=.bool false) η rfl (aV η rfl) ?_
 clear η a; intro a η
 refine wpList_nil (aT (wp_seq (aj ?_)))
 revert a
 refine mA rfl rfl ?_
 refine mA rfl rfl ?_
 intro a η
 refine au rfl (cV η rfl Tryz.call164 rfl (Vt σ.bC σ.aU) ?_)
 rintro e w1 ⟨rfl,hb⟩
 refine ⟨_,rfl,?_⟩
 clear η a; intro a η
 replace σ:=σ.call hb
 clear hb
 revert a
 refine sA (v:=.bool ((zo (es0.map zz) (es1.map zz))==(0:Int))) rfl (fun _ η=>bg η rfl rfl rfl) ?_
 refine aA rfl rfl ?_
 intro a η
 refine wpList_nil (aT (wp_ret ?_))
 refine leave η (dA Tryz.results118 (RV.tmp η rfl)) ?_
 exact ⟨rfl,σ.below⟩
def wid (zs:List Int):Int:=zs.foldl (fun w z=>if w<(z.natAbs:Int) then (z.natAbs:Int) else w) 0
theorem aaE {us:List UE} {e:UE} (h:e∈us):e.2.2.1<=tl us:=by
 induction us with
 | nil=>cases h
 | cons x us ih=>
  unfold tl at*
  rw [jJ,List.sum_cons]
  rcases dW.1 h with rfl | h
  ·omega
  ·have:=ih h; omega
theorem aaF {w:World} {b:Bool} {A:Option Addr} {n c k:Nat} {xs:List Nat} (h:eT w A n c xs) (hn:n<=k):zl (sg b (val 4294967296 xs))<=k:=by
 have h2:=aak h
 have e:zl (sg b (val 4294967296 xs))=nl (val 4294967296 xs):=by
  unfold sg zl
  split
  ·rw [Int.natAbs_neg,yD]
  ·rw [yD]
 omega
def Zk (k:Nat) (zs:List Int):Prop:=∀z∈zs,zl z<=k
theorem Zk.es {k:Nat} {es:List NE} {zs:List Int} (h:Zk k zs) (e:es.map zz=zs):ZB k es:=fun x hx=>h (zz x) (e ▸ qO hx)
theorem Zk.mono {k m:Nat} {zs:List Int} (h:Zk k zs) (hm:k<=m):Zk m zs:=fun z hz=>bq (h z hz) hm
theorem Zk.map {k m:Nat} {zs:List Int} {f:Int->Int} (h:Zk k zs) (hf:∀z,zl z<=k->zl (f z)<=m):Zk m (zs.map f):=fun x hx=>by
 obtain ⟨z,hz,rfl⟩:=ff.1 hx
 exact hf z (h z hz)
theorem wR {f:Int->Int->Int} {x:Int}:∀{xs ys:List Int},x∈List.zipWith f xs ys->∃a∈xs,∃b∈ys,x=f a b
 | [],_,h=>by simp at h
 | _::_,[],h=>by simp at h
 | a::xs,b::ys,h=>by
  rw [List.zipWith_cons_cons] at h
  rcases dW.1 h with rfl | h
  ·exact ⟨a,bS ..,b,bS ..,rfl⟩
  ·obtain ⟨a,ha,b,hb,e⟩:=wR h
   exact ⟨a,cO _ ha,b,cO _ hb,e⟩
theorem Zk.zip {k j m:Nat} {xs ys:List Int} {f:Int->Int->Int} (h:Zk k xs) (g:Zk j ys) (hf:∀x y,zl x<=k->zl y<=j->zl (f x y)<=m):Zk m (List.zipWith f xs ys):=fun x hx=>by
 obtain ⟨a,ha,b,hb,rfl⟩:=wR hx
 exact hf a b (h a ha) (g b hb)
theorem Zk.vz {es:List UE} {k:Nat} {w:World} (h:(bL FU es).P w) (ht:tl es<=k):Zk k (es.map vz):=by
 intro z hz
 obtain ⟨e,he,rfl⟩:=ff.1 hz
 have h1:eT w e.2.1 e.2.2.1 e.2.2.2.1 e.2.2.2.2:=h e he
 exact aaF h1 (bq (aaE he) ht)
theorem Zk.afS {k:Nat} {zs:List Int} (h:Zk k zs):Zk k (afS zs):=h.map fun _ hz=>bq (Kz _ _) hz
theorem Zk.take {k:Nat} {zs:List Int} (h:Zk k zs) (j:Nat):Zk k (zs.take j):=fun z hz=>h z (lI hz)
theorem xS (b:Bool):b=true∨b=false:=by cases b<;>simp
def CN (op cn:Int):Prop:=((op=5∨op=6)->cn≠0/\-512<=cn/\cn<=512)/\((op=7∨op=8)->1<=cn/\cn<=64)/\(¬(op=5∨op=6∨op=7∨op=8)->cn=0)
instance (op cn:Int):Decidable (CN op cn):=by unfold CN; infer_instance
def cN (e:IE) (g:Int):Prop:=1<=e.1/\e.1<=8/\0<=e.2.1/\e.2.1<g/\0<=e.2.2.1/\e.2.2.1<g/\((e.1=3∨e.1=4)->0<=e.2.2.2.1/\e.2.2.2.1<g/\e.2.2.2.2=0)/\(¬(e.1=3∨e.1=4)->e.2.2.2.1=0)/\
 ((e.1=5∨e.1=6)->e.2.2.2.2≠0/\-512<=e.2.2.2.2/\e.2.2.2.2<=512)/\((e.1=7∨e.1=8)->1<=e.2.2.2.2/\e.2.2.2.2<=64)/\((e.1=1∨e.1=2)->e.2.2.2.2=0)
instance (e:IE) (g:Int):Decidable (cN e g):=by unfold cN; infer_instance
def cP (op ra rb:Int):List Int:=if op=3∨op=4 then [ra,rb] else if 1<=op/\op<=8 then [ra] else []
theorem kJ (op ra rb:Int):(cP op ra rb).length<=2:=by
 unfold cP
 split
 ·simp
 ·split<;>simp
def asx (B:Nat) (w:World) (v:Value) (zs:List Int):Prop:=∃A c,v=.slice A zs.length c/\(ag fI FI 1 A zs.length c zs).P w/\∀a,A=some a->B<=a.block
def rm (i g:Int) (n m:Nat):Prop:=1<=i/\i<=g/\g<=128/\n<=16384/\1<=m/\m<=128
instance (i g:Int) (n m:Nat):Decidable (rm i g n m):=by unfold rm; infer_instance
def P8 (i g:Int) (n m:Nat) (es:List IE) (os:List Int):Prop:=rm i g n m/\(∀x∈os,0<=x/\x<g)/\∀e∈es,cN e g
def ap3 (i g:Int) (n m:Nat) (es:List IE) (os:List Int) (k:Int):Prop:=
 (k=-1/\¬rm i g n m)∨(k=-1/\rm i g n m/\¬∀x∈os,0<=x/\x<g)∨
 ∃(q:Nat) (ek:IE),k=(q:Nat)/\rm i g n m/\(∀x∈os,0<=x/\x<g)/\es[q]?=some ek/\¬cN ek g/\∀j e,j<q->es[j]?=some e->cN e g
open Go.RowKit Anv
abbrev Rw:=List Int
def wS (c:Int) (x:Rw):Bool:=x.all fun v=>decide (v%c=0)
def lD (op c:Int) (x y:Rw):Option Rw:=
 if op=2 then some (x.map fun v=>-v)
 else if op=3 then some (List.zipWith (fun a b=>a+b) x y)
 else if op=4 then some (List.zipWith (fun a b=>a - b) x y)
 else if op=5 then some (x.map fun v=>v*c)
 else if op=6 then (if wS c x then some (x.map fun v=>v / c) else none)
 else if op=7 then some (x.map fun v=>v*2 ^ c.toNat)
 else if op=8 then (if wS (2 ^ c.toNat) x then some (x.map fun v=>v / 2 ^ c.toNat) else none)
 else some x
def eQ (R:List Rw) (k:Int):Rw:=R.getD k.toNat []
def mg (R:List Rw) (e:IE):Option (List Rw):=(lD e.1 e.2.2.2.2 (eQ R e.2.2.1) (eQ R e.2.2.2.1)).map fun z=>R.set e.2.1.toNat z
def kX:List Rw->List IE->Option (List Rw)
 | R,[]=>some R
 | R,e::es=>(mg R e).bind fun R'=>kX R' es
def ie (g n:Nat) (G:List Rw):List Rw:=G++List.replicate (g - G.length) (List.replicate n 0)
theorem gQ {R:List Rw} {e:IE} {es:List IE}:kX R (e::es)=(mg R e).bind fun R'=>kX R' es:=rfl
theorem tG:∀(es fs:List IE) (R:List Rw),kX R (es++fs)=(kX R es).bind fun R'=>kX R' fs
 | [],_,_=>rfl
 | e::es,fs,R=>by
  rw [qj,gQ,gQ]
  cases h:mg R e with
  | none=>rfl
  | some R1=>exact tG es fs R1
theorem Dv {es fs:List IE} {R R1 R2:List Rw} (h1:kX R es=some R1) (h2:kX R1 fs=some R2):kX R (es++fs)=some R2:=by
 rw [tG,h1]; exact h2
theorem uL {R R1:List Rw} {e:IE} (h:mg R e=some R1):kX R [e]=some R1:=by
 rw [gQ,h]; rfl
theorem P9 {R R1 R2:List Rw} {es:List IE} {e:IE} (h1:kX R es=some R1) (h2:mg R1 e=some R2):kX R (es++[e])=some R2:=Dv h1 (uL h2)
theorem M7 {es fs:List IE} {R R2:List Rw} (h:kX R (es++fs)=some R2):∃R1,kX R es=some R1/\kX R1 fs=some R2:=by
 rw [tG] at h
 cases h1:kX R es with
 | none=>rw [h1] at h; cases h
 | some R1=>rw [h1] at h; exact ⟨R1,rfl,h⟩
theorem KG {op c:Int} {x y z:Rw} {n:Nat} (h:lD op c x y=some z) (hx:x.length=n) (hy:y.length=n):z.length=n:=by
 unfold lD at h
 (repeat' split at h)<;>first | (cases h; done) | (cases h; simp [hx,hy])
theorem vU {R:List Rw} {k:Int} {g n:Nat} (hR:R.length=g) (hn:∀r∈R,r.length=n) (h0:0<=k) (h1:k<g):(eQ R k).length=n:=by
 unfold eQ
 have:k.toNat<R.length:=ae
 rw [aF,aw this]
 exact hn _ (mS this)
theorem Iw {R:List Rw} {k:Int} {g:Nat} {f:Rw->Rw} (hR:R.length=g) (h0:0<=k) (h1:k<g):eQ (R.map f) k=f (eQ R k):=by
 unfold eQ
 have:k.toNat<R.length:=ae
 rw [aF,aF,bo,aw this]
 rfl
theorem jq {R:List Rw} {k:Int} {g:Nat} {z:Rw} (hR:R.length=g) (h0:0<=k) (h1:k<g):eQ (R.set k.toNat z) k=z:=by
 unfold eQ
 rw [aF,C2 ae]
 rfl
theorem lk {R:List Rw} {k j:Int} {z:Rw} (h0:0<=k) (h1:0<=j) (h:k≠j):eQ (R.set k.toNat z) j=eQ R j:=by
 unfold eQ
 rw [aF,aF,List.getElem?_set_ne ae]
theorem rV {op c:Int} {x y y':Rw} (h:¬(op=3∨op=4)):lD op c x y=lD op c x y':=by
 unfold lD
 rw [aQ (show ¬op=3 by omega),aQ (show ¬op=4 by omega),aQ (show ¬op=3 by omega),aQ (show ¬op=4 by omega)]
theorem Fz {op c:Int} {x y z:Rw} {n:Nat} (h:lD op c x y=some z) (hx:x.length=n) (hy:(op=3∨op=4)->y.length=n):z.length=n:=by
 by_cases q:op=3∨op=4
 ·exact KG h hx (hy q)
 ·rw [rV (y':=x) q] at h
  exact KG h hx hx
theorem xT {R R':List Rw} {e:IE} {g n:Nat} (h:mg R e=some R') (hM:cN e g) (hR:R.length=g) (hn:∀r∈R,r.length=n):R'.length=g/\∀r∈R',r.length=n:=by
 obtain ⟨op,to_,a,b,c⟩:=e
 unfold mg at h
 unfold cN at hM
 dsimp only at h hM
 cases hr:lD op c (eQ R a) (eQ R b) with
 | none=>rw [hr] at h; cases h
 | some z=>
  rw [hr] at h
  obtain rfl:=dw h
  have hz:=Fz hr (vU hR hn ae ae) fun q=>vU hR hn ae ae
  refine ⟨by rw [cH]; exact hR,fun r hm=>?_⟩
  rcases kr hm with q | rfl
  ·exact hn r q
  ·exact hz
theorem xU:∀(es:List IE) {R R':List Rw} {g n:Nat},kX R es=some R'->(∀e∈es,cN e g)->R.length=g->(∀r∈R,r.length=n)->R'.length=g/\∀r∈R',r.length=n
 | [],_,_,_,_,h,_,hR,hn=>by cases h; exact ⟨hR,hn⟩
 | e::es,R,R',g,n,h,hM,hR,hn=>by
  rw [gQ] at h
  cases h1:mg R e with
  | none=>rw [h1] at h; cases h
  | some R1=>
   rw [h1] at h
   obtain ⟨a,b⟩:=xT h1 (hM e (bS ..)) hR hn
   exact xU es h (fun e he=>hM e (cO _ he)) a b
def dt:List Int->List Int->Int
 | a::x,b::y=>a*b+dt x y
 | _,_=>0
theorem zp (b:List Int):dt [] b=0:=by cases b<;>rfl
theorem Qa:∀(x c:List Int),dt (x.map fun v=>-v) c=- dt x c
 | [],c=>by rw [List.map_nil,zp]; rfl
 | _::_,[]=>rfl
 | a::x,b::c=>by rw [jJ,dt,dt,Qa x c,yB,Int.neg_add]
theorem Dw (k:Int):∀(x c:List Int),dt (x.map fun v=>v*k) c=dt x c*k
 | [],c=>by rw [List.map_nil,zp,jI]
 | _::_,[]=>by simp [dt]
 | a::x,b::c=>by rw [jJ,dt,dt,Dw k x c,BJ,Int.mul_right_comm]
theorem Qb:∀(x y c:List Int),x.length=y.length->dt (List.zipWith (fun a b=>a+b) x y) c=dt x c+dt y c
 | [],[],c,_=>by rw [List.zipWith_nil_left,zp]; rfl
 | _::_,_::_,[],_=>rfl
 | a::x,b::y,d::c,h=>by
  rw [List.zipWith_cons_cons,dt,dt,dt,Qb x y c (by simpa using h),BJ]; omega
theorem Qc:∀(x y c:List Int),x.length=y.length->dt (List.zipWith (fun a b=>a - b) x y) c=dt x c - dt y c
 | [],[],c,_=>by rw [List.zipWith_nil_left,zp]; rfl
 | _::_,_::_,[],_=>rfl
 | a::x,b::y,d::c,h=>by
  rw [List.zipWith_cons_cons,dt,dt,dt,Qc x y c (by simpa using h),Int.sub_mul]; omega
theorem Vu {k:Int} {x:Rw} (h:wS k x=true):(x.map fun v=>v / k).map (fun v=>v*k)=x:=by
 rw [ox]
 conv=>rhs; rw [<- List.map_id x]
 refine jh fun v hv=>?_
 have:=bX (dP.1 h v hv)
 exact Int.ediv_mul_cancel (wF this)
theorem Qd {k:Int} {x:Rw} (h:wS k x=true) (c:List Int):dt x c=dt (x.map fun v=>v / k) c*k:=by
 rw [<- Dw,Vu h]
def qt (X:List (List Int)) (x:Rw):Rw:=X.map (dt x)
theorem Vv (X:List (List Int)) (x:Rw):(qt X x).length=X.length:=aZ _
theorem KH {k:Int} {x:Rw} (X:List (List Int)) (hk:k≠0) (h:wS k x=true):wS k (qt X x)=true/\(qt X x).map (fun v=>v / k)=qt X (x.map fun v=>v / k):=by
 refine ⟨dP.2 fun v hv=>?_,?_⟩
 ·obtain ⟨c,_,rfl⟩:=ff.1 hv
  rw [Qd h c]
  exact dU (Int.mul_emod_left _ _)
 ·unfold qt
  rw [ox]
  refine jh fun c _=>?_
  show dt x c / k=_
  rw [Qd h c,gr _ hk]
theorem KI (f:Int->Int->Int) (X:List (List Int)) (x y:Rw):List.zipWith f (qt X x) (qt X y)=X.map fun c=>f (dt x c) (dt y c):=by
 unfold qt
 rw [List.zipWith_map,List.zipWith_self]
theorem KK {op c:Int} {x y z:Rw} (X:List (List Int)) (h:lD op c x y=some z) (hl:(op=3∨op=4)->x.length=y.length) (hc:op=6->c≠0):lD op c (qt X x) (qt X y)=some (qt X z):=by
 have h2:(2:Int) ^ c.toNat≠0:=Int.pow_ne_zero ai
 unfold lD at h ⊢
 split at h
 ·rename_i q
  cases h
  rw [aR q]
  simp [qt,Qa]
 rename_i q2
 rw [aQ q2]
 split at h
 ·rename_i q
  cases h
  rw [aR q,KI]
  exact aM some (jh fun c _=>(Qb x y c (hl (.inl q))).symm)
 rename_i q3
 rw [aQ q3]
 split at h
 ·rename_i q
  cases h
  rw [aR q,KI]
  exact aM some (jh fun c _=>(Qc x y c (hl (.inr q))).symm)
 rename_i q4
 rw [aQ q4]
 split at h
 ·rename_i q
  cases h
  rw [aR q]
  simp [qt,Dw]
 rename_i q5
 rw [aQ q5]
 split at h
 ·rename_i q
  rw [aR q]
  split at h
  ·rename_i hd
   cases h
   obtain ⟨a,b⟩:=KH X (hc q) hd
   rw [aR a,b]
  ·cases h
 rename_i q6
 rw [aQ q6]
 split at h
 ·rename_i q
  cases h
  rw [aR q]
  simp [qt,Dw]
 rename_i q7
 rw [aQ q7]
 split at h
 ·rename_i q
  rw [aR q]
  split at h
  ·rename_i hd
   cases h
   obtain ⟨a,b⟩:=KH X h2 hd
   rw [aR a,b]
  ·cases h
 rename_i q8
 rw [aQ q8]
 cases h
 rfl
theorem Vw {R R':List Rw} {e:IE} {g n:Nat} (X:List (List Int)) (h:mg R e=some R') (hM:cN e g) (hR:R.length=g) (hn:∀r∈R,r.length=n):mg (R.map (qt X)) e=some (R'.map (qt X)):=by
 obtain ⟨op,to_,a,b,c⟩:=e
 unfold mg at h ⊢
 unfold cN at hM
 dsimp only at h hM ⊢
 cases hr:lD op c (eQ R a) (eQ R b) with
 | none=>rw [hr] at h; cases h
 | some z=>
  rw [hr] at h
  obtain rfl:=dw h
  rw [Iw hR ae ae]
  by_cases q:op=3∨op=4
  ·rw [Iw hR ae ae,KK X hr (fun _=>(vU hR hn ae ae).trans (vU hR hn ae ae).symm) ae]
   simp
  ·rw [rV (y':=qt X (eQ R b)) q,KK X hr (fun q'=>absurd q' q) ae]
   simp
theorem KL (X:List (List Int)):∀(es:List IE) {R R':List Rw} {g n:Nat},kX R es=some R'->(∀e∈es,cN e g)->R.length=g->(∀r∈R,r.length=n)->kX (R.map (qt X)) es=some (R'.map (qt X))
 | [],_,_,_,_,h,_,_,_=>by cases h; rfl
 | e::es,R,R',g,n,h,hM,hR,hn=>by
  rw [gQ] at h ⊢
  cases h1:mg R e with
  | none=>rw [h1] at h; cases h
  | some R1=>
   rw [h1] at h
   obtain ⟨a,b⟩:=xT h1 (hM e (bS ..)) hR hn
   rw [Vw X h1 (hM e (bS ..)) hR hn]
   exact KL X es h (fun e he=>hM e (cO _ he)) a b
def nG (b:Nat) (R:List Rw):Prop:=∀r∈R,∀v∈r,v.natAbs<2 ^ b
theorem nG.mono {b c:Nat} {R:List Rw} (h:nG b R) (yY:b<=c):nG c R:=fun r hr v hv=>gw (h r hr v hv) (fE ai yY)
theorem zt {x b k:Nat} {c:Int} {v:Int} (hv:v.natAbs<2 ^ b) (hc:c.natAbs<=2 ^ k) (hx:x=b+k):(v*c).natAbs<2 ^ x:=by
 subst hx
 rw [lH,mM]
 rcases ed c.natAbs with q | q
 ·rw [q,J2]; exact BH (nW ai) (nW ai)
 ·exact gw (Nat.mul_lt_mul_of_pos_right hv q) (gl _ hc)
theorem Vx {op c:Int} {x y z:Rw} {b:Nat} (h:lD op c x y=some z) (hx:∀v∈x,v.natAbs<2 ^ b) (hy:(op=3∨op=4)->∀v∈y,v.natAbs<2 ^ b) (h5:op=5->c.natAbs<=512) (h7:op=7->c<=64):∀v∈z,v.natAbs<2 ^ (b+64):=by
 have hm:∀k:Nat,k<=64->2 ^ (b+k)<=2 ^ (b+64):=fun k hk=>fE ai ae
 have h1:=hm 1 ai
 rw [iJ] at h1
 have h0:=hm 0 ai
 rw [j7] at h0
 unfold lD at h
 split at h
 ·cases h
  intro v hv
  obtain ⟨u,hu,rfl⟩:=ff.1 hv
  have:=hx u hu
  omega
 split at h
 ·rename_i q
  cases h
  intro v hv
  rw [List.mem_iff_getElem?] at hv
  obtain ⟨i,hi⟩:=hv
  obtain ⟨u,t,hu,ht,rfl⟩:=List.getElem?_zipWith_eq_some.1 hi
  have:=hx u (aB hu)
  have:=hy (.inl q) t (aB ht)
  omega
 split at h
 ·rename_i q
  cases h
  intro v hv
  rw [List.mem_iff_getElem?] at hv
  obtain ⟨i,hi⟩:=hv
  obtain ⟨u,t,hu,ht,rfl⟩:=List.getElem?_zipWith_eq_some.1 hi
  have:=hx u (aB hu)
  have:=hy (.inr q) t (aB ht)
  omega
 split at h
 ·rename_i q
  cases h
  intro v hv
  obtain ⟨u,hu,rfl⟩:=ff.1 hv
  exact gw (zt (hx u hu) (h5 q) rfl) (hm 9 ai)
 have hdiv:∀(k:Int),∀v∈x.map (fun v=>v / k),wS k x=true->v.natAbs<2 ^ (b+64):=by
  intro k v hv hd
  obtain ⟨u,hu,rfl⟩:=ff.1 hv
  have h2:=bX (dP.1 hd u hu)
  have h3:=Int.ediv_mul_cancel (wF h2)
  have h4:(u / k).natAbs<=u.natAbs:=by
   rcases EY k 0 with q | q | q
   ·rw [<- h3,lH,gr _ ae]
    exact wE _ ae
   ·rw [q,Int.ediv_zero]; exact bm _
   ·rw [<- h3,lH,gr _ ae]
    exact wE _ ae
  have:=hx u hu
  omega
 split at h
 ·split at h
  ·rename_i hd
   cases h
   exact fun v hv=>hdiv _ v hv hd
  ·cases h
 split at h
 ·rename_i q
  cases h
  intro v hv
  obtain ⟨u,hu,rfl⟩:=ff.1 hv
  refine zt (hx u hu) ?_ rfl
  rw [OH]
  exact fE ai (by have:=h7 q; omega)
 split at h
 ·split at h
  ·rename_i hd
   cases h
   exact fun v hv=>hdiv _ v hv hd
  ·cases h
 cases h
 intro v hv
 have:=hx v hv
 omega
theorem Qe {R:List Rw} {k:Int} {b:Nat} (h:nG b R):∀v∈eQ R k,v.natAbs<2 ^ b:=by
 unfold eQ
 rw [aF]
 cases hk:R[k.toNat]? with
 | none=>intro v hv; cases hv
 | some r=>exact h r (aB hk)
theorem KM {R R':List Rw} {e:IE} {g:Int} {b:Nat} (h:mg R e=some R') (hM:cN e g) (hb:nG b R):nG (b+64) R':=by
 obtain ⟨op,to_,a,b',c⟩:=e
 unfold mg at h
 unfold cN at hM
 dsimp only at h hM
 cases hr:lD op c (eQ R a) (eQ R b') with
 | none=>rw [hr] at h; cases h
 | some z=>
  rw [hr] at h
  obtain rfl:=dw h
  have hz:=Vx hr (Qe hb) (fun _=>Qe hb) ae ae
  intro r hm
  rcases kr hm with q | rfl
  ·exact hb.mono ae r q
  ·exact hz
def p2 (c:Int):Option Nat:=[1,2,3,4,5,6,7,8,9].find? fun k=>decide ((2:Int) ^ k=c)
theorem pH {c:Int} {m:Nat} (h:p2 c=some m):c=2 ^ m/\1<=m/\m<=9:=by
 unfold p2 at h
 have h1:=List.find?_some h
 refine ⟨(bX h1).symm,?_⟩
 have:=List.mem_of_find?_eq_some h
 simp at this
 omega
def bM (e:IE):IE:=
 if e.1=3 then (if e.2.2.1=e.2.2.2.1 then (7,e.2.1,e.2.2.1,0,1) else e)
 else if e.1=5∨e.1=6 then
  if e.2.2.2.2=1 then (1,e.2.1,e.2.2.1,0,0)
  else if e.2.2.2.2=-1 then (2,e.2.1,e.2.2.1,0,0)
  else match p2 e.2.2.2.2 with
   | some m=>if e.1=5 then (7,e.2.1,e.2.2.1,0,m) else (8,e.2.1,e.2.2.1,0,m)
   | none=>e
 else e
def mG (f c s d:Int):Option (Int×Int):=
 if f=1 then some (s,d)
 else if f=2 then if s=1 then some (2,0) else if s=2 then some (1,0) else if s=5∨s=6 then some (s,-d) else none
 else if f=5 then
  if s=2 then some (5,-c) else if s=5/\(-512<=c*d/\c*d<=512) then some (5,c*d)
  else if s=6/\c.tmod d=0 then some (5,c.tdiv d) else if s=6/\d.tmod c=0 then some (6,d.tdiv c) else none
 else if f=6 then if s=2 then some (6,-c) else if s=6/\(-512<=c*d/\c*d<=512) then some (6,c*d) else none
 else if f=7 then if s=7/\c+d<=64 then some (7,c+d) else if s≠8 then none else if c=d then some (1,0) else if c>d then some (7,c - d) else some (8,d - c)
 else if f=8 then if s=8/\c+d<=64 then some (8,c+d) else none
 else none
def eD (a b:IE):Option IE:=
 if b.1=3∨b.1=4∨b.2.2.1≠a.2.1∨b.2.1≠a.2.1 then none
 else (mG a.1 a.2.2.2.2 b.1 b.2.2.2.2).map fun q=>bM (q.1,b.2.1,a.2.2.1,0,q.2)
def nm (b:IE):Bool:=decide (b.1=1/\b.2.1=b.2.2.1)
def dJ:List IE->IE->List IE
 | [],b=>if nm b then [] else [b]
 | a::st,b=>if nm b then a::st else match eD a b with
  | none=>b::a::st
  | some x=>dJ st x
def kK (es:List IE):List IE:=(es.foldl (fun st e=>dJ st (bM e)) []).reverse
def T9 (op c v:Int):Prop:=(op=6->v%c=0)/\(op=8->v%2 ^ c.toNat=0)
def oS (op c v:Int):Int:=if op=2 then -v else if op=5 then v*c else if op=6 then v / c else if op=7 then v*2 ^ c.toNat else if op=8 then v / 2 ^ c.toNat else v
theorem rW {c:Int} {x:Rw}:wS c x=true↔∀v∈x,v%c=0:=by simp [wS]
theorem Iy {x z:Rw} {f:Int->Int} {p:Int->Prop} (hp:∀v,p v):(some (x.map f)=some z)↔(∀v∈x,p v)/\z=x.map f:=⟨fun e=>⟨fun v _=>hp v,(dw e).symm⟩,fun e=>by rw [e.2]⟩
theorem eR {op:Int} (c v:Int) (h6:op≠6) (h8:op≠8):T9 op c v:=⟨fun e=>absurd e h6,fun e=>absurd e h8⟩
theorem oh {op c:Int} {x y z:Rw} (h:¬(op=3∨op=4)):lD op c x y=some z↔(∀v∈x,T9 op c v)/\z=x.map (oS op c):=by
 have hid:x.map (fun v=>v)=x:=List.map_id x
 unfold lD
 rw [aQ (show ¬op=3 by omega),aQ (show ¬op=4 by omega)]
 by_cases q2:op=2
 ·subst q2; rw [aR rfl]; exact Iy fun v=>eR _ _ ai ai
 rw [aQ q2]
 by_cases q5:op=5
 ·subst q5; rw [aR rfl]; exact Iy fun v=>eR _ _ ai ai
 rw [aQ q5]
 by_cases q6:op=6
 ·subst q6
  rw [aR rfl]
  by_cases hd:wS c x=true
  ·rw [aR hd]
   have:=rW.1 hd
   simp only [Option.some.injEq]
   constructor
   ·intro e; exact ⟨fun v hv=>⟨fun _=>this v hv,fun e=>by cases e⟩,by rw [<- e]; rfl⟩
   ·rintro ⟨_,e⟩; rw [e]; rfl
  ·rw [aQ hd]
   constructor
   ·intro e; cases e
   ·rintro ⟨e,_⟩; exact absurd (rW.2 fun v hv=>(e v hv).1 rfl) hd
 rw [aQ q6]
 by_cases q7:op=7
 ·subst q7; rw [aR rfl]; exact Iy fun v=>eR _ _ ai ai
 rw [aQ q7]
 by_cases q8:op=8
 ·subst q8
  rw [aR rfl]
  by_cases hd:wS (2 ^ c.toNat) x=true
  ·rw [aR hd]
   have:=rW.1 hd
   simp only [Option.some.injEq]
   constructor
   ·intro e; exact ⟨fun v hv=>⟨fun e=>(by cases e),fun _=>this v hv⟩,by rw [<- e]; rfl⟩
   ·rintro ⟨_,e⟩; rw [e]; rfl
  ·rw [aQ hd]
   constructor
   ·intro e; cases e
   ·rintro ⟨e,_⟩; exact absurd (rW.2 fun v hv=>(e v hv).2 rfl) hd
 rw [aQ q8]
 have hf:oS op c=fun v=>v:=by funext v; simp [oS,q2,q5,q6,q7,q8]
 rw [hf,hid]
 constructor
 ·intro e; cases e; exact ⟨fun v _=>⟨fun e=>absurd e q6,fun e=>absurd e q8⟩,rfl⟩
 ·rintro ⟨_,rfl⟩; rfl
theorem oS1 (c v:Int):oS 1 c v=v:=rfl
theorem oS2 (c v:Int):oS 2 c v=-v:=rfl
theorem KN (c v:Int):oS 5 c v=v*c:=rfl
theorem KO (c v:Int):oS 6 c v=v / c:=rfl
theorem Vy (c v:Int):oS 7 c v=v*2 ^ c.toNat:=rfl
theorem Vz (c v:Int):oS 8 c v=v / 2 ^ c.toNat:=rfl
theorem Qf {c v:Int} (h:v%c=0):T9 6 c v:=⟨fun _=>h,fun e=>by cases e⟩
theorem aaH {c v:Int} (h:v%2 ^ c.toNat=0):T9 8 c v:=⟨fun e=>(by cases e),fun _=>h⟩
theorem dv {v c:Int} (h:v%c=0):∃q,v=q*c:=⟨v / c,(Int.ediv_mul_cancel (wF h)).symm⟩
theorem md {q c:Int}:q*c%c=0:=Int.mul_emod_left _ _
theorem zx {c d:Int} (hc:0<=c) (hd:0<=d):(2:Int) ^ (c+d).toNat=2 ^ c.toNat*2 ^ d.toNat:=by
 rw [Int.toNat_add hc hd,Int.pow_add]
theorem sW (n:Nat):(2:Int) ^ n≠0:=Int.pow_ne_zero ai
theorem VA {f c s d op k v:Int} (h:mG f c s d=some (op,k)) (hf:CN f c) (hs:CN s d) (h1:T9 f c v) (h2:T9 s d (oS f c v)):T9 op k v/\oS op k v=oS s d (oS f c v):=by
 unfold CN at hf hs
 unfold mG at h
 split at h
 ·rename_i q; subst q; cases h; exact ⟨h2,rfl⟩
 split at h
 ·rename_i q; subst q
  split at h
  ·rename_i q; subst q; cases h; exact ⟨eR _ _ ai ai,rfl⟩
  split at h
  ·rename_i q; subst q; cases h; exact ⟨eR _ _ ai ai,(Int.neg_neg v).symm⟩
  split at h
  ·rename_i q
   cases h
   rcases q with rfl | rfl
   ·exact ⟨eR _ _ ai ai,by rw [KN,KN,oS2,BI,yB]⟩
   ·have h3:=h2.1 rfl
    rw [oS2] at h3
    refine ⟨Qf ?_,?_⟩
    ·rw [Int.emod_neg]
     obtain ⟨q,hq⟩:=dv h3
     have:v=-q*d:=by rw [yB,<- hq,Int.neg_neg]
     rw [this]; exact md
    ·rw [KO,KO,oS2,Int.ediv_neg]
     obtain ⟨q,hq⟩:=dv h3
     have hd:d≠0:=(hs.1 (.inr rfl)).1
     have hv:v=-q*d:=by rw [yB,<- hq,Int.neg_neg]
     rw [hq,hv,gr _ hd,gr _ hd,Int.neg_neg]
  ·cases h
 split at h
 ·rename_i q; subst q
  have rL:c≠0:=(hf.1 (.inl rfl)).1
  split at h
  ·rename_i q; subst q; cases h; exact ⟨eR _ _ ai ai,by rw [KN,oS2,KN,BI]⟩
  split at h
  ·rename_i q; obtain ⟨rfl,_⟩:=q; cases h; exact ⟨eR _ _ ai ai,by rw [KN,KN,KN,fR]⟩
  split at h
  ·rename_i q
   obtain ⟨rfl,hm⟩:=q
   cases h
   have hd:d≠0:=(hs.1 (.inr rfl)).1
   have he:c=c.tdiv d*d:=(CX (wG hm)).symm
   refine ⟨eR _ _ ai ai,?_⟩
   rw [KN,KO,KN]
   conv=>rhs; rw [he,<- fR]
   rw [gr _ hd]
  split at h
  ·rename_i q
   obtain ⟨rfl,hm⟩:=q
   cases h
   have h3:=h2.1 rfl
   rw [KN] at h3
   obtain ⟨q,hq⟩:=dv h3
   have he:d=d.tdiv c*c:=(CX (wG hm)).symm
   generalize d.tdiv c=t at he
   have hd:d≠0:=(hs.1 (.inr rfl)).1
   have ht:t≠0:=fun e=>hd (by rw [he,e,jI])
   have hv:v=q*t:=by
    have:v*c=q*t*c:=by rw [hq,he,fR]
    exact Int.eq_of_mul_eq_mul_right rL this
   refine ⟨Qf (by rw [hv]; exact md),?_⟩
   rw [KO,KO,KN,hq,gr _ hd,hv,gr _ ht]
  ·cases h
 split at h
 ·rename_i q; subst q
  have rL:c≠0:=(hf.1 (.inr rfl)).1
  obtain ⟨q,hq⟩:=dv (h1.1 rfl)
  split at h
  ·rename_i q; subst q; cases h
   refine ⟨Qf (by rw [Int.emod_neg]; exact h1.1 rfl),?_⟩
   rw [KO,oS2,KO,Int.ediv_neg]
  split at h
  ·rename_i q'; obtain ⟨rfl,_⟩:=q'; cases h
   have h3:=h2.1 rfl
   have hd:d≠0:=(hs.1 (.inr rfl)).1
   rw [KO,hq,gr _ rL] at h3
   obtain ⟨t,ht⟩:=dv h3
   refine ⟨Qf (by rw [hq,ht,fR,gn d c]; exact md),?_⟩
   rw [KO,KO,KO,hq,gr _ rL,ht,gr _ hd,fR,gn d c,gr _ (EU rL hd)]
  ·cases h
 split at h
 ·rename_i q; subst q
  obtain ⟨sP,xx⟩:=hf.2.1 (.inl rfl)
  split at h
  ·rename_i q; obtain ⟨rfl,_⟩:=q; cases h
   obtain ⟨Kc,hd2⟩:=hs.2.1 (.inl rfl)
   refine ⟨eR _ _ ai ai,?_⟩
   rw [Vy,Vy,Vy,zx ae ae,fR]
  split at h
  ·cases h
  rename_i q
  obtain rfl:s=8:=Decidable.not_not.1 q
  obtain ⟨Kc,hd2⟩:=hs.2.1 (.inr rfl)
  have h3:=h2.2 rfl
  rw [Vy] at h3
  split at h
  ·rename_i q; subst q; cases h
   exact ⟨eR _ _ ai ai,by rw [oS1,Vz,Vy,gr _ (sW _)]⟩
  split at h
  ·rename_i q; cases h
   refine ⟨eR _ _ ai ai,?_⟩
   have:(2:Int) ^ c.toNat=2 ^ (c - d).toNat*2 ^ d.toNat:=by rw [<- zx ae ae]; congr 2; omega
   rw [Vy,Vz,Vy,this,<- fR,gr _ (sW _)]
  ·rename_i q1 q2; cases h
   have he:(2:Int) ^ d.toNat=2 ^ (d - c).toNat*2 ^ c.toNat:=by rw [<- zx ae ae]; congr 2; omega
   obtain ⟨q,hq⟩:=dv h3
   have hv:v=q*2 ^ (d - c).toNat:=by
    have:v*2 ^ c.toNat=q*2 ^ (d - c).toNat*2 ^ c.toNat:=by rw [hq,he,fR]
    exact Int.eq_of_mul_eq_mul_right (sW _) this
   refine ⟨aaH (by rw [hv]; exact md),?_⟩
   rw [Vz,Vz,Vy,hq,gr _ (sW _),hv,gr _ (sW _)]
 split at h
 ·rename_i q; subst q
  obtain ⟨sP,xx⟩:=hf.2.1 (.inr rfl)
  split at h
  ·rename_i q; obtain ⟨rfl,_⟩:=q; cases h
   obtain ⟨Kc,hd2⟩:=hs.2.1 (.inr rfl)
   obtain ⟨q,hq⟩:=dv (h1.2 rfl)
   have h3:=h2.2 rfl
   rw [Vz,hq,gr _ (sW _)] at h3
   obtain ⟨t,ht⟩:=dv h3
   refine ⟨aaH (by rw [hq,ht,zx ae ae,fR,gn (2 ^ d.toNat)]; exact md),?_⟩
   rw [Vz,Vz,Vz,hq,gr _ (sW _),ht,gr _ (sW _),zx ae ae,fR,gn (2 ^ d.toNat),gr _ (EU (sW _) (sW _))]
  ·cases h
 ·cases h
theorem Dx {f c s d op k:Int} (h:mG f c s d=some (op,k)) (hf:CN f c) (hs:CN s d) (f1:1<=f/\f<=8) (s1:1<=s/\s<=8) (s3:¬(s=3∨s=4)):1<=op/\op<=8/\¬(op=3∨op=4)/\CN op k:=by
 have hdm:∀a b:Int,a.tmod b=0->a≠0->a.tdiv b≠0/\(a.tdiv b).natAbs<=a.natAbs:=fun a b hm ha=>by
  have he:a=a.tdiv b*b:=(CX (wG hm)).symm
  have h0:a.tdiv b≠0:=fun e=>ha (by rw [he,e,jI])
  refine ⟨h0,?_⟩
  rw [Int.natAbs_tdiv]
  exact yI ..
 unfold mG at h
 split at h
 ·cases h; exact ⟨s1.1,s1.2,s3,hs⟩
 split at h
 ·split at h
  ·cases h; unfold CN at*; omega
  split at h
  ·cases h; unfold CN at*; omega
  split at h
  ·rename_i q; cases h; unfold CN at*; omega
  ·cases h
 split at h
 ·rename_i q5; subst q5
  have hc:=hf.1 (.inl rfl)
  split at h
  ·cases h; unfold CN at*; omega
  split at h
  ·rename_i q; cases h
   have hd:=hs.1 (.inl q.1)
   have:=EU hc.1 hd.1
   unfold CN; omega
  split at h
  ·rename_i q; cases h
   have:=hdm c d q.2 hc.1
   unfold CN; omega
  split at h
  ·rename_i q; cases h
   have hd:=hs.1 (.inr q.1)
   have:=hdm d c q.2 hd.1
   unfold CN; omega
  ·cases h
 split at h
 ·rename_i q6; subst q6
  have hc:=hf.1 (.inr rfl)
  split at h
  ·cases h; unfold CN at*; omega
  split at h
  ·rename_i q; cases h
   have hd:=hs.1 (.inr q.1)
   have:=EU hc.1 hd.1
   unfold CN; omega
  ·cases h
 split at h
 ·rename_i q7; subst q7
  have hc:=hf.2.1 (.inl rfl)
  split at h
  ·rename_i q; cases h; have:=hs.2.1 (.inl q.1); unfold CN; omega
  split at h
  ·cases h
  rename_i q
  have hd:=hs.2.1 (.inr (Decidable.not_not.1 q))
  split at h
  ·cases h; unfold CN; omega
  split at h
  ·cases h; unfold CN; omega
  ·cases h; unfold CN; omega
 split at h
 ·rename_i q8; subst q8
  have hc:=hf.2.1 (.inr rfl)
  split at h
  ·rename_i q; cases h; have:=hs.2.1 (.inr q.1); unfold CN; omega
  ·cases h
 ·cases h
theorem zy {op t a b c g:Int} (h:cN (op,t,a,b,c) g):CN op c:=by
 unfold cN at h; dsimp only at h; unfold CN; omega
theorem Cd {R R':List Rw} {e:IE} {g:Int} (h:mg R e=some R') (hM:cN e g):mg R (bM e)=some R':=by
 obtain ⟨op,t,a,b,c⟩:=e
 unfold bM
 dsimp only
 split
 ·rename_i q; subst q
  split
  ·rename_i q; subst q
   rw [<- h]
   unfold mg
   dsimp only
   congr 1
   rw [(oh ai).2 ⟨fun v _=>eR _ _ ai ai,rfl⟩]
   show some ((eQ R a).map fun v=>v*2 ^ (1:Int).toNat)=some (List.zipWith (fun a b=>a+b) (eQ R a) (eQ R a))
   rw [List.zipWith_self]
   exact aM some (jh fun v _=>by show v*2 ^ 1=v+v; omega)
  ·exact h
 split
 ·rename_i q3 q
  have C7:¬(op=3∨op=4):=ae
  have hcn:=zy hM
  unfold mg at h
  dsimp only at h
  cases hr:lD op c (eQ R a) (eQ R b) with
  | none=>rw [hr] at h; cases h
  | some z=>
   rw [hr] at h
   obtain ⟨h1,h2⟩:=(oh C7).1 hr
   have key:∀KP k':Int,¬(KP=3∨KP=4)->(∀v∈eQ R a,T9 KP k' v/\oS KP k' v=oS op c v)->mg R (KP,t,a,0,k')=some R':=fun KP k' hn hk=>by
    unfold mg
    dsimp only
    rw [(oh hn).2 ⟨fun v hv=>(hk v hv).1,rfl⟩,jh fun v hv=>(hk v hv).2,<- h2]
    exact h
   split
   ·rename_i qc; subst qc
    refine key 1 0 ai fun v hv=>⟨eR _ _ ai ai,?_⟩
    rcases q with rfl | rfl
    ·rw [oS1,KN,qL]
    ·rw [oS1,KO,Int.ediv_one]
   split
   ·rename_i qc; subst qc
    refine key 2 0 ai fun v hv=>⟨eR _ _ ai ai,?_⟩
    rcases q with rfl | rfl
    ·rw [oS2,KN,BI,qL]
    ·rw [oS2,KO,Int.ediv_neg,Int.ediv_one]
   split
   ·rename_i m hm
    obtain ⟨xx,_⟩:=pH hm
    split
    ·rename_i q5; subst q5
     exact key 7 m ai fun v hv=>⟨eR _ _ ai ai,by rw [Vy,KN,xx]; rfl⟩
    ·rename_i q5
     obtain rfl:op=6:=ae
     refine key 8 m ai fun v hv=>⟨aaH ?_,by rw [Vz,KO,xx]; rfl⟩
     have:=(h1 v hv).1 rfl
     rwa [xx] at this
   ·unfold mg; dsimp only; rw [hr]; exact h
 ·exact h
theorem pI {e:IE} {g:Int} (hM:cN e g):cN (bM e) g:=by
 obtain ⟨op,t,a,b,c⟩:=e
 unfold bM
 dsimp only
 have VC:=hM
 unfold cN at VC
 dsimp only at VC
 split
 ·split
  ·unfold cN; dsimp only; omega
  ·exact hM
 split
 ·split
  ·unfold cN; dsimp only; omega
  split
  ·unfold cN; dsimp only; omega
  split
  ·rename_i m hm
   have:=pH hm
   split
   ·unfold cN; dsimp only; omega
   ·unfold cN; dsimp only; omega
  ·exact hM
 ·exact hM
theorem zA {a b x:IE} (h:eD a b=some x):¬(b.1=3∨b.1=4)/\b.2.2.1=a.2.1/\b.2.1=a.2.1/\∃op k,mG a.1 a.2.2.2.2 b.1 b.2.2.2.2=some (op,k)/\x=bM (op,b.2.1,a.2.2.1,0,k):=by
 unfold eD at h
 split at h
 ·cases h
 ·rename_i q
  cases ht:mG a.1 a.2.2.2.2 b.1 b.2.2.2.2 with
  | none=>rw [ht] at h; cases h
  | some p=>
   rw [ht] at h
   refine ⟨by omega,by omega,by omega,p.1,p.2,rfl,(dw h).symm⟩
theorem M8 {f c s d:Int} {p:Int×Int} (h:mG f c s d=some p):¬(f=3∨f=4):=by
 unfold mG at h
 rintro (rfl | rfl)<;>simp at h
theorem rX {a b x:IE} {g:Int} (h:eD a b=some x) (ha:cN a g) (hb:cN b g):cN x g:=by
 obtain ⟨h1,h2,h3,op,k,ht,rfl⟩:=zA h
 obtain ⟨aop,at_,aa,ab,ac⟩:=a
 obtain ⟨bop,bt,ba,bb,bc⟩:=b
 dsimp only at h1 h2 h3 ht ⊢
 have hca:=zy ha
 have E6:=zy hb
 unfold cN at ha hb
 dsimp only at ha hb
 have hm:=Dx ht hca E6 ⟨ha.1,ha.2.1⟩ ⟨hb.1,hb.2.1⟩ h1
 refine pI ?_
 obtain ⟨m1,m2,m3,m4⟩:=hm
 unfold CN at m4
 unfold cN; dsimp only; omega
theorem Qg {R R1 R2:List Rw} {a b x:IE} {g:Nat} (h:eD a b=some x) (ha:cN a g) (hb:cN b g) (hR:R.length=g) (h1:mg R a=some R1) (h2:mg R1 b=some R2):mg R x=some R2:=by
 obtain ⟨n1,n2,n3,op,k,ht,rfl⟩:=zA h
 have nf:=M8 ht
 obtain ⟨aop,at_,aa,ab,ac⟩:=a
 obtain ⟨bop,bt,ba,bb,bc⟩:=b
 dsimp only at n1 n2 n3 ht nf ⊢
 subst n2 n3
 have hca:=zy ha
 have E6:=zy hb
 have ha':=ha
 have Dc:=hb
 unfold cN at ha' Dc
 dsimp only at ha' Dc
 have hm:=Dx ht hca E6 ⟨ha'.1,ha'.2.1⟩ ⟨Dc.1,Dc.2.1⟩ n1
 obtain ⟨m1,m2,m3,m4⟩:=hm
 refine Cd (g:=g) ?_ (by unfold CN at m4; unfold cN; dsimp only; omega)
 unfold mg at h1 h2 ⊢
 dsimp only at h1 h2 ⊢
 cases hr:lD aop ac (eQ R aa) (eQ R ab) with
 | none=>rw [hr] at h1; cases h1
 | some z=>
  rw [hr] at h1
  obtain rfl:=dw h1
  rw [jq hR ae ae] at h2
  cases Hu:lD bop bc z (eQ (R.set bt.toNat z) bb) with
  | none=>rw [Hu] at h2; cases h2
  | some z2=>
   rw [Hu] at h2
   obtain rfl:=dw h2
   obtain ⟨a1,a2⟩:=(oh nf).1 hr
   obtain ⟨b1,b2⟩:=(oh n1).1 Hu
   have hk:∀v∈eQ R aa,T9 op k v/\oS op k v=oS bop bc (oS aop ac v):=fun v hv=>VA ht hca E6 (a1 v hv) (b1 _ (by rw [a2]; exact qO hv))
   rw [(oh m3).2 ⟨fun v hv=>(hk v hv).1,rfl⟩,jh fun v hv=>(hk v hv).2]
   rw [b2,a2,ox]
   simp [Function.comp_def]
theorem Iz {R R':List Rw} {b:IE} {g:Nat} (h:nm b=true) (hb:cN b g) (hR:R.length=g) (hs:mg R b=some R'):R'=R:=by
 obtain ⟨op,t,a,b',c⟩:=b
 have hq:=bX h
 dsimp only at hq
 obtain ⟨rfl,rfl⟩:=hq
 unfold cN at hb
 dsimp only at hb
 unfold mg at hs
 dsimp only at hs
 rw [(oh ai).2 ⟨fun v _=>eR _ _ ai ai,rfl⟩] at hs
 obtain rfl:=dw hs
 have:(eQ R t).map (oS 1 c)=eQ R t:=by
  conv=>rhs; rw [<- List.map_id (eQ R t)]
  rfl
 rw [this]
 unfold eQ
 have ht:t.toNat<R.length:=ae
 rw [aF,aw ht]
 exact yH ht
theorem Ce {g:Nat}:∀(st:List IE) {b:IE} {R R1 R2:List Rw},(∀e∈st,cN e g)->cN b g->R.length=g->kX R st.reverse=some R1->mg R1 b=some R2->kX R (dJ st b).reverse=some R2
 | [],b,R,R1,R2,_,hb,hR,h1,h2=>by
  cases h1
  unfold dJ
  split
  ·rename_i q; rw [Iz q hb hR h2]; rfl
  ·exact uL h2
 | a::st,b,R,R1,R2,σ,hb,hR,h1,h2=>by
  have hle:∀{es:List IE} {R R':List Rw},kX R es=some R'->R.length=g->R'.length=g:=fun {es}=>by
   induction es with
   | nil=>intro R R' h hR; cases h; exact hR
   | cons e es ih=>
    intro R R' h hR
    rw [gQ] at h
    cases hs:mg R e with
    | none=>rw [hs] at h; cases h
    | some Q=>
     rw [hs] at h
     refine ih h ?_
     unfold mg at hs
     cases hr:lD e.1 e.2.2.2.2 (eQ R e.2.2.1) (eQ R e.2.2.2.1) with
     | none=>rw [hr] at hs; cases hs
     | some z=>rw [hr] at hs; obtain rfl:=dw hs; rw [cH]; exact hR
  unfold dJ
  split
  ·rename_i q; rw [Iz q hb (hle h1 hR) h2]; exact h1
  split
  ·rw [tf]; exact P9 h1 h2
  ·rename_i x hx
   rw [tf] at h1
   obtain ⟨Q,q1,q2⟩:=M7 h1
   rw [gQ] at q2
   cases hs:mg Q a with
   | none=>rw [hs] at q2; cases q2
   | some Q1=>
    rw [hs] at q2
    cases q2
    have ha:=σ a (bS ..)
    exact Ce st (fun e he=>σ e (cO _ he)) (rX hx ha hb) hR q1 (Qg hx ha hb (hle q1 hR) hs h2)
theorem tH {g:Int}:∀(st:List IE) {b:IE},(∀e∈st,cN e g)->cN b g->∀e∈dJ st b,cN e g
 | [],b,_,hb,e,he=>by
  unfold dJ at he
  split at he
  ·cases he
  ·exact cC.1 he ▸ hb
 | a::st,b,σ,hb,e,he=>by
  unfold dJ at he
  split at he
  ·exact σ e he
  split at he
  ·rcases dW.1 he with rfl | he
   ·exact hb
   ·exact σ e he
  ·rename_i x hx
   exact tH st (fun e he=>σ e (cO _ he)) (rX hx (σ a (bS ..)) hb) e he
theorem zB:∀(st:List IE) (b:IE),(dJ st b).length<=st.length+1
 | [],b=>by unfold dJ; split<;>simp
 | a::st,b=>by
  unfold dJ
  split
  ·omega
  split
  ·simp
  ·rename_i x _
   have:=zB st x
   rw [dy]; omega
theorem FA {g:Nat}:∀(es:List IE) (st:List IE) {R R1 R2:List Rw},(∀e∈st,cN e g)->(∀e∈es,cN e g)->R.length=g->kX R st.reverse=some R1->kX R1 es=some R2->kX R (es.foldl (fun st e=>dJ st (bM e)) st).reverse=some R2
 | [],_,_,_,_,_,_,_,h1,h2=>by cases h2; exact h1
 | e::es,st,R,R1,R2,σ,iI,hR,h1,h2=>by
  rw [gQ] at h2
  cases hs:mg R1 e with
  | none=>rw [hs] at h2; cases h2
  | some Q=>
   rw [hs] at h2
   have he:=iI e (bS ..)
   have hp:=pI he
   exact FA es _ (tH st σ hp) (fun e he=>iI e (cO _ he)) hR (Ce st σ hp hR h1 (Cd hs he)) h2
theorem FB {g:Nat} {es:List IE} {R R2:List Rw} (iI:∀e∈es,cN e g) (hR:R.length=g) (h:kX R es=some R2):kX R (kK es)=some R2:=
 FA es [] (fun _ h=>by cases h) iI hR rfl h
theorem FC {g:Int}:∀(es:List IE) (st:List IE),(∀e∈st,cN e g)->(∀e∈es,cN e g)->∀e∈es.foldl (fun st e=>dJ st (bM e)) st,cN e g
 | [],_,σ,_=>σ
 | e::es,st,σ,iI=>FC es _ (tH st σ (pI (iI e (bS ..)))) fun e he=>iI e (cO _ he)
theorem Cf {g:Int} {es:List IE} (iI:∀e∈es,cN e g):∀e∈kK es,cN e g:=fun e he=>FC es [] (fun _ h=>by cases h) iI e (List.mem_reverse.1 he)
theorem FD:∀(es:List IE) (st:List IE),(es.foldl (fun st e=>dJ st (bM e)) st).length<=st.length+es.length
 | [],_=>aY _
 | e::es,st=>by
  have h1:=FD es (dJ st (bM e))
  have h2:=zB st (bM e)
  rw [List.foldl_cons,dy]; omega
theorem Cg (es:List IE):(kK es).length<=es.length:=by
 have:=FD es []
 unfold kK
 rw [yz]
 simpa using this
abbrev Ky:=Int×Int×Int×Int
def YM:List (Ky×Int)->Ky->Option Int
 | [],_=>none
 | (q,v)::l,k=>if q=k then some v else YM l k
theorem KQ:∀{l:List (Ky×Int)} {k:Ky} {v:Int},YM l k=some v->(k,v)∈l
 | [],_,_,h=>by cases h
 | (q,u)::l,k,v,h=>by
  unfold YM at h
  split at h
  ·rename_i e; cases h; rw [e]; exact bS ..
  ·exact cO _ (KQ h)
def mE (h:List Int) (v:Int):Int:=match h.findIdx? (fun x=>decide (x=v)) with
 | some r=>(r:Nat)
 | none=>-1
theorem vV (h:List Int) (v:Int):(mE h v=-1/\∀x∈h,x≠v)∨(0<=mE h v/\mE h v<h.length/\h.getD (mE h v).toNat 0=v):=by
 unfold mE
 split
 ·rename_i r hr
  obtain ⟨hl,hp,_⟩:=tc.1 hr
  refine .inr ⟨by omega,by omega,?_⟩
  rw [mJ,aF,aw hl]
  exact bX hp
 ·rename_i hr
  refine .inl ⟨rfl,fun x hx e=>?_⟩
  have:=Bf.1 hr x hx
  rw [e] at this
  simp at this
theorem Dy {h:List Int} {r:Nat} (hr:r<h.length):0<=mE h (h.getD r 0)/\mE h (h.getD r 0)<h.length/\h.getD (mE h (h.getD r 0)).toNat 0=h.getD r 0:=by
 rcases vV h (h.getD r 0) with ⟨_,q⟩ | q
 ·refine absurd rfl (q (h.getD r 0) ?_)
  rw [aF,aw hr]
  exact mS hr
 ·exact q
structure Tb where
 held:List Int
 known:List (Ky×Int)
 next:Int
def Tb.at (t:Tb) (r:Int):Int:=t.held.getD r.toNat 0
def fe (t:Tb) (e:IE):Ky:=
 let a:=t.at e.2.2.1
 let b:=if e.1=3∨e.1=4 then t.at e.2.2.2.1 else -1
 if e.1=3/\b<a then (e.1,b,a,e.2.2.2.2) else (e.1,a,b,e.2.2.2.2)
def om (t:Tb) (e:IE):Int×Tb:=
 if e.1=1 then (t.at e.2.2.1,t)
 else match YM t.known (fe t e) with
  | some v=>(v,t)
  | none=>(t.next,{ t with known:=(fe t e,t.next)::t.known,next:=t.next+1 })
def oG (h:List Int) (e:IE):IE:=(e.1,e.2.1,mE h (h.getD e.2.2.1.toNat 0),if e.1=3∨e.1=4 then mE h (h.getD e.2.2.2.1.toNat 0) else e.2.2.2.1,e.2.2.2.2)
def gF (s:Tb×List IE) (e:IE):Tb×List IE:=
 let q:=om s.1 e
 if q.2.at e.2.1=q.1 then (q.2,s.2)
 else ({ q.2 with held:=q.2.held.set e.2.1.toNat q.1 },s.2++[if 0<=mE q.2.held q.1 then (1,e.2.1,mE q.2.held q.1,0,0) else oG q.2.held e])
def Qh (i g:Nat):Tb:=⟨(List.range g).map fun r=>((min r i:Nat):Int),[],i+1⟩
def kh (i g:Nat) (es:List IE):Tb×List IE:=es.foldl gF (Qh i g,[])
def l8 (i g:Nat) (es:List IE):List IE:=(kh i g es).2
def kL (i g:Nat) (es:List IE) (os:List Int):List Int:=os.map fun r=>mE (kh i g es).1.held ((kh i g es).1.at r)
structure Bq (t:Tb) (g:Nat) (R:List Rw) (val:Int->Rw):Prop where
 hl:t.held.length=g
 rl:R.length=g
 eq:∀r:Int,0<=r->r<g->eQ R r=val (t.at r)
 lt:∀r:Int,0<=r->r<g->t.at r<t.next
 kn:∀q∈t.known,lD q.1.1 q.1.2.2.2 (val q.1.2.1) (val q.1.2.2.1)=some (val q.2)/\q.2<t.next/\q.1.2.1<t.next/\(q.1.1=3∨q.1.1=4->q.1.2.2.1<t.next)
def Ib (val:Int->Rw) (k:Int) (z:Rw):Int->Rw:=fun v=>if v=k then z else val v
theorem vW {val:Int->Rw} {k v:Int} {z:Rw} (h:v<k):Ib val k z v=val v:=aQ ae
theorem Qi (x y:Rw):List.zipWith (fun a b=>a+b) x y=List.zipWith (fun a b=>a+b) y x:=by
 rw [List.zipWith_comm]
 congr 1
 funext a b
 exact Int.add_comm ..
theorem Qj {c:Int} (x y:Rw):lD 3 c x y=lD 3 c y x:=by
 unfold lD
 rw [aQ ai,aR rfl,aQ ai,aR rfl,Qi]
theorem VD {t:Tb} {g:Nat} {R:List Rw} {val:Int->Rw} {e:IE} (h:Bq t g R val) (hM:cN e g):lD (fe t e).1 (fe t e).2.2.2 (val (fe t e).2.1) (val (fe t e).2.2.1)=lD e.1 e.2.2.2.2 (eQ R e.2.2.1) (eQ R e.2.2.2.1)/\(fe t e).1=e.1/\(fe t e).2.1<t.next/\((fe t e).1=3∨(fe t e).1=4->(fe t e).2.2.1<t.next):=by
 obtain ⟨op,to_,a,b,c⟩:=e
 unfold cN at hM
 dsimp only at hM
 have ea:=h.eq a ae ae
 have la:=h.lt a ae ae
 unfold fe
 dsimp only
 by_cases q:op=3∨op=4
 ·have eb:=h.eq b ae ae
  have lb:=h.lt b ae ae
  rw [aR q]
  split
  ·rename_i p
   obtain ⟨rfl,_⟩:=p
   exact ⟨by rw [ea,eb]; exact Qj _ _,rfl,lb,fun _=>la⟩
  ·exact ⟨by rw [ea,eb],rfl,la,fun _=>lb⟩
 ·rw [aQ q,aQ ae]
  exact ⟨by rw [ea]; exact rV q,rfl,la,fun p=>absurd p q⟩
theorem VF {t:Tb} {g:Nat} {R:List Rw} {val:Int->Rw} {e:IE} {z:Rw} (h:Bq t g R val) (hM:cN e g) (hz:lD e.1 e.2.2.2.2 (eQ R e.2.2.1) (eQ R e.2.2.2.1)=some z):∃pJ,Bq (om t e).2 g R pJ/\pJ (om t e).1=z/\(om t e).1<(om t e).2.next/\(om t e).2.held=t.held:=by
 have VC:=hM
 obtain ⟨op,to_,a,b,c⟩:=e
 unfold cN at hM
 dsimp only at hM hz
 unfold om
 dsimp only
 split
 ·rename_i q; subst q
  refine ⟨val,h,?_,h.lt a ae ae,rfl⟩
  rw [<- h.eq a ae ae]
  have:=(oh ai).1 hz
  rw [this.2]
  exact (List.map_id _).symm
 obtain ⟨k1,k2,k3,k4⟩:=VD h VC
 dsimp only at k1 k2 k3 k4
 split
 ·rename_i v hv
  obtain ⟨m1,m2,_,_⟩:=h.kn _ (KQ hv)
  refine ⟨val,h,?_,m2,rfl⟩
  dsimp only at m1
  rw [k1,hz] at m1
  exact (dw m1).symm
 ·rename_i hv
  have hb:∀q:Ky,q.2.1<t.next->(q.1=3∨q.1=4->q.2.2.1<t.next)->lD q.1 q.2.2.2 (Ib val t.next z q.2.1) (Ib val t.next z q.2.2.1)=lD q.1 q.2.2.2 (val q.2.1) (val q.2.2.1):=fun q h1 h2=>by
   rw [vW h1]
   by_cases p:q.1=3∨q.1=4
   ·rw [vW (h2 p)]
   ·exact rV p
  refine ⟨Ib val t.next z,⟨h.hl,h.rl,fun r h0 h1=>?_,fun r h0 h1=>?_,fun q hq=>?_⟩,aR rfl,Int.lt_succ _,rfl⟩
  ·show eQ R r=Ib val t.next z (t.at r)
   rw [vW (h.lt r h0 h1)]; exact h.eq r h0 h1
  ·have:=h.lt r h0 h1
   show t.at r<t.next+1
   omega
  ·rcases dW.1 hq with rfl | hq
   ·refine ⟨?_,Int.lt_succ _,by dsimp only; omega,fun p=>by have:=k4 p; dsimp only; omega⟩
    dsimp only
    rw [hb _ k3 k4,k1,hz,Ib,aR rfl]
   ·obtain ⟨m1,m2,m3,m4⟩:=h.kn q hq
    refine ⟨?_,by dsimp only; omega,by dsimp only; omega,fun p=>by have:=m4 p; dsimp only; omega⟩
    rw [hb _ m3 m4,m1,vW m2]
theorem FG {t:Tb} {g:Nat} {k r v:Int} (hl:t.held.length=g) (k0:0<=k) (k1:k<g) (r0:0<=r):({ t with held:=t.held.set k.toNat v }:Tb).at r=if r=k then v else t.at r:=by
 unfold Tb.at
 dsimp only
 rw [aF,td]
 split
 ·rename_i e
  rw [aR ae,aR ae]
  rfl
 ·rw [aQ ae,aF]
theorem M9 {t:Tb} {out:List IE} {g:Nat} {R R':List Rw} {val:Int->Rw} {e:IE} (h:Bq t g R val) (hM:cN e g) (hs:mg R e=some R'):
  ∃pJ fs,(gF (t,out) e).2=out++fs/\kX R fs=some R'/\Bq (gF (t,out) e).1 g R' pJ/\(∀f∈fs,cN f g)/\fs.length<=1:=by
 have VC:=hM
 cases hz:lD e.1 e.2.2.2.2 (eQ R e.2.2.1) (eQ R e.2.2.2.1) with
 | none=>unfold mg at hs; rw [hz] at hs; cases hs
 | some z=>
  have qq:=hs
  unfold mg at qq
  rw [hz] at qq
  have YN:R.set e.2.1.toNat z=R':=dw qq
  obtain ⟨pJ,h2,hv,cD,hhd⟩:=VF h hM hz
  unfold gF
  dsimp only
  generalize om t e=q at h2 hv cD hhd ⊢
  obtain ⟨op,to_,a,b,c⟩:=e
  unfold cN at hM
  dsimp only at hM hz YN ⊢
  have Ua:=h2.eq to_ ae ae
  split
  ·rename_i p
   refine ⟨pJ,[],(fv _).symm,?_,?_,fun f hf=>(by cases hf),bm _⟩
   ·have:R'=R:=by
     rw [<- YN]
     rw [p,hv] at Ua
     rw [<- Ua]
     unfold eQ
     have ht:to_.toNat<R.length:=by have:=h.rl; omega
     rw [aF,aw ht]
     exact yH ht
    rw [this]; rfl
   ·have:R'=R:=by
     rw [<- YN]
     rw [p,hv] at Ua
     rw [<- Ua]
     unfold eQ
     have ht:to_.toNat<R.length:=by have:=h.rl; omega
     rw [aF,aw ht]
     exact yH ht
    rw [this]; exact h2
  ·have IA:Bq { q.2 with held:=q.2.held.set to_.toNat q.1 } g R' pJ:=by
    refine ⟨by rw [cH]; exact h2.hl,by rw [<- YN,cH]; exact h.rl,fun r h0 h1=>?_,fun r h0 h1=>?_,h2.kn⟩
    ·rw [FG h2.hl ae ae h0,<- YN]
     split
     ·rename_i p; rw [p,jq h.rl ae ae]; exact hv.symm
     ·rename_i p; rw [lk ae h0 (qm p)]; exact h2.eq r h0 h1
    ·rw [FG h2.hl ae ae h0]
     split
     ·exact cD
     ·exact h2.lt r h0 h1
   split
   ·rename_i p1 p
    refine ⟨pJ,[_],rfl,uL ?_,IA,fun f hf=>?_,aY _⟩
    ·rcases vV q.2.held q.1 with ⟨w,_⟩ | ⟨w1,w2,w3⟩
     ·omega
     ·have h3:=h2.hl
      unfold mg
      dsimp only
      rw [(oh (op:=1) ai).2 ⟨fun v _=>eR _ _ ai ai,rfl⟩,h2.eq _ w1 ae,show q.2.at (mE q.2.held q.1)=q.1 from w3,hv,<- YN]
      rw [show z.map (oS 1 0)=z from List.map_id z]
      rfl
    ·obtain rfl:=cC.1 hf
     rcases vV q.2.held q.1 with ⟨w,_⟩ | ⟨w1,w2,w3⟩
     ·omega
     ·have h3:=h2.hl
      unfold cN
      dsimp only
      omega
   ·have h3:=h2.hl
    have ha:=Dy (h:=q.2.held) (r:=a.toNat) ae
    have hb:(op=3∨op=4)->_:=fun p=>Dy (h:=q.2.held) (r:=b.toNat) ae
    have key:∀r:Int,0<=r->r<g->eQ R (mE q.2.held (q.2.held.getD r.toNat 0))=eQ R r:=fun r h0 h1=>by
     have hh:=Dy (h:=q.2.held) (r:=r.toNat) ae
     rw [h2.eq _ hh.1 ae,h2.eq r h0 h1]
     unfold Tb.at
     rw [hh.2.2]
    refine ⟨pJ,[oG q.2.held (op,to_,a,b,c)],rfl,uL ?_,IA,fun f hf=>?_,aY _⟩
    ·unfold mg oG
     dsimp only
     rw [key a ae ae]
     by_cases p:op=3∨op=4
     ·rw [aR p,key b ae ae,hz,<- YN]; rfl
     ·rw [aQ p,hz,<- YN]; rfl
    ·obtain rfl:=cC.1 hf
     unfold oG cN
     dsimp only
     by_cases p:op=3∨op=4
     ·have:=hb p
      rw [aR p]; omega
     ·rw [aQ p]; omega
theorem Ch {g:Nat}:∀(es:List IE) (t:Tb) (out:List IE) {R0 R R':List Rw} {val:Int->Rw},Bq t g R val->(∀e∈es,cN e g)->(∀e∈out,cN e g)->kX R0 out=some R->kX R es=some R'->
  ∃pJ,kX R0 (es.foldl gF (t,out)).2=some R'/\Bq (es.foldl gF (t,out)).1 g R' pJ/\(∀f∈(es.foldl gF (t,out)).2,cN f g)/\(es.foldl gF (t,out)).2.length<=out.length+es.length
 | [],t,out,_,_,_,val,h,_,ho,h1,h2=>by cases h2; exact ⟨val,h1,h,ho,by simp⟩
 | e::es,t,out,R0,R,R',val,h,iI,ho,h1,h2=>by
  rw [gQ] at h2
  cases hs:mg R e with
  | none=>rw [hs] at h2; cases h2
  | some Q=>
   rw [hs] at h2
   obtain ⟨pJ,fs,e1,e2,e3,e4,e5⟩:=M9 h (iI e (bS ..)) hs
   have:=Ch es (gF (t,out) e).1 (gF (t,out) e).2 e3 (fun e he=>iI e (cO _ he)) (by
    rw [e1]; intro f hf
    rcases b6.1 hf with q | q
    ·exact ho f q
    ·exact e4 f q) (by rw [e1]; exact Dv h1 e2) h2
   obtain ⟨w,f1,f2,f3,f4⟩:=this
   refine ⟨w,f1,f2,f3,?_⟩
   have:(gF (t,out) e).2.length<=out.length+1:=by rw [e1,aP]; omega
   rw [dy]
   exact bq f4 ae
theorem iX {g n:Nat} {G:List Rw} (h:G.length<=g):(ie g n G).length=g:=by
 unfold ie; rw [aP,jH]; omega
theorem zC {g n:Nat} {G:List Rw} {r:Int} (hg:G.length<=g) (h0:0<=r) (h1:r<g):eQ (ie g n G) r=if r<G.length then G.getD r.toNat [] else List.replicate n 0:=by
 unfold eQ ie
 rw [aF,s9]
 split
 ·rw [aR ae,aF]
 ·rw [aQ ae,iN,aR ae]; rfl
theorem FH {g n:Nat} {G:List Rw} (hn:∀r∈G,r.length=n):∀r∈ie g n G,r.length=n:=by
 intro r hr
 rcases b6.1 hr with q | q
 ·exact hn r q
 ·rw [(List.mem_replicate.1 q).2,jH]
theorem aaI {i g n:Nat} {G:List Rw} (hi:G.length=i) (hg:i<=g):Bq (Qh i g) g (ie g n G) fun v=>if v<i then G.getD v.toNat [] else List.replicate n 0:=by
 have Kr:∀r:Int,0<=r->r<g->(Qh i g).at r=((min r.toNat i:Nat):Int):=fun r h0 h1=>by
  unfold Tb.at Qh
  dsimp only
  rw [aF,bo,fQ ae]
  rfl
 refine ⟨by unfold Qh; simp,iX ae,fun r h0 h1=>?_,fun r h0 h1=>?_,fun q hq=>by cases hq⟩
 ·rw [zC ae h0 h1,Kr r h0 h1,hi]
  by_cases p:r<i
  ·rw [aR p,aR ae]
   congr 1
   omega
  ·rw [aQ p,aQ ae]
 ·rw [Kr r h0 h1]
  show _<(i:Int)+1
  omega
theorem Ci {i g n:Nat} {G R':List Rw} {es:List IE} (hi:G.length=i) (hg:i<=g) (iI:∀e∈es,cN e g) (h:kX (ie g n G) es=some R'):
  kX (ie g n G) (l8 i g es)=some R'/\(∀f∈l8 i g es,cN f g)/\(l8 i g es).length<=es.length/\∀r:Int,0<=r->r<g->eQ R' (mE (kh i g es).1.held ((kh i g es).1.at r))=eQ R' r/\0<=mE (kh i g es).1.held ((kh i g es).1.at r)/\mE (kh i g es).1.held ((kh i g es).1.at r)<g:=by
 obtain ⟨val,f1,f2,f3,f4⟩:=Ch es (Qh i g) [] (aaI hi hg) iI (fun _ q=>by cases q) rfl h
 refine ⟨f1,f3,by simpa [l8,kh] using f4,fun r h0 h1=>?_⟩
 have h3:=f2.hl
 have hh:=Dy (h:=(kh i g es).1.held) (r:=r.toNat) (by show r.toNat<(es.foldl gF (Qh i g,[])).1.held.length; omega)
 have h4:(kh i g es).1.held.length=g:=h3
 refine ⟨?_,hh.1,by have:=hh.2.1; unfold Tb.at; omega⟩
 have h5:Bq (kh i g es).1 g R' val:=f2
 unfold Tb.at
 rw [h5.eq _ hh.1 ae,h5.eq r h0 h1]
 unfold Tb.at
 rw [hh.2.2]
def asz (r:Int):List UInt8:=32::114::Cb r
section
variable {N:Nat} {dq:List Deferred} {a:Act} {l:List (Nat×Value)} {w:World} {d:Nat} {ty:TypeId} {pos:String} {af:Array Edge} {gd:Option (Nat×Bool)}
end
theorem aaJ:Fk Tryz.prog 116 5:=⟨by kernel_rfl,by kernel_rfl,by kernel_rfl,by kernel_rfl,by kernel_rfl⟩
theorem uM {α:Type} {f:α->List Value} {F:α->PF} {z n c:Nat} {A:Option Addr} {es:List α} {w:World} (h:(ag f F z A n c es).P w) (hA:A=none):n=0:=by
 subst hA
 rcases ed n with h0 | h0
 ·exact h0
 ·obtain ⟨b,off,e,_⟩:=h.1.cells h0
  cases e
section
variable {N:Nat} {dq:List Deferred} {a:Act} {l:List (Nat×Value)} {w:World} {d:Nat} {ty:TypeId} {pos:String} {af:Array Edge} {gd:Option (Nat×Bool)}
end
def aaK (b0:Nat) (w:World) (A:Option Addr) (n c:Nat) (es:List IE) (B:Option Addr) (m d:Nat) (os:List Int):Prop:=
 pF ar 116 5 fJ FJ b0 w A n c es/\pF ar 3 1 fI FI b0 w B m d os/\∀a b,A=some a->B=some b->a.block≠b.block
theorem St.afU {w0 w w':World} {own ps:List PF} {A B:Option Addr} {n c m d:Nat} {es:List IE} {os:List Int} (h:St w0 w own ps) (hb:Below w.heap.size w w') (hr:aaK w.heap.size w' A n c es B m d os):St w0 w' (av ar 116 5 A n c (fl fJ es)::av ar 3 1 B m d (fl fI os)::own) ps:=by
 have n1:∀b,(av ar 116 5 A n c (fl fJ es)).di b->w.heap.size<=b:=fun b q=>by
  obtain ⟨a,ha,rfl⟩:=jz q
  exact hr.1.2.2 a ha
 have h2:=h.add hb (av ar 3 1 B m d (fl fI os)) hr.2.1.1 fun b q=>by
  obtain ⟨a,ha,rfl⟩:=jz q
  exact hr.2.1.2.2 a ha
 refine ⟨h2.below,fun f hf=>?_,fun f hf b Bj=>?_,qe.2 ⟨fun f hf b q1 q2=>?_,h2.nd⟩,h2.pers,fun p hp f hf b q1 q2=>?_⟩
 ·rcases dW.1 hf with rfl | hf
  ·exact hr.1.1
  ·exact h2.mine f hf
 ·rcases dW.1 hf with rfl | hf
  ·exact bq h.below.size (n1 b Bj)
  ·exact h2.new f hf b Bj
 ·rcases dW.1 hf with rfl | hf
  ·obtain ⟨x,hx,zD⟩:=jz q1
   obtain ⟨y,hy,hyb⟩:=jz q2
   exact hr.2.2 x y hx hy (zD.trans hyb.symm)
  ·have:=f.lt (h.mine f hf) q2
   have:=n1 b q1
   omega
 ·rcases dW.1 hf with rfl | hf
  ·have:=p.lt (h.pers p hp) q2
   have:=n1 b q1
   omega
  ·exact h2.apart p hp f hf b q1 q2
abbrev V5:=Value×Value×Value×Value×Value
def fV5 (p:V5):List Value:=[p.1,p.2.1,p.2.2.1,p.2.2.2.1,p.2.2.2.2]
def fV1 (v:Value):List Value:=[v]
section
variable {N:Nat} {dq:List Deferred} {a:Act} {l:List (Nat×Value)} {w:World} {d:Nat} {ty:TypeId} {pos:String} {af:Array Edge} {gd:Option (Nat×Bool)}
theorem rY {P:Program} {x y:Operand} {T T':Nat} {m n:Int} (h:aW dq N a l) (hx:bV l x=some (.int .i64 m)) (hy:bV l y=some (.int .i64 n)):
  (execOp a.eval ⟨some d,.call ⟨.builtin .max,#[x,y],#[T,T']⟩,ty,pos,af,gd⟩).run P w=.ok (.value (.int .i64 (max m n))) w:=by
 have hv:=h.ev hx
 have Bp:=h.ev hy
 have e:(max m n:Int)=if m<n then n else m:=by split<;>omega
 rw [e]
 generalize a.eval=ρ at hv Bp ⊢
 simp [hv,Bp,go_sem]
 split<;>omega
theorem rZ {P:Program} {x y:Operand} {T T':Nat} {m n:Nat} (h:aW dq N a l) (hx:bV l x=some (.int .i64 (m:Nat))) (hy:bV l y=some (.int .i64 (n:Nat))):
  (execOp a.eval ⟨some d,.call ⟨.builtin .max,#[x,y],#[T,T']⟩,ty,pos,af,gd⟩).run P w=.ok (.value (.int .i64 (max m n:Nat))) w:=by
 have h1:=rY (P:=P) (d:=d) (ty:=ty) (pos:=pos) (af:=af) (gd:=gd) (w:=w) (T:=T) (T':=T') h hx hy
 rwa [show (max (m:Int) (n:Int))=((max m n:Nat):Int) by omega] at h1
end
def mvB (op rb g:Int):Int:=if op=3∨op=4 then rb+g else rb
def mvI (g:Int) (e:IE):IE:=(e.1,e.2.1+g,e.2.2.1+g,mvB e.1 e.2.2.2.1 g,e.2.2.2.2)
def mxL (d:List Int) (l:List Int):Int:=l.foldl (fun m r=>max m (d.getD r.toNat 0)) 0
def afV (d:List Int) (e:IE):List Int:=d.set e.2.1.toNat (mxL d (cP e.1 e.2.2.1 e.2.2.2.1)+1)
def dpt (g:Nat) (es:List IE) (os:List Int):Int:=mxL (es.foldl afV (List.replicate g 0)) os
def afW (g:Int) (os:List Int) (k:Nat):IE:=(1,g+(k:Nat),os.getD k 0,0,0)
def jnC (g:Int) (es:List IE) (os:List Int) (dL:List IE):List IE:=(es++(List.range os.length).map (afW g os))++dL.map (mvI g)
def jnO (g:Int) (os:List Int):List Int:=os.map (·+g)
def fO (b:Bool):List Value:=[.bool b]
def FO (_:Bool):PF:=jY
theorem fi (b:Bool):(fO b).length=1:=rfl
def Br (e:IE):List Int:=cP e.1 e.2.2.1 e.2.2.2.1
def gG (os:List Int):List IE->List Bool×(Int->Bool)
 | []=>([],fun r=>decide (r∈os))
 | e::l=>if (gG os l).2 e.2.1 then (true::(gG os l).1,fun r=>decide (r∈Br e) || (!decide (r=e.2.1) && (gG os l).2 r)) else (false::(gG os l).1,(gG os l).2)
theorem KR (os:List Int) (l:List IE):(gG os l).1.length=l.length:=by
 induction l with
 | nil=>rfl
 | cons e l ih=>rw [gG]; split<;>rw [dy,dy,ih]
def scR (os:List Int) (r:Int):List IE->List Bool->Bool
 | e::l,b::bs=>(decide (r∈Br e) && b) || (!decide (e.2.1=r) && scR os r l bs)
 | _,_=>decide (r∈os)
theorem kM {α:Type} {l:List α} {k:Nat} {e:α} (h:l[k]?=some e):l.drop k=e::l.drop (k+1):=by
 obtain ⟨h1,h2⟩:=bU.1 h
 rw [gW h1,h2]
def wT (os:List Int) (es:List IE) (t:Nat):List Bool:=List.replicate t false++(gG os (es.drop t)).1
theorem KS {os:List Int} {es:List IE} {t:Nat} (h:t<=es.length):(wT os es t).length=es.length:=by
 rw [wT,aP,jH,KR,j6]; omega
theorem KT (os:List Int) {es:List IE} {n:Nat} (h:es.length=n):wT os es n=List.replicate n false:=by
 rw [wT,dM ae]; exact fv _
theorem VG {k:Nat} {b:Bool} {l:List Bool}:(List.replicate (k+1) false++l).set k b=List.replicate k false++b::l:=by
 rw [List.replicate_succ',cG,EX (h:=by rw [jH]; exact aY _),jH,mR]
 rfl
theorem Dz {os:List Int} {es:List IE} {k:Nat} {e:IE} (he:es[k]?=some e):(wT os es (k+1)).set k ((gG os (es.drop (k+1))).2 e.2.1)=wT os es k:=by
 rw [wT,wT,VG,kM he,gG]
 by_cases h:(gG os (es.drop (k+1))).2 e.2.1=true
 ·rw [aR h,h]
 ·rw [aQ h,vD.2 h]
theorem VH {os:List Int} {es:List IE} {t k:Nat} (h:k<t):(wT os es t)[k]?=some false:=by
 rw [wT,jg (by rw [jH]; exact h),iN,aR h]
theorem M' {l:List Bool} {k:Nat} {b:Bool} (h:l[k]?=some b):l.set k b=l:=by
 obtain ⟨h1,h2⟩:=bU.1 h
 rw [<- h2]; exact yH h1
def oZ (g:Nat) (f:Int->Bool):List Bool:=(List.range g).map fun r=>f (r:Nat)
theorem r8 (g:Nat) (f:Int->Bool):(oZ g f).length=g:=by rw [oZ,aZ,mK]
theorem Qk {g r:Nat} {f:Int->Bool} (h:r<g):(oZ g f)[r]?=some (f (r:Nat)):=by
 rw [oZ,bo,fQ h]; rfl
theorem pK {g:Nat} {f f':Int->Bool} (h:∀r,f r=f' r):oZ g f=oZ g f':=by
 rw [show f=f' from funext h]
theorem DA {g t:Nat} {f:Int->Bool} {b:Bool}:(oZ g f).set t b=oZ g fun r=>if r=(t:Nat) then b else f r:=by
 apply kV
 intro i
 rw [td,oZ,oZ,bo,bo,aZ,mK]
 by_cases h:i<g
 ·rw [fQ h]
  by_cases q:t=i
  ·subst q; simp [h]
  ·have:¬((i:Int)=(t:Int)):=ae
   simp [q,this]
 ·rw [dz (by rw [mK]; omega)]
  by_cases q:t=i
  ·subst q; simp [h]
  ·simp [q]
def Cj (f:Int->Bool) (l:List Int) (r:Int):Bool:=f r || decide (r∈l)
theorem DB (f:Int->Bool) (r:Int):Cj f [] r=f r:=by simp [Cj]
theorem xV {g q m:Nat} {f:Int->Bool} {l:List Int} (hq:l[m]?=some ((q:Nat):Int)):(oZ g (Cj f (l.take m))).set q true=oZ g (Cj f (l.take (m+1))):=by
 rw [DA]
 refine pK fun r=>?_
 rw [Cj,Cj,take_one hq]
 by_cases h:r=((q:Nat):Int)
 ·rw [aR h,dU (b6.2 (.inr (by rw [h]; exact cC.2 rfl))),Bool.or_true]
 ·rw [aQ h]
  congr 1
  exact uu.2 ⟨fun z=>b6.2 (.inl z),fun z=>(b6.1 z).elim id fun z=>absurd (cC.1 z) h⟩
theorem Ql (g:Nat):List.replicate g false=oZ g fun _=>false:=by
 rw [oZ,List.map_const',mK]
theorem KU {g:Nat} (os:List Int):oZ g (Cj (fun _=>false) os)=oZ g (gG os []).2:=pK fun r=>by rw [Cj,gG,Bool.false_or]
theorem YO {os:List Int} {es:List IE} {k:Nat} {e:IE} (he:es[k]?=some e) (h:(gG os (es.drop (k+1))).2 e.2.1=false):(gG os (es.drop k)).2=(gG os (es.drop (k+1))).2:=by
 rw [kM he,gG,aQ (by rw [h]; decide)]
theorem Qm {g:Nat} {os:List Int} {es:List IE} {k t:Nat} {e:IE} (he:es[k]?=some e) (ht:e.2.1=(t:Nat)) (h:(gG os (es.drop (k+1))).2 e.2.1=true):oZ g (Cj (fun r=>if r=((t:Nat):Int) then false else (gG os (es.drop (k+1))).2 r) (Br e))=oZ g (gG os (es.drop k)).2:=by
 refine pK fun r=>?_
 rw [kM he,gG,aR h,Cj]
 simp only
 rw [ht]
 by_cases q:r=((t:Nat):Int)
 ·rw [aR q,dU q,Bool.false_or,Bool.not_true,Bool.false_and,Bool.or_false]
 ·rw [aQ q,bR q,Bool.not_false,Bool.true_and,Bool.or_comm]
def kpF (os:List Int):List IE->List IE
 | []=>[]
 | e::l=>if (gG os l).2 e.2.1 then e::kpF os l else kpF os l
theorem afX {os:List Int} {es:List IE} {k:Nat} {e:IE} (he:es[k]?=some e):(gG os es).1[k]?=some ((gG os (es.drop (k+1))).2 e.2.1):=by
 induction es generalizing k with
 | nil=>simp at he
 | cons x l ih=>
  cases k with
  | zero=>
   have:x=e:=by simpa using he
   subst this
   rw [List.drop_succ_cons,vv,gG]
   by_cases h:(gG os l).2 x.2.1=true
   ·rw [aR h,h]; rfl
   ·rw [aQ h,vD.2 h]; rfl
  | succ k=>
   have h1:l[k]?=some e:=by simpa using he
   rw [List.drop_succ_cons,gG,<- ih h1]
   split<;>rfl
def Ub:List IE->List Bool->List IE
 | e::es,b::bs=>if b && !nm e then e::Ub es bs else Ub es bs
 | _,_=>[]
def mh (os:List Int) (es:List IE):List IE:=Ub es (gG os es).1
theorem pM (os:List Int) (e:IE) (l:List IE):mh os (e::l)=if (gG os l).2 e.2.1 && !nm e then e::mh os l else mh os l:=by
 unfold mh
 rw [gG]
 by_cases h:(gG os l).2 e.2.1=true
 ·rw [aR h,Ub,h]
 ·rw [aQ h,Ub,vD.2 h]
theorem oH (os:List Int):∀es:List IE,∀e∈mh os es,e∈es
 | [],e,h=>by cases h
 | d::es,e,h=>by
  rw [pM] at h
  split at h
  ·rcases dW.1 h with rfl | h
   ·exact bS ..
   ·exact cO _ (oH os es e h)
  ·exact cO _ (oH os es e h)
theorem vX (os:List Int):∀es:List IE,(mh os es).length<=es.length
 | []=>aY _
 | e::es=>by
  rw [pM]
  have:=vX os es
  split<;>simp only [dy]<;>omega
theorem FR {R R':List Rw} {e:IE} (h:mg R e=some R'):∃z,lD e.1 e.2.2.2.2 (eQ R e.2.2.1) (eQ R e.2.2.2.1)=some z/\R'=R.set e.2.1.toNat z:=by
 unfold mg at h
 cases hz:lD e.1 e.2.2.2.2 (eQ R e.2.2.1) (eQ R e.2.2.2.1) with
 | none=>rw [hz] at h; cases h
 | some z=>rw [hz] at h; exact ⟨z,rfl,(dw h).symm⟩
theorem Na {R S:List Rw} {e:IE} {g:Int} {z:Rw} (hM:cN e g) (hz:lD e.1 e.2.2.2.2 (eQ R e.2.2.1) (eQ R e.2.2.2.1)=some z) (h:∀r∈Br e,eQ S r=eQ R r):lD e.1 e.2.2.2.2 (eQ S e.2.2.1) (eQ S e.2.2.2.1)=some z:=by
 obtain ⟨op,t,a,b,c⟩:=e
 unfold cN at hM
 dsimp only at hM hz ⊢
 unfold Br cP at h
 dsimp only at h
 by_cases q:op=3∨op=4
 ·rw [aR q] at h
  rw [h a cT,h b cT]; exact hz
 ·rw [aQ q,aR ae] at h
  rw [h a cT,rV (y':=eQ R b) q]; exact hz
theorem xW {os:List Int} {g:Nat}:∀(es:List IE) {R R' S:List Rw},(∀e∈es,cN e g)->R.length=g->S.length=g->kX R es=some R'->(∀r:Int,0<=r->(gG os es).2 r=true->eQ S r=eQ R r)->(∀r∈os,0<=r)->
  ∃S',kX S (mh os es)=some S'/\∀r∈os,eQ S' r=eQ R' r
 | [],R,R',S,_,_,_,h,ha,ho=>by
  cases h
  exact ⟨S,rfl,fun r hr=>ha r (ho r hr) (dU hr)⟩
 | e::l,R,R',S,iI,hR,hS,h,ha,ho=>by
  rw [gQ] at h
  cases hs:mg R e with
  | none=>rw [hs] at h; cases h
  | some Q=>
   rw [hs] at h
   have hM:=iI e (bS ..)
   have aaL:∀e∈l,cN e g:=fun e he=>iI e (cO _ he)
   obtain ⟨z,hz,rfl⟩:=FR hs
   have VC:=hM
   obtain ⟨op,t,a,b,c⟩:=e
   unfold cN at VC
   dsimp only at VC hz h ⊢
   have hQ:(R.set t.toNat z).length=g:=by rw [cH]; exact hR
   rw [pM]
   rw [gG] at ha
   dsimp only at ha ⊢
   by_cases hb:(gG os l).2 t=true
   ·rw [aR hb] at ha
    have afY:∀r∈Br (op,t,a,b,c),eQ S r=eQ R r:=fun r hr=>by
     refine ha r ?_ (by dsimp only; rw [dU hr]; rfl)
     unfold Br cP at hr
     dsimp only at hr
     split at hr
     ·simp at hr; omega
     split at hr
     ·simp at hr; omega
     ·cases hr
    have YP:∀r:Int,0<=r->r≠t->(gG os l).2 r=true->eQ S r=eQ R r:=fun r h0 sQ hr=>by
     refine ha r h0 ?_
     dsimp only
     rw [hr,bR sQ]
     simp
    by_cases hn:nm (op,t,a,b,c)=true
    ·rw [hb,hn,aQ ai]
     refine xW l aaL hQ hS h (fun r h0 hr=>?_) ho
     have ak5:=Iz hn hM hR hs
     rw [ak5]
     by_cases p:r=t
     ·subst p
      have hq:=bX hn
      dsimp only at hq
      obtain ⟨rfl,rfl⟩:=hq
      exact afY _ (by unfold Br cP; simp)
     ·exact YP r h0 p hr
    ·rw [hb,vD.2 hn,aR ai]
     have T3:=Na hM hz afY
     have ME:mg S (op,t,a,b,c)=some (S.set t.toNat z):=by unfold mg; rw [T3]; rfl
     have hS2:(S.set t.toNat z).length=g:=by rw [cH]; exact hS
     obtain ⟨S',s1,s2⟩:=xW l aaL hQ hS2 h (fun r h0 hr=>by
      by_cases p:r=t
      ·rw [p,jq hS ae ae,jq hR ae ae]
      ·rw [lk ae h0 (qm p),lk ae h0 (qm p)]; exact YP r h0 p hr) ho
     exact ⟨S',by rw [gQ,ME]; exact s1,s2⟩
   ·rw [aQ hb] at ha
    rw [vD.2 hb,Bool.false_and,aQ ai]
    refine xW l aaL hQ hS h (fun r h0 hr=>?_) ho
    by_cases p:r=t
    ·exact absurd (p ▸ hr) hb
    ·rw [lk ae h0 (qm p)]; exact ha r h0 hr
theorem Qn {os:List Int} {es:List IE} {g:Nat} {R R':List Rw} (iI:∀e∈es,cN e g) (hR:R.length=g) (ho:∀r∈os,0<=r) (h:kX R es=some R'):∃S',kX R (mh os es)=some S'/\∀r∈os,eQ S' r=eQ R' r:=
 xW es iI hR hR h (fun _ _ _=>rfl) ho
def gi (l:List Int) (k:Int):Int:=l.getD k.toNat 0
theorem jr {l:List Int} {k v:Int} (h0:0<=k) (h1:k<l.length):gi (l.set k.toNat v) k=v:=by
 unfold gi; rw [aF,C2 ae]; rfl
theorem ll {l:List Int} {k j v:Int} (h0:0<=k) (h1:0<=j) (h:k≠j):gi (l.set k.toNat v) j=gi l j:=by
 unfold gi; rw [aF,aF,List.getElem?_set_ne ae]
def iY (i:Nat):List Int->Nat->List IE->List (Int×Int)
 | _,_,[]=>[]
 | h,k,e::es=>(gi h e.2.2.1,if e.1=3∨e.1=4 then gi h e.2.2.2.1 else gi h e.2.2.1)::iY i (h.set e.2.1.toNat ((i+1+k:Nat):Int)) (k+1) es
def l9 (i:Nat):List Int->Nat->List IE->List Int
 | h,_,[]=>h
 | h,k,e::es=>l9 i (h.set e.2.1.toNat ((i+1+k:Nat):Int)) (k+1) es
def uS (u:List Int) (k:Nat) (q:Int×Int):List Int:=((u.set q.1.toNat k).set q.2.toNat k)++[-1]
def uR:List Int->Nat->List (Int×Int)->List Int
 | u,_,[]=>u
 | u,k,q::l=>uR (uS u k q) (k+1) l
def uO (u:List Int) (n:Nat) (vs:List Int):List Int:=vs.foldl (fun u v=>u.set v.toNat n) u
def bu (i g:Nat):List Int:=(List.range g).map fun r=>((min r i:Nat):Int)
def iD (i g:Nat) (es:List IE) (os:List Int):List Int:=os.map (gi (l9 i (bu i g) 0 es))
def fC (i g:Nat) (es:List IE) (os:List Int):List Int:=uO (uR (List.replicate (i+1) (-1)) 0 (iY i (bu i g) 0 es)) es.length (iD i g es os)
structure Pk where
 at_:List Int
 free:List Bool
def fq (p:Pk):Int×Pk:=match p.free.findIdx? id with
 | some r=>((r:Nat),⟨p.at_++[((r:Nat):Int)],p.free.set r false⟩)
 | none=>((p.free.length:Nat),⟨p.at_++[((p.free.length:Nat):Int)],p.free++[false]⟩)
def ew (u:List Int) (k:Nat) (p:Pk) (v:Int):Pk:=if gi u v=(k:Nat) then { p with free:=p.free.set (gi p.at_ v).toNat true } else p
def np (u:List Int) (k:Nat) (p:Pk) (e:IE) (q:Int×Int):Pk×IE:=
 let s:=fq (ew u k (ew u k p q.1) q.2)
 (s.2,(e.1,s.1,gi p.at_ q.1,if e.1=3∨e.1=4 then gi p.at_ q.2 else e.2.2.2.1,e.2.2.2.2))
def iZ (u:List Int):Nat->Pk->List IE->List (Int×Int)->Pk×List IE
 | k,p,e::es,q::qs=>let s:=np u k p e q; let t:=iZ u (k+1) s.1 es qs; (t.1,s.2::t.2)
 | _,p,_,_=>(p,[])
def sC (i:Nat) (u:List Int):Pk:=⟨(List.range i).map (fun v=>((v:Nat):Int))++[if 0<=gi u i then (i:Int) else 0],(List.range i).map (fun v=>decide (gi u (v:Nat)<0))++if 0<=gi u i then [false] else []⟩
def Ck (i g:Nat) (es:List IE) (os:List Int):Pk×List IE:=iZ (fC i g es os) 0 (sC i (fC i g es os)) es (iY i (bu i g) 0 es)
def zE (i g:Nat) (es:List IE) (os:List Int):List IE:=(Ck i g es os).2
def mi (i g:Nat) (es:List IE) (os:List Int):List Int:=(iD i g es os).map (gi (Ck i g es os).1.at_)
def nQ (i g:Nat) (es:List IE) (os:List Int):Nat:=(Ck i g es os).1.free.length
theorem gj (i:Nat):∀(es:List IE) (h:List Int) (k:Nat),(iY i h k es).length=es.length
 | [],_,_=>rfl
 | e::es,h,k=>by rw [iY,dy,dy,gj i es]
theorem pN (i:Nat):∀(es:List IE) (h:List Int) (k:Nat),(l9 i h k es).length=h.length
 | [],_,_=>rfl
 | e::es,h,k=>by rw [l9,pN i es,cH]
theorem zF (i:Nat):∀(es fs:List IE) (h:List Int) (k:Nat),l9 i h k (es++fs)=l9 i (l9 i h k es) (k+es.length) fs
 | [],_,_,_=>rfl
 | e::es,fs,h,k=>by
  rw [qj,l9,zF i es,l9,dy]
  congr 1
  omega
theorem jZ {i:Nat} {es:List IE} {h:List Int} {k:Nat} {e:IE} (he:es[k]?=some e):l9 i h 0 (es.take (k+1))=(l9 i h 0 (es.take k)).set e.2.1.toNat ((i+1+k:Nat):Int):=by
 have hk:=(bU.1 he).1
 rw [take_one he,zF,fg,jS ae,fz]
 rfl
theorem rp (i:Nat):∀(es:List IE) (h:List Int) (s k:Nat) (e:IE),es[k]?=some e->(iY i h s es)[k]?=some (gi (l9 i h s (es.take k)) e.2.2.1,if e.1=3∨e.1=4 then gi (l9 i h s (es.take k)) e.2.2.2.1 else gi (l9 i h s (es.take k)) e.2.2.1)
 | d::es,h,s,0,e,he=>by cases he; rfl
 | d::es,h,s,k+1,e,he=>by
  rw [iY,List.getElem?_cons_succ,xo,l9]
  exact rp i es _ (s+1) k e he
theorem Nb {i:Nat} {es:List IE} {h:List Int} {g:Nat} {k:Nat} (iI:∀e∈es,cN e g) (hl:h.length=g) {r:Int} (h0:0<=r):∀j,k<=j->j<=es.length->gi (l9 i h 0 (es.take j)) r<i+1+k->gi (l9 i h 0 (es.take k)) r=gi (l9 i h 0 (es.take j)) r:=by
 intro j
 induction j with
 | zero=>intro h1 _ _; rw [Nat.le_zero.1 h1]
 | succ j ih=>
  intro h1 h2 h3
  rcases Nat.eq_or_lt_of_le h1 with q | q
  ·rw [q]
  ·have he:es[j]?=some es[j]:=aw ae
   have hM:=iI _ (aB he)
   generalize es[j]=e at he hM
   obtain ⟨op,t,a,b,c⟩:=e
   unfold cN at hM
   dsimp only at hM
   rw [jZ he] at h3 ⊢
   dsimp only at h3 ⊢
   by_cases p:t=r
   ·subst p
    rw [jr h0 (by rw [pN,hl]; omega)] at h3
    omega
   ·rw [ll ae h0 p] at h3 ⊢
    exact ih ae ae h3
theorem uN {i:Nat} {es:List IE} {h:List Int} {g:Nat} (iI:∀e∈es,cN e g) (hl:h.length=g) (hh:∀r:Int,0<=r->r<g->0<=gi h r/\gi h r<=i):∀j,j<=es.length->∀r:Int,0<=r->r<g->0<=gi (l9 i h 0 (es.take j)) r/\gi (l9 i h 0 (es.take j)) r<i+1+j:=by
 intro j
 induction j with
 | zero=>intro _ r h0 h1; have:=hh r h0 h1; show 0<=gi h r/\gi h r<_; omega
 | succ j ih=>
  intro hj r h0 h1
  have he:es[j]?=some es[j]:=aw ae
  have hM:=iI _ (aB he)
  generalize es[j]=e at he hM
  obtain ⟨op,t,a,b,c⟩:=e
  unfold cN at hM
  dsimp only at hM
  rw [jZ he]
  dsimp only
  by_cases p:t=r
  ·subst p
   rw [jr h0 (by rw [pN,hl]; omega)]
   omega
  ·rw [ll ae h0 p]
   have:=ih ae r h0 h1
   omega
theorem YQ {u:List Int} {k:Nat} {q:Int×Int} {v:Int} (h1:0<=q.1/\q.1<u.length) (h2:0<=q.2/\q.2<u.length) (hv:0<=v) (hl:v<u.length):gi (uS u k q) v=if v=q.1∨v=q.2 then (k:Int) else gi u v:=by
 have e:gi (uS u k q) v=gi ((u.set q.1.toNat k).set q.2.toNat k) v:=by
  unfold gi uS
  rw [aF,aF,jg (by rw [cH,cH]; omega)]
 rw [e]
 by_cases p2:q.2=v
 ·rw [p2,jr hv (by rw [cH]; omega),aR (.inr rfl)]
 ·rw [ll h2.1 hv p2]
  by_cases p1:q.1=v
  ·rw [p1,jr hv hl,aR (.inl rfl)]
  ·rw [ll h1.1 hv p1,aQ ae]
theorem Qo (u:List Int) (k:Nat) (q:Int×Int):(uS u k q).length=u.length+1:=by
 unfold uS; rw [aP,cH,cH]; rfl
theorem aaM {u:List Int} {k:Nat} {q:Int×Int}:gi (uS u k q) (u.length:Nat)=-1:=by
 unfold gi uS
 rw [aF,mJ,j8 (by rw [cH,cH]; exact aY _),cH,cH,mR]
 rfl
theorem YR:∀(qs:List (Int×Int)) (u:List Int) (k:Nat),(∀(j:Nat) q,qs[j]?=some q->0<=q.1/\q.1<u.length+j/\0<=q.2/\q.2<u.length+j)->(uR u k qs).length=u.length+qs.length/\∀v:Int,0<=v->v<u.length+qs.length->
  (∃(j:Nat) (q:Int×Int),qs[j]?=some q/\(v=q.1∨v=q.2)/\gi (uR u k qs) v=((k+j:Nat):Int)/\∀(j':Nat) q',qs[j']?=some q'->(v=q'.1∨v=q'.2)->j'<=j)∨
  ((∀(j:Nat) q,qs[j]?=some q->¬(v=q.1∨v=q.2))/\gi (uR u k qs) v=if v<u.length then gi u v else -1)
 | [],u,k,_=>⟨rfl,fun v h0 h1=>.inr ⟨fun j q h=>(by cases h),(by show gi u v=_; rw [aR (by simpa using h1)])⟩⟩
 | q::qs,u,k,hb=>by
  have b0:=hb 0 q rfl
  have Dc:∀(j:Nat) q',qs[j]?=some q'->0<=q'.1/\q'.1<(uS u k q).length+j/\0<=q'.2/\q'.2<(uS u k q).length+j:=fun j q' h=>by
   have:=hb (j+1) q' h
   rw [Qo]; omega
  obtain ⟨l1,l2⟩:=YR qs (uS u k q) (k+1) Dc
  rw [Qo] at l1 l2
  refine ⟨by rw [uR,l1,dy]; omega,fun v h0 h1=>?_⟩
  rw [dy] at h1
  rw [uR]
  rcases l2 v h0 ae with ⟨j,q',a1,a2,a3,a4⟩ | ⟨a1,a2⟩
  ·refine .inl ⟨j+1,q',a1,a2,by rw [a3]; congr 1; omega,fun j' q2 h2 h3=>?_⟩
   cases j' with
   | zero=>omega
   | succ j'=>have:=a4 j' q2 h2 h3; omega
  ·by_cases p:v=q.1∨v=q.2
   ·refine .inl ⟨0,q,rfl,p,?_,fun j' q2 h2 h3=>?_⟩
    ·have hv:v<u.length:=ae
     rw [a2,aR ae,YQ ae ae h0 hv,aR p]; rfl
    ·cases j' with
     | zero=>exact aY _
     | succ j'=>exact absurd h3 (a1 j' q2 h2)
   ·refine .inr ⟨fun j q2 h2=>?_,?_⟩
    ·cases j with
     | zero=>cases h2; exact p
     | succ j=>exact a1 j q2 h2
    ·rw [a2]
     rcases EY v u.length with r | r | r
     ·rw [aR ae,aR r,YQ ae ae h0 r,aQ p]
     ·rw [r,aR ae,aaM,aQ ae]
     ·rw [aQ ae,aQ ae]
theorem YS:∀(vs:List Int) (u:List Int) (n:Nat),(∀v∈vs,0<=v/\v<u.length)->(uO u n vs).length=u.length/\∀v:Int,0<=v->gi (uO u n vs) v=if v∈vs then (n:Int) else gi u v
 | [],u,n,_=>⟨rfl,fun v _=>by simp [uO]⟩
 | w::vs,u,n,hb=>by
  have hw:=hb w (bS ..)
  obtain ⟨l1,l2⟩:=YS vs (u.set w.toNat n) n (fun v hv=>by rw [cH]; exact hb v (cO _ hv))
  refine ⟨by show (uO (u.set w.toNat n) n vs).length=_; rw [l1,cH],fun v h0=>?_⟩
  show gi (uO (u.set w.toNat n) n vs) v=_
  rw [l2 v h0]
  by_cases p:v∈vs
  ·rw [aR p,aR (cO _ p)]
  ·rw [aQ p]
   by_cases q:w=v
   ·rw [q,jr h0 ae,aR (bS ..)]
   ·rw [ll hw.1 h0 q,aQ (by simp only [dW,not_or]; exact ⟨qm q,p⟩)]
structure Qp (i g:Nat) (es:List IE) (os:List Int) (U:Int->Int):Prop where
 a:∀(k:Nat) q,(iY i (bu i g) 0 es)[k]?=some q->(k:Int)<=U q.1/\(k:Int)<=U q.2
 b:∀(v:Int) (k:Nat),0<=v->v<i+1+es.length->U v=k->k<es.length->∃q,(iY i (bu i g) 0 es)[k]?=some q/\(v=q.1∨v=q.2)
 c:∀v∈iD i g es os,U v=es.length
 d:∀v:Int,0<=v->v<i+1+es.length->U v=es.length->v∈iD i g es os
 le:∀v:Int,0<=v->v<i+1+es.length->-1<=U v/\U v<=es.length
theorem nr {i g:Nat} {r:Int} (h0:0<=r) (h1:r<g):gi (bu i g) r=((min r.toNat i:Nat):Int):=by
 unfold gi bu
 rw [aF,bo,fQ ae]; rfl
theorem gK (i g:Nat):(bu i g).length=g:=by unfold bu; simp
theorem rq {i g:Nat} {es:List IE} (iI:∀e∈es,cN e g) (j:Nat) (q:Int×Int) (h:(iY i (bu i g) 0 es)[j]?=some q):(0<=q.1/\q.1<i+1+j)/\(0<=q.2/\q.2<i+1+j):=by
 have hj:j<es.length:=by have:=(bU.1 h).1; rwa [gj] at this
 have he:es[j]?=some es[j]:=aw hj
 have hM:=iI _ (aB he)
 generalize es[j]=e at he hM
 rw [rp i es _ 0 j e he] at h
 have hq:=dw h
 have hh:=uN (i:=i) iI (gK i g) (fun r h0 h1=>by rw [nr h0 h1]; omega) j ae
 obtain ⟨op,t,a,b,c⟩:=e
 unfold cN at hM
 dsimp only at hM hq
 subst hq
 dsimp only
 have ha:=hh a ae ae
 refine ⟨ha,?_⟩
 split
 ·exact hh b ae ae
 ·exact ha
theorem YT {i g:Nat} {es:List IE} {os:List Int} (iI:∀e∈es,cN e g) (ho:∀r∈os,0<=r/\r<g):Qp i g es os (gi (fC i g es os))/\(fC i g es os).length=i+1+es.length:=by
 obtain ⟨l1,l2⟩:=YR (iY i (bu i g) 0 es) (List.replicate (i+1) (-1)) 0 (fun j q h=>by
  have:=rq iI j q h
  rw [jH]; omega)
 rw [jH,gj] at l1 l2
 have AZ:∀v∈iD i g es os,0<=v/\v<(uR (List.replicate (i+1) (-1)) 0 (iY i (bu i g) 0 es)).length:=fun v hv=>by
  obtain ⟨r,hr,rfl⟩:=ff.1 hv
  have:=uN (i:=i) iI (gK i g) (fun r h0 h1=>by rw [nr h0 h1]; omega) es.length (aY _) r (ho r hr).1 (ho r hr).2
  rw [List.take_length] at this
  rw [l1]; omega
 obtain ⟨m1,m2⟩:=YS (iD i g es os) _ es.length AZ
 refine ⟨⟨fun k q h=>?_,fun v k h0 h1 hk cD=>?_,fun v hv=>?_,fun v h0 h1 hv=>?_,fun v h0 h1=>?_⟩,by unfold fC; rw [m1,l1]⟩
 ·have hb:=rq iI k q h
  have YC:k<es.length:=by have:=(bU.1 h).1; rwa [gj] at this
  have key:∀v:Int,0<=v->v<i+1+k->(v=q.1∨v=q.2)->(k:Int)<=gi (fC i g es os) v:=fun v h0 h1 hq=>by
   unfold fC
   rw [m2 v h0]
   split
   ·omega
   ·rcases l2 v h0 ae with ⟨j,q',a1,a2,a3,a4⟩ | ⟨a1,_⟩
    ·have:=a4 k q h hq
     rw [a3]; omega
    ·exact absurd hq (a1 k q h)
  exact ⟨key q.1 hb.1.1 hb.1.2 (.inl rfl),key q.2 hb.2.1 hb.2.2 (.inr rfl)⟩
 ·unfold fC at hk
  rw [m2 v h0] at hk
  split at hk
  ·omega
  ·rcases l2 v h0 ae with ⟨j,q',a1,a2,a3,a4⟩ | ⟨a1,a2⟩
   ·rw [a3] at hk
    obtain rfl:j=k:=ae
    exact ⟨q',a1,a2⟩
   ·rw [a2] at hk
    have:gi (List.replicate (i+1) (-1)) v=-1∨¬v<((i+1:Nat):Int):=by
     by_cases p:v<((i+1:Nat):Int)
     ·refine .inl ?_
      unfold gi
      rw [aF,iN,aR ae]; rfl
     ·exact .inr p
    split at hk
    ·rcases this with p | p
     ·omega
     ·omega
    ·omega
 ·unfold fC
  rw [m2 v (AZ v hv).1,aR hv]
 ·unfold fC at hv
  rw [m2 v h0] at hv
  split at hv
  ·rename_i p; exact p
  ·rcases l2 v h0 ae with ⟨j,q',a1,a2,a3,a4⟩ | ⟨a1,a2⟩
   ·have:j<es.length:=by have:=(bU.1 a1).1; rwa [gj] at this
    omega
   ·rw [a2] at hv
    split at hv
    ·rename_i p
     unfold gi at hv
     rw [aF,iN,aR ae] at hv
     simp at hv
    ·omega
 ·unfold fC
  rw [m2 v h0]
  split
  ·omega
  ·rcases l2 v h0 ae with ⟨j,q',a1,a2,a3,a4⟩ | ⟨a1,a2⟩
   ·have:j<es.length:=by have:=(bU.1 a1).1; rwa [gj] at this
    omega
   ·rw [a2]
    split
    ·rename_i p
     unfold gi
     rw [aF,iN,aR ae]
     simp
    ·omega
theorem Cm {i g:Nat} {es:List IE} {os:List Int} {U:Int->Int} (iI:∀e∈es,cN e g) (ho:∀r∈os,0<=r/\r<g) (hU:Qp i g es os U) {k:Nat} {v:Int} (hk:k<=es.length) (h0:0<=v) (h1:v<i+1+k) (hv:(k:Int)<=U v):∃r:Int,0<=r/\r<g/\gi (l9 i (bu i g) 0 (es.take k)) r=v:=by
 have hle:=hU.le v h0 ae
 obtain ⟨j,hj⟩:∃j:Nat,U v=j:=⟨(U v).toNat,by omega⟩
 have hb:∀r:Int,0<=r->gi (l9 i (bu i g) 0 (es.take j)) r=v->gi (l9 i (bu i g) 0 (es.take k)) r=v:=fun r hr e=>by
  rw [<- e]
  exact Nb iI (gK i g) hr j ae ae ae
 rcases dr j es.length with p | p
 ·obtain ⟨q,hq,hvq⟩:=hU.b v j h0 ae hj p
  have he:es[j]?=some es[j]:=aw p
  have hM:=iI _ (aB he)
  generalize es[j]=e at he hM
  rw [rp i es _ 0 j e he] at hq
  have hq:=dw hq
  obtain ⟨op,t,a,b,c⟩:=e
  unfold cN at hM
  dsimp only at hM hq
  subst hq
  dsimp only at hvq
  rcases hvq with e | e
  ·exact ⟨a,by omega,by omega,hb a ae e.symm⟩
  ·by_cases w:op=3∨op=4
   ·rw [aR w] at e
    exact ⟨b,by omega,by omega,hb b ae e.symm⟩
   ·rw [aQ w] at e
    exact ⟨a,by omega,by omega,hb a ae e.symm⟩
 ·obtain rfl:j=es.length:=ae
  obtain ⟨r,hr,e⟩:=ff.1 (hU.d v h0 ae hj)
  exact ⟨r,(ho r hr).1,(ho r hr).2,hb r (ho r hr).1 (by rw [List.take_length]; exact e)⟩
theorem wU {i g:Nat} {es:List IE} {os:List Int} {U:Int->Int} (iI:∀e∈es,cN e g) (hU:Qp i g es os U):∀(m k:Nat),m+k=es.length->∀r:Int,0<=r->r<g->(gG os (es.drop k)).2 r=true->(k:Int)<=U (gi (l9 i (bu i g) 0 (es.take k)) r)
 | 0,k,hk,r,h0,h1,ha=>by
  rw [dM ae] at ha
  have hr:=bX ha
  rw [bD (by omega),hU.c _ (ff.2 ⟨r,hr,rfl⟩)]
  omega
 | m+1,k,hk,r,h0,h1,ha=>by
  have he:es[k]?=some es[k]:=aw ae
  have hM:=iI _ (aB he)
  generalize es[k]=e at he hM
  rw [kM he,gG] at ha
  have hq:=hU.a k _ (rp i es (bu i g) 0 k e he)
  have ih:=wU iI hU m (k+1) ae
  rw [jZ he] at ih
  obtain ⟨op,t,a,b,c⟩:=e
  unfold cN at hM
  dsimp only at hM ha ih hq
  have later:r≠t->(gG os (es.drop (k+1))).2 r=true->(k:Int)<=U (gi (l9 i (bu i g) 0 (es.take k)) r):=fun sQ h=>by
   have:=ih r h0 h1 h
   rw [ll ae h0 (qm sQ)] at this
   omega
  by_cases w:(gG os (es.drop (k+1))).2 t=true
  ·rw [aR w] at ha
   dsimp only at ha
   rcases Bool.or_eq_true_iff.1 ha with p | p
   ·have p:=bX p
    unfold Br cP at p
    dsimp only at p
    split at p
    ·rename_i w2
     rw [aR w2] at hq
     rcases dW.1 p with rfl | p
     ·exact hq.1
     ·rw [cC.1 p]; exact hq.2
    split at p
    ·rw [cC.1 p]; exact hq.1
    ·cases p
   ·obtain ⟨p1,p2⟩:=Bool.and_eq_true_iff.1 p
    exact later (by simpa using p1) p2
  ·rw [aQ w] at ha
   exact later (fun e=>w (e ▸ ha)) ha
theorem php:∀(g m:Nat) (f:Nat->Nat),(∀x,x<m->f x<g)->(∀x y,x<m->y<m->f x=f y->x=y)->m<=g
 | 0,m,f,h,_=>by
  cases m with
  | zero=>exact aY _
  | succ m=>exact absurd (h 0 ae) ae
 | g+1,0,_,_,_=>bm _
 | g+1,m+1,f,h,hi=>by
  have:=php g m (fun x=>if f x=g then f m else f x) (fun x hx=>by
   have h1:=h x ae
   have h2:=h m ae
   split
   ·rename_i e
    have:f m≠g:=fun e2=>by have:=hi x m ae ae (e.trans e2.symm); omega
    omega
   ·omega) (fun x y hx hy e=>by
   split at e
   ·rename_i e1
    split at e
    ·rename_i e2; exact hi x y ae ae (e1.trans e2.symm)
    ·have:=hi m y ae ae e; omega
   ·split at e
    ·have:=hi x m ae ae e; omega
    ·exact hi x y ae ae e)
  omega
def gf (l:List Bool) (x:Nat):Bool:=l.getD x true
theorem Qq {l:List Bool} {k x:Nat} {b:Bool} (hk:k<l.length):gf (l.set k b) x=if x=k then b else gf l x:=by
 unfold gf
 rw [aF,aF,td]
 split
 ·rename_i e; subst e; simp
 ·rename_i e; rw [aQ (qm e)]
theorem aaN {l:List Bool} {x:Nat} (h:l.length<=x):gf l x=true:=by
 unfold gf; rw [aF,dz h]; rfl
theorem aaO {l:List Int} {v w:Int} (h0:0<=v) (h1:v<l.length):gi (l++[w]) v=gi l v:=by
 unfold gi; rw [aF,aF,jg ae]
theorem zG {l:List Int} {w:Int}:gi (l++[w]) (l.length:Nat)=w:=by
 unfold gi; rw [aF,mJ,j8 (aY _),mR]; rfl
theorem xX (p:Pk):∃rn:Nat,(fq p).1=rn/\rn<=p.free.length/\gf p.free rn=true/\(fq p).2.at_=p.at_++[((rn:Nat):Int)]/\(∀x,gf (fq p).2.free x=if x=rn then false else gf p.free x)/\
  (fq p).2.free.length=max p.free.length (rn+1)/\(rn=p.free.length->∀x,x<p.free.length->gf p.free x=false):=by
 unfold fq
 split
 ·rename_i r hr
  obtain ⟨hl,hp,_⟩:=tc.1 hr
  refine ⟨r,rfl,by omega,?_,rfl,fun x=>Qq hl,?_,fun e=>ae⟩
  ·unfold gf; rw [aF,aw hl]; exact hp
  ·show (p.free.set r false).length=_
   rw [cH]; omega
 ·rename_i hr
  have n8:=Bf.1 hr
  refine ⟨p.free.length,rfl,aY _,aaN (aY _),rfl,fun x=>?_,?_,fun _ x hx=>?_⟩
  ·show gf (p.free++[false]) x=_
   unfold gf
   rw [aF,s9]
   rcases Nat.lt_trichotomy x p.free.length with q | q | q
   ·rw [aR q,aQ ae,aF]
   ·rw [aQ ae,aR q,q,mR]; rfl
   ·rw [aQ ae,aQ ae,dz (by simp; omega),aF,dz ae]
  ·show (p.free++[false]).length=_
   rw [aP,dG]; omega
  ·unfold gf
   rw [aF,aw hx]
   have:=n8 _ (mS hx)
   simpa using this
theorem KW {u:List Int} {k:Nat} {p:Pk} {v:Int} (h0:0<=gi p.at_ v) (h1:gi p.at_ v<p.free.length):(ew u k p v).at_=p.at_/\(ew u k p v).free.length=p.free.length/\∀x:Nat,gf (ew u k p v).free x=if gi u v=(k:Nat)/\(x:Int)=gi p.at_ v then true else gf p.free x:=by
 unfold ew
 split
 ·rename_i q
  refine ⟨rfl,cH,fun x=>?_⟩
  dsimp only
  rw [Qq ae]
  by_cases e:(x:Int)=gi p.at_ v
  ·rw [aR ae,aR ⟨q,e⟩]
  ·rw [aQ ae,aQ (fun w=>e w.2)]
 ·rename_i q
  exact ⟨rfl,rfl,fun x=>by rw [aQ (fun w=>q w.1)]⟩
structure Qr (i g G:Nat) (U:Int->Int) (k:Nat) (h:List Int) (p:Pk) (R P:List Rw) (val:Int->Rw):Prop where
 rl:R.length=g
 pl:P.length=G
 eq:∀r:Int,0<=r->r<g->eQ R r=val (gi h r)
 al:p.at_.length=i+1+k
 lv:∀v:Int,0<=v->v<i+1+k->(k:Int)<=U v->0<=gi p.at_ v/\gi p.at_ v<p.free.length/\gf p.free (gi p.at_ v).toNat=false/\eQ P (gi p.at_ v)=val v
 inj:∀v w:Int,0<=v->v<i+1+k->(k:Int)<=U v->0<=w->w<i+1+k->(k:Int)<=U w->gi p.at_ v=gi p.at_ w->v=w
 occ:∀x:Nat,x<p.free.length->gf p.free x=false->∃v:Int,0<=v/\v<i+1+k/\(k:Int)<=U v/\gi p.at_ v=x
 fl:p.free.length<=g
theorem Nd {i g G:Nat} {es:List IE} {os:List Int} {u:List Int} {k:Nat} {e:IE} {q:Int×Int} {p:Pk} {R R' P:List Rw} {val:Int->Rw} (iI:∀e∈es,cN e g) (ho:∀r∈os,0<=r/\r<g) (hU:Qp i g es os (gi u)) (he:es[k]?=some e) (hq:(iY i (bu i g) 0 es)[k]?=some q)
  (IA:((k+1:Nat):Int)<=gi u ((i+1+k:Nat):Int)) (h:Qr i g G (gi u) k (l9 i (bu i g) 0 (es.take k)) p R P val) (hs:mg R e=some R') (hG:(np u k p e q).1.free.length<=G):
  ∃P' pJ,mg P (np u k p e q).2=some P'/\Qr i g G (gi u) (k+1) (l9 i (bu i g) 0 (es.take (k+1))) (np u k p e q).1 R' P' pJ/\cN (np u k p e q).2 G:=by
 have YC:=(bU.1 he).1
 have hb:=rq iI k q hq
 have ha:=hU.a k q hq
 have hM:=iI e (aB he)
 rw [rp i es _ 0 k e he] at hq
 have hq:=dw hq
 obtain ⟨z,hz,rfl⟩:=FR hs
 obtain ⟨v1,v2,v3,v4⟩:=h.lv q.1 hb.1.1 hb.1.2 ha.1
 obtain ⟨w1,w2,w3,w4⟩:=h.lv q.2 hb.2.1 hb.2.2 ha.2
 obtain ⟨f1,f2,f3⟩:=KW v1 v2
 obtain ⟨g1,g2,g3⟩:=KW (p:=ew u k p q.1) (v:=q.2) (by rw [f1]; exact w1) (by rw [f1,f2]; exact w2)
 rw [f1] at g1 g3
 rw [f2] at g2
 obtain ⟨rn,r1,r2,r3,r4,r5,r6,r7⟩:=xX (ew u k (ew u k p q.1) q.2)
 rw [g1] at r4
 rw [g2] at r2 r6 r7
 have BU:∀x:Nat,gf (ew u k (ew u k p q.1) q.2).free x=if (gi u q.2=(k:Nat)/\(x:Int)=gi p.at_ q.2)∨(gi u q.1=(k:Nat)/\(x:Int)=gi p.at_ q.1) then true else gf p.free x:=fun x=>by
  rw [g3,f3]
  by_cases c1:gi u q.2=(k:Nat)/\(x:Int)=gi p.at_ q.2
  ·rw [aR c1,aR (.inl c1)]
  ·rw [aQ c1]
   by_cases c2:gi u q.1=(k:Nat)/\(x:Int)=gi p.at_ q.1
   ·rw [aR c2,aR (.inr c2)]
   ·rw [aQ c2,aQ (by rintro (c | c); exact c1 c; exact c2 c)]
 unfold np at hG ⊢
 dsimp only at hG ⊢
 rw [r1]
 generalize (fq (ew u k (ew u k p q.1) q.2)).2=p3 at r4 r5 r6 hG ⊢
 generalize On:(ew u k (ew u k p q.1) q.2).free=f2 at BU r3 r5 r7
 have KY:=h.al
 have hold:∀v:Int,0<=v->v<i+1+k->gi p3.at_ v=gi p.at_ v:=fun v h0 h1=>by rw [r4,aaO h0 ae]
 have hnw:gi p3.at_ ((i+1+k:Nat):Int)=(rn:Nat):=by rw [r4,<- KY,zG]
 -- what is live behind it stands in a register that was not given
 have Qt:∀v:Int,0<=v->v<i+1+k->((k+1:Nat):Int)<=gi u v->gf f2 (gi p.at_ v).toNat=false/\gi p.at_ v≠(rn:Nat):=fun v h0 h1 h2=>by
  obtain ⟨x1,x2,x3,x4⟩:=h.lv v h0 h1 ae
  have hx:gf f2 (gi p.at_ v).toNat=false:=by
   rw [BU,aQ,x3]
   rintro (⟨c1,c2⟩ | ⟨c1,c2⟩)
   ·have:=h.inj v q.2 h0 h1 ae hb.2.1 hb.2.2 ha.2 ae
    rw [this] at h2; omega
   ·have:=h.inj v q.1 h0 h1 ae hb.1.1 hb.1.2 ha.1 ae
    rw [this] at h2; omega
  refine ⟨hx,fun e=>?_⟩
  rw [e,mJ,r3] at hx
  cases hx
 have afZ:∀x:Nat,x<p3.free.length->gf p3.free x=false->∃v:Int,0<=v/\v<((i+1+(k+1):Nat):Int)/\((k+1:Nat):Int)<=gi u v/\gi p3.at_ v=x:=fun x hx hf=>by
  rw [r5] at hf
  by_cases c:x=rn
  ·exact ⟨((i+1+k:Nat):Int),by omega,by omega,IA,by rw [hnw,c]⟩
  ·rw [aQ c,BU] at hf
   split at hf
   ·cases hf
   ·rename_i hn
    obtain ⟨v,v0,v1',v2',v3'⟩:=h.occ x ae hf
    refine ⟨v,v0,by omega,?_,by rw [hold v v0 v1',v3']⟩
    rcases Int.lt_or_eq_of_le v2' with c2 | c2
    ·omega
    ·obtain ⟨q',e1,e2⟩:=hU.b v k v0 ae c2.symm YC
     rw [rp i es _ 0 k e he,hq] at e1
     cases e1
     exfalso
     apply hn
     rcases e2 with rfl | rfl
     ·exact .inr ⟨c2.symm,v3'.symm⟩
     ·exact .inl ⟨c2.symm,v3'.symm⟩
 obtain ⟨op,t,a,b,c⟩:=e
 have VC:=hM
 unfold cN at hM
 dsimp only at hM hz hq ⊢
 have Ua:gi (l9 i (bu i g) 0 (es.take (k+1))) t=((i+1+k:Nat):Int):=by
  rw [jZ he]; dsimp only; rw [jr ae (by rw [pN,gK]; omega)]
 have af0:∀r:Int,0<=r->r≠t->gi (l9 i (bu i g) 0 (es.take (k+1))) r=gi (l9 i (bu i g) 0 (es.take k)) r:=fun r h0 sQ=>by
  rw [jZ he]; dsimp only; rw [ll ae h0 (qm sQ)]
 have hrn:rn<G:=ae
 refine ⟨P.set rn z,Ib val ((i+1+k:Nat):Int) z,?_,⟨by rw [cH]; exact h.rl,by rw [cH]; exact h.pl,fun r h0 h1=>?_,by rw [r4,aP,KY]; rfl,fun v h0 h1 h2=>?_,fun v w YU Ol Yo hw0 hw1 hw2 e=>?_,afZ,?_⟩,?_⟩
 ·unfold mg
  dsimp only
  have e1:eQ R a=val q.1:=by rw [h.eq a ae ae,<- hq]
  rw [v4,<- e1]
  by_cases w:op=3∨op=4
  ·have e2:eQ R b=val q.2:=by rw [h.eq b ae ae,<- hq]; dsimp only; rw [aR w]
   rw [aR w,w4,<- e2,hz]; rfl
  ·rw [aQ w,rV (y':=eQ R b) w,hz]; rfl
 ·by_cases c:r=t
  ·rw [c,Ua,jq h.rl ae ae,Ib,aR rfl]
  ·have cD:=uN (i:=i) iI (gK i g) (fun r h0 h1=>by rw [nr h0 h1]; omega) k ae r h0 h1
   rw [af0 r h0 c,lk ae h0 (qm c),vW ae]
   exact h.eq r h0 h1
 ·by_cases c:v=((i+1+k:Nat):Int)
  ·rw [c,hnw]
   refine ⟨by omega,by omega,by rw [r5,aR ae],?_⟩
   rw [Ib,aR rfl]
   exact jq (k:=((rn:Nat):Int)) h.pl ae ae
  ·have hv:v<i+1+k:=ae
   obtain ⟨x1,x2,x3,x4⟩:=h.lv v h0 hv ae
   obtain ⟨y1,y2⟩:=Qt v h0 hv h2
   rw [hold v h0 hv]
   refine ⟨x1,by omega,by rw [r5,aQ ae]; exact y1,?_⟩
   rw [show rn=((rn:Nat):Int).toNat from rfl,lk ae x1 (qm y2),vW ae]
   exact x4
 ·by_cases c1:v=((i+1+k:Nat):Int)
  ·by_cases c2:w=((i+1+k:Nat):Int)
   ·omega
   ·have hw:w<i+1+k:=ae
    rw [c1,hnw,hold w hw0 hw] at e
    exact absurd e.symm (Qt w hw0 hw hw2).2
  ·have hv:v<i+1+k:=ae
   by_cases c2:w=((i+1+k:Nat):Int)
   ·rw [c2,hnw,hold v YU hv] at e
    exact absurd e (Qt v YU hv Yo).2
   ·have hw:w<i+1+k:=ae
    rw [hold v YU hv,hold w hw0 hw] at e
    exact h.inj v w YU hv ae hw0 hw ae e
 ·have T8:=h.fl
  rcases dr rn p.free.length with c | c
  ·omega
  ·have n8:=r7 ae
   have hx:∀x,x<p3.free.length->∃r:Nat,r<g/\gi p3.at_ (gi (l9 i (bu i g) 0 (es.take (k+1))) (r:Nat))=(x:Nat):=fun x hx=>by
    have hfx:gf p3.free x=false:=by
     rw [r5]
     split
     ·rfl
     ·exact n8 x ae
    obtain ⟨v,a1,a2,a3,a4⟩:=afZ x hx hfx
    obtain ⟨r,b1,b2,b3⟩:=Cm iI ho hU (k:=k+1) ae a1 ae a3
    exact ⟨r.toNat,by omega,by rw [Int.toNat_of_nonneg b1,b3,a4]⟩
   refine php g p3.free.length (fun x=>if PJ:x<p3.free.length then Classical.choose (hx x PJ) else 0) (fun x PJ=>?_) (fun x y PJ hy' e=>?_)
   ·rw [dif_pos PJ]; exact (Classical.choose_spec (hx x PJ)).1
   ·rw [dif_pos PJ,dif_pos hy'] at e
    have e1:=(Classical.choose_spec (hx x PJ)).2
    have e2:=(Classical.choose_spec (hx y hy')).2
    rw [e,e2] at e1
    omega
 ·unfold cN
  dsimp only
  by_cases w:op=3∨op=4
  ·rw [aR w]; omega
  ·rw [aQ w]; omega
theorem FT (u:List Int) (k:Nat) (p:Pk) (e:IE) (q:Int×Int):p.free.length<=(np u k p e q).1.free.length:=by
 obtain ⟨rn,_,_,_,_,_,r6,_⟩:=xX (ew u k (ew u k p q.1) q.2)
 have hl:∀(p:Pk) (v:Int),(ew u k p v).free.length=p.free.length:=fun p v=>by unfold ew; split<;>simp
 unfold np
 dsimp only
 rw [r6,hl,hl]
 omega
theorem tI (u:List Int):∀(es:List IE) (qs:List (Int×Int)) (k:Nat) (p:Pk),p.free.length<=(iZ u k p es qs).1.free.length
 | [],_,_,_=>by unfold iZ; exact aY _
 | _::_,[],_,_=>by unfold iZ; exact aY _
 | e::es,q::qs,k,p=>by
  unfold iZ
  exact bq (FT u k p e q) (tI u es qs _ _)
theorem FW {i g G:Nat} {es:List IE} {os:List Int} {u:List Int} (iI:∀e∈es,cN e g) (ho:∀r∈os,0<=r/\r<g) (hU:Qp i g es os (gi u)) (rR:∀k e,es[k]?=some e->(gG os (es.drop (k+1))).2 e.2.1=true):
  ∀(m k:Nat) {p:Pk} {R R' P:List Rw} {val:Int->Rw},m+k=es.length->Qr i g G (gi u) k (l9 i (bu i g) 0 (es.take k)) p R P val->kX R (es.drop k)=some R'->(iZ u k p (es.drop k) ((iY i (bu i g) 0 es).drop k)).1.free.length<=G->
   ∃P' pJ,kX P (iZ u k p (es.drop k) ((iY i (bu i g) 0 es).drop k)).2=some P'/\Qr i g G (gi u) es.length (l9 i (bu i g) 0 es) (iZ u k p (es.drop k) ((iY i (bu i g) 0 es).drop k)).1 R' P' pJ/\(∀f∈(iZ u k p (es.drop k) ((iY i (bu i g) 0 es).drop k)).2,cN f G)/\(iZ u k p (es.drop k) ((iY i (bu i g) 0 es).drop k)).2.length=m
 | 0,k,p,R,R',P,val,hk,h,hx,hG=>by
  have hd:es.drop k=[]:=dM ae
  rw [hd] at hx hG ⊢
  cases hx
  obtain rfl:k=es.length:=ae
  rw [List.take_length] at h
  unfold iZ
  exact ⟨P,val,rfl,h,fun f hf=>by simp at hf,rfl⟩
 | m+1,k,p,R,R',P,val,hk,h,hx,hG=>by
  have he:es[k]?=some es[k]:=aw ae
  generalize es[k]=e at he
  have hq:=rp i es (bu i g) 0 k e he
  generalize (gi (l9 i (bu i g) 0 (List.take k es)) e.2.2.1,if e.1=3∨e.1=4 then gi (l9 i (bu i g) 0 (List.take k es)) e.2.2.2.1 else gi (l9 i (bu i g) 0 (List.take k es)) e.2.2.1)=q at hq
  have hM:=iI e (aB he)
  rw [kM he] at hx hG ⊢
  rw [kM hq] at hG ⊢
  rw [iZ] at hG ⊢
  dsimp only at hG ⊢
  rw [gQ] at hx
  cases hs:mg R e with
  | none=>rw [hs] at hx; cases hx
  | some Q=>
   rw [hs] at hx
   have Ua:0<=e.2.1/\e.2.1<g:=by obtain ⟨op,t,a,b,c⟩:=e; unfold cN at hM; dsimp only at hM ⊢; omega
   have IA:=wU iI hU m (k+1) ae e.2.1 Ua.1 Ua.2 (rR k e he)
   rw [jZ he,jr Ua.1 (by rw [pN,gK]; omega)] at IA
   obtain ⟨P1,asK,s1,s2,s3⟩:=Nd iI ho hU he hq IA h hs (bq (tI u _ _ _ _) hG)
   obtain ⟨P',pJ,t1,t2,t3,t4⟩:=FW iI ho hU rR m (k+1) ae s2 hx hG
   refine ⟨P',pJ,by rw [gQ,s1]; exact t1,t2,fun f hf=>?_,by rw [dy,t4]⟩
   rcases dW.1 hf with rfl | hf
   ·exact s3
   ·exact t3 f hf
theorem uP (i:Nat) (u:List Int):(sC i u).free.length=if 0<=gi u i then i+1 else i:=by
 unfold sC
 dsimp only
 split<;>simp
theorem FX {i g n:Nat} {G:List Rw} {es:List IE} {os:List Int} {R':List Rw} (hi:G.length=i) (hg:i<=g) (iI:∀e∈es,cN e g) (ho:∀r∈os,0<=r/\r<g) (rR:(gG os es).1=List.replicate es.length true) (h:kX (ie g n G) es=some R'):
  ∃P',kX (ie (nQ i g es os) n G) (zE i g es os)=some P'/\(mi i g es os).map (eQ P')=os.map (eQ R')/\(∀f∈zE i g es os,cN f (nQ i g es os))/\(∀r∈mi i g es os,0<=r/\r<nQ i g es os)/\i<=nQ i g es os/\nQ i g es os<=g/\(zE i g es os).length=es.length:=by
 obtain ⟨hU,hul⟩:=YT (i:=i) (os:=os) iI ho
 have ak7:∀k e,es[k]?=some e->(gG os (es.drop (k+1))).2 e.2.1=true:=fun k e he=>by
  have h1:(gG os es).1[k]?=some ((gG os (es.drop (k+1))).2 e.2.1):=afX he
  rw [rR,iN,aR (bU.1 he).1] at h1
  exact (dw h1).symm
 have hm:=tI (fC i g es os) es (iY i (bu i g) 0 es) 0 (sC i (fC i g es os))
 have H9:=uP i (fC i g es os)
 have hGi:(sC i (fC i g es os)).free.length<=nQ i g es os:=hm
 have hiG:i<=nQ i g es os:=by rw [H9] at hGi; split at hGi<;>omega
 have Kr:∀v:Int,0<=v->v<i->gi (sC i (fC i g es os)).at_ v=v:=fun v h0 h1=>by
  unfold gi sC
  dsimp only
  rw [aF,jg (by simp; omega),bo,fQ ae]
  simp; omega
 have aaQ:gi (sC i (fC i g es os)).at_ (i:Nat)=if 0<=gi (fC i g es os) i then (i:Int) else 0:=by
  have hh:=zG (l:=(List.range i).map (fun v=>((v:Nat):Int))) (w:=if 0<=gi (fC i g es os) i then (i:Int) else 0)
  rw [aZ,mK] at hh
  exact hh
 have Og:∀x:Nat,x<i->gf (sC i (fC i g es os)).free x=decide (gi (fC i g es os) (x:Nat)<0):=fun x hx=>by
  unfold gf sC
  dsimp only
  rw [aF,jg (by simp; omega),bo,fQ hx]
  rfl
 have ak8:0<=gi (fC i g es os) i->gf (sC i (fC i g es os)).free i=false:=fun hp=>by
  unfold gf sC
  dsimp only
  rw [aR hp,aF,j8 cT,aZ,mK,mR]
  rfl
 have h0:Qr i g (nQ i g es os) (gi (fC i g es os)) 0 (l9 i (bu i g) 0 (es.take 0)) (sC i (fC i g es os)) (ie g n G) (ie (nQ i g es os) n G) fun v=>if v<i then G.getD v.toNat [] else List.replicate n 0:=by
  refine ⟨iX ae,iX ae,fun r r0 r1=>?_,by unfold sC; simp,fun v v0 v1 v2=>?_,fun v w v0 v1 v2 w0 w1 w2 e=>?_,fun x hx hf=>?_,?_⟩
  ·show _=(fun v:Int=>if v<i then G.getD v.toNat [] else List.replicate n 0) (gi (bu i g) r)
   rw [zC ae r0 r1,nr r0 r1,hi]
   dsimp only
   by_cases p:r<i
   ·rw [aR p,aR ae]; congr 1; omega
   ·rw [aQ p,aQ ae]
  ·by_cases p:v<i
   ·rw [Kr v v0 p]
    refine ⟨v0,by rw [H9]; split<;>omega,?_,?_⟩
    ·rw [Og v.toNat ae,Int.toNat_of_nonneg v0]
     exact bR ae
    ·rw [zC ae v0 ae,hi]
   ·obtain rfl:v=(i:Nat):=ae
    have hp:(0:Int)<=gi (fC i g es os) i:=v2
    rw [aaQ,aR hp]
    rw [aR hp] at H9
    refine ⟨by omega,by omega,ak8 hp,?_⟩
    rw [zC ae ae ae,hi,aQ ae]
  ·have one:∀v:Int,0<=v->v<((i+1+0:Nat):Int)->((0:Nat):Int)<=gi (fC i g es os) v->gi (sC i (fC i g es os)).at_ v=v:=fun v v0 v1 v2=>by
    by_cases p:v<i
    ·exact Kr v v0 p
    ·obtain rfl:v=(i:Nat):=ae
     have hp:(0:Int)<=gi (fC i g es os) i:=v2
     rw [aaQ,aR hp]
   rw [one v v0 v1 v2,one w w0 w1 w2] at e
   exact e
  ·by_cases p:x<i
   ·rw [Og x p] at hf
    have:=fT hf
    exact ⟨(x:Nat),by omega,by omega,by omega,Kr _ ae ae⟩
   ·rw [H9] at hx
    split at hx
    ·rename_i hp
     obtain rfl:x=i:=ae
     exact ⟨(x:Nat),by omega,by omega,hp,by rw [aaQ,aR hp]⟩
    ·omega
  ·rw [H9]
   split
   ·rename_i hp
    obtain ⟨r,r0,r1,r2⟩:=Cm iI ho hU (k:=0) (bm _) (v:=(i:Nat)) ae ae hp
    rw [show l9 i (bu i g) 0 (es.take 0)=bu i g from rfl,nr r0 r1] at r2
    omega
   ·exact hg
 obtain ⟨P',pJ,t1,t2,t3,t4⟩:=FW (G:=nQ i g es os) iI ho hU ak7 es.length 0 (j7 _) h0 h (aY _)
 have y7:∀v∈iD i g es os,0<=v/\v<i+1+es.length/\(es.length:Int)<=gi (fC i g es os) v:=fun v hv=>by
  have h2:=hU.c v hv
  obtain ⟨r,hr,rfl⟩:=ff.1 hv
  have:=uN (i:=i) iI (gK i g) (fun r h0 h1=>by rw [nr h0 h1]; omega) es.length (aY _) r (ho r hr).1 (ho r hr).2
  rw [List.take_length] at this
  omega
 refine ⟨P',t1,?_,t3,fun r hr=>?_,hiG,t2.fl,t4⟩
 ·unfold mi iD
  rw [ox,ox]
  refine jh fun r hr=>?_
  have hv:gi (l9 i (bu i g) 0 es) r∈iD i g es os:=ff.2 ⟨r,hr,rfl⟩
  obtain ⟨a1,a2,a3⟩:=y7 _ hv
  show eQ P' (gi (Ck i g es os).1.at_ (gi (l9 i (bu i g) 0 es) r))=eQ R' r
  rw [t2.eq r (ho r hr).1 (ho r hr).2]
  exact (t2.lv _ a1 ae a3).2.2.2
 ·obtain ⟨v,hv,rfl⟩:=ff.1 hr
  obtain ⟨a1,a2,a3⟩:=y7 v hv
  have:=t2.lv v a1 ae a3
  exact ⟨this.1,this.2.1⟩
def DC (i g:Nat) (p:List IE×List Int):List IE×List Int:=
 let e1:=kK p.1
 (mh (kL i g e1 p.2) (l8 i g e1),kL i g e1 p.2)
def gH (i g:Nat):Nat->List IE×List Int->List IE×List Int
 | 0,p=>p
 | n+1,p=>if DC i g p=p then DC i g p else gH i g n (DC i g p)
def ig (i g:Nat) (es:List IE) (os:List Int):List IE:=zE i g (gH i g 16 (es,os)).1 (gH i g 16 (es,os)).2
def ns (i g:Nat) (es:List IE) (os:List Int):List Int:=mi i g (gH i g 16 (es,os)).1 (gH i g 16 (es,os)).2
def nt (i g:Nat) (es:List IE) (os:List Int):Nat:=nQ i g (gH i g 16 (es,os)).1 (gH i g 16 (es,os)).2
theorem KZ (os:List Int):∀es:List IE,(gG os (mh os es)).1=List.replicate (mh os es).length true/\(gG os (mh os es)).2=(gG os es).2
 | []=>⟨rfl,rfl⟩
 | e::l=>by
  obtain ⟨a,b⟩:=KZ os l
  rw [pM]
  by_cases h:(gG os l).2 e.2.1=true
  ·by_cases hn:nm e=true
   ·rw [h,hn,aQ ai]
    refine ⟨a,b.trans ?_⟩
    rw [gG,aR h]
    obtain ⟨op,t,x,y,c⟩:=e
    have hq:=bX hn
    dsimp only at hq h ⊢
    obtain ⟨rfl,rfl⟩:=hq
    funext r
    unfold Br cP
    dsimp only
    rw [aQ ai,aR ai]
    by_cases q:r=t
    ·subst q; rw [h]; simp
    ·simp [q]
   ·rw [h,vD.2 hn,aR ai,gG,b,aR h,a,gG,aR h]
    exact ⟨by rw [dy,qN],rfl⟩
  ·rw [vD.2 h,Bool.false_and,aQ ai,gG,aQ h]
   exact ⟨a,b⟩
structure lp (i g n:Nat) (G:List Rw) (es:List IE) (os:List Int) (O:List Rw):Prop where
 may:∀e∈es,cN e g
 out:∀r∈os,0<=r/\r<g
 run:∃R',kX (ie g n G) es=some R'/\os.map (eQ R')=O
theorem IG {i g n:Nat} {G:List Rw} {p:List IE×List Int} {O:List Rw} (hi:G.length=i) (hg:i<=g) (h:lp i g n G p.1 p.2 O):lp i g n G (DC i g p).1 (DC i g p).2 O/\(DC i g p).1.length<=p.1.length/\(DC i g p).2.length=p.2.length/\(gG (DC i g p).2 (DC i g p).1).1=List.replicate (DC i g p).1.length true:=by
 obtain ⟨R',h1,h2⟩:=h.run
 have f1:=FB h.may (iX ae) h1
 have f2:=Cf h.may
 have f3:=Cg p.1
 obtain ⟨s1,s2,s3,s4⟩:=Ci hi hg f2 f1
 have so:∀r∈kL i g (kK p.1) p.2,0<=r/\r<g:=fun r hr=>by
  obtain ⟨v,hv,rfl⟩:=ff.1 hr
  have:=s4 v (h.out v hv).1 (h.out v hv).2
  exact ⟨this.2.1,this.2.2⟩
 obtain ⟨S',d1,d2⟩:=Qn s2 (iX ae) (fun r hr=>(so r hr).1) s1
 refine ⟨⟨fun e he=>s2 e (oH _ _ e he),so,S',d1,?_⟩,bq (vX _ _) (bq s3 f3),by unfold DC kL; simp,(KZ _ _).1⟩
 rw [<- h2]
 show (kL i g (kK p.1) p.2).map _=_
 rw [jh d2]
 unfold kL
 rw [ox]
 exact jh fun r hr=>(s4 r (h.out r hr).1 (h.out r hr).2).1
theorem xY {i g n:Nat} {G:List Rw} {O:List Rw} (hi:G.length=i) (hg:i<=g):∀(k:Nat) (p:List IE×List Int),lp i g n G p.1 p.2 O->lp i g n G (gH i g (k+1) p).1 (gH i g (k+1) p).2 O/\(gH i g (k+1) p).1.length<=p.1.length/\(gH i g (k+1) p).2.length=p.2.length/\(gG (gH i g (k+1) p).2 (gH i g (k+1) p).1).1=List.replicate (gH i g (k+1) p).1.length true
 | 0,p,h=>by
  have:=IG hi hg h
  unfold gH
  split
  ·exact this
  ·exact this
 | k+1,p,h=>by
  obtain ⟨a,b,c,d⟩:=IG hi hg h
  rw [gH]
  split
  ·exact ⟨a,b,c,d⟩
  ·obtain ⟨a',b',c',d'⟩:=xY hi hg k (DC i g p) a
   exact ⟨a',bq b' b,c'.trans c,d'⟩
theorem zH {i g n:Nat} {G:List Rw} {es:List IE} {os:List Int} {O:List Rw} (hi:G.length=i) (hg:i<=g) (h:lp i g n G es os O):
  lp i (nt i g es os) n G (ig i g es os) (ns i g es os) O/\(ig i g es os).length<=es.length/\(ns i g es os).length=os.length/\i<=nt i g es os/\nt i g es os<=g:=by
 obtain ⟨a,b,c,d⟩:=xY hi hg 15 (es,os) h
 obtain ⟨R',h1,h2⟩:=a.run
 obtain ⟨P',p1,p2,p3,p4,p5,p6,p7⟩:=FX hi hg a.may a.out d h1
 exact ⟨⟨p3,p4,P',p1,p2.trans h2⟩,by unfold ig; rw [p7]; exact b,by unfold ns mi iD; rw [aZ,aZ]; exact c,p5,p6⟩
def rf (n:Nat) (f:Nat->Int):Rw:=(List.range n).map f
theorem pO (n:Nat) (f:Nat->Int):(rf n f).length=n:=by unfold rf; simp
theorem zI {n:Nat} {f f':Nat->Int} (h:∀t,t<n->f t=f' t):rf n f=rf n f':=jh fun t ht=>h t (nZ.1 ht)
abbrev Fr:=Int->Nat->Int
def jO (F:Fr) (k:Int) (f:Nat->Int):Fr:=fun r=>if r=k then f else F r
theorem bZ (F:Fr) (k:Int) (f:Nat->Int):jO F k f k=f:=aR rfl
theorem b8 {F:Fr} {k r:Int} {f:Nat->Int} (h:r≠k):jO F k f r=F r:=aQ h
def RF (g n:Nat) (R:List Rw) (F:Fr):Prop:=R.length=g/\∀r:Int,0<=r->r<g->eQ R r=rf n (F r)
def Rn (g n:Nat) (F:Fr) (es:List IE) (F':Fr):Prop:=∀R,RF g n R F->∃R',kX R es=some R'/\RF g n R' F'
theorem Rn.nil {g n:Nat} {F:Fr}:Rn g n F [] F:=fun R h=>⟨R,rfl,h⟩
theorem Rn.app {g n:Nat} {F F1 F2:Fr} {es fs:List IE} (h1:Rn g n F es F1) (h2:Rn g n F1 fs F2):Rn g n F (es++fs) F2:=fun R h=>by
 obtain ⟨R1,a,b⟩:=h1 R h
 obtain ⟨R2,c,d⟩:=h2 R1 b
 exact ⟨R2,Dv a c,d⟩
theorem Rn.cons {g n:Nat} {F F1 F2:Fr} {e:IE} {fs:List IE} (h1:Rn g n F [e] F1) (h2:Rn g n F1 fs F2):Rn g n F (e::fs) F2:=Rn.app h1 h2
theorem RF.congr {g n:Nat} {R:List Rw} {F F':Fr} (h:RF g n R F) (e:∀r:Int,0<=r->r<g->∀t,t<n->F r t=F' r t):RF g n R F':=⟨h.1,fun r a b=>(h.2 r a b).trans (zI (e r a b))⟩
theorem Rn.post {g n:Nat} {F F1 F2:Fr} {es:List IE} (h:Rn g n F es F1) (e:∀r:Int,0<=r->r<g->∀t,t<n->F1 r t=F2 r t):Rn g n F es F2:=fun R hR=>by
 obtain ⟨R1,a,b⟩:=h R hR
 exact ⟨R1,a,b.congr e⟩
theorem Rn.pre {g n:Nat} {F F0 F1:Fr} {es:List IE} (h:Rn g n F es F1) (e:∀r:Int,0<=r->r<g->∀t,t<n->F0 r t=F r t):Rn g n F0 es F1:=fun R hR=>h R (hR.congr e)
theorem RF.set {g n:Nat} {R:List Rw} {F:Fr} {k:Int} {f:Nat->Int} (h:RF g n R F) (h0:0<=k) (h1:k<g):RF g n (R.set k.toNat (rf n f)) (jO F k f):=⟨by rw [cH]; exact h.1,fun r a b=>by
 by_cases q:r=k
 ·rw [q,jq h.1 h0 h1,bZ]
 ·rw [lk h0 a (qm q),b8 q]; exact h.2 r a b⟩
theorem Qu {g n:Nat} {F:Fr} {op t a b c:Int} {f:Nat->Int} (h0:0<=t) (h1:t<g) (h:∀x y,x=rf n (F a)->((op=3∨op=4)->y=rf n (F b))->lD op c x y=some (rf n f)) (ha:0<=a/\a<g) (hb:(op=3∨op=4)->0<=b/\b<g):Rn g n F [(op,t,a,b,c)] (jO F t f):=fun R hR=>by
 refine ⟨R.set t.toNat (rf n f),uL ?_,hR.set h0 h1⟩
 unfold mg
 dsimp only
 rw [h _ _ (hR.2 a ha.1 ha.2) fun q=>hR.2 b (hb q).1 (hb q).2]
 rfl
theorem aaR (n:Nat) (f:Nat->Int) (k:Int->Int):(rf n f).map k=rf n fun t=>k (f t):=by unfold rf; rw [ox]; rfl
section
variable {g n:Nat} {F:Fr} {t a b c:Int}
theorem zJ {op:Int} (ZQ:¬(op=3∨op=4)) (ht:0<=t/\t<g) (ha:0<=a/\a<g) (bH:∀j,j<n->T9 op c (F a j)):Rn g n F [(op,t,a,b,c)] (jO F t fun j=>oS op c (F a j)):=
 Qu ht.1 ht.2 (fun x y hx _=>(oh ZQ).2 ⟨fun v hv=>by
  rw [hx] at hv
  obtain ⟨j,hj,rfl⟩:=ff.1 hv
  exact bH j (nZ.1 hj),by rw [hx,aaR]⟩) ha fun q=>absurd q ZQ
theorem Qv (ht:0<=t/\t<g) (ha:0<=a/\a<g):Rn g n F [(1,t,a,b,c)] (jO F t (F a)):=zJ ai ht ha fun _ _=>eR _ _ ai ai
theorem Qw (ht:0<=t/\t<g) (ha:0<=a/\a<g):Rn g n F [(2,t,a,b,c)] (jO F t fun j=>-F a j):=zJ ai ht ha fun _ _=>eR _ _ ai ai
theorem YV (ht:0<=t/\t<g) (ha:0<=a/\a<g):Rn g n F [(5,t,a,b,c)] (jO F t fun j=>F a j*c):=zJ ai ht ha fun _ _=>eR _ _ ai ai
theorem af1 (ht:0<=t/\t<g) (ha:0<=a/\a<g) (h:∀j,j<n->F a j%c=0):Rn g n F [(6,t,a,b,c)] (jO F t fun j=>F a j / c):=zJ ai ht ha fun j hj=>Qf (h j hj)
theorem af2 (ht:0<=t/\t<g) (ha:0<=a/\a<g):Rn g n F [(7,t,a,b,c)] (jO F t fun j=>F a j*2 ^ c.toNat):=zJ ai ht ha fun _ _=>eR _ _ ai ai
theorem K0 (ht:0<=t/\t<g) (ha:0<=a/\a<g) (hb:0<=b/\b<g):Rn g n F [(3,t,a,b,c)] (jO F t fun j=>F a j+F b j):=
 Qu ht.1 ht.2 (fun x y hx hy=>by
  rw [hx,hy (.inl rfl)]
  unfold lD
  rw [aQ ai,aR rfl]
  unfold rf
  rw [List.zipWith_map,List.zipWith_self]) ha fun _=>hb
theorem FY (ht:0<=t/\t<g) (ha:0<=a/\a<g) (hb:0<=b/\b<g):Rn g n F [(4,t,a,b,c)] (jO F t fun j=>F a j - F b j):=
 Qu ht.1 ht.2 (fun x y hx hy=>by
  rw [hx,hy (.inr rfl)]
  unfold lD
  rw [aQ ai,aQ ai,aR rfl]
  unfold rf
  rw [List.zipWith_map,List.zipWith_self]) ha fun _=>hb
end
def oI (to_ a c:Int):IE:=if c=1 then (1,to_,a,0,0) else if c=-1 then (2,to_,a,0,0) else match p2 c with
 | some m=>(7,to_,a,0,(m:Nat))
 | none=>(5,to_,a,0,c)
def vp (e:IE):List IE:=if nm e then [] else [e]
def wV (to_:Int):Int->Int->Nat->List IE
 | _,_,0=>[]
 | a,c,n+1=>vp (oI to_ a c)++wV to_ to_ c n
theorem Qx {F:Fr} {t:Int}:jO F t (F t)=F:=by
 funext r
 unfold jO
 split
 ·rename_i e; rw [e]
 ·rfl
theorem Qy {g n:Nat} {F:Fr} {t a c:Int} (ht:0<=t/\t<g) (ha:0<=a/\a<g):Rn g n F [oI t a c] (jO F t fun j=>F a j*c):=by
 unfold oI
 split
 ·rename_i q; subst q
  exact (Qv ht ha).post fun r _ _ j _=>by congr 1; funext j; rw [qL]
 split
 ·rename_i q; subst q
  exact (Qw ht ha).post fun r _ _ j _=>by congr 1; funext j; rw [BI,qL]
 split
 ·rename_i m hm
  refine (af2 ht ha).post fun r _ _ j _=>?_
  rw [(pH hm).1]; rfl
 ·exact YV ht ha
theorem Qz {g n:Nat} {F F':Fr} {e:IE} (h:Rn g n F [e] F') (hn:nm e=true->0<=e.2.1/\e.2.1<g):Rn g n F (vp e) F':=by
 unfold vp
 split
 ·rename_i q
  have hq:=bX q
  obtain ⟨op,t,a,b,c⟩:=e
  dsimp only at hq hn
  obtain ⟨rfl,rfl⟩:=hq
  have ht:=hn q
  intro R hR
  obtain ⟨R',h1,h2⟩:=h R hR
  obtain ⟨R2,h3,h4⟩:=Qv ht ht R hR
  rw [h1] at h3
  cases h3
  refine ⟨R,rfl,hR.1,fun r a1 a2=>?_⟩
  rw [Qx] at h4
  rw [hR.2 r a1 a2,<- h4.2 r a1 a2]
  exact h2.2 r a1 a2
 ·exact h
theorem QA (t a c:Int):(oI t a c).2.1=t:=by unfold oI; split; rfl; split; rfl; split<;>rfl
theorem DD {g n:Nat} {t:Int} (ht:0<=t/\t<g):∀(m:Nat) {F:Fr} {a c:Int},0<=a/\a<g->(m=0->a=t)->Rn g n F (wV t a c m) (jO F t fun j=>F a j*c ^ m)
 | 0,F,a,c,ha,hm=>Rn.nil.post fun r _ _ j _=>by rw [hm rfl]; unfold jO; split<;>simp_all
 | m+1,F,a,c,ha,_=>by
  unfold wV
  refine Rn.app (Qz (Qy ht ha) fun _=>by rw [QA]; exact ht) ((DD ht m (a:=t) ht fun _=>rfl).post fun r _ _ j _=>?_)
  unfold jO
  split
  ·rw [aR rfl,sM,gn (c ^ m)]; exact fR ..
  ·rfl
theorem K1 {t a c:Int} {g:Int} (ht:0<=t/\t<g) (ha:0<=a/\a<g) (hc:c≠0/\-512<=c/\c<=512):cN (oI t a c) g:=by
 unfold oI
 split
 ·unfold cN; dsimp only; omega
 split
 ·unfold cN; dsimp only; omega
 split
 ·rename_i m hm
  have:=pH hm
  unfold cN; dsimp only; omega
 ·unfold cN; dsimp only; omega
theorem K2 {e:IE} {g:Int} (h:cN e g):∀f∈vp e,cN f g:=fun f hf=>by
 unfold vp at hf
 split at hf
 ·cases hf
 ·exact cC.1 hf ▸ h
theorem xZ (e:IE):(vp e).length<=1:=by unfold vp; split<;>simp
theorem x0 {t c:Int} {g:Int} (ht:0<=t/\t<g) (hc:c≠0/\-512<=c/\c<=512):∀(m:Nat) {a:Int},0<=a/\a<g->∀f∈wV t a c m,cN f g
 | 0,_,_,f,hf=>by cases hf
 | m+1,a,ha,f,hf=>by
  unfold wV at hf
  rcases b6.1 hf with q | q
  ·exact K2 (K1 ht ha hc) f q
  ·exact x0 ht hc m ht f q
theorem pP (t c:Int):∀(m:Nat) (a:Int),(wV t a c m).length<=m
 | 0,_=>aY _
 | m+1,a=>by
  unfold wV
  rw [aP]
  have:=xZ (oI t a c)
  have:=pP t c m t
  omega
def K3 (k:Nat) (to_ term A B from_:Int) (j:Nat):List IE:=
 vp (oI to_ from_ A)++(if B=1∨(B=-1/\(k - 1 - j)%2=0) then [(3,to_,to_,(j:Int),0)] else if B=-1 then [(4,to_,to_,(j:Int),0)] else wV term (j:Nat) B (k - 1 - j)++[(3,to_,to_,term,0)])
def Dl (k:Nat) (to_ term A B:Int):Int->Nat->List IE
 | _,0=>[]
 | from_,m+1=>K3 k to_ term A B from_ m++Dl k to_ term A B to_ m
def Bs (k:Nat) (term to_:Int) (q:Int×Int):List IE:=
 if k=1 then [] else if q.1=0/\q.2=0 then [(4,to_,0,0,0)] else if q.1=0 then wV to_ 0 q.2 (k - 1) else if q.2=0 then wV to_ ((k - 1:Nat):Int) q.1 (k - 1) else Dl k to_ term q.1 q.2 ((k - 1:Nat):Int) (k - 1)
def iw (k:Nat) (term:Int):Nat->List (Int×Int)->List IE
 | _,[]=>[]
 | i,q::l=>Bs k term ((k+i:Nat):Int) q++iw k term (i+1) l
def jd (k m:Nat):List Int:=if k=1 then List.replicate m 0 else (List.range m).map fun i=>((k+i:Nat):Int)
def ma (k:Nat) (q:Int×Int) (t:Nat):Int:=q.1 ^ t*q.2 ^ (k - 1 - t)
def Ba (m t:Nat):Int:=if t=m then 1 else 0
def VJ (k:Nat) (A B:Int) (m t:Nat):Int:=if m<=t then A ^ (t - m)*B ^ (k - 1 - t) else 0
theorem zK {k m t:Nat} {A B:Int} (_:t<k) (hm:m+1<k):VJ k A B (m+1) t*A+Ba m t*B ^ (k - 1 - m)=VJ k A B m t:=by
 unfold VJ Ba
 rcases Nat.lt_trichotomy t m with q | q | q
 ·rw [aQ ae,aQ ae,aQ ae]; simp
 ·subst q
  rw [aQ ae,aR rfl,aR (aY _),mR]; simp
 ·rw [aR ae,aQ ae,aR ae]
  have:t - m=(t - (m+1))+1:=ae
  rw [this,sM,jI,uj,Int.mul_right_comm]
theorem ru (n:Nat):(-1:Int) ^ n=if n%2=0 then 1 else -1:=by
 induction n with
 | zero=>rfl
 | succ n ih=>
  rw [sM,ih]
  rcases Nat.mod_two_eq_zero_or_one n with q | q
  ·rw [aR q,aQ ae]; rfl
  ·rw [aQ ae,aR ae]; rfl
def InF (k:Nat) (F:Fr):Prop:=∀m t:Nat,m<k->t<k->F ((m:Nat):Int) t=Ba m t
theorem aaS {g k m:Nat} {F:Fr} {to_ term A B from_:Int} (hk:m+1<k) (QB:k<=g) (ht:(k:Int)<=to_/\to_<g) (hq:(k:Int)<=term/\term<g/\term≠to_) (hf:0<=from_/\from_<g) (km:InF k F) (FZ:∀t,t<k->F from_ t=VJ k A B (m+1) t):
  ∃F',Rn g k F (K3 k to_ term A B from_ m) F'/\(∀t,t<k->F' to_ t=VJ k A B m t)/\∀r:Int,r≠to_->r≠term->F' r=F r:=by
 have h1:Rn g k F (vp (oI to_ from_ A)) (jO F to_ fun j=>F from_ j*A):=Qz (Qy ⟨by omega,ht.2⟩ hf) fun _=>by rw [QA]; omega
 unfold K3
 split
 ·rename_i q
  refine ⟨_,h1.app (K0 ⟨by omega,ht.2⟩ ⟨by omega,ht.2⟩ ⟨by omega,by omega⟩),fun t uH=>?_,fun r a1 a2=>by rw [b8 a1,b8 a1]⟩
  rw [bZ,bZ,b8 ae,FZ t uH,km m t ae uH,<- zK uH hk]
  rcases q with rfl | ⟨rfl,q⟩
  ·rw [Int.one_pow,qL]
  ·rw [ru,aR q,qL]
 split
 ·rename_i q1 q
  subst q
  refine ⟨_,h1.app (FY ⟨by omega,ht.2⟩ ⟨by omega,ht.2⟩ ⟨by omega,by omega⟩),fun t uH=>?_,fun r a1 a2=>by rw [b8 a1,b8 a1]⟩
  rw [bZ,bZ,b8 ae,FZ t uH,km m t ae uH,<- zK uH hk,ru,aQ ae]
  omega
 ·refine ⟨_,h1.app ((DD ⟨by omega,hq.2.1⟩ (k - 1 - m) ⟨by omega,by omega⟩ ae).app (K0 ⟨by omega,ht.2⟩ ⟨by omega,ht.2⟩ ⟨by omega,hq.2.1⟩)),fun t uH=>?_,fun r a1 a2=>by rw [b8 a1,b8 a2,b8 a1]⟩
  rw [bZ,bZ,b8 (qm hq.2.2),bZ,b8 ae,FZ t uH,km m t ae uH,<- zK uH hk]
theorem QC {g k:Nat} {to_ term A B:Int} (QB:k<=g) (ht:(k:Int)<=to_/\to_<g) (hq:(k:Int)<=term/\term<g/\term≠to_):∀(m:Nat) {F:Fr} {from_:Int},m+1<=k->0<=from_/\from_<g->(m=0->from_=to_)->InF k F->(∀t,t<k->F from_ t=VJ k A B m t)->
  ∃F',Rn g k F (Dl k to_ term A B from_ m) F'/\(∀t,t<k->F' to_ t=VJ k A B 0 t)/\∀r:Int,r≠to_->r≠term->F' r=F r
 | 0,F,from_,_,_,hz,_,FZ=>⟨F,Rn.nil,by rw [hz rfl] at FZ; exact FZ,fun _ _ _=>rfl⟩
 | m+1,F,from_,hm,hf,_,km,FZ=>by
  obtain ⟨F1,a1,a2,a3⟩:=aaS ae QB ht hq hf km FZ
  obtain ⟨F2,b1,b2,b3⟩:=QC QB ht hq m ae ⟨by omega,ht.2⟩ (fun _=>rfl) (fun m t hm ht'=>by rw [a3 _ ae ae]; exact km m t hm ht') a2
  exact ⟨F2,a1.app b1,b2,fun r h1 h2=>(b3 r h1 h2).trans (a3 r h1 h2)⟩
theorem aaT {g k:Nat} {F:Fr} {to_ term:Int} {q:Int×Int} (hk:2<=k) (QB:k<=g) (ht:(k:Int)<=to_/\to_<g) (hq:(k:Int)<=term/\term<g/\term≠to_) (km:InF k F):
  ∃F',Rn g k F (Bs k term to_ q) F'/\(∀t,t<k->F' to_ t=ma k q t)/\∀r:Int,r≠to_->r≠term->F' r=F r:=by
 obtain ⟨A,B⟩:=q
 have hz:∀n:Nat,0<n->(0:Int) ^ n=0:=fun n hn=>Int.zero_pow ae
 unfold Bs
 rw [aQ ae]
 dsimp only
 split
 ·rename_i c
  obtain ⟨rfl,rfl⟩:=c
  refine ⟨_,FY ⟨by omega,ht.2⟩ ⟨by omega,by omega⟩ ⟨by omega,by omega⟩,fun t uH=>?_,fun r a1 _=>b8 a1⟩
  rw [bZ,Int.sub_self]
  unfold ma
  rcases ed t with c | c
  ·subst c; rw [hz (k - 1 - 0) ae,mL]
  ·rw [hz t c,jI]
 split
 ·rename_i c
  subst c
  refine ⟨_,DD ⟨by omega,ht.2⟩ (k - 1) ⟨by omega,by omega⟩ ae,fun t uH=>?_,fun r a1 _=>b8 a1⟩
  rw [bZ,show F 0 t=_ from km 0 t ae uH]
  unfold ma Ba
  rcases ed t with c | c
  ·subst c; rw [aR rfl]; simp
  ·rw [aQ ae,hz t c,jI,jI]
 split
 ·rename_i c
  subst c
  refine ⟨_,DD ⟨by omega,ht.2⟩ (k - 1) ⟨by omega,by omega⟩ ae,fun t uH=>?_,fun r a1 _=>b8 a1⟩
  rw [bZ,km (k - 1) t ae uH]
  unfold ma Ba
  by_cases c:t=k - 1
  ·subst c; rw [aR rfl,mR]; simp
  ·rw [aQ c,hz (k - 1 - t) ae,jI,mL]
 ·obtain ⟨F',a1,a2,a3⟩:=QC QB ht hq (k - 1) (F:=F) (from_:=((k - 1:Nat):Int)) ae ⟨by omega,by omega⟩ ae km (fun t uH=>by
   rw [km (k - 1) t ae uH]
   unfold VJ Ba
   by_cases c:t=k - 1
   ·subst c; rw [aR rfl,aR (aY _),mR]; simp
   ·rw [aQ c,aQ ae])
  exact ⟨F',a1,fun t uH=>by rw [a2 t uH]; unfold VJ ma; rw [aR (bm _),Nat.sub_zero],a3⟩
theorem QD {g k:Nat} {term:Int} (hk:2<=k) (QB:k<=g):∀(l:List (Int×Int)) (i:Nat) {F:Fr},((k+i+l.length:Nat):Int)<=term->term<g->InF k F->
  ∃F',Rn g k F (iw k term i l) F'/\InF k F'/\(∀(j:Nat) q,l[j]?=some q->∀t,t<k->F' ((k+i+j:Nat):Int) t=ma k q t)/\∀r:Int,r<((k+i:Nat):Int)->F' r=F r
 | [],i,F,_,_,km=>⟨F,Rn.nil,km,fun j q h=>(by cases h),fun _ _=>rfl⟩
 | q::l,i,F,h1,h2,km=>by
  rw [dy] at h1
  obtain ⟨F1,a1,a2,a3⟩:=aaT (to_:=((k+i:Nat):Int)) (term:=term) hk QB ⟨by omega,by omega⟩ ⟨by omega,h2,by omega⟩ km
  obtain ⟨F2,b1,b2,b3,b4⟩:=QD hk QB l (i+1) (F:=F1) ae h2 (fun m t hm ht=>by rw [a3 _ ae ae]; exact km m t hm ht)
  refine ⟨F2,a1.app b1,b2,fun j q' h=>?_,fun r hr=>(b4 r ae).trans (a3 r ae ae)⟩
  cases j with
  | zero=>cases h; intro t ht; rw [b4 _ ae]; exact a2 t ht
  | succ j=>
   intro t ht
   have:=b3 j q' h t ht
   rwa [show k+(i+1)+j=k+i+(j+1) by omega] at this
def wW (k:Nat):List Rw:=(List.range k).map fun m=>rf k (Ba m)
theorem kN (k:Nat):(wW k).length=k:=by unfold wW; simp
theorem F4 (k:Nat):∀r∈wW k,r.length=k:=fun r hr=>by
 obtain ⟨m,_,rfl⟩:=ff.1 hr; exact pO _ _
theorem QE {g k n:Nat} {f:Nat->Nat->Int} (QB:k<=g):RF g n (ie g n ((List.range k).map fun m=>rf n (f m))) fun r=>if r<k then f r.toNat else fun _=>0:=by
 refine ⟨iX (by simpa using QB),fun r h0 h1=>?_⟩
 rw [zC (by simpa using QB) h0 h1,aZ,mK]
 dsimp only
 split
 ·rw [aF,bo,fQ ae]; rfl
 ·unfold rf
  apply kV
  intro i
  rw [bo,iN]
  by_cases c:i<n
  ·rw [aR c,fQ c]; rfl
  ·rw [aQ c,dz (by rw [mK]; omega)]; rfl
theorem VK {k:Nat} {l:List (Int×Int)} (hk:1<=k):∃R',kX (ie (k+l.length+1) k (wW k)) (iw k ((k+l.length:Nat):Int) 0 l)=some R'/\(jd k l.length).map (eQ R')=l.map fun q=>rf k (ma k q):=by
 have QF:RF (k+l.length+1) k (ie (k+l.length+1) k (wW k)) _:=QE (f:=Ba) ae
 rcases dr k 2 with c | c
 ·obtain rfl:k=1:=ae
  have he:∀(l:List (Int×Int)) (t:Int) (i:Nat),iw 1 t i l=[]:=fun l=>by
   induction l with
   | nil=>intro t i; rfl
   | cons q l ih=>intro t i; unfold iw Bs; rw [aR rfl,ih]; rfl
  rw [he]
  refine ⟨_,rfl,?_⟩
  unfold jd
  rw [aR rfl,mN,QF.2 0 ae ae]
  apply kV
  intro i
  rw [iN,bo]
  by_cases c:i<l.length
  ·rw [aR c,aw c]
   simp [rf,Ba,ma]
  ·rw [aQ c,dz ae]; rfl
 ·obtain ⟨F',a1,a2,a3,a4⟩:=QD (g:=k+l.length+1) (term:=((k+l.length:Nat):Int)) c ae l 0 (F:=fun r=>if r<k then Ba r.toNat else fun _=>0) ae ae (fun m t hm ht=>by dsimp only; rw [aR ae]; rfl)
  obtain ⟨R',h1,h2⟩:=a1 _ QF
  refine ⟨R',h1,?_⟩
  unfold jd
  rw [aQ ae,ox]
  apply kV
  intro j
  rw [bo,bo]
  by_cases c:j<l.length
  ·rw [fQ c,aw c]
   show some (eQ R' ((k+j:Nat):Int))=some _
   rw [h2.2 _ ae ae]
   exact aM some (zI fun t ht=>by have:=a3 j _ (aw c) t ht; rwa [j7] at this)
  ·rw [dz (by simpa using c),dz ae]; rfl
theorem VL {k g:Nat} {term to_:Int} {q:Int×Int} (hk:1<=k) (ht:(k:Int)<=to_/\to_<g) (hq:(k:Int)<=term/\term<g) (h1:-16<=q.1/\q.1<=16) (h2:-16<=q.2/\q.2<=16):∀e∈Bs k term to_ q,cN e g:=by
 have hA:∀(m:Nat) (from_:Int),m<k->0<=from_/\from_<g->q.1≠0->q.2≠0->∀e∈Dl k to_ term q.1 q.2 from_ m,cN e g:=fun m=>by
  induction m with
  | zero=>intro f _ _ _ _ e he; cases he
  | succ m ih=>
   intro f hm hf q1 q2 e he
   unfold Dl at he
   rcases b6.1 he with c | c
   ·unfold K3 at c
    rcases b6.1 c with c | c
    ·exact K2 (K1 ⟨by omega,ht.2⟩ hf ⟨q1,by omega,by omega⟩) e c
    split at c
    ·obtain rfl:=cC.1 c; unfold cN; dsimp only; omega
    split at c
    ·obtain rfl:=cC.1 c; unfold cN; dsimp only; omega
    rcases b6.1 c with c | c
    ·exact x0 ⟨by omega,hq.2⟩ ⟨q2,by omega,by omega⟩ _ ⟨by omega,by omega⟩ e c
    ·obtain rfl:=cC.1 c; unfold cN; dsimp only; omega
   ·exact ih to_ ae ⟨by omega,ht.2⟩ q1 q2 e c
 intro e he
 unfold Bs at he
 split at he
 ·cases he
 split at he
 ·obtain rfl:=cC.1 he; unfold cN; dsimp only; omega
 split at he
 ·exact x0 ⟨by omega,ht.2⟩ ⟨by omega,by omega,by omega⟩ _ ⟨by omega,by omega⟩ e he
 split at he
 ·exact x0 ⟨by omega,ht.2⟩ ⟨by omega,by omega,by omega⟩ _ ⟨by omega,by omega⟩ e he
 ·exact hA _ _ ae ⟨by omega,by omega⟩ ae ae e he
theorem VM {k:Nat} (term to_:Int) (q:Int×Int) (hk:k<=8):(Bs k term to_ q).length<=64:=by
 have hA:∀(m:Nat) (from_:Int),(Dl k to_ term q.1 q.2 from_ m).length<=9*m:=fun m=>by
  induction m with
  | zero=>intro f; exact aY _
  | succ m ih=>
   intro f
   unfold Dl K3
   rw [aP,aP]
   have a1:=xZ (oI to_ f q.1)
   have a2:=ih to_
   have a3:=pP term q.2 (k - 1 - m) (m:Nat)
   split
   ·rw [dG]; omega
   split
   ·rw [dG]; omega
   ·rw [aP,dG]; omega
 unfold Bs
 split
 ·exact bm _
 split
 ·exact (by decide:(1:Nat)<=64)
 split
 ·have:=pP to_ q.2 (k - 1) 0; omega
 split
 ·have:=pP to_ q.1 (k - 1) ((k - 1:Nat):Int); omega
 ·have:=hA (k - 1) ((k - 1:Nat):Int); omega
theorem K4 {k g:Nat} {term:Int} (hk:1<=k):∀(l:List (Int×Int)) (i:Nat),((k+i+l.length:Nat):Int)<=term->term<g->(∀q∈l,(-16<=q.1/\q.1<=16)/\-16<=q.2/\q.2<=16)->∀e∈iw k term i l,cN e g
 | [],_,_,_,_,e,he=>by cases he
 | q::l,i,h1,h2,hl,e,he=>by
  rw [dy] at h1
  unfold iw at he
  rcases b6.1 he with c | c
  ·exact VL hk ⟨by omega,by omega⟩ ⟨by omega,h2⟩ (hl q (bS ..)).1 (hl q (bS ..)).2 e c
  ·exact K4 hk l (i+1) ae h2 (fun q hq=>hl q (cO _ hq)) e c
theorem K5 {k:Nat} (term:Int) (hk:k<=8):∀(l:List (Int×Int)) (i:Nat),(iw k term i l).length<=64*l.length
 | [],_=>aY _
 | q::l,i=>by
  unfold iw
  rw [aP,dy]
  have:=VM term ((k+i:Nat):Int) q hk
  have:=K5 term hk l (i+1)
  omega
theorem af5 {k:Nat} {l:List (Int×Int)} (hk:1<=k) (hl:∀q∈l,(-16<=q.1/\q.1<=16)/\-16<=q.2/\q.2<=16):lp k (k+l.length+1) k (wW k) (iw k ((k+l.length:Nat):Int) 0 l) (jd k l.length) (l.map fun q=>rf k (ma k q)):=by
 refine ⟨K4 hk l 0 ae ae hl,fun r hr=>?_,VK hk⟩
 unfold jd at hr
 split at hr
 ·have:=(List.mem_replicate.1 hr).2; omega
 ·obtain ⟨m,hm,rfl⟩:=ff.1 hr
  have:=nZ.1 hm
  omega
def ev:Nat->(Nat->Int)->Int->Int->Int
 | 0,c,_,_=>c 0
 | e+1,c,X,Y=>Y*ev e c X Y+c (e+1)*X ^ (e+1)
def qv (c:Nat->Int):Nat->Int
 | 0=>0
 | j+1=>c j
def lm (A B:Int) (c:Nat->Int) (j:Nat):Int:=A*c j - B*qv c j
def pc (u v:Int):Nat->Nat->Int
 | 0,j=>if j=0 then 1 else 0
 | e+1,j=>u*qv (pc u v e) j+v*pc u v e j
def sup (e:Nat) (c:Nat->Int):Prop:=∀j,e<j->c j=0
theorem zL {c d:Nat->Int} {X Y:Int}:∀e,(∀j,j<=e->c j=d j)->ev e c X Y=ev e d X Y
 | 0,h=>h 0 (aY _)
 | e+1,h=>by rw [ev,ev,zL e fun j hj=>h j ae,h (e+1) (aY _)]
theorem zM {X Y:Int} (c d:Nat->Int):∀e,ev e (fun j=>c j+d j) X Y=ev e c X Y+ev e d X Y
 | 0=>rfl
 | e+1=>by rw [ev,ev,ev,zM c d e,EW,BJ]; omega
theorem vY {X Y:Int} (k:Int) (c:Nat->Int):∀e,ev e (fun j=>k*c j) X Y=k*ev e c X Y
 | 0=>rfl
 | e+1=>by rw [ev,ev,vY k c e,EW,nX,fR]
theorem DE {X Y:Int} (c:Nat->Int):∀e,ev (e+1) (qv c) X Y=X*ev e c X Y
 | 0=>by rw [ev,ev,ev]; show Y*0+c 0*X ^ (0+1)=X*c 0; rw [mL,Int.zero_add,fz,sM,Int.pow_zero,p',gn]
 | e+1=>by
  rw [ev,DE c e,ev]
  show Y*(X*ev e c X Y)+c (e+1)*X ^ (e+1+1)=X*(Y*ev e c X Y+c (e+1)*X ^ (e+1))
  rw [EW,sM X (e+1),nX,<- fR (c (e+1)),gn X (c (e+1)*X ^ (e+1))]
theorem QG {X Y:Int} {c:Nat->Int} {e:Nat} (h:sup e c):ev (e+1) c X Y=Y*ev e c X Y:=by
 rw [ev,h (e+1) ae,jI,uj]
theorem af6 {A B X Y:Int} {c:Nat->Int} {e:Nat} (h:sup e c):ev (e+1) (lm A B c) X Y=(A*Y - B*X)*ev e c X Y:=by
 have:lm A B c=fun j=>A*c j+-B*qv c j:=by funext j; unfold lm; rw [yB]; omega
 rw [this,zM (fun j=>A*c j) (fun j=>-B*qv c j),vY,vY,DE,QG h,Int.sub_mul,yB,fR,fR]
 omega
theorem zN (u v:Int):∀e,sup e (pc u v e)
 | 0,j,h=>aQ ae
 | e+1,j,h=>by
  rw [pc]
  cases j with
  | zero=>omega
  | succ j=>rw [qv,zN u v e j ae,zN u v e (j+1) ae,mL,mL]; rfl
theorem YW {u v X Y:Int}:∀e,ev e (pc u v e) X Y=(u*X+v*Y) ^ e
 | 0=>by rw [Int.pow_zero]; rfl
 | e+1=>by
  have:pc u v (e+1)=fun j=>u*qv (pc u v e) j+v*pc u v e j:=rfl
  rw [this,zM (fun j=>u*qv (pc u v e) j) (fun j=>v*pc u v e j),vY,vY,DE,QG (zN u v e),YW e,sM,gn ((u*X+v*Y) ^ e),BJ,fR,fR]
theorem aaU (A B:Int) (c:Nat->Int) (j:Nat):qv (lm A B c) j=lm A B (qv c) j:=by
 cases j with
 | zero=>simp [qv,lm]
 | succ j=>rfl
theorem zO {A B u v:Int} (h1:u*A+v*B=1):∀(e:Nat) (c:Nat->Int),sup e c->∃g:Nat->Int,(e=0->∀j,g j=0)/\sup (e - 1) g/\∀j,c j=ev e c A B*pc u v e j+lm A B g j
 | 0,c,hc=>⟨fun _=>0,fun _ _=>rfl,fun _ _=>rfl,fun j=>by
  have hl:lm A B (fun _=>0) j=0:=by unfold lm; cases j<;>simp [qv]
  rw [hl,ev,pc]
  by_cases q:j=0
  ·subst q; simp
  ·rw [hc j ae,aQ q]; simp⟩
 | e+1,c,hc=>by
  obtain ⟨ga,a0,a1,a2⟩:=zO h1 e (fun j=>if j<=e then c j else 0) fun j hj=>aQ ae
  obtain ⟨gb,b0,b1,b2⟩:=zO h1 e (fun j=>if j=e then c (e+1) else 0) fun j hj=>aQ ae
  have ia:∀j,c j=(if j<=e then c j else 0)+qv (fun j=>if j=e then c (e+1) else 0) j:=fun j=>by
   cases j with
   | zero=>simp [qv]
   | succ j=>
    show c (j+1)=(if j+1<=e then c (j+1) else 0)+if j=e then c (e+1) else 0
    rcases Nat.lt_trichotomy j e with q | q | q
    ·rw [aR ae,aQ ae]; simp
    ·subst q; rw [aQ ae,aR rfl]; simp
    ·rw [hc (j+1) ae,aQ ae,aQ ae]; rfl
  have VN:ev (e+1) c A B=B*ev e (fun j=>if j<=e then c j else 0) A B+A*ev e (fun j=>if j=e then c (e+1) else 0) A B:=by
   rw [<- DE,<- QG (fun j hj=>aQ ae),<- zM]
   exact zL _ fun j _=>ia j
  generalize ev e (fun j=>if j<=e then c j else 0) A B=al at a2 VN
  generalize ev e (fun j=>if j=e then c (e+1) else 0) A B=be at b2 VN
  refine ⟨fun j=>(al*u - be*v)*pc u v e j+(ga j+qv gb j),fun h=>ae,fun j hj=>?_,fun j=>?_⟩
  ·dsimp only
   rw [zN u v e j ae]
   have h3:ga j=0:=by
    cases e with
    | zero=>exact a0 rfl j
    | succ e=>exact a1 j ae
   have h4:qv gb j=0:=by
    cases j with
    | zero=>rfl
    | succ j=>
     show gb j=0
     cases e with
     | zero=>exact b0 rfl j
     | succ e=>exact b1 j ae
   rw [h3,h4]; simp
  ·have e1:qv (fun j=>if j=e then c (e+1) else 0) j=be*qv (pc u v e) j+lm A B (qv gb) j:=by
    cases j with
    | zero=>show (0:Int)=be*0+lm A B (qv gb) 0; unfold lm; simp [qv]
    | succ j=>rw [<- aaU]; exact b2 j
   have hl:lm A B (fun j=>(al*u - be*v)*pc u v e j+(ga j+qv gb j)) j=(al*u - be*v)*lm A B (pc u v e) j+lm A B ga j+lm A B (qv gb) j:=by
    have hs:qv (fun j=>(al*u - be*v)*pc u v e j+(ga j+qv gb j)) j=(al*u - be*v)*qv (pc u v e) j+(qv ga j+qv (qv gb) j):=by cases j<;>simp [qv]
    unfold lm
    rw [hs]
    simp only [EW,Int.mul_sub]
    rw [nX A,nX B]
    omega
   have key:al*pc u v e j+be*qv (pc u v e) j=(B*al+A*be)*pc u v (e+1) j+(al*u - be*v)*lm A B (pc u v e) j:=by
    show _=(B*al+A*be)*(u*qv (pc u v e) j+v*pc u v e j)+(al*u - be*v)*(A*pc u v e j - B*qv (pc u v e) j)
    generalize pc u v e j=p
    generalize qv (pc u v e) j=s
    have t1:(B*al+A*be)*(u*s+v*p)+(al*u - be*v)*(A*p - B*s)=(u*A+v*B)*(al*p+be*s):=by
     simp only [EW,BJ,Int.mul_sub,Int.sub_mul]
     simp only [gn,nX]
     omega
    rw [t1,h1,p']
   rw [VN,ia j,a2 j,e1,hl]
   omega
def gy (t a c:Int):List IE:=if c=0 then [(4,t,a,a,0)] else if c=1 then (if t=a then [] else [(1,t,a,0,0)]) else if c=-1 then [(2,t,a,0,0)] else [(5,t,a,0,c)]
def tY (t c:Int):List IE:=if c=1 then [] else if c=-1 then [(2,t,t,0,0)] else [(6,t,t,0,c)]
def zP (t c:Int):Int->Int->Nat->List IE
 | a,k,0=>gy t a k
 | a,k,n+1=>if k*c>512∨k*c< -512 then gy t a k++zP t c t c n else zP t c a (k*c) n
def tZ (t a c:Int) (e:Nat):List IE:=if (c=0/\0<e)∨c=1∨c=-1 then gy t a (if c=-1/\e%2=0 then 1 else c) else zP t c a 1 e
section
variable {g n:Nat} {F:Fr} {t a c:Int}
theorem lq (ht:0<=t/\t<g) (ha:0<=a/\a<g):Rn g n F (gy t a c) (jO F t fun j=>F a j*c):=by
 unfold gy
 split
 ·rename_i q; subst q
  exact (FY ht ha ha).post fun r _ _ j _=>by congr 1; funext j; rw [Int.sub_self,mL]
 split
 ·rename_i q; subst q
  split
  ·rename_i q; subst q
   exact Rn.nil.post fun r _ _ j _=>by simp only [qL]; exact (congrFun (congrFun Qx r) j).symm
  ·exact (Qv ht ha).post fun r _ _ j _=>by congr 1; funext j; rw [qL]
 split
 ·rename_i q; subst q
  exact (Qw ht ha).post fun r _ _ j _=>by congr 1; funext j; rw [BI,qL]
 ·exact YV ht ha
theorem IH (hc:c≠0) (ht:0<=t/\t<g) {f:Nat->Int} (hf:∀j,j<n->F t j=f j*c):Rn g n F (tY t c) (jO F t f):=by
 unfold tY
 split
 ·rename_i q; subst q
  exact Rn.nil.post fun r _ _ j hj=>by
   unfold jO
   split
   ·rename_i e; rw [e,hf j hj,qL]
   ·rfl
 split
 ·rename_i q; subst q
  exact (Qw ht ht).post fun r _ _ j hj=>by
   unfold jO
   split
   ·show -F t j=f j; rw [hf j hj]; omega
   ·rfl
 ·exact (af1 ht ht fun j hj=>by rw [hf j hj]; exact Int.mul_emod_left _ _).post fun r _ _ j hj=>by
   unfold jO
   split
   ·show F t j / c=f j; rw [hf j hj,gr _ hc]
   ·rfl
end
theorem II {g n:Nat} {t c:Int} (ht:0<=t/\t<g):∀(m:Nat) {F:Fr} {a k:Int},0<=a/\a<g->Rn g n F (zP t c a k m) (jO F t fun j=>F a j*(k*c ^ m))
 | 0,F,a,k,ha=>(lq ht ha).post fun r _ _ j _=>by simp
 | m+1,F,a,k,ha=>by
  unfold zP
  split
  ·exact (lq ht ha).app ((II ht m (a:=t) ht).post fun r _ _ j _=>by
    unfold jO
    split
    ·rw [aR rfl,sM,gn (c ^ m) c]; exact fR ..
    ·rfl)
  ·exact (II ht m ha).post fun r _ _ j _=>by
    unfold jO
    split
    ·rw [sM,gn (c ^ m) c,fR]
    ·rfl
theorem aaV {g n:Nat} {F:Fr} {t a c:Int} {e:Nat} (ht:0<=t/\t<g) (ha:0<=a/\a<g):Rn g n F (tZ t a c e) (jO F t fun j=>F a j*c ^ e):=by
 unfold tZ
 split
 ·rename_i q
  have hc:(if c=-1/\e%2=0 then 1 else c)=c ^ e:=by
   rcases q with ⟨rfl,he⟩ | rfl | rfl
   ·rw [aQ ae,Int.zero_pow ae]
   ·rw [aQ ae,Int.one_pow]
   ·rw [ru]
    by_cases w:e%2=0
    ·rw [aR ⟨rfl,w⟩,aR w]
    ·rw [aQ (fun h=>w h.2),aQ w]
  rw [hc]
  exact lq ht ha
 ·exact (II ht e ha).post fun r _ _ j _=>by simp
theorem j3 {g t a c:Int} (ht:0<=t/\t<g) (ha:0<=a/\a<g) (hc:-512<=c/\c<=512):∀e∈gy t a c,cN e g:=fun e he=>by
 unfold gy at he
 split at he
 ·obtain rfl:=cC.1 he; unfold cN; dsimp only; omega
 split at he
 ·split at he
  ·cases he
  ·obtain rfl:=cC.1 he; unfold cN; dsimp only; omega
 split at he
 ·obtain rfl:=cC.1 he; unfold cN; dsimp only; omega
 ·obtain rfl:=cC.1 he; unfold cN; dsimp only; omega
theorem kO (t a c:Int):(gy t a c).length<=1:=by unfold gy; (repeat' split)<;>simp
theorem K6 {g t c:Int} (ht:0<=t/\t<g) (hc:c≠0/\-512<=c/\c<=512):∀e∈tY t c,cN e g:=fun e he=>by
 unfold tY at he
 split at he
 ·cases he
 split at he
 ·obtain rfl:=cC.1 he; unfold cN; dsimp only; omega
 ·obtain rfl:=cC.1 he; unfold cN; dsimp only; omega
theorem K7 (t c:Int):(tY t c).length<=1:=by unfold tY; (repeat' split)<;>simp
theorem DF {g t c:Int} (ht:0<=t/\t<g) (hc:-512<=c/\c<=512):∀(m:Nat) {a k:Int},0<=a/\a<g->-512<=k/\k<=512->∀e∈zP t c a k m,cN e g
 | 0,a,k,ha,hk,e,he=>j3 ht ha hk e he
 | m+1,a,k,ha,hk,e,he=>by
  unfold zP at he
  split at he
  ·rcases b6.1 he with q | q
   ·exact j3 ht ha hk e q
   ·exact DF ht hc m ht hc e q
  ·exact DF ht hc m ha ae e he
theorem DG (t c:Int):∀(m:Nat) (a k:Int),(zP t c a k m).length<=m+1
 | 0,a,k=>kO t a k
 | m+1,a,k=>by
  unfold zP
  split
  ·rw [aP]; have:=kO t a k; have:=DG t c m t c; omega
  ·have:=DG t c m a (k*c); omega
theorem VO {g t a c:Int} {e:Nat} (ht:0<=t/\t<g) (ha:0<=a/\a<g) (hc:-512<=c/\c<=512):∀f∈tZ t a c e,cN f g:=fun f hf=>by
 unfold tZ at hf
 split at hf
 ·exact j3 ht ha (by split<;>omega) f hf
 ·exact DF ht hc e ha ae f hf
theorem VP (t a c:Int) (e:Nat):(tZ t a c e).length<=e+1:=by
 unfold tZ
 split
 ·have:=kO t a (if c=-1/\e%2=0 then 1 else c); omega
 ·exact DG t c e a 1
abbrev Pt:=Int×Int
def fD (a b:Int):Int:=(Int.gcd a b:Nat)
def vZ:List Int:=(List.range 17).flatMap fun u=>[((u:Nat):Int),-((u:Nat):Int)]
def bz (p:Pt):Int×Int×Int:=
 let g:=fD p.1 p.2
 if g=0 then (0,0,0) else if p.2=0 then (g,p.1.tdiv g,0)
 else match vZ.find? (fun s=>decide ((g - s*p.1).tmod p.2=0)) with
  | some s=>(g,s,(g - s*p.1).tdiv p.2)
  | none=>(g,0,0)
def af7 (p:Pt):Bool:=decide (1<=(bz p).1/\(bz p).1<=16/\p.1.tmod (bz p).1=0/\p.2.tmod (bz p).1=0/\(bz p).2.1*p.1+(bz p).2.2*p.2=(bz p).1/\-16<=(bz p).2.1/\(bz p).2.1<=16/\-16<=(bz p).2.2/\(bz p).2.2<=16/\fD (p.1.tdiv (bz p).1) (p.2.tdiv (bz p).1)=1)
theorem aaW:∀a:Fin 33,∀b:Fin 33,(a.1=16/\b.1=16)∨af7 ((a.1:Int) - 16,(b.1:Int) - 16)=true:=by decide+kernel
def mv (p:Pt):Prop:=(-16<=p.1/\p.1<=16)/\-16<=p.2/\p.2<=16
theorem YX {p:Pt} (h:mv p) (h0:¬(p.1=0/\p.2=0)):af7 p=true:=by
 unfold mv at h
 have:=aaW ⟨(p.1+16).toNat,by omega⟩ ⟨(p.2+16).toNat,by omega⟩
 dsimp only at this
 rcases this with q | q
 ·omega
 ·rw [show (((p.1+16).toNat:Nat):Int) - 16=p.1 by omega,show (((p.2+16).toNat:Nat):Int) - 16=p.2 by omega] at q
  exact q
def whole (p:Pt):Pt:=(p.1.tdiv (bz p).1,p.2.tdiv (bz p).1)
structure K8 (p:Pt):Prop where
 qH:mv p
 u:-16<=(bz p).2.1/\(bz p).2.1<=16
 v:-16<=(bz p).2.2/\(bz p).2.2<=16
 one:(bz p).2.1*p.1+(bz p).2.2*p.2=1
theorem lO {p:Pt} (h:mv p) (h0:¬(p.1=0/\p.2=0)):1<=(bz p).1/\(bz p).1<=16/\p.1=(whole p).1*(bz p).1/\p.2=(whole p).2*(bz p).1/\K8 (whole p):=by
 have hq:=bX (YX h h0)
 obtain ⟨g1,g2,d1,d2,e,u1,u2,v1,v2,gg⟩:=hq
 have p1:p.1=(whole p).1*(bz p).1:=(CX (wG d1)).symm
 have p2:p.2=(whole p).2*(bz p).1:=(CX (wG d2)).symm
 have bd:∀x y:Int,x=y*(bz p).1->-16<=x/\x<=16->-16<=y/\y<=16:=fun x y hx hb=>by
  have:y.natAbs<=x.natAbs:=by rw [hx,lH]; exact wE _ ae
  omega
 have km:mv (whole p):=⟨bd _ _ p1 h.1,bd _ _ p2 h.2⟩
 have sQ:¬((whole p).1=0/\(whole p).2=0):=fun w=>h0 ⟨by rw [p1,w.1,jI],by rw [p2,w.2,jI]⟩
 have hw:=bX (YX km sQ)
 obtain ⟨w1,w2,_,_,we,wu1,wu2,wv1,wv2,_⟩:=hw
 have YK:(bz (whole p)).1=1:=by
  have hg:(bz (whole p)).1=fD (whole p).1 (whole p).2∨(bz (whole p)).1=0:=by
   unfold bz
   dsimp only
   split
   ·exact .inr rfl
   split
   ·exact .inl rfl
   split
   ·exact .inl rfl
   ·exact .inl rfl
  rcases hg with q | q
  ·exact q.trans gg
  ·omega
 exact ⟨g1,g2,p1,p2,km,⟨wu1,wu2⟩,⟨wv1,wv2⟩,by rw [we,YK]⟩
def pl (n j:Nat):Int:=((n+j:Nat):Int)
def fm (n j:Nat):Int:=((2*n+j:Nat):Int)
def pz (n:Nat):Int:=((3*n:Nat):Int)
def Oq (n:Nat) (p q:Pt) (k i:Int) (e:Nat):List IE:=
 (if (bz p).2.1*q.1+(bz p).2.2*q.2≠0∨e=0 then tZ (pz n) k ((bz p).2.1*q.1+(bz p).2.2*q.2) e++[(4,i,i,pz n,0)] else [])++tY i (p.1*q.2 - q.1*p.2)
def Cn (n:Nat) (p:Pt) (k:Int) (e:Nat):Nat->List Pt->List IE
 | _,[]=>[]
 | i,q::l=>Oq n p q k (i:Nat) e++Cn n p k e (i+1) l
def IJ (n:Nat) (A B:Int) (e j:Nat):List IE:=
 if j=e then gy (pl n e) (pl n (e - 1)) (-B)
 else (if 0<j then gy (pz n) (pl n (j - 1)) B else [])++gy (pl n j) (pl n j) A++(if 0<j then [(4,pl n j,pl n j,pz n,0)] else [])
def QH (n:Nat) (A B:Int) (e:Nat):Nat->List IE
 | 0=>IJ n A B e 0
 | j+1=>IJ n A B e (j+1)++QH n A B e j
def gb (th:List Bool) (j:Nat):Bool:=th.getD j false
def i' (u:Int) (j:Nat) (th:List Bool):Bool:=decide (0<j) && gb th (j - 1) && decide (u≠0)
def kp (v:Int) (j:Nat) (th:List Bool):Bool:=gb th j && decide (v≠0)
def F5 (n:Nat) (u v:Int) (j:Nat) (th:List Bool):List IE:=
 (if i' u j th then gy (pz n) (fm n (j - 1)) u else [])++
 (if kp v j th && i' u j th then gy (fm n j) (fm n j) v++[(3,fm n j,fm n j,pz n,0)] else if kp v j th then gy (fm n j) (fm n j) v else if i' u j th then gy (fm n j) (pz n) 1 else [])
def sa (u v:Int) (j:Nat) (th:List Bool):List Bool:=th.set j (kp v j th || i' u j th)
def x7 (n:Nat) (u v:Int):Nat->List Bool->List IE×List Bool
 | 0,th=>(F5 n u v 0 th,sa u v 0 th)
 | j+1,th=>(F5 n u v (j+1) th++(x7 n u v j (sa u v (j+1) th)).1,(x7 n u v j (sa u v (j+1) th)).2)
def IK (n:Nat) (u v:Int):Nat->Nat->List Bool->List IE×List Bool
 | _,0,th=>([],th)
 | d,m+1,th=>((x7 n u v d th).1++(IK n u v (d+1) m (x7 n u v d th).2).1,(IK n u v (d+1) m (x7 n u v d th).2).2)
def Uc (e:Nat):List Bool:=true::List.replicate e false
def zQ (n:Nat) (p:Pt) (k:Int) (e:Nat):List IE×List Bool:=(gy (fm n 0) k 1++(IK n (bz p).2.1 (bz p).2.2 1 e (Uc e)).1,(IK n (bz p).2.1 (bz p).2.2 1 e (Uc e)).2)
def xz (n:Nat):Nat->List Bool->List IE
 | _,[]=>[]
 | j,b::l=>(if b then [(3,pl n j,pl n j,fm n j,0)] else [])++xz n (j+1) l
def IL (n:Nat) (p:Pt) (k:Int) (e:Nat):List IE:=QH n p.1 p.2 e e++(zQ n p k e).1++xz n 0 (zQ n p k e).2
def core (n:Nat):Nat->List Pt->List IE
 | _,[]=>[]
 | k,[_]=>gy (pl n 0) (k:Nat) 1
 | k,p::q::l=>Cn n p (k:Nat) (l.length+1) (k+1) (q::l)++core n (k+1) (q::l)++IL n p (k:Nat) (l.length+1)
def Ot (n:Nat):Nat->List Pt->List IE
 | _,[]=>[]
 | k,p::l=>Cn n p (k:Nat) l.length (k+1) l++Ot n (k+1) l
def YY (n:Nat):Nat->List Pt->List IE
 | _,[]=>[]
 | _,[_]=>[]
 | k,p::q::l=>YY n (k+1) (q::l)++IL n p (k:Nat) (l.length+1)
theorem F6 (n:Nat):∀(l:List Pt) (k:Nat),l≠[]->core n k l=Ot n k l++gy (pl n 0) ((k+l.length - 1:Nat):Int) 1++YY n k l
 | [],_,h=>absurd rfl h
 | [p],k,_=>by simp [core,Ot,Cn,YY]
 | p::q::l,k,_=>by
  rw [core,F6 n (q::l) (k+1) cT,show Ot n k (p::q::l)=Cn n p (k:Nat) (l.length+1) (k+1) (q::l)++Ot n (k+1) (q::l) from rfl,show YY n k (p::q::l)=YY n (k+1) (q::l)++IL n p (k:Nat) (l.length+1) from rfl]
  simp only [cG,dy]
  rw [show k+1+(l.length+1) - 1=k+(l.length+1+1) - 1 by omega]
section
variable {n:Nat} {F:Fr}
theorem aaX {p q:Pt} {k i:Int} {e:Nat} {h:Nat->Int} (hk:0<=k/\k<n) (hi:0<=i/\i<n) (hd:p.1*q.2 - q.1*p.2≠0) (hh:∀t,t<n->F i t - ((bz p).2.1*q.1+(bz p).2.2*q.2) ^ e*F k t=h t*(p.1*q.2 - q.1*p.2)):
  ∃F',Rn (3*n+1) n F (Oq n p q k i e) F'/\(∀t,t<n->F' i t=h t)/\∀r:Int,r≠i->r≠pz n->F' r=F r:=by
 unfold Oq
 have Ud:0<=pz n/\pz n<((3*n+1:Nat):Int):=by unfold pz; omega
 have sQ:i≠pz n:=by unfold pz; omega
 have hnk:k≠pz n:=by unfold pz; omega
 generalize hx:(bz p).2.1*q.1+(bz p).2.2*q.2=x at hh ⊢
 by_cases w:x≠0∨e=0
 ·rw [aR w]
  have h1:=(aaV (g:=3*n+1) (n:=n) (F:=F) (t:=pz n) (a:=k) (c:=x) (e:=e) Ud ⟨hk.1,by omega⟩).app (FY (t:=i) (a:=i) (b:=pz n) (c:=0) ⟨hi.1,by omega⟩ ⟨hi.1,by omega⟩ Ud)
  refine ⟨_,h1.app (IH (f:=h) hd ⟨hi.1,by omega⟩ fun j hj=>?_),fun t ht=>by rw [bZ],fun r a1 a2=>by rw [b8 a1,b8 a1,b8 a2]⟩
  rw [bZ,bZ,b8 sQ,<- hh j hj,gn]
 ·rw [aQ w]
  refine ⟨_,Rn.nil.app (IH (f:=h) hd ⟨hi.1,by omega⟩ fun j hj=>?_),fun t ht=>by rw [bZ],fun r a1 a2=>b8 a1⟩
  rw [<- hh j hj,show x=0 by omega,Int.zero_pow ae,jI,Int.sub_zero]
theorem QI {p:Pt} {k e:Nat} {c G:Nat->Nat->Int} (hp:K8 p) (hk:k<n) (he:1<=e) (hc:∀t,t<n->∀j,c t j=ev e (c t) p.1 p.2*pc (bz p).2.1 (bz p).2.2 e j+lm p.1 p.2 (G t) j) (hG:∀t,t<n->sup (e - 1) (G t)):∀(l:List Pt) (i:Nat) {F:Fr},k<i->i+l.length<=n->(∀q∈l,p.1*q.2 - q.1*p.2≠0)->(∀t,t<n->F ((k:Nat):Int) t=ev e (c t) p.1 p.2)->
  (∀(j:Nat) q,l[j]?=some q->∀t,t<n->F ((i+j:Nat):Int) t=ev e (c t) q.1 q.2)->
  ∃F',Rn (3*n+1) n F (Cn n p ((k:Nat):Int) e i l) F'/\(∀(j:Nat) q,l[j]?=some q->∀t,t<n->F' ((i+j:Nat):Int) t=ev (e - 1) (G t) q.1 q.2)/\∀r:Int,r<((i:Nat):Int)->F' r=F r
 | [],i,F,_,_,_,_,_=>⟨F,Rn.nil,fun j q h=>(by cases h),fun _ _=>rfl⟩
 | q::l,i,F,h1,h2,hd,hV,hl=>by
  rw [dy] at h2
  have qZ:∀t,t<n->F ((i:Nat):Int) t - ((bz p).2.1*q.1+(bz p).2.2*q.2) ^ e*F ((k:Nat):Int) t=ev (e - 1) (G t) q.1 q.2*(p.1*q.2 - q.1*p.2):=fun t ht=>by
   have h0:=hl 0 q rfl t ht
   rw [j7] at h0
   rw [h0,hV t ht]
   have h3:ev e (c t) q.1 q.2=ev e (fun j=>ev e (c t) p.1 p.2*pc (bz p).2.1 (bz p).2.2 e j+lm p.1 p.2 (G t) j) q.1 q.2:=zL e fun j _=>hc t ht j
   obtain ⟨d,rfl⟩:∃d,e=d+1:=⟨e - 1,by omega⟩
   rw [h3,zM (fun j=>ev (d+1) (c t) p.1 p.2*pc (bz p).2.1 (bz p).2.2 (d+1) j) (lm p.1 p.2 (G t)),vY,YW,af6 (e:=d) (hG t ht),gn (ev (d+1) (c t) p.1 p.2)]
   have hx:∀a b:Int,a+b - a=b:=fun a b=>ae
   rw [hx,gn p.2 q.1,gn]
   rfl
  obtain ⟨F1,a1,a2,a3⟩:=aaX (h:=fun t=>ev (e - 1) (G t) q.1 q.2) (k:=((k:Nat):Int)) (i:=((i:Nat):Int)) ⟨by omega,by omega⟩ ⟨by omega,by omega⟩ (hd q (bS ..)) qZ
  have hz:∀j:Nat,j<n->((j:Nat):Int)≠pz n:=fun j hj=>by unfold pz; omega
  obtain ⟨F2,b1,b2,b3⟩:=QI hp hk he hc hG l (i+1) (F:=F1) ae ae (fun q hq=>hd q (cO _ hq)) (fun t ht=>by rw [a3 _ ae (hz k hk)]; exact hV t ht) (fun j q' hj t ht=>by
   have hjl:=(bU.1 hj).1
   rw [a3 _ ae (hz _ ae)]
   have:=hl (j+1) q' hj t ht
   rwa [show i+1+j=i+(j+1) by omega])
  refine ⟨F2,a1.app b1,fun j q' hj t ht=>?_,fun r hr=>(b3 r ae).trans (a3 r ae (by unfold pz; omega))⟩
  cases j with
  | zero=>cases hj; rw [j7,b3 _ ae]; exact a2 t ht
  | succ j=>
   have:=b2 j q' hj t ht
   rwa [show i+1+j=i+(j+1) by omega] at this
theorem aaY {A B:Int} {e:Nat} {G:Nat->Nat->Int} (he:1<=e) (xA:e<n) (hG:∀t,t<n->sup (e - 1) (G t)):∀(m:Nat) {F:Fr},m<=e->(∀j,j<=m->j<e->∀t,t<n->F (pl n j) t=G t j)->
  ∃F',Rn (3*n+1) n F (QH n A B e m) F'/\(∀j,j<=m->∀t,t<n->F' (pl n j) t=lm A B (G t) j)/\∀r:Int,r≠pz n->(∀j,j<=m->r≠pl n j)->F' r=F r:=by
 have Ud:0<=pz n/\pz n<((3*n+1:Nat):Int):=by unfold pz; omega
 have tX:∀j,j<n->0<=pl n j/\pl n j<((3*n+1:Nat):Int)/\pl n j≠pz n:=fun j hj=>by unfold pl pz; omega
 have QJ:∀i j,i≠j->pl n i≠pl n j:=fun i j h=>by unfold pl; omega
 have one:∀(m:Nat) {F:Fr},m<=e->(∀j,j<=m->j<e->∀t,t<n->F (pl n j) t=G t j)->∃F',Rn (3*n+1) n F (IJ n A B e m) F'/\(∀t,t<n->F' (pl n m) t=lm A B (G t) m)/\∀r:Int,r≠pz n->r≠pl n m->F' r=F r:=fun m F hm hF=>by
  unfold IJ
  by_cases w:m=e
  ·subst w
   rw [aR rfl]
   refine ⟨_,lq ⟨(tX m xA).1,(tX m xA).2.1⟩ ⟨(tX (m - 1) ae).1,(tX (m - 1) ae).2.1⟩,fun t ht=>?_,fun r _ a2=>b8 a2⟩
   rw [bZ,hF (m - 1) ae ae t ht]
   unfold lm
   rw [hG t ht m ae]
   cases m with
   | zero=>omega
   | succ m=>show G t m*-B=A*0 - B*G t m; rw [BI,mL,Int.zero_sub,gn]
  ·rw [aQ w]
   have BZ:=tX m ae
   by_cases w0:0<m
   ·rw [aR w0,aR w0]
    have wM:=tX (m - 1) ae
    refine ⟨_,((lq Ud ⟨wM.1,wM.2.1⟩).app (lq (c:=A) ⟨BZ.1,BZ.2.1⟩ ⟨BZ.1,BZ.2.1⟩)).app (FY ⟨BZ.1,BZ.2.1⟩ ⟨BZ.1,BZ.2.1⟩ Ud),fun t ht=>?_,fun r a1 a2=>by rw [b8 a2,b8 a2,b8 a1]⟩
    rw [bZ,bZ,b8 BZ.2.2,b8 (qm BZ.2.2),bZ,hF m (aY _) ae t ht,hF (m - 1) ae ae t ht]
    unfold lm
    cases m with
    | zero=>omega
    | succ m=>show G t (m+1)*A - G t m*B=_; rw [gn A,gn B]; rfl
   ·rw [aQ w0,aQ w0]
    refine ⟨_,(Rn.nil.app (lq (t:=pl n m) (a:=pl n m) (c:=A) ⟨BZ.1,BZ.2.1⟩ ⟨BZ.1,BZ.2.1⟩)).app Rn.nil,fun t ht=>?_,fun r a1 a2=>b8 a2⟩
    rw [bZ,hF m (aY _) ae t ht]
    obtain rfl:m=0:=ae
    unfold lm
    rw [gn]; simp [qv]
 intro m
 induction m with
 | zero=>
  intro F hm hF
  obtain ⟨F',a1,a2,a3⟩:=one 0 hm hF
  exact ⟨F',a1,fun j hj t ht=>by rw [Nat.le_zero.1 hj]; exact a2 t ht,fun r h1 h2=>a3 r h1 (h2 0 (aY _))⟩
 | succ m ih=>
  intro F hm hF
  obtain ⟨F1,a1,a2,a3⟩:=one (m+1) hm hF
  obtain ⟨F2,b1,b2,b3⟩:=ih (F:=F1) ae (fun j hj hje t ht=>by rw [a3 _ (tX j ae).2.2 (QJ _ _ ae)]; exact hF j ae hje t ht)
  refine ⟨F2,a1.app b1,fun j hj t ht=>?_,fun r h1 h2=>(b3 r h1 fun j hj=>h2 j ae).trans (a3 r h1 (h2 (m+1) (aY _)))⟩
  by_cases w:j=m+1
  ·subst w
   rw [b3 _ (tX (m+1) ae).2.2 fun i hi=>QJ _ _ ae]
   exact a2 t ht
  ·exact b2 j ae t ht
def zR (n _e:Nat) (V:Nat->Int) (u v:Int) (d:Nat) (F:Fr) (th:List Bool) (j:Nat):Prop:=(gb th j=true->∀t,t<n->F (fm n j) t=V t*pc u v d j)/\(gb th j=false->pc u v d j=0)
theorem IM {th:List Bool} {j i:Nat} {b:Bool} (hj:j<th.length):gb (th.set j b) i=if i=j then b else gb th i:=by
 unfold gb
 rw [aF,aF,td]
 by_cases w:j=i
 ·subst w; simp [hj]
 ·rw [aQ w,aQ (qm w)]
theorem QK {e d j:Nat} {V:Nat->Int} {u v:Int} {F:Fr} {th:List Bool} (hj:j<=e) (xA:e<n) (VQ:th.length=e+1) (h1:zR n e V u v d F th j) (h2:0<j->zR n e V u v d F th (j - 1)):
  ∃F',Rn (3*n+1) n F (F5 n u v j th) F'/\zR n e V u v (d+1) F' (sa u v j th) j/\∀r:Int,r≠pz n->r≠fm n j->F' r=F r:=by
 have Ud:0<=pz n/\pz n<((3*n+1:Nat):Int):=by unfold pz; omega
 have Nf:∀j,j<n->(0<=fm n j/\fm n j<((3*n+1:Nat):Int))/\fm n j≠pz n:=fun j hj=>by unfold fm pz; omega
 have MG:=Nf j ae
 have hfi:=Nf (j - 1) ae
 have hT:gb (sa u v j th) j=(kp v j th || i' u j th):=by unfold sa; rw [IM ae,aR rfl]
 have hpc:pc u v (d+1) j=u*qv (pc u v d) j+v*pc u v d j:=rfl
 have tB:i' u j th=true->0<j/\∀t,t<n->F (fm n (j - 1)) t=V t*qv (pc u v d) j:=fun w=>by
  unfold i' at w
  simp only [fB,decide_eq_true_eq] at w
  refine ⟨w.1.1,fun t ht=>?_⟩
  rw [(h2 w.1.1).1 w.1.2 t ht]
  obtain ⟨i,rfl⟩:∃i,j=i+1:=⟨j - 1,by omega⟩
  rfl
 have YZ:i' u j th=false->u*qv (pc u v d) j=0:=fun w=>by
  unfold i' at w
  by_cases c:0<j
  ·by_cases c2:u=0
   ·rw [c2,jI]
   ·have:gb th (j - 1)=false:=by
     cases hb:gb th (j - 1) with
     | false=>rfl
     | true=>rw [hb] at w; simp [c,c2] at w
    have:=(h2 c).2 this
    obtain ⟨i,rfl⟩:∃i,j=i+1:=⟨j - 1,by omega⟩
    show u*pc u v d i=0
    rw [show pc u v d i=0 from this,mL]
  ·obtain rfl:j=0:=ae
   show u*0=0
   exact mL _
 have Fg:kp v j th=true->∀t,t<n->F (fm n j) t=V t*pc u v d j:=fun w=>by
  unfold kp at w
  simp only [fB] at w
  exact h1.1 w.1
 have Y0:kp v j th=false->v*pc u v d j=0:=fun w=>by
  unfold kp at w
  by_cases c2:v=0
  ·rw [c2,jI]
  ·have:gb th j=false:=by
    cases hb:gb th j with
    | false=>rfl
    | true=>rw [hb] at w; simp [c2] at w
   rw [h1.2 this,mL]
 unfold F5 zR
 rw [hT]
 cases hl:i' u j th with
 | true=>
  obtain ⟨hj0,wJ⟩:=tB hl
  have s1:=lq (g:=3*n+1) (n:=n) (F:=F) (t:=pz n) (a:=fm n (j - 1)) (c:=u) Ud hfi.1
  cases ho:kp v j th with
  | true=>
   refine ⟨_,s1.app ((lq (t:=fm n j) (a:=fm n j) (c:=v) MG.1 MG.1).app (K0 MG.1 MG.1 Ud)),⟨fun _ t ht=>?_,fun w=>by cases w⟩,fun r a1 a2=>by rw [b8 a2,b8 a2,b8 a1]⟩
   rw [bZ,bZ,b8 MG.2,b8 (qm MG.2),bZ,Fg ho t ht,wJ t ht,hpc,EW]
   rw [fR,fR,gn _ v,gn _ u,Int.add_comm]
  | false=>
   refine ⟨_,s1.app (lq (t:=fm n j) (a:=pz n) (c:=1) MG.1 Ud),⟨fun _ t ht=>?_,fun w=>by cases w⟩,fun r a1 a2=>by rw [b8 a2,b8 a1]⟩
   rw [bZ,bZ,wJ t ht,hpc,Y0 ho,uj,qL,fR,gn _ u]
 | false=>
  cases ho:kp v j th with
  | true=>
   refine ⟨_,Rn.nil.app (lq (t:=fm n j) (a:=fm n j) (c:=v) MG.1 MG.1),⟨fun _ t ht=>?_,fun w=>by cases w⟩,fun r a1 a2=>b8 a2⟩
   rw [bZ,Fg ho t ht,hpc,YZ hl,Int.zero_add,fR,gn _ v]
  | false=>
   exact ⟨F,Rn.nil.app Rn.nil,⟨fun w=>(by cases w),fun _=>by rw [hpc,YZ hl,Y0 ho]; rfl⟩,fun _ _ _=>rfl⟩
theorem DH (u v:Int) (j:Nat) (th:List Bool):(sa u v j th).length=th.length:=by unfold sa; rw [cH]
theorem DI (n:Nat) (u v:Int):∀(j:Nat) (th:List Bool),(x7 n u v j th).2.length=th.length
 | 0,th=>DH u v 0 th
 | j+1,th=>by rw [x7]; dsimp only; rw [DI n u v j,DH]
theorem DJ (n:Nat) (u v:Int):∀(m d:Nat) (th:List Bool),(IK n u v d m th).2.length=th.length
 | 0,_,_=>rfl
 | m+1,d,th=>by rw [IK]; dsimp only; rw [DJ n u v m,DI]
theorem aaZ {e d:Nat} {V:Nat->Int} {u v:Int} (xA:e<n):∀(m:Nat) {F:Fr} {th:List Bool},m<=e->th.length=e+1->(∀j,j<=m->zR n e V u v d F th j)->
  ∃F',Rn (3*n+1) n F (x7 n u v m th).1 F'/\(∀j,j<=m->zR n e V u v (d+1) F' (x7 n u v m th).2 j)/\(∀r:Int,r≠pz n->(∀j,j<=m->r≠fm n j)->F' r=F r)/\∀j,m<j->gb (x7 n u v m th).2 j=gb th j:=by
 have Nf:∀j,j<n->fm n j≠pz n:=fun j hj=>by unfold fm pz; omega
 have QJ:∀i j,i≠j->fm n i≠fm n j:=fun i j h=>by unfold fm; omega
 intro m
 induction m with
 | zero=>
  intro F th hm VQ h
  obtain ⟨F',a1,a2,a3⟩:=QK hm xA VQ (h 0 (aY _)) (fun w=>absurd w ae)
  refine ⟨F',a1,fun j hj=>by rw [Nat.le_zero.1 hj]; exact a2,fun r h1 h2=>a3 r h1 (h2 0 (aY _)),fun j hj=>?_⟩
  show gb (sa u v 0 th) j=_
  unfold sa
  rw [IM ae,aQ ae]
 | succ m ih=>
  intro F th hm VQ h
  obtain ⟨F1,a1,a2,a3⟩:=QK hm xA VQ (h (m+1) (aY _)) (fun _=>h m ae)
  have UH:∀j,j≠m+1->gb (sa u v (m+1) th) j=gb th j:=fun j hj=>by unfold sa; rw [IM ae,aQ hj]
  obtain ⟨F2,b1,b2,b3,b4⟩:=ih (F:=F1) (th:=sa u v (m+1) th) ae (by rw [DH]; exact VQ) (fun j hj=>by
   have:=h j ae
   unfold zR at this ⊢
   rw [UH j ae,a3 _ (Nf j ae) (QJ _ _ ae)]
   exact this)
  refine ⟨F2,a1.app b1,fun j hj=>?_,fun r h1 h2=>(b3 r h1 fun j hj=>h2 j ae).trans (a3 r h1 (h2 (m+1) (aY _))),fun j hj=>?_⟩
  ·by_cases w:j=m+1
   ·subst w
    unfold zR at a2 ⊢
    rw [show gb (x7 n u v (m+1) th).2 (m+1)=gb (sa u v (m+1) th) (m+1) from b4 (m+1) ae,b3 _ (Nf (m+1) ae) fun i hi=>QJ _ _ ae]
    exact a2
   ·exact b2 j ae
  ·show gb (x7 n u v m (sa u v (m+1) th)).2 j=_
   rw [b4 j ae,UH j ae]
theorem aa0 {e:Nat} {V:Nat->Int} {u v:Int} (xA:e<n):∀(m d:Nat) {F:Fr} {th:List Bool},d+m=e->th.length=e+1->(∀j,j<=e->zR n e V u v d F th j)->(∀j,d<j->gb th j=false)->
  ∃F',Rn (3*n+1) n F (IK n u v (d+1) m th).1 F'/\(∀j,j<=e->zR n e V u v e F' (IK n u v (d+1) m th).2 j)/\∀r:Int,r≠pz n->(∀j,j<=e->r≠fm n j)->F' r=F r:=by
 intro m
 induction m with
 | zero=>
  intro d F th hd VQ h _
  obtain rfl:d=e:=ae
  exact ⟨F,Rn.nil,h,fun _ _ _=>rfl⟩
 | succ m ih=>
  intro d F th hd VQ h hz
  obtain ⟨F1,a1,a2,a3,a4⟩:=aaZ xA (d+1) ae VQ (fun j hj=>h j ae)
  have hz':∀j,d+1<j->gb (x7 n u v (d+1) th).2 j=false:=fun j hj=>by rw [a4 j hj]; exact hz j ae
  obtain ⟨F2,b1,b2,b3⟩:=ih (d+1) ae (by rw [DI]; exact VQ) (fun j hj=>by
   by_cases w:j<=d+1
   ·exact a2 j w
   ·refine ⟨fun q=>?_,fun _=>zN u v (d+1) j ae⟩
    rw [hz' j ae] at q; cases q) hz'
  exact ⟨F2,a1.app b1,b2,fun r h1 h2=>(b3 r h1 h2).trans (a3 r h1 fun j hj=>h2 j ae)⟩
theorem K9 {e:Nat} {V:Nat->Int} {u v:Int} {L:Nat->Nat->Int} (xA:e<n):∀(th:List Bool) (i:Nat) {F:Fr},i+th.length=e+1->(∀j,j<th.length->(gb th j=true->∀t,t<n->F (fm n (i+j)) t=V t*pc u v e (i+j))/\(gb th j=false->pc u v e (i+j)=0))->(∀j,j<th.length->∀t,t<n->F (pl n (i+j)) t=L t (i+j))->
  ∃F',Rn (3*n+1) n F (xz n i th) F'/\(∀j,j<th.length->∀t,t<n->F' (pl n (i+j)) t=L t (i+j)+V t*pc u v e (i+j))/\∀r:Int,(∀j,i<=j->j<=e->r≠pl n j)->F' r=F r
 | [],i,F,_,_,_=>⟨F,Rn.nil,fun j h=>absurd h cT,fun _ _=>rfl⟩
 | b::th,i,F,hi,h1,h2=>by
  rw [dy] at hi h1 h2
  have tX:0<=pl n i/\pl n i<((3*n+1:Nat):Int):=by unfold pl; omega
  have Nf:0<=fm n i/\fm n i<((3*n+1:Nat):Int):=by unfold fm; omega
  have s:∃F1,Rn (3*n+1) n F (if b then [(3,pl n i,pl n i,fm n i,0)] else []) F1/\(∀t,t<n->F1 (pl n i) t=L t i+V t*pc u v e i)/\∀r,r≠pl n i->F1 r=F r:=by
   have g1:=h1 0 ae
   have g2:=h2 0 ae
   rw [j7] at g1 g2
   cases b with
   | true=>
    refine ⟨_,K0 tX tX Nf,fun t ht=>?_,fun r hr=>b8 hr⟩
    rw [bZ,g2 t ht,g1.1 rfl t ht]
   | false=>exact ⟨F,Rn.nil,fun t ht=>by rw [g2 t ht,g1.2 rfl,mL,uj],fun _ _=>rfl⟩
  obtain ⟨F1,a1,a2,a3⟩:=s
  obtain ⟨F2,b1,b2,b3⟩:=K9 (v:=v) (L:=L) xA th (i+1) (F:=F1) ae (fun j hj=>by
   have:=h1 (j+1) ae
   rw [show i+(j+1)=i+1+j by omega] at this
   rw [a3 _ (by unfold fm pl; omega)]
   exact this) (fun j hj t ht=>by
   have:=h2 (j+1) ae t ht
   rw [show i+(j+1)=i+1+j by omega] at this
   rw [a3 _ (by unfold pl; omega)]
   exact this)
  refine ⟨F2,a1.app b1,fun j hj t ht=>?_,fun r hr=>(b3 r fun j h1 h2=>hr j ae h2).trans (a3 r (hr i (aY _) ae))⟩
  cases j with
  | zero=>rw [j7,b3 _ fun j _ _=>by unfold pl; omega]; exact a2 t ht
  | succ j=>
   rw [dy] at hj
   have:=b2 j ae t ht
   rwa [show i+1+j=i+(j+1) by omega] at this
theorem aa2 {p:Pt} {k e:Nat} {G:Nat->Nat->Int} {V:Nat->Int} {F:Fr} (he:1<=e) (xA:e<n) (hk:k<n) (hG:∀t,t<n->sup (e - 1) (G t)) (hF:∀j,j<e->∀t,t<n->F (pl n j) t=G t j) (hV:∀t,t<n->F ((k:Nat):Int) t=V t):
  ∃F',Rn (3*n+1) n F (IL n p ((k:Nat):Int) e) F'/\(∀j,j<=e->∀t,t<n->F' (pl n j) t=lm p.1 p.2 (G t) j+V t*pc (bz p).2.1 (bz p).2.2 e j)/\∀r:Int,r<n->F' r=F r:=by
 have tX:∀j,pl n j=((n+j:Nat):Int):=fun _=>rfl
 have Nf:∀j,fm n j=((2*n+j:Nat):Int):=fun _=>rfl
 have Ud:pz n=((3*n:Nat):Int):=rfl
 obtain ⟨F1,a1,a2,a3⟩:=aaY (A:=p.1) (B:=p.2) he xA hG e (F:=F) (aY _) (fun j _ hj=>hF j hj)
 have ak':∀t,t<n->F1 ((k:Nat):Int) t=V t:=fun t ht=>by rw [a3 _ ae fun j _=>by rw [tX]; omega]; exact hV t ht
 have s0:=lq (g:=3*n+1) (n:=n) (F:=F1) (t:=fm n 0) (a:=((k:Nat):Int)) (c:=1) (by rw [Nf]; omega) ae
 obtain ⟨F2,b1,b2,b3⟩:=aa0 (V:=V) (u:=(bz p).2.1) (v:=(bz p).2.2) xA e 0 (F:=jO F1 (fm n 0) fun j=>F1 ((k:Nat):Int) j*1) (th:=Uc e) (fz _) (by unfold Uc; simp) (fun j hj=>by
  unfold zR Uc gb
  cases j with
  | zero=>exact ⟨fun _ t ht=>by rw [bZ,ak' t ht]; rfl,fun w=>by simp at w⟩
  | succ j=>exact ⟨fun w=>(by rw [List.getD_cons_succ,aF,iN] at w; split at w<;>cases w),fun _=>rfl⟩) (fun j hj=>by
  unfold Uc gb
  cases j with
  | zero=>omega
  | succ j=>rw [List.getD_cons_succ,aF,iN]; split<;>rfl)
 have hlen:(zQ n p ((k:Nat):Int) e).2.length=e+1:=by unfold zQ; dsimp only; rw [DJ]; unfold Uc; simp
 obtain ⟨F3,c1,c2,c3⟩:=K9 (V:=V) (u:=(bz p).2.1) (v:=(bz p).2.2) (L:=fun t=>lm p.1 p.2 (G t)) xA (zQ n p ((k:Nat):Int) e).2 0 (F:=F2) (by rw [hlen,fz]) (fun j hj=>by
  rw [fz]
  exact b2 j ae) (fun j hj t ht=>by
  rw [fz,b3 _ (by rw [tX]; omega) fun i _=>by rw [tX,Nf]; omega,b8 (by rw [tX,Nf]; omega)]
  exact a2 j ae t ht)
 refine ⟨F3,(a1.app (s0.app b1)).app c1,fun j hj t ht=>?_,fun r hr=>?_⟩
 ·have:=c2 j ae t ht
  rwa [fz] at this
 ·rw [c3 r fun j _ _=>by rw [tX]; omega,b3 r ae fun j _=>by rw [Nf]; omega,b8 (by rw [Nf]; omega)]
  exact a3 r ae fun j _=>by rw [tX]; omega
theorem La:∀(l:List Pt) (k:Nat) {F:Fr} {c:Nat->Nat->Int},l≠[]->k+l.length=n->(∀p∈l,K8 p)->l.Pairwise (fun p q=>p.1*q.2 - q.1*p.2≠0)->(∀t,t<n->sup (l.length - 1) (c t))->
  (∀(j:Nat) q,l[j]?=some q->∀t,t<n->F ((k+j:Nat):Int) t=ev (l.length - 1) (c t) q.1 q.2)->
  ∃F',Rn (3*n+1) n F (core n k l) F'/\(∀j,j<l.length->∀t,t<n->F' (pl n j) t=c t j)/\∀r:Int,r<((k:Nat):Int)->F' r=F r
 | [],_,_,_,h,_,_,_,_,_=>absurd rfl h
 | [p],k,F,c,_,hk,_,_,_,hl=>by
  rw [dG] at hk
  refine ⟨_,lq (by unfold pl; omega) ae,fun j hj t ht=>?_,fun r hr=>b8 (by unfold pl; omega)⟩
  rw [dG] at hj
  obtain rfl:j=0:=ae
  rw [bZ,qL]
  have:=hl 0 p rfl t ht
  rwa [j7] at this
 | p::q::l,k,F,c,_,hk,hp,hpw,hc,hl=>by
  have hlen:(p::q::l).length - 1=l.length+1:=by simp
  rw [hlen] at hc hl
  have QL:k+(l.length+1+1)=n:=hk
  have Hx:=hp p (bS ..)
  obtain ⟨ala,alb⟩:=qe.1 hpw
  have Ue:∀t,∃g:Nat->Int,t<n->sup (l.length+1 - 1) g/\∀j,c t j=ev (l.length+1) (c t) p.1 p.2*pc (bz p).2.1 (bz p).2.2 (l.length+1) j+lm p.1 p.2 g j:=fun t=>by
   by_cases ht:t<n
   ·obtain ⟨g,_,g1,g2⟩:=zO Hx.one (l.length+1) (c t) (hc t ht)
    exact ⟨g,fun _=>⟨g1,g2⟩⟩
   ·exact ⟨fun _=>0,fun h=>absurd h ht⟩
  obtain ⟨G,hG⟩:=Classical.axiomOfChoice Ue
  have hV:∀t,t<n->F ((k:Nat):Int) t=ev (l.length+1) (c t) p.1 p.2:=fun t ht=>by have:=hl 0 p rfl t ht; rwa [j7] at this
  obtain ⟨F1,a1,a2,a3⟩:=QI Hx ae ae (fun t ht=>(hG t ht).2) (fun t ht=>(hG t ht).1) (q::l) (k+1) ae (by rw [dy]; omega) ala hV (fun j q' hj t ht=>by
   have:=hl (j+1) q' hj t ht
   rwa [show k+1+j=k+(j+1) by omega])
  obtain ⟨F2,b1,b2,b3⟩:=La (q::l) (k+1) (c:=G) cT (by rw [dy]; omega) (fun p hm=>hp p (cO _ hm)) alb (fun t ht=>(hG t ht).1) a2
  obtain ⟨F3,c1,c2,c3⟩:=aa2 (n:=n) (p:=p) (k:=k) (e:=l.length+1) (G:=G) (V:=fun t=>ev (l.length+1) (c t) p.1 p.2) (F:=F2) ae ae ae (fun t ht=>(hG t ht).1) (fun j hj=>b2 j (by rw [dy]; exact hj)) (fun t ht=>by rw [b3 _ ae,a3 _ ae]; exact hV t ht)
  refine ⟨F3,(a1.app b1).app c1,fun j hj t ht=>?_,fun r hr=>?_⟩
  ·rw [c2 j (by simp at hj; omega) t ht,(hG t ht).2 j]; omega
  ·rw [c3 r ae,b3 r ae,a3 r ae]
end
def Ng (t c:Int):Nat->List IE
 | 0=>[]
 | m+1=>tY t c++Ng t c m
def Nh (n:Nat):Nat->List Pt->List IE
 | _,[]=>[]
 | k,p::l=>Ng ((k:Nat):Int) (bz p).1 (n - 1)++Nh n (k+1) l
def nS (l:List Pt):List IE:=Nh l.length 0 l++core l.length 0 (l.map whole)
def sX (n:Nat):List Int:=(List.range n).map (pl n)
theorem QM {g n:Nat} {t c:Int} (hc:c≠0) (ht:0<=t/\t<g) {f:Nat->Int}:∀(m:Nat) {F:Fr},(∀j,j<n->F t j=f j*c ^ m)->Rn g n F (Ng t c m) (jO F t f)
 | 0,F,h=>Rn.nil.post fun r _ _ j hj=>by
  unfold jO
  split
  ·rename_i e; rw [e,h j hj,Int.pow_zero,qL]
  ·rfl
 | m+1,F,h=>by
  unfold Ng
  refine (IH (f:=fun j=>f j*c ^ m) hc ht fun j hj=>by rw [h j hj,sM,fR]).app ((QM hc ht m fun j _=>by rw [bZ]).post fun r _ _ j _=>?_)
  unfold jO
  split<;>rfl
theorem Y1 (A B:Int) (t:Nat):∀e,t<=e->ev e (fun j=>if j=t then 1 else 0) A B=A ^ t*B ^ (e - t)
 | 0,h=>by rw [Nat.le_zero.1 h,ev]; simp
 | e+1,h=>by
  rw [ev]
  by_cases w:t=e+1
  ·subst w
   have hz:∀e':Nat,e'<=e->ev e' (fun j=>if j=e+1 then (1:Int) else 0) A B=0:=fun e'=>by
    induction e' with
    | zero=>intro _; rw [ev,aQ (show ¬0=e+1 by omega)]
    | succ e' ih=>intro h'; rw [ev,ih ae,aQ (show ¬e'+1=e+1 by omega)]; simp
   rw [hz e (aY _),aR rfl,mR]; simp
  ·rw [Y1 A B t e ae,aQ ae,jI,uj,nX,show e+1 - t=e - t+1 by omega,sM,gn B]
theorem QN {n:Nat} (hn:1<=n):∀(l:List Pt) (k:Nat) {F:Fr},k+l.length<=n->(∀p∈l,mv p/\¬(p.1=0/\p.2=0))->(∀(j:Nat) p,l[j]?=some p->∀t,t<n->F ((k+j:Nat):Int) t=ma n p t)->
  ∃F',Rn (3*n+1) n F (Nh n k l) F'/\(∀(j:Nat) p,l[j]?=some p->∀t,t<n->F' ((k+j:Nat):Int) t=ma n (whole p) t)/\∀r:Int,r<((k:Nat):Int)->F' r=F r
 | [],k,F,_,_,_=>⟨F,Rn.nil,fun j p h=>(by cases h),fun _ _=>rfl⟩
 | p::l,k,F,hk,hp,hl=>by
  rw [dy] at hk
  obtain ⟨g1,g2,e1,e2,_⟩:=lO (hp p (bS ..)).1 (hp p (bS ..)).2
  have h0:∀t,t<n->F ((k:Nat):Int) t=ma n (whole p) t*(bz p).1 ^ (n - 1):=fun t ht=>by
   have:=hl 0 p rfl t ht
   rw [j7] at this
   rw [this]
   unfold ma
   have hg:(bz p).1 ^ (n - 1)=(bz p).1 ^ t*(bz p).1 ^ (n - 1 - t):=by rw [<- Int.pow_add]; congr 1; omega
   rw [hg]
   conv=>lhs; rw [e1,e2]
   rw [Int.mul_pow,Int.mul_pow]
   simp only [fR,gn,nX]
  have s:=QM (g:=3*n+1) (n:=n) (t:=((k:Nat):Int)) (c:=(bz p).1) (f:=ma n (whole p)) ae ae (n - 1) h0
  obtain ⟨F2,b1,b2,b3⟩:=QN hn l (k+1) (F:=jO F ((k:Nat):Int) (ma n (whole p))) ae (fun p hm=>hp p (cO _ hm)) (fun j q hj t ht=>by
   rw [b8 ae]
   have:=hl (j+1) q hj t ht
   rwa [show k+(j+1)=k+1+j by omega] at this)
  refine ⟨F2,s.app b1,fun j q hj t ht=>?_,fun r hr=>by rw [b3 r ae,b8 ae]⟩
  cases j with
  | zero=>cases hj; rw [j7,b3 _ ae,bZ]
  | succ j=>
   have:=b2 j q hj t ht
   rwa [show k+1+j=k+(j+1) by omega] at this
structure iA (l:List Pt):Prop where
 some_:1<=l.length/\l.length<=15
 qH:∀p∈l,mv p/\¬(p.1=0/\p.2=0)
 apart:l.Pairwise fun p q=>p.1*q.2 - q.1*p.2≠0
theorem wX {l:List Pt} (h:iA l):(l.map whole).Pairwise fun p q=>p.1*q.2 - q.1*p.2≠0:=by
 rw [List.pairwise_map]
 refine h.apart.imp_of_mem fun {p q} hp hq hd e=>hd ?_
 obtain ⟨_,_,p1,p2,_⟩:=lO (h.qH p hp).1 (h.qH p hp).2
 obtain ⟨_,_,q1,q2,_⟩:=lO (h.qH q hq).1 (h.qH q hq).2
 have:p.1*q.2 - q.1*p.2=((whole p).1*(whole q).2 - (whole q).1*(whole p).2)*((bz p).1*(bz q).1):=by
  conv=>lhs; rw [p1,p2,q1,q2]
  rw [Int.sub_mul]
  simp only [fR,gn,nX]
 rw [this,e,jI]
def Bb (l:List Pt):List Rw:=l.map fun p=>rf l.length (ma l.length p)
theorem aa3 {l:List Pt} (h:iA l):∃R',kX (ie (3*l.length+1) l.length (Bb l)) (nS l)=some R'/\(sX l.length).map (eQ R')=wW l.length:=by
 have hn:=h.some_.1
 have oE:Bb l=(List.range l.length).map fun m=>rf l.length (ma l.length (l.getD m (0,0))):=by
  unfold Bb
  apply kV
  intro i
  rw [bo,bo]
  by_cases c:i<l.length
  ·rw [fQ c,aw c]
   simp [aF,c]
  ·rw [dz ae,dz (by simpa using c)]; rfl
 have QF:=QE (g:=3*l.length+1) (k:=l.length) (n:=l.length) (f:=fun m=>ma l.length (l.getD m (0,0))) ae
 rw [<- oE] at QF
 obtain ⟨F1,a1,a2,_⟩:=QN (n:=l.length) hn l 0 (F:=fun r=>if r<l.length then ma l.length (l.getD r.toNat (0,0)) else fun _=>0) ae h.qH (fun j p hj t _=>by
  have hjl:=(bU.1 hj).1
  rw [aR ae,mJ,fz,aF,hj]
  rfl)
 obtain ⟨F2,b1,b2,_⟩:=La (n:=l.length) (l.map whole) 0 (F:=F1) (c:=fun t j=>if j=t then 1 else 0) (by intro e; rw [List.map_eq_nil_iff] at e; rw [e] at hn; simp at hn) cT (fun p hp=>by
  obtain ⟨q,hq,rfl⟩:=ff.1 hp
  exact (lO (h.qH q hq).1 (h.qH q hq).2).2.2.2.2) (wX h) (fun t ht j hj=>by rw [aZ] at hj; exact aQ ae) (fun j q hj t ht=>by
  rw [bo] at hj
  cases hp:l[j]? with
  | none=>rw [hp] at hj; cases hj
  | some p=>
   rw [hp] at hj
   cases hj
   rw [a2 j p hp t ht,aZ,Y1 _ _ t _ ae]
   rfl)
 obtain ⟨R',h1,h2⟩:=(a1.app b1) _ QF
 refine ⟨R',h1,?_⟩
 unfold sX wW
 rw [ox]
 refine jh fun m hm=>?_
 have BZ:=nZ.1 hm
 show eQ R' (pl l.length m)=_
 rw [h2.2 _ (by unfold pl; omega) (by unfold pl; omega)]
 refine zI fun t ht=>?_
 rw [b2 m (by simpa using BZ) t ht]
 unfold Ba
 by_cases c:m=t
 ·rw [aR c,aR c.symm]
 ·rw [aQ c,aQ (qm c)]
theorem pQ {x y:Int} (hx:-16<=x/\x<=16) (hy:-16<=y/\y<=16):-256<=x*y/\x*y<=256:=by
 have:(x*y).natAbs<=16*16:=by rw [lH]; exact fG ae ae
 omega
theorem Lb {g t c:Int} (ht:0<=t/\t<g) (hc:c≠0/\-512<=c/\c<=512):∀m,∀e∈Ng t c m,cN e g
 | 0,e,he=>by cases he
 | m+1,e,he=>by
  unfold Ng at he
  rcases b6.1 he with q | q
  ·exact K6 ht hc e q
  ·exact Lb ht hc m e q
theorem Lc (t c:Int):∀m,(Ng t c m).length<=m
 | 0=>aY _
 | m+1=>by unfold Ng; rw [aP]; have:=K7 t c; have:=Lc t c m; omega
theorem Ld {n:Nat}:∀(l:List Pt) (k:Nat),k+l.length<=n->(∀p∈l,mv p/\¬(p.1=0/\p.2=0))->∀e∈Nh n k l,cN e ((3*n+1:Nat):Int)
 | [],_,_,_,e,he=>by cases he
 | p::l,k,hk,hp,e,he=>by
  rw [dy] at hk
  obtain ⟨g1,g2,_⟩:=lO (hp p (bS ..)).1 (hp p (bS ..)).2
  unfold Nh at he
  rcases b6.1 he with q | q
  ·exact Lb ae ae _ e q
  ·exact Ld l (k+1) ae (fun p hm=>hp p (cO _ hm)) e q
theorem Le (n:Nat):∀(l:List Pt) (k:Nat),(Nh n k l).length<=(n - 1)*l.length
 | [],_=>bm _
 | p::l,k=>by
  unfold Nh
  rw [aP,dy,sL]
  have:=Lc ((k:Nat):Int) (bz p).1 (n - 1)
  have:=Le n l (k+1)
  omega
theorem VR {n:Nat} {p q:Pt} {k i:Int} {e:Nat} (hp:K8 p) (hq:K8 q) (hd:p.1*q.2 - q.1*p.2≠0) (hk:0<=k/\k<n) (hi:0<=i/\i<n):∀f∈Oq n p q k i e,cN f ((3*n+1:Nat):Int):=fun f hf=>by
 have b1:=pQ hp.u hq.qH.1
 have b2:=pQ hp.v hq.qH.2
 have b3:=pQ hp.qH.1 hq.qH.2
 have b4:=pQ hq.qH.1 hp.qH.2
 unfold Oq at hf
 rcases b6.1 hf with c | c
 ·split at c
  ·rcases b6.1 c with c | c
   ·exact VO (by unfold pz; omega) ae ae f c
   ·obtain rfl:=cC.1 c; unfold cN pz; dsimp only; omega
  ·cases c
 ·exact K6 ae ⟨hd,by omega,by omega⟩ f c
theorem VS (n:Nat) (p q:Pt) (k i:Int) (e:Nat):(Oq n p q k i e).length<=e+3:=by
 unfold Oq
 rw [aP]
 have:=K7 i (p.1*q.2 - q.1*p.2)
 split
 ·rw [aP,dG]
  have:=VP (pz n) k ((bz p).2.1*q.1+(bz p).2.2*q.2) e
  omega
 ·simp; omega
theorem Lf {n:Nat} {p:Pt} {k e:Nat} (hp:K8 p) (hk:k<n):∀(l:List Pt) (i:Nat),i+l.length<=n->(∀q∈l,K8 q/\p.1*q.2 - q.1*p.2≠0)->∀f∈Cn n p ((k:Nat):Int) e i l,cN f ((3*n+1:Nat):Int)
 | [],_,_,_,f,hf=>by cases hf
 | q::l,i,hi,hl,f,hf=>by
  rw [dy] at hi
  unfold Cn at hf
  have hq:=hl q (bS ..)
  rcases b6.1 hf with c | c
  ·exact VR hp hq.1 hq.2 ae ae f c
  ·exact Lf hp hk l (i+1) ae (fun q hm=>hl q (cO _ hm)) f c
theorem DK (n:Nat) (p:Pt) (k:Int) (e:Nat):∀(l:List Pt) (i:Nat),(Cn n p k e i l).length<=(e+3)*l.length
 | [],_=>bm _
 | q::l,i=>by
  unfold Cn
  rw [aP,dy,sL]
  have:=VS n p q k ((i:Nat):Int) e
  have:=DK n p k e l (i+1)
  omega
theorem VT {n e:Nat} {A B:Int} (xA:e<n) (hA:-16<=A/\A<=16) (hB:-16<=B/\B<=16):∀m,m<=e->∀f∈QH n A B e m,cN f ((3*n+1:Nat):Int):=by
 have one:∀m,m<=e->∀f∈IJ n A B e m,cN f ((3*n+1:Nat):Int):=fun m hm f hf=>by
  unfold IJ at hf
  split at hf
  ·exact j3 (by unfold pl; omega) (by unfold pl; omega) ae f hf
  ·rcases b6.1 hf with c | c
   ·rcases b6.1 c with c | c
    ·split at c
     ·exact j3 (by unfold pz; omega) (by unfold pl; omega) ae f c
     ·cases c
    ·exact j3 (by unfold pl; omega) (by unfold pl; omega) ae f c
   ·split at c
    ·obtain rfl:=cC.1 c; unfold cN pl pz; dsimp only; omega
    ·cases c
 intro m
 induction m with
 | zero=>exact fun h=>one 0 h
 | succ m ih=>
  intro h f hf
  unfold QH at hf
  rcases b6.1 hf with c | c
  ·exact one (m+1) h f c
  ·exact ih ae f c
theorem VU (n:Nat) (A B:Int) (e:Nat):∀m,(QH n A B e m).length<=3*(m+1):=by
 have one:∀m,(IJ n A B e m).length<=3:=fun m=>by
  unfold IJ
  split
  ·have:=kO (pl n e) (pl n (e - 1)) (-B); omega
  ·have h1:=kO (pz n) (pl n (m - 1)) B
   have h2:=kO (pl n m) (pl n m) A
   rw [aP,aP]
   by_cases c:0<m
   ·rw [aR c,aR c,dG]; omega
   ·rw [aQ c,aQ c]; simp; omega
 intro m
 induction m with
 | zero=>exact one 0
 | succ m ih=>unfold QH; rw [aP]; have:=one (m+1); omega
theorem VV {n e:Nat} {u v:Int} (xA:e<n) (hu:-16<=u/\u<=16) (hv:-16<=v/\v<=16):∀m,m<=e->∀th,∀f∈(x7 n u v m th).1,cN f ((3*n+1:Nat):Int):=by
 have one:∀m,m<=e->∀th,∀f∈F5 n u v m th,cN f ((3*n+1:Nat):Int):=fun m hm th f hf=>by
  unfold F5 at hf
  rcases b6.1 hf with c | c
  ·split at c
   ·exact j3 (by unfold pz; omega) (by unfold fm; omega) ae f c
   ·cases c
  split at c
  ·rcases b6.1 c with c | c
   ·exact j3 (by unfold fm; omega) (by unfold fm; omega) ae f c
   ·obtain rfl:=cC.1 c; unfold cN fm pz; dsimp only; omega
  split at c
  ·exact j3 (by unfold fm; omega) (by unfold fm; omega) ae f c
  split at c
  ·exact j3 (by unfold fm; omega) (by unfold pz; omega) ae f c
  ·cases c
 intro m
 induction m with
 | zero=>exact fun h=>one 0 h
 | succ m ih=>
  intro h th f hf
  unfold x7 at hf
  rcases b6.1 hf with c | c
  ·exact one (m+1) h th f c
  ·exact ih ae _ f c
theorem QO (n:Nat) (u v:Int):∀m th,((x7 n u v m th).1).length<=3*(m+1):=by
 have one:∀m th,(F5 n u v m th).length<=3:=fun m th=>by
  unfold F5
  rw [aP]
  have h1:=kO (pz n) (fm n (m - 1)) u
  have h2:=kO (fm n m) (fm n m) v
  have h3:=kO (fm n m) (pz n) 1
  have h4:(if i' u m th then gy (pz n) (fm n (m - 1)) u else []).length<=1:=by split; exact h1; exact bm _
  have h5:(if kp v m th && i' u m th then gy (fm n m) (fm n m) v++[(3,fm n m,fm n m,pz n,0)] else if kp v m th then gy (fm n m) (fm n m) v else if i' u m th then gy (fm n m) (pz n) 1 else []).length<=2:=by
   split
   ·rw [aP,dG]; omega
   split
   ·omega
   split
   ·omega
   ·exact bm _
  omega
 intro m
 induction m with
 | zero=>exact fun th=>one 0 th
 | succ m ih=>intro th; unfold x7; dsimp only; rw [aP]; have:=one (m+1) th; have:=ih (sa u v (m+1) th); omega
theorem Lg {n e:Nat} {u v:Int} (xA:e<n) (hu:-16<=u/\u<=16) (hv:-16<=v/\v<=16):∀m d th,d+m<=e+1->∀f∈(IK n u v d m th).1,cN f ((3*n+1:Nat):Int)
 | 0,_,_,_,f,hf=>by cases hf
 | m+1,d,th,hd,f,hf=>by
  unfold IK at hf
  rcases b6.1 hf with c | c
  ·exact VV xA hu hv d ae th f c
  ·exact Lg xA hu hv m (d+1) _ ae f c
theorem zS (n:Nat) (u v:Int):∀m d th,((IK n u v d m th).1).length<=3*(d+m)*m
 | 0,_,_=>bm _
 | m+1,d,th=>by
  unfold IK
  dsimp only
  rw [aP]
  have h1:=QO n u v d th
  have h2:=zS n u v m (d+1) (x7 n u v d th).2
  have h3:3*(d+1+m)*m<=3*(d+(m+1))*m:=nY (by congr 2; omega)
  rw [sL]
  omega
theorem F7 {n e:Nat} (xA:e<n):∀(th:List Bool) (i:Nat),i+th.length<=e+1->∀f∈xz n i th,cN f ((3*n+1:Nat):Int)
 | [],_,_,f,hf=>by cases hf
 | b::th,i,hi,f,hf=>by
  rw [dy] at hi
  unfold xz at hf
  rcases b6.1 hf with c | c
  ·split at c
   ·obtain rfl:=cC.1 c; unfold cN pl fm; dsimp only; omega
   ·cases c
  ·exact F7 xA th (i+1) ae f c
theorem F8 (n:Nat):∀(th:List Bool) (i:Nat),(xz n i th).length<=th.length
 | [],_=>aY _
 | b::th,i=>by
  unfold xz
  rw [aP,dy]
  have:=F8 n th (i+1)
  split<;>simp<;>omega
theorem DL (n:Nat) (p:Pt) (k:Int) (e:Nat):(zQ n p k e).2.length=e+1:=by unfold zQ; dsimp only; rw [DJ]; unfold Uc; simp
theorem VW {n:Nat} {p:Pt} {k e:Nat} (hp:K8 p) (hk:k<n) (xA:e<n):∀f∈IL n p ((k:Nat):Int) e,cN f ((3*n+1:Nat):Int):=fun f hf=>by
 unfold IL at hf
 rcases b6.1 hf with c | c
 ·rcases b6.1 c with c | c
  ·exact VT xA hp.qH.1 hp.qH.2 e (aY _) f c
  ·unfold zQ at c
   rcases b6.1 c with c | c
   ·exact j3 (by unfold fm; omega) ae ae f c
   ·exact Lg xA hp.u hp.v e 1 _ ae f c
 ·exact F7 xA _ 0 (by rw [DL]; omega) f c
theorem Lh {n:Nat} {p:Pt} {k:Int} {e:Nat} (he:e<=14):(IL n p k e).length<=740:=by
 unfold IL
 rw [aP,aP]
 have h1:=VU n p.1 p.2 e e
 have h2:=F8 n (zQ n p k e).2 0
 rw [DL] at h2
 have h3:(zQ n p k e).1.length<=1+3*(1+e)*e:=by
  unfold zQ
  dsimp only
  rw [aP]
  have:=kO (fm n 0) k 1
  have:=zS n (bz p).2.1 (bz p).2.2 e 1 (Uc e)
  omega
 have h4:3*(1+e)*e<=3*(1+14)*14:=fG (gl _ ae) he
 omega
theorem F9 {n:Nat}:∀(l:List Pt) (k:Nat),k+l.length=n->(∀p∈l,K8 p)->l.Pairwise (fun p q=>p.1*q.2 - q.1*p.2≠0)->∀f∈core n k l,cN f ((3*n+1:Nat):Int)
 | [],_,_,_,_,f,hf=>by cases hf
 | [p],k,hk,_,_,f,hf=>by
  rw [dG] at hk
  exact j3 (by unfold pl; omega) ae ae f hf
 | p::q::l,k,hk,hp,hpw,f,hf=>by
  have QL:k+(l.length+1+1)=n:=hk
  obtain ⟨h1,h2⟩:=qe.1 hpw
  have Hx:=hp p (bS ..)
  unfold core at hf
  rcases b6.1 hf with c | c
  ·rcases b6.1 c with c | c
   ·exact Lf Hx ae (q::l) (k+1) (by rw [dy]; omega) (fun r hr=>⟨hp r (cO _ hr),h1 r hr⟩) f c
   ·exact F9 (q::l) (k+1) (by rw [dy]; omega) (fun r hr=>hp r (cO _ hr)) h2 f c
  ·exact VW Hx ae ae f c
theorem Ga (n:Nat):∀(l:List Pt) (k:Nat),l.length<=15->(core n k l).length<=1000*l.length
 | [],_,_=>bm _
 | [p],k,_=>by have:=kO (pl n 0) ((k:Nat):Int) 1; unfold core; rw [dG]; omega
 | p::q::l,k,h=>by
  have hl:l.length<=13:=by simp at h; omega
  unfold core
  rw [aP,aP]
  have h1:=DK n p ((k:Nat):Int) (l.length+1) (q::l) (k+1)
  have h2:=Ga n (q::l) (k+1) (by rw [dy]; omega)
  have h3:=Lh (n:=n) (p:=p) (k:=((k:Nat):Int)) (e:=l.length+1) ae
  have h4:(l.length+1+3)*(q::l).length<=17*14:=fG ae (by rw [dy]; omega)
  simp only [dy] at*
  omega
theorem af8 {l:List Pt} (h:iA l):lp l.length (3*l.length+1) l.length (Bb l) (nS l) (sX l.length) (wW l.length):=by
 refine ⟨fun e he=>?_,fun r hr=>?_,aa3 h⟩
 ·unfold nS at he
  rcases b6.1 he with c | c
  ·exact Ld l 0 ae h.qH e c
  ·exact F9 (l.map whole) 0 cT (fun p hp=>by
    obtain ⟨q,hq,rfl⟩:=ff.1 hp
    exact (lO (h.qH q hq).1 (h.qH q hq).2).2.2.2.2) (wX h) e c
 ·obtain ⟨m,hm,rfl⟩:=ff.1 hr
  have:=nZ.1 hm
  unfold pl
  omega
theorem aa4 {l:List Pt} (h:l.length<=15):(nS l).length<=16000:=by
 unfold nS
 rw [aP]
 have h1:=Le l.length l 0
 have h2:=Ga l.length (l.map whole) 0 (by simpa using h)
 have h3:(l.length - 1)*l.length<=14*15:=fG ae h
 rw [aZ] at h2
 omega
open Anv
def stp (c:UInt8):Prop:=c.toNat=32∨c.toNat=93
def ndg (c:UInt8):Prop:=c.toNat=45∨(48<=c.toNat/\c.toNat<=57)
def Rz (t:List UInt8) (z:Int):Prop:=(∃d,t=45::d/\Ok 1 d/\z=sg true (numOf d))∨((t.getD 0 0).toNat≠45/\Ok 0 t/\z=sg false (numOf t))
def Rb (t:List UInt8) (b:Nat):Prop:=(∃d b',t=45::d/\Fb 1 d b'/\b=b'+1)∨((t.getD 0 0).toNat≠45/\Fb 0 t b)
def QP (s:List UInt8) (p q:Nat):List UInt8:=(s.drop p).take (q - p)
def Seg (s:List UInt8) (p q:Nat):Prop:=p<=q/\q<=s.length/\(∀i,p<=i->i<q->¬stp (s.getD i 0))/\(q<s.length->stp (s.getD q 0))
def Sen (s:List UInt8) (p q:Nat):Prop:=p<=q/\q<=s.length/\(∀i,p<=i->i<q->ndg (s.getD i 0))/\(q<s.length->¬ndg (s.getD q 0))
inductive Go (s:List UInt8):Nat->List Int->List Int ⊕ Nat->Prop
 | bad {p q b:Nat} {zs:List Int} (h:Seg s p q) (hb:Rb (QP s p q) b):Go s p zs (.inr (p+b))
 | fin {p:Nat} {zs:List Int} {z:Int} (h:Seg s p s.length) (hz:Rz (QP s p s.length) z):Go s p zs (.inr s.length)
 | more {p q:Nat} {zs:List Int} {z:Int} (h:Seg s p q) (hz:Rz (QP s p q) z) (hc:(s.getD q 0).toNat=93) (hq:q+1<s.length):Go s p zs (.inr (q+1))
 | done {p q:Nat} {zs:List Int} {z:Int} (h:Seg s p q) (hz:Rz (QP s p q) z) (hc:(s.getD q 0).toNat=93) (hq:q+1=s.length):Go s p zs (.inl (zs++[z]))
 | next {p q:Nat} {zs:List Int} {z:Int} {r:List Int ⊕ Nat} (h:Seg s p q) (hz:Rz (QP s p q) z) (hq:q<s.length) (hc:(s.getD q 0).toNat=32) (hr:Go s (q+1) (zs++[z]) r):Go s p zs r
inductive Rd0 (s:List UInt8):List Int ⊕ Nat->Prop
 | no (h:s=[]∨(s.getD 0 0).toNat≠91):Rd0 s (.inr 0)
 | void (h:(s.getD 0 0).toNat=91) (h1:(s.getD 1 0).toNat=93) (h2:s.length=2):Rd0 s (.inl [])
 | tail (h:(s.getD 0 0).toNat=91) (h1:(s.getD 1 0).toNat=93) (h2:2<s.length):Rd0 s (.inr 2)
 | go (h:(s.getD 0 0).toNat=91) (h0:s≠[]) (h1:¬(1<s.length/\(s.getD 1 0).toNat=93)) {r:List Int ⊕ Nat} (hr:Go s 1 [] r):Rd0 s r
def qw (a b:Int) (j:Nat):Int:=if j=0 then a else b
section
variable {N:Nat} {dq:List Deferred} {a:Act} {l:List (Nat×Value)} {w:World} {d:Nat} {ty:TypeId} {pos:String} {af:Array Edge} {gd:Option (Nat×Bool)}
theorem uQ {P:Program} {T E:TypeId} {x y:Operand} {m n:Int} (h:aW dq N a l) (hT:P.underlying T=some (.array 2 E)) (hE:∃i,P.info? E=some i/\i.size=1) (hz:∃i,P.info? T=some i/\i.zero=some (.agg #[.int .i64 0,.int .i64 0])) (hx:bV l x=some (.int .i64 m)) (hy:bV l y=some (.int .i64 n)):
  (execOp a.eval ⟨some d,.build T #[(0,x),(1,y)],ty,pos,af,gd⟩).run P w=.ok (.value (.agg #[.int .i64 m,.int .i64 n])) w:=by
 have Pa:(zeroValue T).run P w=.ok (.agg #[.int .i64 0,.int .i64 0]) w:=by obtain ⟨i,hi,hv⟩:=hz; simp [zeroValue,typeInfo,hi,hv]
 simp [execOp,h.ev hx,h.ev hy,Instr.build,Pa,run_underlying hT,Sem.run_bind,run_sizeOf hE,Instr.fill,Value.cells]
theorem oJ {P:Program} {T E:TypeId} {x y:Operand} {m n:Int} {j:Nat} (h:aW dq N a l) (hT:P.underlying T=some (.array 2 E)) (hE:jx P E) (hx:bV l x=some (.agg #[.int .i64 m,.int .i64 n])) (hy:bV l y=some (.int .i64 (j:Nat))) (hj:j<2):
  (execOp a.eval ⟨some d,.index T x y,ty,pos,af,gd⟩).run P w=.ok (.value (.int .i64 (qw m n j))) w:=by
 have hs:=run_sizeOf (w:=w) hE.size
 rcases (show j=0∨j=1 by omega) with rfl | rfl
 ·simp [execOp,h.ev hx,h.ev hy,Instr.index,asIntOf,run_underlying hT,Sem.run_bind,part,hE.agg,hs,qw]
 ·simp [execOp,h.ev hx,h.ev hy,Instr.index,asIntOf,run_underlying hT,Sem.run_bind,part,hE.agg,hs,qw]
end
def RP (n1 n2 k1 k2:Int):Prop:=0<=n1/\n1<=4096/\0<=n2/\n2<=4096/\1<=k1/\k1<=8/\1<=k2/\k2<=8
instance (n1 n2 k1 k2:Int):Decidable (RP n1 n2 k1 k2):=by unfold RP; infer_instance
def QQ (n k:Nat):Nat:=(n+k - 1) / k
def gI (n1 n2 k1 k2:Nat):Nat:=max (QQ n1 k1) (QQ n2 k2)
theorem QR {n k:Nat} (hk:1<=k):n<=k*QQ n k:=by
 unfold QQ
 have h1:=Nat.div_add_mod (n+k - 1) k
 have h2:=kx (n+k - 1) hk
 omega
theorem VX {n k:Nat} (hk:1<=k) (hn:0<n):1<=QQ n k:=by
 unfold QQ
 rw [Nat.le_div_iff_mul_le hk]; omega
theorem Li (n:Nat):QQ n 1=n:=by unfold QQ; omega
def EP (n1 n2 k1 k2:Nat) (t:Int):Prop:=max t 1<(min n1 n2:Nat)/\gI n1 n2 k1 k2<max n1 n2
instance (n1 n2 k1 k2:Nat) (t:Int):Decidable (EP n1 n2 k1 k2 t):=by unfold EP; infer_instance
def alc (k1 k2:Nat) (t:Int):Nat->Nat->Nat->Nat
 | 0,_,_=>0
 | f+1,n1,n2=>if EP n1 n2 k1 k2 t then alc k1 k2 t f (gI n1 n2 k1 k2) (gI n1 n2 k1 k2)+1 else 0
theorem Lj {n1 n2 k1 k2:Int} (h:RP n1 n2 k1 k2) (j:Nat):(0<=qw n1 n2 j/\qw n1 n2 j<=4096)/\(1<=qw k1 k2 j/\qw k1 k2 j<=8):=by
 unfold RP at h
 unfold qw
 split<;>omega
theorem af' {n1 n2 k1 k2:Int} (h:∀i,i<2->0<=qw n1 n2 i/\qw n1 n2 i<=4096) (k:∀i,i<2->1<=qw k1 k2 i/\qw k1 k2 i<=8):RP n1 n2 k1 k2:=by
 have h0:=h 0 ai
 have h1:=h 1 ai
 have g0:=k 0 ai
 have g1:=k 1 ai
 simp [qw] at h0 h1 g0 g1
 unfold RP
 omega
theorem Lk {C:Nat->Prop} {j:Nat} (h:∀i,i<j->C i) (hj:C j):∀i,i<j+1->C i:=fun i hi=>by
 rcases dr i j with h1 | h1
 ·exact h i h1
 ·obtain rfl:i=j:=ae
  exact hj
theorem Y3 {n k:Nat} {w0:World} (hn:n<=4096) (hk:1<=k) (hk8:k<=8):
  Calls Tryz.prog 145 #[.int .i64 (n:Nat),.int .i64 (k:Nat)] w0 fun e w'=>e=.returned (.int .i64 (QQ n k:Nat))/\Below w0.heap.size w0 w':=by
 refine enter Tryz.func145 rfl Tryz.ntmps145 rfl ?_
 intro a η σ
 refine wp_seq (aj ?_)
 refine sv (v:=.int .i64 0) η rfl (aV η rfl) ?_
 clear η a; intro a η
 refine wpList_nil (aT (wp_seq (aj ?_)))
 revert a
 refine mA rfl rfl ?_
 refine mA rfl rfl ?_
 refine sA (v:=.int .i64 (n+k:Nat)) rfl (fun _ η=>im η rfl rfl (by rw [IntWalk.i64_in _ ae]; omega)) ?_
 refine sA (v:=.int .i64 ((n+k) - 1:Nat)) rfl (fun _ η=>qW η rfl rfl (by rw [IntWalk.i64_in _ ae]; omega)) ?_
 refine mA rfl rfl ?_
 refine sA rfl (fun _ η=>kf η rfl rfl ae (U8 ae)) ?_
 refine aA rfl rfl ?_
 intro a η
 refine wpList_nil (aT (wp_ret ?_))
 refine leave η (dA Tryz.results145 (RV.tmp η rfl)) ?_
 exact ⟨rfl,σ.below⟩
theorem QS {n1 n2 k1 k2:Int} {w0:World}:
  Calls Tryz.prog 144 #[.int .i64 n1,.int .i64 n2,.int .i64 k1,.int .i64 k2] w0 fun e w'=>e=.returned (.bool (decide (RP n1 n2 k1 k2)))/\Below w0.heap.size w0 w':=by
 refine enter Tryz.func144 rfl Tryz.ntmps144 rfl ?_
 intro a η σ
 refine wp_seq (aj ?_)
 refine sv (v:=.bool false) η rfl (aV η rfl) ?_
 clear η a; intro a η
 refine wpList_nil (aT (wp_seq (wp_seq (aj ?_))))
 revert a
 refine mA rfl rfl ?_
 refine mA rfl rfl ?_
 refine sA (v:=.agg #[.int .i64 n1,.int .i64 n2]) rfl (fun _ η=>uQ η Tryz.underlying231 (aD.size) lM rfl rfl) ?_
 refine mA rfl rfl ?_
 intro a η
 refine wpList_nil (aT (wp_block ?_))
 refine wp_loop_ghost (fun mz a w=>∃j:Nat,2 - j=mz/\Env 39 a [(2,.int .i64 k1),(3,.int .i64 k2),(15,.agg #[.int .i64 n1,.int .i64 n2]),(16,.int .i64 (j:Nat))]/\St w0 w [] []/\j<=2/\∀i,i<j->0<=qw n1 n2 i/\qw n1 n2 i<=4096) _ ⟨0,rfl,η.sub ay,σ.pick [] [] ai,ai,(fun i hi=>absurd hi (ks _))⟩ ?_
 clear η σ a
 rintro mz a w51 ⟨j,rfl,η,σ,hj,aga⟩
 refine wp_seq (aj ?_)
 refine sv (v:=.bool (decide (((j:Nat):Int)<(2:Int)))) η rfl (bg η rfl rfl rfl) ?_
 clear η a; intro a η
 refine wpList_nil (aT (wp_seq ?_))
 refine dY η rfl (fun IP=>?_) (fun IP=>?_)
 ·have ald:=bX IP
  have cD:j<2:=ae
  refine wp_skip (aT (wp_seq (wp_block (wp_seq (aj ?_)))))
  revert a
  refine sA (v:=.int .i64 (qw n1 n2 j)) rfl (fun _ η=>oJ (m:=n1) (n:=n2) (j:=j) η Tryz.underlying231 aD rfl rfl ae) ?_
  refine aA rfl rfl ?_
  intro a η
  refine wpList_nil (aT (wp_seq (aj ?_)))
  revert a
  refine mA rfl rfl ?_
  refine sA (v:=.bool (decide ((qw n1 n2 j)<(0:Int)))) rfl (fun _ η=>bg η rfl rfl rfl) ?_
  refine mA rfl rfl ?_
  intro a η
  rcases xS (decide ((qw n1 n2 j)<(0:Int))) with QT | QT
  ·rw [QT] at η
   have asR:=bX QT
   revert a
   refine kA rfl rfl rfl rfl rfl ?_
   refine kA rfl rfl rfl rfl rfl ?_
   refine sA (v:=.bool true) rfl (fun _ η=>ij η rfl rfl) ?_
   intro a η
   refine wpList_nil (aT ?_)
   refine Fc η rfl (rfl) ?_
   refine wp_seq (aj ?_)
   refine sv (v:=.bool false) η rfl (aV η rfl) ?_
   clear η a; intro a η
   refine wpList_nil (aT (wp_ret (mZ (j9 (j9 (mZ (j9 ?_)))))))
   refine leave η (dA Tryz.results144 (RV.tmp η rfl)) ?_
   exact ⟨by rw [bR fun h=>by have:=Lj h j; omega],σ.below⟩
  ·rw [QT] at η
   have asS:=fT QT
   revert a
   refine gA (v:=.int .i64 (qw n1 n2 j)) rfl rfl rfl rfl (fun _ η=>b7 η rfl) ?_
   refine gA (v:=.bool (decide ((qw n1 n2 j)>(4096:Int)))) rfl rfl rfl rfl (fun _ η=>bg η rfl rfl rfl) ?_
   refine sA (v:=.bool (decide ((qw n1 n2 j)>(4096:Int)))) rfl (fun _ η=>ij η rfl rfl) ?_
   intro a η
   refine wpList_nil (aT ?_)
   refine dY η rfl (fun aa5=>?_) (fun aa5=>?_)
   ·have asT:=bX aa5
    refine wp_seq (aj ?_)
    refine sv (v:=.bool false) η rfl (aV η rfl) ?_
    clear η a; intro a η
    refine wpList_nil (aT (wp_ret (mZ (j9 (j9 (mZ (j9 ?_)))))))
    refine leave η (dA Tryz.results144 (RV.tmp η rfl)) ?_
    exact ⟨by rw [bR fun h=>by have:=Lj h j; omega],σ.below⟩
   ·have asU:=fT aa5
    refine wp_skip (qA (aT (aj ?_)))
    revert a
    refine sA (v:=.int .i64 (j+1:Nat)) rfl (fun _ η=>im η rfl rfl (by rw [IntWalk.i64_in _ ae]; omega)) ?_
    refine mA rfl rfl ?_
    intro a η
    refine wpList_nil ?_
    exact aT ⟨_,ae,⟨j+1,rfl,η.sub ay,σ.pick [] [] ai,ae,(Lk aga ae)⟩⟩
 ·have asV:=fT IP
  obtain rfl:j=2:=ae
  refine wp_exit (kW (kW (tt (aT (wp_seq (wp_seq (aj ?_)))))))
  revert a
  refine mA rfl rfl ?_
  refine mA rfl rfl ?_
  refine sA (v:=.agg #[.int .i64 k1,.int .i64 k2]) rfl (fun _ η=>uQ η Tryz.underlying231 (aD.size) lM rfl rfl) ?_
  refine mA rfl rfl ?_
  intro a η
  refine wpList_nil (aT (wp_block ?_))
  refine wp_loop_ghost (fun mz a w=>∃j:Nat,2 - j=mz/\Env 39 a [(28,.agg #[.int .i64 k1,.int .i64 k2]),(29,.int .i64 (j:Nat))]/\St w0 w [] []/\j<=2/\∀i,i<j->1<=qw k1 k2 i/\qw k1 k2 i<=8) _ ⟨0,rfl,η.sub ay,σ.pick [] [] ai,ai,(fun i hi=>absurd hi (ks _))⟩ ?_
  clear η σ a
  rintro mz a w61 ⟨j,rfl,η,σ,hj,agb⟩
  refine wp_seq (aj ?_)
  refine sv (v:=.bool (decide (((j:Nat):Int)<(2:Int)))) η rfl (bg η rfl rfl rfl) ?_
  clear η a; intro a η
  refine wpList_nil (aT (wp_seq ?_))
  refine dY η rfl (fun aa6=>?_) (fun aa6=>?_)
  ·have asX:=bX aa6
   have cD:j<2:=ae
   refine wp_skip (aT (wp_seq (wp_block (wp_seq (aj ?_)))))
   revert a
   refine sA (v:=.int .i64 (qw k1 k2 j)) rfl (fun _ η=>oJ (m:=k1) (n:=k2) (j:=j) η Tryz.underlying231 aD rfl rfl ae) ?_
   refine aA rfl rfl ?_
   intro a η
   refine wpList_nil (aT (wp_seq (aj ?_)))
   revert a
   refine mA rfl rfl ?_
   refine sA (v:=.bool (decide ((qw k1 k2 j)<(1:Int)))) rfl (fun _ η=>bg η rfl rfl rfl) ?_
   refine mA rfl rfl ?_
   intro a η
   rcases xS (decide ((qw k1 k2 j)<(1:Int))) with QU | QU
   ·rw [QU] at η
    have asY:=bX QU
    revert a
    refine kA rfl rfl rfl rfl rfl ?_
    refine kA rfl rfl rfl rfl rfl ?_
    refine sA (v:=.bool true) rfl (fun _ η=>ij η rfl rfl) ?_
    intro a η
    refine wpList_nil (aT ?_)
    refine Fc η rfl (rfl) ?_
    refine wp_seq (aj ?_)
    refine sv (v:=.bool false) η rfl (aV η rfl) ?_
    clear η a; intro a η
    refine wpList_nil (aT (wp_ret (mZ (j9 (j9 (mZ (j9 ?_)))))))
    refine leave η (dA Tryz.results144 (RV.tmp η rfl)) ?_
    exact ⟨by rw [bR fun h=>by have:=Lj h j; omega],σ.below⟩
   ·rw [QU] at η
    have asZ:=fT QU
    revert a
    refine gA (v:=.int .i64 (qw k1 k2 j)) rfl rfl rfl rfl (fun _ η=>b7 η rfl) ?_
    refine gA (v:=.bool (decide ((qw k1 k2 j)>(8:Int)))) rfl rfl rfl rfl (fun _ η=>bg η rfl rfl rfl) ?_
    refine sA (v:=.bool (decide ((qw k1 k2 j)>(8:Int)))) rfl (fun _ η=>ij η rfl rfl) ?_
    intro a η
    refine wpList_nil (aT ?_)
    refine dY η rfl (fun aa7=>?_) (fun aa7=>?_)
    ·have as0:=bX aa7
     refine wp_seq (aj ?_)
     refine sv (v:=.bool false) η rfl (aV η rfl) ?_
     clear η a; intro a η
     refine wpList_nil (aT (wp_ret (mZ (j9 (j9 (mZ (j9 ?_)))))))
     refine leave η (dA Tryz.results144 (RV.tmp η rfl)) ?_
     exact ⟨by rw [bR fun h=>by have:=Lj h j; omega],σ.below⟩
    ·have as1:=fT aa7
     refine wp_skip (qA (aT (aj ?_)))
     revert a
     refine sA (v:=.int .i64 (j+1:Nat)) rfl (fun _ η=>im η rfl rfl (by rw [IntWalk.i64_in _ ae]; omega)) ?_
     refine mA rfl rfl ?_
     intro a η
     refine wpList_nil ?_
     exact aT ⟨_,ae,⟨j+1,rfl,η.sub ay,σ.pick [] [] ai,ae,(Lk agb ae)⟩⟩
  ·have as2:=fT aa6
   obtain rfl:j=2:=ae
   refine wp_exit (kW (kW (tt (aT (wp_seq (aj ?_))))))
   refine sv (v:=.bool true) η rfl (aV η rfl) ?_
   clear η a; intro a η
   refine wpList_nil (aT (wp_ret ?_))
   refine leave η (dA Tryz.results144 (RV.tmp η rfl)) ?_
   exact ⟨by rw [dU (af' aga agb)],σ.below⟩
theorem Gb {n1 n2 k1 k2:Nat} {w0:World} (h1:n1<=4096) (h2:n2<=4096) (g1:1<=k1) (g2:1<=k2) (f1:k1<=8) (f2:k2<=8):
  Calls Tryz.prog 96 #[.int .i64 (n1:Nat),.int .i64 (n2:Nat),.int .i64 (k1:Nat),.int .i64 (k2:Nat)] w0 fun e w'=>e=.returned (.tuple #[.int .i64 (gI n1 n2 k1 k2:Nat),.int .i64 0])/\Below w0.heap.size w0 w':=by
 refine enter Tryz.func96 rfl Tryz.ntmps96 rfl ?_
 intro a η σ
 refine wp_seq (aj ?_)
 revert a
 refine aA rfl rfl ?_
 refine aA rfl rfl ?_
 intro a η
 refine wpList_nil (aT (wp_seq (wp_seq (aj ?_))))
 revert a
 refine mA rfl rfl ?_
 refine mA rfl rfl ?_
 refine mA rfl rfl ?_
 refine mA rfl rfl ?_
 intro a η
 refine au rfl (cV η rfl Tryz.call144 rfl (QS) ?_)
 rintro e w51 ⟨rfl,hb⟩
 refine ⟨_,rfl,?_⟩
 clear η a; intro a η
 replace σ:=σ.call hb
 clear hb
 rw [show (decide (RP ((n1:Nat):Int) ((n2:Nat):Int) ((k1:Nat):Int) ((k2:Nat):Int)))=true from (dU (show RP n1 n2 k1 k2 by unfold RP; omega))] at η
 refine sv η rfl (kF η rfl rfl) ?_
 clear η a; intro a η
 refine wpList_nil (aT ?_)
 refine oD η rfl (rfl) ?_
 refine wp_skip (aT (wp_seq (aj ?_)))
 revert a
 refine mA rfl rfl ?_
 refine mA rfl rfl ?_
 intro a η
 refine au rfl (cV η rfl Tryz.call145 rfl (Y3 ae ae ae) ?_)
 rintro e Uf ⟨rfl,hb⟩
 refine ⟨_,rfl,?_⟩
 clear η a; intro a η
 replace σ:=σ.call hb
 clear hb
 revert a
 refine mA rfl rfl ?_
 refine mA rfl rfl ?_
 intro a η
 refine au rfl (cV η rfl Tryz.call145 rfl (Y3 ae ae ae) ?_)
 rintro e w53 ⟨rfl,hb⟩
 refine ⟨_,rfl,?_⟩
 clear η a; intro a η
 replace σ:=σ.call hb
 clear hb
 revert a
 refine sA rfl (fun _ η=>rZ η rfl rfl) ?_
 refine aA rfl rfl ?_
 refine aA rfl rfl ?_
 intro a η
 refine wpList_nil (aT (wp_ret ?_))
 refine leave η (gC Tryz.results96 (RV.tmp η rfl) (RV.tmp η rfl)) ?_
 exact ⟨rfl,σ.below⟩
theorem Ni {n1 n2 k1 k2:Nat} {t:Int} {w0:World} (h1:n1<=4096) (h2:n2<=4096) (g1:1<=k1) (g2:1<=k2) (f1:k1<=8) (f2:k2<=8):
  Calls Tryz.prog 95 #[.int .i64 (n1:Nat),.int .i64 (n2:Nat),.int .i64 (k1:Nat),.int .i64 (k2:Nat),.int .i64 t] w0 fun e w'=>e=.returned (.tuple #[.bool (decide (EP n1 n2 k1 k2 t)),.int .i64 0])/\Below w0.heap.size w0 w':=by
 refine enter Tryz.func95 rfl Tryz.ntmps95 rfl ?_
 intro a η σ
 refine wp_seq (aj ?_)
 revert a
 refine aA rfl rfl ?_
 refine aA rfl rfl ?_
 intro a η
 refine wpList_nil (aT (wp_seq (aj ?_)))
 revert a
 refine mA rfl rfl ?_
 refine mA rfl rfl ?_
 refine mA rfl rfl ?_
 refine mA rfl rfl ?_
 intro a η
 refine au rfl (cV η rfl Tryz.call96 rfl (Gb ae ae ae ae ae ae) ?_)
 rintro e w51 ⟨rfl,hb⟩
 refine ⟨_,rfl,?_⟩
 clear η a; intro a η
 replace σ:=σ.call hb
 revert a
 refine mA rfl rfl ?_
 refine sA rfl (fun _ η=>dQ η rfl rfl) ?_
 refine sA rfl (fun _ η=>dQ η rfl rfl) ?_
 refine aA rfl rfl ?_
 refine aA rfl rfl ?_
 intro a η
 refine wpList_nil (aT (wp_seq (wp_seq (aj ?_))))
 revert a
 refine mA rfl rfl ?_
 refine sA rfl (fun _ η=>bg η rfl rfl rfl) ?_
 intro a η
 refine wpList_nil (aT ?_)
 refine oD η rfl (rfl) ?_
 refine wp_skip (aT (wp_seq (aj ?_)))
 revert a
 refine mA rfl rfl ?_
 refine mA rfl rfl ?_
 refine sA rfl (fun _ η=>Py η rfl rfl) ?_
 refine mA rfl rfl ?_
 refine sA rfl (fun _ η=>rY η rfl rfl) ?_
 refine sA rfl (fun _ η=>bg η rfl rfl rfl) ?_
 refine mA rfl rfl ?_
 intro a η
 rcases xS (decide (((min n1 n2:Nat):Int)>(max t (1:Int)))) with QV | QV
 ·rw [QV] at η
  have ald:=bX QV
  revert a
  refine gA rfl rfl rfl rfl (fun _ η=>b7 η rfl) ?_
  refine gA rfl rfl rfl rfl (fun _ η=>b7 η rfl) ?_
  refine gA rfl rfl rfl rfl (fun _ η=>b7 η rfl) ?_
  refine gA rfl rfl rfl rfl (fun _ η=>rZ η rfl rfl) ?_
  refine gA rfl rfl rfl rfl (fun _ η=>bg η rfl rfl rfl) ?_
  refine sA rfl (fun _ η=>ij η rfl rfl) ?_
  refine aA rfl rfl ?_
  refine aA rfl rfl ?_
  intro a η
  refine wpList_nil (aT (wp_ret ?_))
  refine leave η (gC Tryz.results95 (RV.tmp η rfl) (RV.tmp η rfl)) ?_
  exact ⟨aM (fun b=>Ending.returned (Value.tuple #[Value.bool b,Value.int .i64 0])) (uu.2 (by unfold EP; omega)),σ.below⟩
 ·rw [QV] at η
  have as3:=fT QV
  revert a
  refine kA rfl rfl rfl rfl rfl ?_
  refine kA rfl rfl rfl rfl rfl ?_
  refine kA rfl rfl rfl rfl rfl ?_
  refine kA rfl rfl rfl rfl rfl ?_
  refine kA rfl rfl rfl rfl rfl ?_
  refine sA rfl (fun _ η=>ij η rfl rfl) ?_
  refine aA rfl rfl ?_
  refine aA rfl rfl ?_
  intro a η
  refine wpList_nil (aT (wp_ret ?_))
  refine leave η (gC Tryz.results95 (RV.tmp η rfl) (RV.tmp η rfl)) ?_
  exact ⟨by rw [bR fun h=>by unfold EP at h; omega],σ.below⟩
theorem zts {es:List NE} {xs:List Int} {j:Nat} {A:Option Addr} {c:Nat} {z:Int} (hz:es.map zz=xs) (he:es[j]?=some (A,c,z)):xs.take (j+1)=xs.take j++[z]:=
 take_one (by rw [<- hz,bo,he]; rfl)
def as4 (w:World) (v:Value) (n:Nat) (mw:List (List Int)):Prop:=∃A c vs,v=.slice A n c/\(ag fL FL 1 A n c vs).P w/\vs.map lz=mw
def gz (xs:List Int) (m j:Nat):List Int:=(xs.drop (j*m)).take m++List.replicate (m - (xs.drop (j*m)).length) 0
theorem Nj {es:List NE} {xs:List Int} {j m n:Nat} (hz:es.map zz=xs.drop (j*m)) (hl:es.length=n):(es.drop (min n m)).map zz=xs.drop ((j+1)*m):=by
 rw [List.map_drop,hz,List.drop_drop,iM]
 have h:(xs.drop (j*m)).length=n:=by rw [<- hz,aZ,hl]
 rw [j6] at h
 rcases Nat.le_total n m with hm | hm
 ·rw [jS hm,dM ae,dM ae]
 ·rw [Nat.min_eq_right hm]
theorem QW {es:List NE} {xs:List Int} {j m n:Nat} (hz:es.map zz=xs.drop (j*m)) (hl:es.length=n):(es.take m++(List.replicate m ((none,0,0):NE)).drop n).map zz=gz xs m j:=by
 have h:(xs.drop (j*m)).length=n:=by rw [<- hz,aZ,hl]
 unfold gz
 rw [je,List.map_take,hz,List.drop_replicate,mN,h]
theorem QX {es:List NE} {m n:Nat} (hl:es.length=n):(es.take m++(List.replicate m ((none,0,0):NE)).drop n).length=m:=by
 rw [aP,fg,j6,jH,hl]
 omega
theorem Nk {os:List LE} {xs:List Int} {j m n c:Nat} {A:Option Addr} {es:List NE} (ho:os.map lz=(List.range j).map (gz xs m)) (h:es.map zz=gz xs m j):(os++[(A,n,c,es)]).map lz=(List.range (j+1)).map (gz xs m):=by
 rw [je,ho,vB,je]
 congr 1
 exact aM (fun l=>[l]) h
def mx (xs:List Int):Nat:=(xs.reverse.dropWhile (·==0)).length
theorem VY (xs:List Int):mx (xs.take 0)=0:=by rw [List.take_zero]; rfl
theorem Co (xs:List Int):mx (xs++[0])=mx xs:=by simp [mx]
theorem Gc {xs:List Int} {x:Int} (h:x≠0):mx (xs++[x])=xs.length+1:=by
 unfold mx
 rw [List.reverse_append,List.reverse_singleton,List.singleton_append,List.dropWhile_cons_of_neg (by simpa using h),dy,yz]
def as5 (w:World) (v:Value) (n:Nat) (zs:List Int):Prop:=∃A c es,v=.slice A n c/\(ag fN FN 2 A n c es).P w/\es.map zz=zs
def Ll (mw:List (List Int)) (k m:Nat):Nat->Nat
 | 0=>m
 | i+1=>max (Ll mw k m i) (i*k+(mw.getD i []).length)
def zT (xs:List Int) (p:Nat) (l:List Int):Nat->List Int
 | 0=>l
 | j+1=>(zT xs p l j).set (p+j) ((zT xs p l j).getD (p+j) 0+xs.getD j 0)
def Gd (mw:List (List Int)) (k T:Nat):Nat->List Int
 | 0=>List.replicate T 0
 | i+1=>zT (mw.getD i []) (i*k) (Gd mw k T i) (mw.getD i []).length
theorem pS (xs:List Int) (p:Nat) (l:List Int):∀j,(zT xs p l j).length=l.length
 | 0=>rfl
 | j+1=>by rw [zT,cH,pS]
theorem uT (mw:List (List Int)) (k T:Nat):∀i,(Gd mw k T i).length=T
 | 0=>jH
 | i+1=>by rw [Gd,pS,uT]
theorem IQ (mw:List (List Int)) (k m:Nat):∀i,m<=Ll mw k m i
 | 0=>aY _
 | i+1=>bq (IQ mw k m i) (Nat.le_max_left ..)
theorem QY (mw:List (List Int)) (k m:Nat) {i:Nat}:∀{n:Nat},i<n->i*k+(mw.getD i []).length<=Ll mw k m n
 | 0,h=>ae
 | n+1,h=>by
  rcases dr i n with h1 | h1
  ·exact bq (QY mw k m h1) (Nat.le_max_left ..)
  ·obtain rfl:i=n:=ae
   exact Nat.le_max_right ..
theorem Lm {es0:List LE} {mw:List (List Int)} {i n c:Nat} {A:Option Addr} {es:List NE} (hz:es0.map lz=mw) (he:es0[i]?=some (A,n,c,es)) (hl:es.length=n):mw.getD i []=es.map zz/\(mw.getD i []).length=n:=by
 have e:mw.getD i []=es.map zz:=by rw [aF,<- hz,bo,he]; rfl
 exact ⟨e,by rw [e,aZ,hl]⟩
theorem VZ {ps es:List NE} {xs l:List Int} {p j:Nat} {C E A:Option Addr} {d f c:Nat} {x y:Int} (ho:ps.map zz=zT xs p l j) (hx:xs=es.map zz) (he:es[j]?=some (C,d,x)) (hp:ps[p+j]?=some (E,f,y)):(ps.set (p+j) (A,c,y+x)).map zz=zT xs p l (j+1):=by
 have e1:xs.getD j 0=x:=by rw [hx,aF,bo,he]; rfl
 have e2:(zT xs p l j).getD (p+j) 0=y:=by rw [<- ho,aF,bo,hp]; rfl
 rw [zT,e1,e2,<- ho,qK]
theorem Ln (x y:Int):zl (x+y)<=max (zl x) (zl y)+1:=by
 refine cQ ?_
 have h1:x.natAbs<4294967296 ^ max (zl x) (zl y):=gw (uA _) (fE ai (Nat.le_max_left ..))
 have h2:y.natAbs<4294967296 ^ max (zl x) (zl y):=gw (uA _) (fE ai (Nat.le_max_right ..))
 have h3:=Int.natAbs_add_le x y
 rw [iJ]
 omega
theorem QZ {a b p c:Nat} {ps:List NE} {A:Option Addr} {v:Int} (h:Zk a (ps.map zz)) (hv:zl v<=b) (Oo:a<=b):Zk b ((ps.set p (A,c,v)).map zz):=by
 intro z hz
 rw [qK] at hz
 rcases oe hz with h1 | h1
 ·exact bq (h z h1) Oo
 ·rw [h1]; exact hv
theorem aa8 {α:Type} {f:α->List Value} {z n m c:Nat} {w:World} {A:Option Addr} {es:List α} (hz:∀e,(f e).length=z) (h:Rd z w A n c (fl f es)) (hm:m<=n):Rd z w A m m (fl f (es.take m)):=by
 have h1:m*z<=n*z:=eh _ hm
 have h2:=h.len
 rw [xR hz]
 refine ⟨by rw [fg]; omega,aY _,bq hm (bq h.cap h.big),fun hp=>?_⟩
 obtain ⟨b,off,rfl,cD,hc⟩:=h.cells ae
 exact ⟨b,off,rfl,cD,fun i hi=>by rw [hc i ae,qh hi]⟩
theorem agc {A0:Option Addr} {n0 c0:Nat} {es0:List NE} {xs:List Int} {w0:World} (h0:(ag fN FN 2 A0 n0 c0 es0).P w0) (jF:es0.map zz=xs) (hn:n0<=100000000):
  Calls Tryz.prog 150 #[.slice A0 n0 c0] w0 fun e w'=>e=.returned (.int .i64 (((mx xs:Nat):Int) - 1))/\Below w0.heap.size w0 w':=by
 refine enter Tryz.func150 rfl Tryz.ntmps150 rfl ?_
 intro a η σ
 have a8:=h0.2.1
 have bW:=bq h0.1.cap h0.1.big
 unfold maxLen at bW
 replace σ:=σ.aE h0
 clear h0
 refine wp_seq (aj ?_)
 refine sv (v:=.int .i64 0) η rfl (aV η rfl) ?_
 clear η a; intro a η
 refine wpList_nil (aT (wp_scope_straight (wp_seq (aj ?_))))
 revert a
 refine mA rfl rfl ?_
 refine sA (v:=.int .i64 (n0:Nat)) rfl (fun _ η=>eW η Tryz.underlying43 rfl) ?_
 refine sA (v:=.int .i64 (((n0:Nat):Int) - (1:Int))) rfl (fun _ η=>qW η rfl rfl (IntWalk.i64_in _ ae)) ?_
 refine aA rfl rfl ?_
 intro a η
 refine wpList_nil (aT (wp_seq (wp_label (aT (wp_seq ?_)))))
 refine cut (fun a w=>∃q:Nat,Env 18 a [(3,.int .i64 (((q:Nat):Int) - 1))]/\St w0 w [] []/\mx xs=q) ?_ ?_
 ·refine wp_block ?_
  refine wp_loop_ghost (fun mz a w=>∃i:Nat,i=mz/\Env 18 a [(0,.slice A0 n0 c0),(3,.int .i64 (((i:Nat):Int) - 1))]/\St w0 w [] [ag fN FN 2 A0 n0 c0 es0]/\i<=n0/\mx xs=mx (xs.take i)) _ ⟨n0,rfl,η.sub ay,σ.pick [] [0] ai,(aY _),(by rw [bD (by rw [<- jF,aZ]; omega)])⟩ ?_
  clear η σ a
  rintro mz a w51 ⟨i,rfl,η,σ,hi,hd⟩
  refine wp_seq (wp_seq (aj ?_))
  revert a
  refine mA rfl rfl ?_
  refine sA (v:=.bool (decide (((i:Nat):Int) - 1>=(0:Int)))) rfl (fun _ η=>bg η rfl rfl rfl) ?_
  intro a η
  refine wpList_nil (aT ?_)
  refine dY η rfl (fun IP=>?_) (fun IP=>?_)
  ·obtain ⟨j,hj⟩:∃j:Nat,((i:Nat):Int) - 1=(j:Nat):=⟨i - 1,by have:=bX IP; omega⟩
   rw [hj] at η
   obtain rfl:i=j+1:=ae
   clear hj
   obtain ⟨⟨A,c,x⟩,b5⟩:∃e,es0[j]?=some e:=⟨_,aw ae⟩
   replace σ:=σ.elem (k:=0) rfl b5
   refine wp_skip (aT (wp_seq (wp_block (wp_seq (aj ?_)))))
   revert a
   refine mA rfl rfl ?_
   refine mA rfl rfl ?_
   refine sA (v:=.pointer (some ⟨ab A0,ao A0+j*2,none⟩)) rfl (fun _ η=>jy (i:=j) η Tryz.underlying43 (ah.size) rfl rfl ae rfl σ.bC.1) ?_
   refine sA (v:=.agg #[.bool (neg x),.slice A (zl x) c]) rfl (fun _ η=>bF (i:=j) (e:=(A,c,x)) η ah rfl rfl eF σ.bC.1 ae b5 rfl) ?_
   intro a η
   refine au rfl (cV η rfl Tryz.call60 rfl (tp (z:=x)) ?_)
   rintro e w53 ⟨rfl,hb⟩
   refine ⟨_,rfl,?_⟩
   clear η a; intro a η
   replace σ:=σ.call hb
   clear hb
   refine sv (v:=.bool (x.sign !=(0:Int))) η rfl (bg η rfl rfl rfl) ?_
   clear η a; intro a η
   refine wpList_nil (aT ?_)
   refine dY η rfl (fun Ge=>?_) (fun Ge=>?_)
   ·have xv:x≠0:=fun h0=>by rw [h0] at Ge; simp at Ge
    rw [show ((j:Nat):Int)=((j+1:Nat):Int) - 1 by omega] at η
    refine wp_exit ?_
    refine afg rfl (kW (kW (tt (aT ?_))))
    exact ⟨j+1,η.sub ay,σ.pick [] [] ai,(hd.trans (by rw [zts jF b5,Gc xv,fg,<- jF,aZ]; omega))⟩
   ·have xv:x=0:=yL.1 (by have:=Ge; simpa using this)
    refine wp_skip (qA (aT (aj ?_)))
    revert a
    refine mA rfl rfl ?_
    refine sA (v:=.int .i64 (((j:Nat):Int) - (1:Int))) rfl (fun _ η=>qW η rfl rfl (IntWalk.i64_in _ ae)) ?_
    refine aA rfl rfl ?_
    intro a η
    refine wpList_nil ?_
    exact aT ⟨_,ae,⟨j,rfl,η.sub ay,σ.pick [] [1] ai,ae,(by rw [hd,zts jF b5,xv,Co])⟩⟩
  ·obtain rfl:i=0:=by have:=fT IP; omega
   refine wp_exit (kW (kW (tt (aT ?_))))
   exact ⟨0,η.sub ay,σ.pick [] [] ai,(hd.trans (VY _))⟩
 clear η σ a
 rintro a w55 ⟨q,η,σ,hq⟩
 refine wp_seq (aj ?_)
 revert a
 refine mA rfl rfl ?_
 refine aA rfl rfl ?_
 intro a η
 refine wpList_nil (aT (wp_ret (akr ?_)))
 refine leave η (dA Tryz.results150 (RV.tmp η rfl)) ?_
 exact ⟨by rw [hq],σ.below⟩
def ale (xs ys:List Int) (i:Nat):Int:=xs.getD i 0+ys.getD i 0
def IU (xs ys:List Int) (N:Nat):Nat->List Int
 | 0=>List.replicate N 0
 | i+1=>zT (ys.map (xs.getD i 0*·)) i (IU xs ys N i) ys.length
theorem lF (xs ys:List Int) (N:Nat):∀i,(IU xs ys N i).length=N
 | 0=>jH
 | i+1=>by rw [IU,pS,lF]
theorem V0 {ps es:List NE} {ys l:List Int} {p j:Nat} {C E A:Option Addr} {d f c:Nat} {x y z:Int} (ho:ps.map zz=zT (ys.map (x*·)) p l j) (hz:es.map zz=ys) (he:es[j]?=some (C,d,y)) (hp:ps[p+j]?=some (E,f,z)):(ps.set (p+j) (A,c,z+x*y)).map zz=zT (ys.map (x*·)) p l (j+1):=by
 have e1:(ys.map (x*·)).getD j 0=x*y:=by rw [aF,bo,<- hz,bo,he]; rfl
 have e2:(zT (ys.map (x*·)) p l j).getD (p+j) 0=z:=by rw [<- ho,aF,bo,hp]; rfl
 rw [zT,e1,e2,<- ho,qK]
theorem agd {A0 A1:Option Addr} {n0 n1 c0 c1:Nat} {es0 es1:List NE} {xs ys:List Int} {w0:World} (h0:(ag fN FN 2 A0 n0 c0 es0).P w0) (jF:es0.map zz=xs) (h1:(ag fN FN 2 A1 n1 c1 es1).P w0) (ld:es1.map zz=ys) (Ii:Zk 1000 xs) (Bc:Zk 1000 ys) (h00:0<n0) (h01:0<n1) (vk:n0<=300) (DM:n1<=300):
  Calls Tryz.prog 53 #[.slice A0 n0 c0,.slice A1 n1 c1] w0 fun e w'=>∃v,e=.returned (.tuple #[v,.int .i64 (n0*n1:Nat)])/\qC w0.heap.size w' v (n0+n1 - 1) (IU xs ys (n0+n1 - 1) n0)/\Below w0.heap.size w0 w':=by
 refine enter Tryz.func53 rfl Tryz.ntmps53 rfl ?_
 intro a η σ
 have a8:=h0.2.1
 have cY:=h1.2.1
 have bW:=bq h0.1.cap h0.1.big
 unfold maxLen at bW
 replace σ:=(σ.aE h1).aE h0
 clear h0 h1
 refine wp_seq (aj ?_)
 revert a
 refine aA rfl rfl ?_
 refine aA rfl rfl ?_
 intro a η
 refine wpList_nil (aT (wp_seq (wp_seq (aj ?_))))
 revert a
 refine mA rfl rfl ?_
 refine sA (v:=.int .i64 (n0:Nat)) rfl (fun _ η=>eW η Tryz.underlying43 rfl) ?_
 refine sA (v:=.bool (((n0:Nat):Int)==(0:Int))) rfl (fun _ η=>bg η rfl rfl rfl) ?_
 intro a η
 rw [show (((n0:Nat):Int)==(0:Int))=false from (kv.2 ae)] at η
 revert a
 refine mA rfl rfl ?_
 refine gA (v:=.slice A1 n1 c1) rfl rfl rfl rfl (fun _ η=>b7 η rfl) ?_
 refine gA (v:=.int .i64 (n1:Nat)) rfl rfl rfl rfl (fun _ η=>eW η Tryz.underlying43 rfl) ?_
 refine gA (v:=.bool (((n1:Nat):Int)==(0:Int))) rfl rfl rfl rfl (fun _ η=>bg η rfl rfl rfl) ?_
 intro a η
 rw [show (((n1:Nat):Int)==(0:Int))=false from (kv.2 ae)] at η
 refine sv (v:=.bool false) η rfl (ij η rfl rfl) ?_
 clear η a; intro a η
 refine wpList_nil (aT ?_)
 refine oD η rfl (rfl) ?_
 refine wp_skip (aT (wp_seq (aj ?_)))
 revert a
 refine mA rfl rfl ?_
 refine sA (v:=.int .i64 (n0:Nat)) rfl (fun _ η=>eW η Tryz.underlying43 rfl) ?_
 refine mA rfl rfl ?_
 refine sA (v:=.int .i64 (n1:Nat)) rfl (fun _ η=>eW η Tryz.underlying43 rfl) ?_
 refine sA (v:=.int .i64 (n0+n1:Nat)) rfl (fun _ η=>im η rfl rfl (by rw [IntWalk.i64_in _ ae]; omega)) ?_
 refine sA (v:=.int .i64 ((n0+n1) - 1:Nat)) rfl (fun _ η=>qW η rfl rfl (by rw [IntWalk.i64_in _ ae]; omega)) ?_
 intro a η
 refine au rfl (zg (f:=fN) (e0:=(none,0,0)) (q:=ar) (n:=(n0+n1) - 1) η σ rfl Tryz.underlying43 bK rfl rfl mu rfl rfl rfl ae (by unfold maxLen; omega) ?_)
 clear η σ a; intro a Uf bJ η σ
 replace σ:=σ.sU (kI (n0+n1 - 1) _) ⟨aL,trivial⟩
 refine sv (v:=.slice (bh bJ) ((n0+n1) - 1) ((n0+n1) - 1)) η rfl (aV η rfl) ?_
 clear η a; intro a η
 refine wpList_nil (aT (wp_seq (aj ?_)))
 refine sv (v:=.int .i64 0) η rfl (aV η rfl) ?_
 clear η a; intro a η
 refine wpList_nil (aT (wp_seq (wp_seq (aj ?_))))
 revert a
 refine mA rfl rfl ?_
 refine sA (v:=.int .i64 (n0:Nat)) rfl (fun _ η=>eW η Tryz.underlying43 rfl) ?_
 refine mA rfl rfl ?_
 intro a η
 refine wpList_nil (aT (wp_block ?_))
 refine wp_loop_ghost (fun mz a w=>∃(i q:Nat) (os:List NE),n0 - i=mz/\Env 62 a [(1,.slice A1 n1 c1),(6,.slice (bh bJ) ((n0+n1) - 1) ((n0+n1) - 1)),(7,.int .i64 (q:Nat)),(27,.slice A0 n0 c0),(28,.int .i64 (n0:Nat)),(29,.int .i64 (i:Nat))]/\St w0 w [av ar 52 2 (bh bJ) ((n0+n1) - 1) ((n0+n1) - 1) (fl fN os)] [ag fN FN 2 A0 n0 c0 es0,ag fN FN 2 A1 n1 c1 es1,bL FN os]/\i<=n0/\q=i*n1/\os.map zz=IU xs ys ((n0+n1) - 1) i/\Zk (2000+300*i) (os.map zz)) _ ⟨0,0,(List.replicate ((n0+n1) - 1) (none,0,0)),rfl,η.sub ay,σ.pick [0] [1,2,0] ai,(bm _),ae,(by rw [mN]; rfl),(fun z hz=>by rw [mN] at hz; rw [lW hz]; exact bq (by rw [mo]; omega) (bm _))⟩ ?_
 clear η σ a
 rintro mz a w53 ⟨i,q,os,rfl,η,σ,hi,hq,ho,hkz⟩
 refine wp_seq (aj ?_)
 refine sv (v:=.bool (decide (((i:Nat):Int)<((n0:Nat):Int)))) η rfl (bg η rfl rfl rfl) ?_
 clear η a; intro a η
 refine wpList_nil (aT (wp_seq ?_))
 refine dY η rfl (fun Ge=>?_) (fun Ge=>?_)
 ·have as8:i<n0:=by have:=bX Ge; omega
  obtain ⟨⟨A,c,x⟩,b5⟩:∃e,es0[i]?=some e:=⟨_,aw ae⟩
  replace σ:=σ.elem (k:=0) rfl b5
  have wY:zl x<=1000:=Ii.es jF _ (aB b5)
  have km:i*n1<=90000:=fG (show i<=300 by omega) DM
  have Ug:xs.getD i 0=x:=by rw [aF,<- jF,bo,b5]; rfl
  have hyl:ys.length=n1:=by rw [<- ld,aZ,cY]
  refine wp_skip (aT (wp_seq (wp_block (wp_seq (aj ?_)))))
  revert a
  refine mA rfl rfl ?_
  refine sA (v:=.pointer (some ⟨ab A0,ao A0+i*2,none⟩)) rfl (fun _ η=>jy (i:=i) η Tryz.underlying43 (ah.size) rfl rfl ae rfl σ.bC.1) ?_
  refine sA (v:=.agg #[.bool (neg x),.slice A (zl x) c]) rfl (fun _ η=>bF (i:=i) (e:=(A,c,x)) η ah rfl rfl eF σ.bC.1 ae b5 rfl) ?_
  intro a η
  refine au rfl (fA (c:=#[.bool (neg 0),.slice none (zl 0) 0]) η σ rfl aG lZ ?_)
  clear η σ a; intro a w56 oo η σ
  refine sv (v:=.int .i64 (i:Nat)) η rfl (aV η rfl) ?_
  clear η a; intro a η
  refine au rfl (fW (k:=0) (c':=#[.bool (neg x),.slice A (zl x) c]) η σ (ah.size) rfl rfl rfl rfl cT rfl rfl ?_)
  clear η σ a; intro a w57 η σ
  refine wpList_nil (aT (wp_seq (aj ?_)))
  revert a
  refine mA rfl rfl ?_
  refine sA (v:=.int .i64 (n1:Nat)) rfl (fun _ η=>eW η Tryz.underlying43 rfl) ?_
  refine mA rfl rfl ?_
  intro a η
  refine wpList_nil (aT (wp_block ?_))
  refine wp_loop_ghost (fun mz a w=>∃(j p:Nat) (ps:List NE),n1 - j=mz/\Env 62 a [(1,.slice A1 n1 c1),(6,.slice (bh bJ) ((n0+n1) - 1) ((n0+n1) - 1)),(7,.int .i64 (p:Nat)),(8,.int .i64 (i:Nat)),(9,bB oo),(27,.slice A0 n0 c0),(28,.int .i64 (n0:Nat)),(29,.int .i64 (i:Nat)),(34,.slice A1 n1 c1),(35,.int .i64 (n1:Nat)),(36,.int .i64 (j:Nat))]/\St w0 w [av ar 52 2 (bh bJ) ((n0+n1) - 1) ((n0+n1) - 1) (fl fN ps),bk oo #[.bool (neg x),.slice A (zl x) c] 52] [ag fN FN 2 A0 n0 c0 es0,ag fN FN 2 A1 n1 c1 es1,BW A c x,bL FN ps]/\j<=n1/\p=q+j/\ps.map zz=zT (ys.map (x*·)) i (IU xs ys ((n0+n1) - 1) i) j/\Zk (2000+300*i+j) (ps.map zz)) _ ⟨0,q,os,rfl,η.sub ay,σ.pick [1,0] [1,2,0,3] ai,(bm _),ae,ho,hkz⟩ ?_
  clear η σ a
  rintro mz a w58 ⟨j,p,ps,rfl,η,σ,hj,hp,Hw,IV⟩
  refine wp_seq (aj ?_)
  refine sv (v:=.bool (decide (((j:Nat):Int)<((n1:Nat):Int)))) η rfl (bg η rfl rfl rfl) ?_
  clear η a; intro a η
  refine wpList_nil (aT (wp_seq ?_))
  refine dY η rfl (fun aa9=>?_) (fun aa9=>?_)
  ·have cD:j<n1:=by have:=bX aa9; omega
   have tX:ps.length=n0+n1 - 1:=by rw [<- aZ (f:=zz),Hw,pS,lF]
   obtain ⟨⟨C,d,y⟩,iH⟩:∃e,es1[j]?=some e:=⟨_,aw ae⟩
   replace σ:=σ.elem (k:=1) rfl iH
   obtain ⟨⟨E,f,z⟩,Cp⟩:∃e,ps[i+j]?=some e:=⟨_,aw ae⟩
   replace σ:=σ.qo (k:=4) rfl Cp
   have Is:zl y<=1000:=Bc.es ld _ (aB iH)
   have hzz:zl z<=2000+300*i+j:=IV.es rfl _ (aB Cp)
   have Ys:=Ia x y
   refine wp_skip (aT (wp_seq (wp_block (wp_seq (aj ?_)))))
   revert a
   refine mA rfl rfl ?_
   refine sA (v:=.pointer (some ⟨ab A1,ao A1+j*2,none⟩)) rfl (fun _ η=>jy (i:=j) η Tryz.underlying43 (ah.size) rfl rfl ae rfl σ.eY.1) ?_
   refine sA (v:=.agg #[.bool (neg y),.slice C (zl y) d]) rfl (fun _ η=>bF (i:=j) (e:=(C,d,y)) η ah rfl rfl eF σ.eY.1 ae iH rfl) ?_
   intro a η
   refine au rfl (fA (c:=#[.bool (neg 0),.slice none (zl 0) 0]) η σ rfl aG lZ ?_)
   clear η σ a; intro a w61 Bt η σ
   refine sv (v:=.int .i64 (j:Nat)) η rfl (aV η rfl) ?_
   clear η a; intro a η
   refine au rfl (fW (k:=0) (c':=#[.bool (neg y),.slice C (zl y) d]) η σ (ah.size) rfl rfl rfl rfl cT rfl rfl ?_)
   clear η σ a; intro a w62 η σ
   refine wpList_nil (aT (wp_seq ?_))
   refine pw (n:=16) (Sk [bk Bt #[.bool (neg y),.slice C (zl y) d] 52,bk oo #[.bool (neg x),.slice A (zl x) c] 52] [BW E f z,BW C d y,ag fN FN 2 A0 n0 c0 es0,ag fN FN 2 A1 n1 c1 es1,BW A c x,bL FN ps] [15] [av ar 52 2 (bh bJ) ((n0+n1) - 1) ((n0+n1) - 1) (fl fN ps)]) mixed rfl η σ ?_
   clear η σ; intro w63 η σ
   refine tM (i:=0) [14,15] rfl aK (fun _ _ _ h=>h) η rfl rfl ?_
   clear η a; intro a η
   refine tM (i:=1) [3,14,15] rfl aK (fun _ _ _ h=>h) η rfl rfl ?_
   clear η a; intro a η
   refine tM (i:=2) [3,14,15] rfl aK (fun _ _ _ h=>h) η rfl rfl ?_
   clear η a; intro a η
   refine tA (i:=3) [14,15] (v:=.int .i64 (i+j:Nat)) rfl aK (fun _ _ _ h=>h) η rfl (fun _=>im η rfl rfl (by rw [IntWalk.i64_in _ ae]; omega)) ?_
   clear η a; intro a η
   refine tM (i:=4) [8,9,13,14,15] rfl aK (fun _ _ _ h=>h) η rfl rfl ?_
   clear η a; intro a η
   refine tM (i:=5) [7,8,9,13,14,15] rfl aK (fun _ _ _ h=>h) η rfl rfl ?_
   clear η a; intro a η
   refine tM (i:=6) [7,8,9,13,14,15] rfl aK (fun _ _ _ h=>h) η rfl rfl ?_
   clear η a; intro a η
   refine tA (i:=7) [8,9,13,14,15] (v:=.int .i64 (i+j:Nat)) rfl aK (fun _ _ _ h=>h) η rfl (fun _=>im η rfl rfl (by rw [IntWalk.i64_in _ ae]; omega)) ?_
   clear η a; intro a η
   refine fH (i:=8) [9,13,14,15] (fun w'=>(av ar 52 2 (bh bJ) ((n0+n1) - 1) ((n0+n1) - 1) (fl fN ps)).P w') (v:=.pointer (some ⟨ab (bh bJ),ao (bh bJ)+(i+j)*2,none⟩)) rfl aK (fun _ _ _ h=>h) (fun _ _ hj hS=>(hS.two rfl hj).owns (k:=0) rfl) η rfl σ.fK (fun w' hg=>jy (i:=i+j) η Tryz.underlying43 (ah.size) rfl rfl ae rfl (ax hg)) ?_
   clear η a; intro a η
   refine fH (i:=9) [13,14,15] (fun w'=>(av ar 52 2 (bh bJ) ((n0+n1) - 1) ((n0+n1) - 1) (fl fN ps)).P w') (v:=.agg #[.bool (neg z),.slice E (zl z) f]) rfl aK (fun _ _ _ h=>h) (fun _ _ hj hS=>(hS.two rfl hj).owns (k:=0) rfl) η rfl σ.fK (fun w' hg=>bF (i:=i+j) (e:=(E,f,z)) η ah rfl rfl eF (ax hg) ae Cp rfl) ?_
   clear η a; intro a η
   refine tL (i:=10) 1 2 (rg 12 4) rfl aK (fun _ _ _ h=>h) η rfl ah rfl σ rfl rfl rfl ?_
   clear η a; intro a η
   refine tL (i:=11) 0 0 (rg 12 4) rfl aK (fun _ _ _ h=>h) η rfl ah rfl σ rfl rfl rfl ?_
   clear η a; intro a η
   have as':=Ia x y
   refine mY (i:=12) aK rfl rfl (cV η rfl Tryz.call97 rfl (Ka (x:=x) (y:=y) (show dK _ A c x from σ.jW) (show dK _ C d y from σ.bC) ae ae) ?_)
   rintro e w68 ⟨_,rfl,⟨V1,V2,rfl,age⟩,hb⟩
   refine ⟨_,rfl,?_⟩
   clear η a; intro a η
   replace σ:=(σ.call hb).eO age ⟨aN rfl,aL,aN rfl,trivial⟩
   clear age
   clear hb
   refine ⟨.inr ⟨σ.kn.pick [0,2] (rg 1 6),.inr (σ.kn.pick [1] [])⟩,?_⟩
   have atb:=Z0 z (x*y)
   refine mY (i:=13) aK rfl rfl (cV η rfl Tryz.call63 rfl (BR (x:=z) (y:=x*y) (show dK _ E f z from σ.bC) (show dK _ V1 V2 (x*y) from σ.aU) ae ae) ?_)
   rintro e w73 ⟨_,rfl,⟨Uh,Ui,rfl,agf⟩,hb⟩
   refine ⟨_,rfl,?_⟩
   clear η a; intro a η
   replace σ:=(σ.call hb).eO agf ⟨aN rfl,aL,aN rfl,trivial⟩
   clear agf
   clear hb
   refine ⟨.inr ⟨σ.kn.pick [0,2] (rg 2 6),.inr (σ.kn.pick [1] [])⟩,?_⟩
   refine fH (i:=14) [15] (fun w'=>(av ar 52 2 (bh bJ) ((n0+n1) - 1) ((n0+n1) - 1) (fl fN ps)).P w') (v:=.pointer (some ⟨ab (bh bJ),ao (bh bJ)+(i+j)*2,none⟩)) rfl aK (fun _ _ _ h=>h) (fun _ _ hj hS=>(hS.two rfl hj).owns (k:=0) rfl) η rfl σ.fK (fun w' hg=>jy (i:=i+j) η Tryz.underlying43 (ah.size) rfl rfl ae rfl (ax hg)) ?_
   clear η a; intro a η
   refine mY (i:=15) aK rfl rfl (vT (i:=i+j) (e:=(Uh,Ui,(z+(x*y)))) (k:=1) η σ (ah.size) rfl rfl rfl rfl eF ae tX rfl rfl rfl ?_)
   clear η σ a; intro a w74 η σ
   replace σ:=σ.qp (e:=(Uh,Ui,(z+(x*y)))) (i:=7) (j:=0) rfl rfl (i+j)
   refine ⟨.inr ⟨σ.kn.pick [0,2] (rg 3 6),.inl rfl⟩,?_⟩
   refine rN aK ?_ _
   refine aT (aj ?_)
   revert a
   refine mA rfl rfl ?_
   refine sA (v:=.int .i64 (p+1:Nat)) rfl (fun _ η=>im η rfl rfl (by rw [IntWalk.i64_in _ ae]; omega)) ?_
   refine aA rfl rfl ?_
   intro a η
   refine wpList_nil (qA (aT (aj ?_)))
   revert a
   refine sA (v:=.int .i64 (j+1:Nat)) rfl (fun _ η=>im η rfl rfl (by rw [IntWalk.i64_in _ ae]; omega)) ?_
   refine mA rfl rfl ?_
   intro a η
   refine wpList_nil ?_
   exact aT ⟨_,ae,⟨j+1,p+1,(ps.set (i+j) (Uh,Ui,(z+(x*y)))),rfl,η.sub ay,σ.pick [1,2] [5,6,7,0] ai,ae,ae,(V0 Hw ld iH Cp),(QZ IV (by have:=Ln z (x*y); have:=Ia x y; omega) ae)⟩⟩
  ·obtain rfl:n1=j:=by have:=fT aa9; omega
   refine wp_exit (kW (kW (tt (qA (aT (aj ?_))))))
   revert a
   refine sA (v:=.int .i64 (i+1:Nat)) rfl (fun _ η=>im η rfl rfl (by rw [IntWalk.i64_in _ ae]; omega)) ?_
   refine mA rfl rfl ?_
   intro a η
   refine wpList_nil ?_
   exact aT ⟨_,ae,⟨i+1,p,ps,rfl,η.sub ay,σ.pick [0] [0,1,3] ai,ae,(by rw [iM]; omega),(by rw [Hw,IU,hyl,Ug]),(IV.mono ae)⟩⟩
 ·obtain rfl:n0=i:=by have:=fT Ge; omega
  refine wp_exit (kW (kW (tt (aT (wp_seq (aj ?_))))))
  revert a
  refine mA rfl rfl ?_
  refine mA rfl rfl ?_
  refine aA rfl rfl ?_
  refine aA rfl rfl ?_
  intro a η
  refine wpList_nil (aT (wp_ret ?_))
  refine leave η (gC Tryz.results53 (RV.tmp η rfl) (RV.tmp η rfl)) ?_
  subst hq
  exact ⟨_,rfl,⟨_,_,os,rfl,σ.newRow (k:=0) (j:=2) rfl rfl,(by rw [<- aZ (f:=zz),ho,lF]),ho⟩,σ.below⟩
def sg (f:Nat->Int):Nat->Int
 | 0=>0
 | n+1=>sg f n+f n
theorem gJ {f g:Nat->Int}:∀{n:Nat},(∀i,i<n->f i=g i)->sg f n=sg g n
 | 0,_=>rfl
 | n+1,h=>by rw [sg,sg,gJ fun i hi=>h i (EZ hi),h n (qJ n)]
theorem C' (f g:Nat->Int):∀n,sg (fun i=>f i+g i) n=sg f n+sg g n
 | 0=>rfl
 | n+1=>by rw [sg,sg,sg,C' f g n]; omega
theorem vN (c:Int) (f:Nat->Int):∀n,sg (fun i=>c*f i) n=c*sg f n
 | 0=>(mL c).symm
 | n+1=>by rw [sg,sg,vN c f n,EW]
theorem V3 (c:Int) (f:Nat->Int) (n:Nat):sg (fun i=>f i*c) n=sg f n*c:=by
 rw [gn,<- vN]
 exact gJ fun i _=>gn _ _
theorem jA {f:Nat->Int}:∀{n:Nat},(∀i,i<n->f i=0)->sg f n=0
 | 0,_=>rfl
 | n+1,h=>by rw [sg,jA fun i hi=>h i (EZ hi),h n (qJ n)]; rfl
theorem IW {f:Nat->Int} {j:Nat}:∀{n:Nat},j<n->(∀i,i<n->i≠j->f i=0)->sg f n=f j
 | 0,h,_=>absurd h (ks _)
 | n+1,hj,h=>by
  rcases dr j n with h1 | h1
  ·rw [sg,IW h1 fun i hi=>h i (EZ hi),h n (qJ n) ae,uj]
  ·obtain rfl:j=n:=ae
   rw [sg,jA fun i hi=>h i (EZ hi) ae,Int.zero_add]
theorem x8 {f:Nat->Int} {n:Nat}:∀{m:Nat},n<=m->(∀i,n<=i->i<m->f i=0)->sg f m=sg f n
 | 0,h,_=>by rw [Nat.le_zero.1 h]
 | m+1,h,h0=>by
  rcases dr n (m+1) with h1 | h1
  ·rw [sg,x8 ae fun i a b=>h0 i a (EZ b),h0 m ae (qJ m),uj]
  ·obtain rfl:n=m+1:=ae
   rfl
theorem zU (f:Nat->Int):∀n,sg f (n+1)=f 0+sg (fun i=>f (i+1)) n
 | 0=>by simp [sg]
 | n+1=>by rw [sg,zU f n,sg]; omega
theorem Q0:∀(n:Nat) (f:Nat->Int),sg f (n+1)=sg (fun i=>f (n - i)) (n+1)
 | 0,_=>rfl
 | n+1,f=>by
  rw [sg,Q0 n f,zU (fun i=>f (n+1 - i)),Int.add_comm]
  congr 1
  exact gJ fun i _=>by rw [show n+1 - (i+1)=n - i by omega]
abbrev co (xs:List Int) (k:Nat):Int:=xs.getD k 0
theorem fx {xs:List Int} {k:Nat} (h:xs.length<=k):co xs k=0:=by
 rw [co,aF,dz h]; rfl
theorem DN {xs ys:List Int} (hl:xs.length=ys.length) (h:∀k,co xs k=co ys k):xs=ys:=by
 apply kV
 intro k
 rcases dr k xs.length with h1 | h1
 ·have:=h k
  rw [co,co,aF,aF,aw h1,aw ae] at this
  rw [aw h1,aw ae]
  exact aM some this
 ·rw [dz h1,dz ae]
theorem Q4 {f:Nat->Int} {n k:Nat} (h:k<n):co ((List.range n).map f) k=f k:=by
 rw [co,aF,bo,fQ h]; rfl
theorem V4 (xs:List Int) (c:Int) (k:Nat):co (xs.map (c*·)) k=c*co xs k:=by
 rw [co,co,aF,aF,bo]
 cases xs[k]? with
 | none=>exact (mL c).symm
 | some x=>rfl
theorem aa' (l:List Int) (p k:Nat) (v:Int):co (l.set p v) k=if p=k/\k<l.length then v else co l k:=by
 rw [co,co,aF,aF,td]
 by_cases h:p=k
 ·subst h
  by_cases h1:p<l.length
  ·simp [h1]
  ·simp [h1]
 ·simp [h]
theorem Lo (zs:List Int) (p:Nat) (l:List Int) (k:Nat):∀j,co (zT zs p l j) k=co l k+if p<=k/\k<p+j/\k<l.length then co zs (k - p) else 0
 | 0=>by rw [zT,aQ ae,uj]
 | j+1=>by
  rw [zT,aa',pS]
  by_cases h:p+j=k/\k<l.length
  ·obtain ⟨rfl,h2⟩:=h
   rw [aR ⟨rfl,h2⟩,aR ⟨by omega,by omega,h2⟩]
   have:=Lo zs p l (p+j) j
   rw [aQ ae,uj] at this
   rw [show p+j - p=j by omega,<- this]
  ·rw [aQ h,Lo zs p l k j]
   congr 1
   by_cases h1:p<=k/\k<p+j/\k<l.length
   ·rw [aR h1,aR ⟨h1.1,by omega,h1.2.2⟩]
   ·rw [aQ h1,aQ ae]
def cv (f g:Nat->Int) (k:Nat):Int:=sg (fun i=>f i*g (k - i)) (k+1)
theorem Y4 (xs ys:List Int) (N k:Nat) (hk:k<N):∀i,co (IU xs ys N i) k=sg (fun t=>if t<=k then co xs t*co ys (k - t) else 0) i
 | 0=>by
  rw [IU,sg,co,aF,iN,aR hk]
  rfl
 | i+1=>by
  rw [IU,Lo,Y4 xs ys N k hk i,sg,lF]
  congr 1
  by_cases h:i<=k
  ·rw [aR h]
   by_cases h2:k<i+ys.length
   ·rw [aR ⟨h,h2,hk⟩,V4]
   ·rw [aQ ae,fx (xs:=ys) ae,mL]
  ·rw [aQ h,aQ ae]
def iy (xs ys:List Int):List Int:=if xs.length=0∨ys.length=0 then [] else IU xs ys (xs.length+ys.length - 1) xs.length
theorem zV {xs ys:List Int} (h:0<xs.length) (h':0<ys.length):(iy xs ys).length=xs.length+ys.length - 1:=by
 rw [iy,aQ ae,lF]
theorem IX {xs ys:List Int} {k:Nat} (h:xs.length+ys.length<=k+1):cv (co xs) (co ys) k=0:=jA fun i hi=>by
 rcases dr i xs.length with h1 | h1
 ·show co xs i*co ys (k - i)=0
  rw [fx (xs:=ys) ae,mL]
 ·show co xs i*co ys (k - i)=0
  rw [fx h1,jI]
theorem V6 {xs ys:List Int} (h:xs.length=0∨ys.length=0) (k:Nat):cv (co xs) (co ys) k=0:=jA fun i hi=>by
 show co xs i*co ys (k - i)=0
 rcases h with h | h
 ·rw [fx ae,jI]
 ·rw [fx (xs:=ys) ae,mL]
theorem zW (xs ys:List Int) (k:Nat):co (iy xs ys) k=cv (co xs) (co ys) k:=by
 unfold iy
 by_cases h:xs.length=0∨ys.length=0
 ·rw [aR h,V6 h]; rfl
 ·rw [aQ h]
  rcases dr k (xs.length+ys.length - 1) with hk | hk
  ·rw [Y4 xs ys _ k hk]
   unfold cv
   rcases Nat.le_total xs.length (k+1) with h1 | h1
   ·rw [x8 h1 fun i a _=>by show co xs i*_=0; rw [fx a,jI]]
    exact gJ fun i hi=>aR ae
   ·rw [x8 h1 fun i a _=>aQ ae]
    exact gJ fun i hi=>aR ae
  ·rw [IX ae,fx (by rw [lF]; omega)]
theorem sd (f g:Nat->Int) (k:Nat):cv f g k=cv g f k:=by
 unfold cv
 rw [Q0]
 exact gJ fun i hi=>by
  show f (k - i)*g (k - (k - i))=g i*f (k - i)
  rw [show k - (k - i)=i by omega,gn]
theorem Q5 {f f' g g':Nat->Int} (h:∀i,f i=f' i) (h':∀i,g i=g' i) (k:Nat):cv f g k=cv f' g' k:=by
 rw [funext h,funext h']
def alg (xs ys:List Int):List Int:=(List.range (max xs.length ys.length)).map (ale xs ys)
def alh (xs ys:List Int) (i:Nat):Int:=xs.getD i 0 - ys.getD i 0
def atd (xs ys:List Int):List Int:=(List.range (max xs.length ys.length)).map (alh xs ys)
theorem V7 (xs:List Int):mx xs<=xs.length:=by
 unfold mx
 refine bq (List.dropWhile_sublist _).length_le ?_
 rw [yz]
 exact aY _
theorem aba {xs:List Int} {x:Int} {k:Nat} (h:k<xs.length):co (xs++[x]) k=co xs k:=by
 rw [co,co,aF,aF,jg h]
theorem Lp (xs:List Int) (x:Int):co (xs++[x]) xs.length=x:=by
 rw [co,aF,j8 (aY _),mR]; rfl
theorem Gf (xs:List Int) (k:Nat):co (xs++[0]) k=co xs k:=by
 rcases dr k xs.length with h | h
 ·exact aba h
 ·rcases dr xs.length k with h1 | h1
  ·rw [fx (by rw [aP]; simp; omega),fx h]
  ·obtain rfl:k=xs.length:=ae
   rw [Lp,fx (aY _)]
theorem V8:∀(m:Nat) (xs:List Int),xs.length=m->∀n,mx xs<=n↔∀k,n<=k->co xs k=0:=by
 intro m
 induction m with
 | zero=>
  intro xs hl n
  obtain rfl:=jE hl
  exact ⟨fun _ k _=>rfl,fun _=>bm _⟩
 | succ m ih=>
  intro xs hl n
  rcases List.eq_nil_or_concat xs with rfl | ⟨l,x,rfl⟩
  ·cases hl
  ·rw [List.concat_eq_append] at hl ⊢
   rw [aP] at hl
   have jb:l.length=m:=by simpa using hl
   by_cases hx:x=0
   ·subst hx
    rw [Co,ih l jb]
    exact ⟨fun h k hk=>(Gf l k).trans (h k hk),fun h k hk=>(Gf l k).symm.trans (h k hk)⟩
   ·rw [Gc hx]
    refine ⟨fun h k hk=>fx (by rw [aP]; simp; omega),fun h=>?_⟩
    refine Nat.lt_of_not_le fun h1=>hx ?_
    rw [<- Lp l x]
    exact h _ h1
theorem se (xs:List Int) (n:Nat):mx xs<=n↔∀k,n<=k->co xs k=0:=V8 _ xs rfl n
def Cr (xs:List Int):List Int:=xs.take (mx xs)
theorem zX (xs:List Int):(Cr xs).length=mx xs:=by
 rw [Cr,fg]
 exact jS (V7 xs)
theorem x' (xs:List Int) (k:Nat):co (Cr xs) k=co xs k:=by
 rcases dr k (mx xs) with h | h
 ·rw [co,co,aF,aF,Cr,qh h]
 ·rw [fx (by rw [zX]; exact h),(se xs (mx xs)).1 (aY _) k h]
theorem C6 {xs ys:List Int}:Cr xs=Cr ys↔∀k,co xs k=co ys k:=by
 constructor
 ·intro h k
  rw [<- x' xs,<- x' ys,h]
 ·intro h
  have e:mx xs=mx ys:=Nat.le_antisymm ((se _ _).2 fun k hk=>(h k).trans ((se _ _).1 (aY _) k hk)) ((se _ _).2 fun k hk=>(h k).symm.trans ((se _ _).1 (aY _) k hk))
  exact DN (by rw [zX,zX,e]) fun k=>by rw [x',x',h]
def qZ (a b:Int):List Int->Int
 | []=>0
 | x::xs=>qZ a b xs*a+x*b ^ xs.length
theorem Yj (a b v:Int):∀(l:List Int) (k:Nat),k<l.length->qZ a b (l.set k v)=qZ a b l+(v - co l k)*(a ^ k*b ^ (l.length - 1 - k))
 | [],k,h=>absurd h (ks _)
 | x::xs,0,h=>by
  rw [List.set_cons_zero,qZ,qZ,dy,Int.pow_zero,show xs.length+1 - 1 - 0=xs.length by omega,p',Int.sub_mul]
  show _=_+(_ - x*_)
  omega
 | x::xs,k+1,h=>by
  have hk:k<xs.length:=by simpa using h
  rw [C0,qZ,qZ,Yj a b v xs k hk,cH,dy,show xs.length+1 - 1 - (k+1)=xs.length - 1 - k by omega,sM]
  show _=_+(v - co xs k)*_
  grind
theorem Yl (a b:Int):∀n,qZ a b (List.replicate n 0)=0
 | 0=>rfl
 | n+1=>by rw [qN,qZ,Yl a b n,jI,jI]; rfl
theorem acG (a b:Int) (zs l:List Int) (p:Nat):∀j,p+j<=l.length->qZ a b (zT zs p l j)=qZ a b l+sg (fun t=>co zs t*(a ^ (p+t)*b ^ (l.length - 1 - (p+t)))) j
 | 0,_=>by rw [zT,sg,uj]
 | j+1,h=>by
  have h1:=Lo zs p l (p+j) j
  rw [aQ ae,uj] at h1
  rw [zT,Yj _ _ _ _ _ (by rw [pS]; omega),acG a b zs l p j ae,sg,pS,h1,show (zT zs p l j).getD (p+j) 0=co l (p+j) from h1]
  show _+(co l (p+j)+co zs j - co l (p+j))*_=_
  rw [show co l (p+j)+co zs j - co l (p+j)=co zs j by omega,Int.add_assoc]
theorem TQ (a b:Int):∀xs:List Int,qZ a b xs=sg (fun t=>co xs t*(a ^ t*b ^ (xs.length - 1 - t))) xs.length
 | []=>rfl
 | x::xs=>by
  rw [qZ,TQ a b xs,dy,zU,Int.pow_zero,p',show xs.length+1 - 1 - 0=xs.length by omega,<- V3,Int.add_comm]
  congr 1
  refine gJ fun i _=>?_
  show co xs i*_*a=co xs i*_
  rw [show xs.length+1 - 1 - (i+1)=xs.length - 1 - i by omega,sM,fR]
  congr 1
  rw [fR,gn (b ^ _) a,fR]
theorem acL (a b:Int) (xs ys:List Int) (hy:0<ys.length):∀i,i<=xs.length->qZ a b (IU xs ys (xs.length+ys.length - 1) i)=sg (fun t=>co xs t*(a ^ t*b ^ (xs.length - 1 - t))) i*qZ a b ys
 | 0,_=>by rw [IU,Yl,sg,jI]
 | i+1,h=>by
  rw [IU,acG _ _ _ _ _ _ (by rw [lF]; omega),acL a b xs ys hy i ae,sg,BJ,lF]
  congr 1
  rw [TQ a b ys,<- vN]
  refine gJ fun t ht=>?_
  show co (ys.map (co xs i*·)) t*_=_
  rw [V4,show xs.length+ys.length - 1 - 1 - (i+t)=(xs.length - 1 - i)+(ys.length - 1 - t) by omega,Int.pow_add,Int.pow_add]
  grind
theorem adK (a b:Int) {xs ys:List Int} (hx:0<xs.length) (hy:0<ys.length):qZ a b (iy xs ys)=qZ a b xs*qZ a b ys:=by
 rw [iy,aQ ae,acL a b xs ys hy _ (aY _),<- TQ]
theorem abH (a b:Int) {xs:List Int} {i:Nat} {x:Int} (h:xs[i]?=some x):qZ a b (xs.drop i)=qZ a b (xs.drop (i+1))*a+x*b ^ (xs.length - 1 - i):=by
 have hi:i<xs.length:=(bU.1 h).1
 have hx:xs[i]=x:=(bU.1 h).2
 rw [gW hi,qZ,hx,j6,show xs.length - (i+1)=xs.length - 1 - i by omega]
def vq (n:Int):Prop:=-16<=n/\n<=16
instance (n:Int):Decidable (vq n):=by unfold vq; infer_instance
def df (p:Pt):List Value:=[aq p.1,aq p.2]
def ee (_:Pt):PF:=jY
theorem ft (p:Pt):(df p).length=2:=rfl
theorem Ro:Fk Tryz.prog 61 2:=⟨by kernel_rfl,by kernel_rfl,by kernel_rfl,by kernel_rfl,by kernel_rfl⟩
theorem gV {m n:Int} (h:-1000000000<=m/\m<=1000000000):IntKind.i64.wrap (m.tdiv n)=m.tdiv n:=by
 have:(m.tdiv n).natAbs<=m.natAbs:=by rw [Int.natAbs_tdiv]; exact yI ..
 exact IntWalk.i64_in _ ae
theorem Nn (x y:Int):fD y (x.tmod y)=fD x y:=by
 show ((Nat.gcd y.natAbs (x.tmod y).natAbs:Nat):Int)=((Nat.gcd x.natAbs y.natAbs:Nat):Int)
 rw [Int.natAbs_tmod,Nat.gcd_comm y.natAbs,<- Nat.gcd_rec,Nat.gcd_comm]
theorem gcd_zero (x:Int):fD x 0=((x.natAbs:Nat):Int):=by unfold fD; rw [Int.gcd_zero_right]
theorem Wf (x:Int) {y:Int} (h:y≠0):(x.tmod y).natAbs<y.natAbs:=by
 rw [Int.natAbs_tmod]; exact kx _ ae
theorem Rp (a b:Int) (h1:-16<=a) (h2:a<=16) (h3:-16<=b) (h4:b<=16):0<=fD a b/\fD a b<=16:=by
 unfold fD
 refine ⟨by omega,?_⟩
 rcases ed a.natAbs with h | h
 ·obtain rfl:a=0:=ae
  rw [Int.gcd_zero_left]; omega
 ·have:=Nat.le_of_dvd h (Nat.gcd_dvd_left a.natAbs b.natAbs)
  have e:Int.gcd a b=Nat.gcd a.natAbs b.natAbs:=rfl
  omega
theorem PU {a b:Int} (h:¬(a=0/\b=0)):fD a b≠0:=fun e=>h (by
 unfold fD at e
 have:=Int.gcd_eq_zero_iff.1 (show Int.gcd a b=0 by omega)
 exact this)
def I1 (p:Pt):Int:=if p.2<0∨(p.2=0/\p.1<0) then -(fD p.1 p.2) else fD p.1 p.2
def mb (p:Pt):Pt:=if fD p.1 p.2=0 then p else (p.1.tdiv (I1 p),p.2.tdiv (I1 p))
theorem Nq (p q:Pt):[p.1,p.2]=[q.1,q.2]↔p=q:=by
 obtain ⟨a,b⟩:=p
 obtain ⟨c,d⟩:=q
 simp
def sZ (l:List Pt):Prop:=∃(i j:Nat) (p q:Pt),i<j/\l[i]?=some p/\l[j]?=some q/\mb p=mb q
theorem Wg {es:List Pt} {j:Nat} {e:Pt} (h:∀(x y:Nat) (p q:Pt),x<y->y<j->es[x]?=some p->es[y]?=some q->mb p≠mb q) (hn:∀(x:Nat) (p:Pt),x<j->es[x]?=some p->mb p≠mb e) (he:es[j]?=some e):
  ∀(x y:Nat) (p q:Pt),x<y->y<j+1->es[x]?=some p->es[y]?=some q->mb p≠mb q:=fun x y p q h1 h2 h3 h4=>by
 rcases dr y j with c | c
 ·exact h x y p q h1 c h3 h4
 ·obtain rfl:y=j:=ae
  rw [he] at h4
  cases h4
  exact hn x p h1 h3
theorem Wh {es:List Pt} {m:Nat} {e f:Pt} (h:∀(x:Nat) (p:Pt),x<m->es[x]?=some p->mb p≠mb e) (hf:es[m]?=some f) (sQ:¬mb f=mb e):∀(x:Nat) (p:Pt),x<m+1->es[x]?=some p->mb p≠mb e:=fun x p h1 h2=>by
 rcases dr x m with c | c
 ·exact h x p c h2
 ·obtain rfl:x=m:=ae
  rw [hf] at h2
  cases h2
  exact sQ
theorem Rq:∀u,u<17->∀j,j<2->vZ[2*u+j]?=some (qw ((u:Nat):Int) (-((u:Nat):Int)) j):=by decide+kernel
theorem Wi {u j:Nat} (hu:u<17) (hj:j<2):vZ[2*u+j]?=some (qw ((u:Nat):Int) (-((u:Nat):Int)) j):=Rq u hu j hj
theorem abl {u j:Nat} (hu:u<=16):-16<=qw ((u:Nat):Int) (-((u:Nat):Int)) j/\qw ((u:Nat):Int) (-((u:Nat):Int)) j<=16:=by
 unfold qw; split<;>omega
theorem Wj {g a b s:Int} {k:Nat} (h:∀(x:Nat),x<k->∀s,vZ[x]?=some s->¬(g - s*a).tmod b=0) (hc:vZ[k]?=some s) (hn:¬(g - s*a).tmod b=0):∀(x:Nat),x<k+1->∀s,vZ[x]?=some s->¬(g - s*a).tmod b=0:=fun x h1 s' h2=>by
 rcases dr x k with c | c
 ·exact h x c s' h2
 ·obtain rfl:x=k:=ae
  rw [hc] at h2
  cases h2
  exact hn
theorem Wk {l:List Int} {p:Int->Bool}:∀{k:Nat} {s:Int},(∀x,x<k->∀s,l[x]?=some s->p s=false)->l[k]?=some s->p s=true->l.find? p=some s:=by
 induction l with
 | nil=>intro k s _ h; cases h
 | cons a l ih=>
  intro k s h1 h2 h3
  cases k with
  | zero=>cases h2; rw [List.find?_cons_of_pos h3]
  | succ k=>
   rw [List.find?_cons_of_neg (by rw [h1 0 ae a rfl]; decide)]
   exact ih (fun x hx s hs=>h1 (x+1) ae s hs) h2 h3
theorem agk {a b s:Int} {k:Nat} (hg:fD a b≠0) (hb:b≠0) (h:∀(x:Nat),x<k->∀s,vZ[x]?=some s->¬(fD a b - s*a).tmod b=0) (hc:vZ[k]?=some s) (hz:(fD a b - s*a).tmod b=0):bz (a,b)=(fD a b,s,(fD a b - s*a).tdiv b):=by
 unfold bz
 dsimp only
 rw [aQ hg,aQ hb,Wk (fun x hx s hs=>bR (h x hx s hs)) hc (dU hz)]
def agl (a b:Int):Bool:=decide (b=0) || vZ.any fun s=>decide ((fD a b - s*a).tmod b=0)
theorem abm:∀a:Fin 33,∀b:Fin 33,agl ((a.1:Int) - 16) ((b.1:Int) - 16)=true:=by decide+kernel
theorem Wl {a b:Int} {u:Nat} (h1:-16<=a/\a<=16) (h2:-16<=b/\b<=16) (hb:b≠0) (h:∀(x:Nat),x<2*u+2->∀s,vZ[x]?=some s->¬(fD a b - s*a).tmod b=0) (hu:u<=16):u<16:=by
 rcases dr u 16 with c | c
 ·exact c
 ·exfalso
  have hq:=abm ⟨(a+16).toNat,by omega⟩ ⟨(b+16).toNat,by omega⟩
  dsimp only at hq
  rw [show (((a+16).toNat:Nat):Int) - 16=a by omega,show (((b+16).toNat:Nat):Int) - 16=b by omega] at hq
  unfold agl at hq
  rw [bR hb,Bool.false_or] at hq
  obtain ⟨s,hs,hz⟩:=List.any_eq_true.1 hq
  obtain ⟨x,hx⟩:=lV hs
  have H7:=(bU.1 hx).1
  have:vZ.length=34:=by decide
  exact h x ae s hx (bX hz)
section
variable {N:Nat} {dq:List Deferred} {a:Act} {l:List (Nat×Value)} {w:World} {d:Nat} {ty:TypeId} {pos:String} {af:Array Edge} {gd:Option (Nat×Bool)}
theorem DU {P:Program} {w1:World} {x y:Operand} {T E i m n c c' z p:Nat} {A:Option Addr} {vs:List Value} {k:IntKind} (h:aW dq N a l) (hT:P.underlying T=some (.slice E)) (hE:∃j,P.info? E=some j/\j.size=z) (hx:bV l x=some (.slice A m c')) (hy:bV l y=some (.int k (i:Nat))) (hi:i<m) (hn:0<n) (hp:i*z=p) (hr:Rd z w1 A n c vs):
  (execOp a.eval ⟨some d,.indexAddr T x y,ty,pos,af,gd⟩).run P w=.ok (.value (.pointer (some ⟨Go.Proofs.YtgopcdagnicekaaGreatDoor.ab A,ao A+p,none⟩))) w:=by
 subst hp
 exact kG h hT hE (hx.trans (by rw [<- hr.ab hn])) hy hi
end
theorem Ct {w0:World} {n:Int}:
  Calls Tryz.prog 109 #[aq n] w0 fun e w'=>e=.returned (.bool (decide (vq n)))/\Below w0.heap.size w0 w':=by
 refine dp Tryz.func109 rfl Tryz.ntmps109 rfl fun σ=>xd rfl<|wD (fun iz=>?_) fun iz=>?_
 ·exact IZ rfl<|o1 Tryz.results109 rfl<|⟨aM (fun b=>Ending.returned (Value.bool b)) (uu.2 (by unfold vq at*; omega)),σ.below⟩
 ·exact o1 Tryz.results109 rfl<|⟨by rw [bR fun h=>by unfold vq at*; omega],σ.below⟩
theorem uY {w0:World} {pa pb:Int}:
  Calls Tryz.prog 69 #[.agg #[aq pa,aq pb]] w0 fun e w'=>e=.returned (.bool (decide (vq pa/\vq pb)))/\Below w0.heap.size w0 w':=by
 refine dp Tryz.func69 rfl Tryz.ntmps69 rfl fun σ=>eE rfl<|gN σ rfl fun _ bJ σ=>lE 0 σ rfl<|eE rfl<|dx Tryz.call109 (Ct) σ rfl fun _ σ=>wD (fun jG=>?_) fun jG=>?_
 ·exact lE 0 σ rfl<|eE rfl<|dx Tryz.call109 (Ct) σ rfl fun _ σ=>o1 Tryz.results69 rfl<|⟨aM (fun b=>Ending.returned (Value.bool b)) (uu.2 (by unfold vq at*; omega)),σ.below⟩
 ·exact o1 Tryz.results69 rfl<|⟨by rw [bR fun h=>by unfold vq at*; omega],σ.below⟩
theorem Lw {w0:World} {pa pb:Int}:
  Calls Tryz.prog 71 #[.agg #[aq pa,aq pb]] w0 fun e w'=>e=.returned (.bool (decide ([pa,pb]=[(0:Int),0])))/\Below w0.heap.size w0 w':=by
 exact dp Tryz.func71 rfl Tryz.ntmps71 rfl fun σ=>eE rfl<|gN σ rfl fun _ bJ σ=>gE 0 σ rfl<|vE rfl (fun η=>cK eA η rfl rfl)<|vE rfl (fun η=>Dm [pa,pb] [(0:Int),(0:Int)] η Ro rfl rfl rfl rfl)<|o1 Tryz.results71 rfl<|⟨rfl,σ.below⟩
theorem Nr {w0:World} {n:Int} (h1:-1000000<=n) (h2:n<=1000000):
  Calls Tryz.prog 224 #[aq n] w0 fun e w'=>e=.returned (ak n.natAbs)/\Below w0.heap.size w0 w':=by
 refine dp Tryz.func224 rfl Tryz.ntmps224 rfl fun σ=>ei rfl<|wD (fun iz=>?_) fun iz=>?_
 ·exact iT rfl rfl<|Wa rfl ae<|o1 Tryz.results224 rfl<|⟨aM (fun k=>Ending.returned (aq k)) ae,σ.below⟩
 ·exact iF rfl rfl<|o1 Tryz.results224 rfl<|⟨aM (fun k=>Ending.returned (aq k)) ae,σ.below⟩
theorem Cu {w0:World} {m n:Int} (h1:-1000000<=m) (h2:m<=1000000) (h3:-1000000<=n) (h4:n<=1000000):
  Calls Tryz.prog 190 #[aq m,aq n] w0 fun e w'=>e=.returned (aq (fD m n))/\Below w0.heap.size w0 w':=by
 refine dp Tryz.func190 rfl Tryz.ntmps190 rfl fun σ=>fX (fun mz l w=>∃x:Int,∃y:Int,y.natAbs=mz/\l=[(0,aq x),(1,aq y)]/\St w0 w [] []/\fD x y=fD m n/\(-1000000<=x/\x<=1000000)/\(-1000000<=y/\y<=1000000)) ⟨m,n,rfl,rfl,σ,rfl,⟨h1,h2⟩,⟨h3,h4⟩⟩ ay ?_
 rintro _ _ _ ⟨x,y,rfl,rfl,σ,hg,hx,hyb⟩
 refine ir rfl<|wN (fun iz=>?_) fun iz=>?_
 ·have hmb:=Wf x iz
  exact iT rfl rfl<|gY [] [0,4,8,12,16,20] aK σ fun _ σ=>vE rfl (fun η=>tu η rfl rfl ae rfl)<|dF ⟨y,(x.tmod y),rfl,rfl,σ,((Nn x y).trans hg),hyb,ae⟩ ay ae
 ·have hgf:((x.natAbs:Nat):Int)=fD m n:=by rw [<- hg,iz]; exact (gcd_zero x).symm
  exact iF rfl rfl<|eE rfl<|dx Tryz.call224 (Nr ae ae) σ rfl fun _ σ=>o1 Tryz.results190 rfl<|⟨aM (fun k=>Ending.returned (aq k)) hgf,σ.below⟩
theorem Lx {w0:World} {pa pb:Int} (hp:mv (pa,pb)):
  Calls Tryz.prog 156 #[.agg #[aq pa,aq pb]] w0 fun e w'=>e=.returned (.agg #[aq (mb (pa,pb)).1,aq (mb (pa,pb)).2])/\Below w0.heap.size w0 w':=by
 obtain ⟨⟨b1,b2⟩,b3,b4⟩:=hp
 dsimp only at b1 b2 b3 b4
 have hgb:=Rp pa pb ae ae ae ae
 refine dp Tryz.func156 rfl Tryz.ntmps156 rfl fun σ=>eE rfl<|gN σ rfl fun _ bJ σ=>eE rfl<|eL bp σ rfl fun _ cJ σ=>lE 1 σ rfl<|lE 1 σ rfl<|eE rfl<|dx Tryz.call190 (Cu (m:=pa) (n:=pb) ae ae ae ae) σ rfl fun _ σ=>cZ rfl<|wQ (fun lU=>?_) fun lU=>?_
 ·exact iT rfl rfl<|gE 1 σ rfl<|eE rfl<|cX 0 σ rfl fun _ σ=>oR (fun e=>dA Tryz.results156 (RV.cell e aC rfl σ.dj rfl))<|⟨by unfold mb I1; dsimp only; first | (rw [aR ae]; done) | (rw [aQ ae,aR ae]; done) | (rw [aQ ae,aQ ae]; done),σ.below⟩
 ·refine iF rfl rfl<|lE 1 σ rfl<|ei rfl<|wD (fun pV=>?_) fun pV=>?_
  ·exact iT rfl rfl<|iT rfl rfl<|Wa rfl ae<|gY [9] [0,5,8,12,16,21,24,28,32,38] aK σ fun _ σ=>lS 1 rfl<|vE rfl (fun η=>kf (m:=pa) (n:=(-(fD pa pb))) η rfl rfl ae (gV ae))<|lS 1 rfl<|vE rfl (fun η=>kf (m:=pb) (n:=(-(fD pa pb))) η rfl rfl ae (gV ae))<|vE rfl (fun η=>cK (c:=#[aq (pa.tdiv (-(fD pa pb))),aq (pb.tdiv (-(fD pa pb)))]) eA η rfl rfl)<|eS rfl<|cX 0 σ rfl fun _ σ=>sz rfl<|oR (fun e=>dA Tryz.results156 (RV.cell e aC rfl σ.dj rfl))<|⟨by unfold mb I1; dsimp only; first | (rw [aR ae]; done) | (rw [aQ ae,aR ae]; done) | (rw [aQ ae,aQ ae]; done),σ.below⟩
  ·refine iF rfl rfl<|lE 1 σ rfl<|cZ rfl<|wQ (fun qx=>?_) fun qx=>?_
   ·refine lE 1 σ rfl<|ei rfl<|wD (fun wa=>?_) fun wa=>?_
    ·exact iT rfl rfl<|Wa rfl ae<|gY [9] [0,5,8,12,16,21,24,28,32,38] aK σ fun _ σ=>lS 1 rfl<|vE rfl (fun η=>kf (m:=pa) (n:=(-(fD pa pb))) η rfl rfl ae (gV ae))<|lS 1 rfl<|vE rfl (fun η=>kf (m:=pb) (n:=(-(fD pa pb))) η rfl rfl ae (gV ae))<|vE rfl (fun η=>cK (c:=#[aq (pa.tdiv (-(fD pa pb))),aq (pb.tdiv (-(fD pa pb)))]) eA η rfl rfl)<|eS rfl<|cX 0 σ rfl fun _ σ=>sz rfl<|oR (fun e=>dA Tryz.results156 (RV.cell e aC rfl σ.dj rfl))<|⟨by unfold mb I1; dsimp only; first | (rw [aR ae]; done) | (rw [aQ ae,aR ae]; done) | (rw [aQ ae,aQ ae]; done),σ.below⟩
    ·exact iF rfl rfl<|gY [9] [0,5,8,12,16,21,24,28,32,38] aK σ fun _ σ=>lS 1 rfl<|vE rfl (fun η=>kf (m:=pa) (n:=(fD pa pb)) η rfl rfl ae (gV ae))<|lS 1 rfl<|vE rfl (fun η=>kf (m:=pb) (n:=(fD pa pb)) η rfl rfl ae (gV ae))<|vE rfl (fun η=>cK (c:=#[aq (pa.tdiv (fD pa pb)),aq (pb.tdiv (fD pa pb))]) eA η rfl rfl)<|eS rfl<|cX 0 σ rfl fun _ σ=>sz rfl<|oR (fun e=>dA Tryz.results156 (RV.cell e aC rfl σ.dj rfl))<|⟨by unfold mb I1; dsimp only; first | (rw [aR ae]; done) | (rw [aQ ae,aR ae]; done) | (rw [aQ ae,aQ ae]; done),σ.below⟩
   ·exact iF rfl rfl<|gY [9] [0,5,8,12,16,21,24,28,32,38] aK σ fun _ σ=>lS 1 rfl<|vE rfl (fun η=>kf (m:=pa) (n:=(fD pa pb)) η rfl rfl ae (gV ae))<|lS 1 rfl<|vE rfl (fun η=>kf (m:=pb) (n:=(fD pa pb)) η rfl rfl ae (gV ae))<|vE rfl (fun η=>cK (c:=#[aq (pa.tdiv (fD pa pb)),aq (pb.tdiv (fD pa pb))]) eA η rfl rfl)<|eS rfl<|cX 0 σ rfl fun _ σ=>sz rfl<|oR (fun e=>dA Tryz.results156 (RV.cell e aC rfl σ.dj rfl))<|⟨by unfold mb I1; dsimp only; first | (rw [aR ae]; done) | (rw [aQ ae,aR ae]; done) | (rw [aQ ae,aQ ae]; done),σ.below⟩
theorem abo {w0:World} {pa pb qa qb:Int} (hp:mv (pa,pb)) (hq:mv (qa,qb)):
  Calls Tryz.prog 111 #[.agg #[aq pa,aq pb],.agg #[aq qa,aq qb]] w0 fun e w'=>e=.returned (.tuple #[.bool (decide (mb (pa,pb)=mb (qa,qb))),aq 0])/\Below w0.heap.size w0 w':=by
 exact dp Tryz.func111 rfl Tryz.ntmps111 rfl fun σ=>eE rfl<|gN σ rfl fun _ bJ σ=>eE rfl<|gN σ rfl fun _ cJ σ=>gE 1 σ rfl<|eE rfl<|dx Tryz.call69 (uY) σ rfl fun _ σ=>kB (b':=true) (dU (show vq pa/\vq pb from hp))<|gE 0 σ rfl<|eE rfl<|dx Tryz.call69 (uY) σ rfl fun _ σ=>kB (b':=true) (dU (show vq qa/\vq qb from hq))<|iF rfl rfl<|gY [] [1,9,6,14,16,20,24] aK σ fun _ σ=>gS 1 rfl<|gS 0 rfl<|eS rfl<|dx Tryz.call156 (Lx hp) σ rfl fun _ σ=>sk σ.kn<|eS rfl<|dx Tryz.call156 (Lx hq) σ rfl fun _ σ=>sk σ.kn<|vE rfl (fun η=>Dm [(mb (pa,pb)).1,(mb (pa,pb)).2] [(mb (qa,qb)).1,(mb (qa,qb)).2] η Ro rfl rfl rfl rfl)<|o2 Tryz.results111 rfl<|⟨by rw [uu.2 (Nq _ _)],σ.below⟩
theorem abp {w0:World} {pa pb qa qb:Int} (hp:mv (pa,pb)) (hq:mv (qa,qb)):
  Calls Tryz.prog 205 #[.agg #[aq pa,aq pb],.agg #[aq qa,aq qb]] w0 fun e w'=>e=.returned (.tuple #[aq (pa*qb - qa*pb),aq 0])/\Below w0.heap.size w0 w':=by
 have m1:=pQ hp.1 hq.2
 have m2:=pQ hq.1 hp.2
 dsimp only at m1 m2
 exact dp Tryz.func205 rfl Tryz.ntmps205 rfl fun σ=>eE rfl<|gN σ rfl fun _ bJ σ=>eE rfl<|gN σ rfl fun _ cJ σ=>gE 1 σ rfl<|eE rfl<|dx Tryz.call69 (uY) σ rfl fun _ σ=>kB (b':=true) (dU (show vq pa/\vq pb from hp))<|gE 0 σ rfl<|eE rfl<|dx Tryz.call69 (uY) σ rfl fun _ σ=>kB (b':=true) (dU (show vq qa/\vq qb from hq))<|iF rfl rfl<|lE 1 σ rfl<|lE 0 σ rfl<|xC rfl ae<|lE 0 σ rfl<|lE 1 σ rfl<|xC rfl ae<|yf rfl ae<|o2 Tryz.results205 rfl<|⟨rfl,σ.below⟩
theorem Gs {w0:World} {A0:Option Addr} {n0 c0:Nat} {es0:List Pt} (h0:(ag df ee 2 A0 n0 c0 es0).P w0) (km:∀p∈es0,mv p):
  Calls Tryz.prog 72 #[.slice A0 n0 c0] w0 fun e w'=>∃(x y:Int) (t:Bool),e=.returned (.tuple #[aq x,aq y,.bool t])/\(t=true↔sZ es0)/\Below w0.heap.size w0 w':=by
 refine dp Tryz.func72 rfl Tryz.ntmps72 rfl fun σ=>?_
 have a8:=h0.2.1
 have ic:=h0.1.cap
 have bW:=h0.1.big
 unfold maxLen at bW
 replace σ:=σ.aE h0
 refine fX (fun mz l w=>∃j:Nat,n0 - j=mz/\l=[(13,ak j),(0,.slice A0 n0 c0),(11,.slice A0 n0 c0),(12,ak n0)]/\St w0 w [] [ag df ee 2 A0 n0 c0 es0]/\j<=n0/\(∀(x y:Nat) (p q:Pt),x<y->y<j->es0[x]?=some p->es0[y]?=some q->mb p≠mb q)) ⟨0,rfl,rfl,σ,(bm _),(fun _ _ _ _ _ h=>absurd h (ks _))⟩ ay ?_
 rintro _ _ _ ⟨j,rfl,rfl,σ,hj,sY⟩
 refine ei rfl<|wD (fun iz=>?_) fun iz=>?_
 ·have cD:j<n0:=ae
  obtain ⟨⟨pa,pb⟩,b5⟩:∃e,es0[j]?=some e:=⟨_,aw ae⟩
  refine iT rfl rfl<|vE rfl (fun η=>az (i:=j) η Tryz.underlying22 (aC.size) rfl rfl ae rfl σ.aU.1)<|cE rfl (fun η=>bF (i:=j) (e:=(pa,pb)) η aC rfl rfl ft σ.aU.1 ae b5 rfl)<|eE rfl<|eL bp σ rfl fun _ cJ σ=>eE rfl<|cX 0 σ rfl fun _ σ=>vE rfl (fun η=>nh (m:=j) η Tryz.underlying22 (aC.size) rfl rfl ae)<|fX (fun mz l w=>∃m:Nat,j - m=mz/\l=[(22,ak m),(0,.slice A0 n0 c0),(5,ak j),(6,bB cJ),(11,.slice A0 n0 c0),(12,ak n0),(13,ak j),(20,.slice A0 j c0),(21,ak j)]/\St w0 w [bk cJ #[aq pa,aq pb] 61] [ag df ee 2 A0 n0 c0 es0]/\m<=j/\(∀(x:Nat) (p:Pt),x<m->es0[x]?=some p->mb p≠mb (pa,pb))) ⟨0,rfl,rfl,σ,(bm _),(fun _ _ h=>absurd h (ks _))⟩ ay ?_
  rintro _ _ _ ⟨m,rfl,rfl,σ,hm,hni⟩
  refine ei rfl<|wD (fun lU=>?_) fun lU=>?_
  ·have UG:m<j:=ae
   obtain ⟨⟨qa,qb⟩,iH⟩:∃e,es0[m]?=some e:=⟨_,aw ae⟩
   refine iT rfl rfl<|vE rfl (fun η=>DU (i:=m) η Tryz.underlying22 (aC.size) rfl rfl ae ae rfl σ.aU.1)<|cE rfl (fun η=>bF (i:=m) (e:=(qa,qb)) η aC rfl rfl ft σ.aU.1 ae iH rfl)<|eE rfl<|eL bp σ rfl fun _ eZ σ=>eE rfl<|cX 0 σ rfl fun _ σ=>gE 0 σ rfl<|gE 1 σ rfl<|eE rfl<|dx Tryz.call111 (abo (km _ (aB iH)) (km _ (aB b5))) σ rfl fun _ σ=>dE rfl (fun qx=>?_) fun qx=>?_
   ·exact o3 Tryz.results72 rfl<|⟨_,_,_,rfl,⟨fun _=>⟨_,_,_,_,UG,iH,b5,qx⟩,fun _=>rfl⟩,σ.below⟩
   ·exact can (j:=1) rfl ae<|dF ⟨m+1,rfl,rfl,σ.pick [1] [0] ai,ae,(Wh hni iH qx)⟩ ay ae
  ·obtain rfl:j=m:=ae
   exact iF rfl rfl<|can (j:=1) rfl ae<|dF ⟨j+1,rfl,rfl,σ.pick [] [0] ai,ae,(Wg sY hni b5)⟩ ay ae
 ·obtain rfl:j=n0:=ae
  exact iF rfl rfl<|o3 Tryz.results72 rfl<|⟨_,_,_,rfl,⟨fun h=>(by cases h),fun ⟨x,y,p,q,h1,h2,h3,h4⟩=>absurd h4 (sY x y p q h1 (by have:=(bU.1 h3).1; omega) h2 h3)⟩,σ.below⟩
theorem wb {w0:World} {pa pb:Int} (hp:mv (pa,pb)) (Ns:¬(pa=0/\pb=0)):
  Calls Tryz.prog 174 #[.agg #[aq pa,aq pb]] w0 fun e w'=>e=.returned (.tuple #[aq (bz (pa,pb)).1,aq (bz (pa,pb)).2.1,aq (bz (pa,pb)).2.2,aq 0])/\Below w0.heap.size w0 w':=by
 have hp9:=hp
 obtain ⟨⟨b1,b2⟩,b3,b4⟩:=hp9
 dsimp only at b1 b2 b3 b4
 have hgb:=Rp pa pb ae ae ae ae
 have MR:=PU Ns
 refine dp Tryz.func174 rfl Tryz.ntmps174 rfl fun σ=>eE rfl<|gN σ rfl fun _ bJ σ=>lE 0 σ rfl<|lE 0 σ rfl<|eE rfl<|dx Tryz.call190 (Cu (m:=pa) (n:=pb) ae ae ae ae) σ rfl fun _ σ=>gE 0 σ rfl<|eE rfl<|dx Tryz.call69 (uY (pa:=pa) (pb:=pb)) σ rfl fun _ σ=>kB (b':=true) (dU (show vq pa/\vq pb from hp))<|iF rfl rfl<|cZ rfl<|kB (b':=false) (kv.2 MR)<|iF rfl rfl<|lE 0 σ rfl<|cZ rfl<|wQ (fun jG=>?_) fun jG=>?_
 ·have Kj:=jG
  exact iT rfl rfl<|gY [] [0,4,9,12,16,20,24,28,32] aK σ fun _ σ=>lS 0 rfl<|vE rfl (fun η=>kf (m:=pa) (n:=(fD pa pb)) η rfl rfl MR (gV ae))<|oR (fun e=>afv Tryz.results174 (RV.tmp e rfl) (RV.tmp e rfl) (RV.tmp e rfl) (RV.tmp e rfl))<|⟨by unfold bz; dsimp only; rw [aQ MR,aR Kj],σ.below⟩
 ·have Kj:=jG
  refine iF rfl rfl<|fX (fun mz l w=>∃u:Nat,17 - u=mz/\l=[(7,ak u),(1,bB bJ),(6,aq (fD pa pb))]/\St w0 w [bk bJ #[aq pa,aq pb] 61] []/\u<=16/\(∀(x:Nat),x<2*u->∀s,vZ[x]?=some s->¬(fD pa pb - s*pa).tmod pb=0)) ⟨0,rfl,rfl,σ,ai,(fun _ h=>absurd h ae)⟩ ay ?_
  rintro _ _ _ ⟨u,rfl,rfl,σ,hu,EF⟩
  refine Wa rfl ae<|vE rfl (fun η=>uQ η Tryz.underlying231 (aD.size) lM rfl rfl)<|fX (fun mz l w=>∃j:Nat,2 - j=mz/\l=[(37,ak j),(1,bB bJ),(6,aq (fD pa pb)),(7,ak u),(36,.agg #[ak u,aq (-((u:Nat):Int))])]/\St w0 w [bk bJ #[aq pa,aq pb] 61] []/\j<=2/\(∀(x:Nat),x<2*u+j->∀s,vZ[x]?=some s->¬(fD pa pb - s*pa).tmod pb=0)) ⟨0,rfl,rfl,σ,ai,EF⟩ ay ?_
  rintro _ _ _ ⟨j,rfl,rfl,σ,hj,rR⟩
  refine ei rfl<|wD (fun lU=>?_) fun lU=>?_
  ·have hlj:j<2:=ae
   have hcd:=Wi (u:=u) (j:=j) ae hlj
   have hsb:=abl (u:=u) (j:=j) hu
   have hmb:=pQ hsb ⟨b1,b2⟩
   refine iT rfl rfl<|vE rfl (fun η=>oJ (m:=((u:Nat):Int)) (n:=(-((u:Nat):Int))) (j:=j) η Tryz.underlying231 aD rfl rfl ae)<|lE 0 σ rfl<|xC rfl ae<|yf rfl ae<|lE 0 σ rfl<|vE rfl (fun η=>tu (m:=((fD pa pb) - ((qw ((u:Nat):Int) (-((u:Nat):Int)) j)*pa))) (n:=pb) η rfl rfl Kj rfl)<|cZ rfl<|wQ (fun pV=>?_) fun pV=>?_
   ·exact iT rfl rfl<|gY [] [0,4,8,12,16,21,24,28,32,37,40,44,48,52,56] aK σ fun _ σ=>lS 0 rfl<|xC rfl ae<|yf rfl ae<|lS 0 rfl<|vE rfl (fun η=>kf (m:=((fD pa pb) - ((qw ((u:Nat):Int) (-((u:Nat):Int)) j)*pa))) (n:=pb) η rfl rfl Kj (gV ae))<|oR (fun e=>afv Tryz.results174 (RV.tmp e rfl) (RV.tmp e rfl) (RV.tmp e rfl) (RV.tmp e rfl))<|⟨by rw [agk MR Kj rR hcd pV],σ.below⟩
   ·exact iF rfl rfl<|can (j:=1) rfl ae<|dF ⟨j+1,rfl,rfl,σ,ae,(Wj rR hcd pV)⟩ ay ae
  ·obtain rfl:j=2:=ae
   have hul:u<16:=Wl ⟨b1,b2⟩ ⟨b3,b4⟩ Kj rR hu
   exact iF rfl rfl<|can (j:=1) rfl ae<|dF ⟨u+1,rfl,rfl,σ,ae,rR⟩ ay ae
abbrev jM:=ag fJ FJ 5
abbrev bE:=ag fI FI 1
abbrev vh:=ag fN FN 2
abbrev u3:=ag df ee 2
abbrev Mt:=ag fL FL 1
abbrev aad (A:Option Addr) (n c:Nat) (es:List IE):PF:=av ar 116 5 A n c (fl fJ es)
abbrev aab (A:Option Addr) (n c:Nat) (es:List Int):PF:=av ar 3 1 A n c (fl fI es)
abbrev abi (A:Option Addr) (n c:Nat) (es:List NE):PF:=av ar 52 2 A n c (fl fN es)
abbrev aa1 (A:Option Addr) (n c:Nat) (es:List Pt):PF:=av ar 61 2 A n c (fl df es)
abbrev aaP (A:Option Addr) (n c:Nat) (es:List LE):PF:=av ar 43 1 A n c (fl fL es)
abbrev aal (A:Option Addr) (n c:Nat) (es:List Bool):PF:=av ar 4 1 A n c (fl fO es)
abbrev u4 (i g:Nat) (A:Option Addr) (n c:Nat) (B:Option Addr) (m d:Nat):Array Value:=#[.int .i64 (i:Nat),.int .i64 (g:Nat),.slice A n c,.slice B m d]
def Rr:List Nat:=[0,1,56,2,57,49,28,3,61,58,42,50,38,29,17,4,62,47,59,36,45,43,51,22,53,39,33,30,24,18,12,5,63,55,48,27,60,41,37,16,46,35,44,21,52,32,23,11,54,26,40,15,34,20,31,10,25,14,19,9,13,8,7,6]
def iG (w:World):Prop:=∀j,j<64->w.cell? ⟨1,j,none⟩=some (.int .u8 (Rr.getD j 0:Nat))
theorem iG.lt {w:World} (h:iG w):1<w.heap.size:=block_lt_of_cell (h 0 ae)
def my:PF:=⟨iG,fun b=>b=1,fun h e=>by subst e; exact h.lt,fun h _ hk j hj=>(World.cell?_of_block (hk 1 rfl)).trans (h j hj)⟩
theorem St.j1 {w0:World} {ps:List PF} (h:St w0 w0 [] ps) (hw:iG w0):St w0 w0 [] (my::ps):=h.iB my hw fun e he=>by cases he
section
variable {N:Nat} {dq:List Deferred} {a:Act} {l:List (Nat×Value)} {w:World} {d:Nat} {ty:TypeId} {pos:String} {af:Array Edge} {gd:Option (Nat×Bool)}
theorem Ly {P:Program} {x y:Operand} {T yt:Nat} {m n:Int} (h:aW dq N a l) (hx:bV l x=some (aq m)) (hy:bV l y=some (aq n)):
  (execOp a.eval ⟨some d,.binOp .and T x y yt,ty,pos,af,gd⟩).run P w=.ok (.value (aq (bits .and .i64 m n))) w:=by
 refine bg h hx hy ?_
 have e2:(Op.intBits .and .i64 m n:Sem Value).run P w=.ok (aq (bits .and .i64 m n)) w:=rfl
 simp [eqGuard,binOp]
 exact e2
end
def agm (c:Int):Bool:=decide (bits .and .i64 c (c - 1)=0)==(decide (c=1) || (p2 c).isSome)
theorem abq:∀c:Fin 512,agm ((c.1:Int)+1)=true:=by decide+kernel
theorem Lz {c:Int} (h0:1<=c) (h1:c<=512):(bits .and .i64 c (c - 1)=0)↔(c=1∨(p2 c).isSome=true):=by
 have h:=abq ⟨(c - 1).toNat,by omega⟩
 dsimp only at h
 rw [show (((c - 1).toNat:Nat):Int)+1=c by omega] at h
 unfold agm at h
 have h2:=eq_of_beq h
 constructor
 ·intro q
  rw [dU q] at h2
  simpa using h2.symm
 ·intro q
  exact bX (h2.trans (by simpa using q))
theorem Y6 {c:Int} (h:(p2 c).isSome=true):∃m,p2 c=some m/\c=((2 ^ m:Nat):Int)/\1<=m/\m<=9:=by
 obtain ⟨m,hm⟩:=Option.isSome_iff_exists.1 h
 obtain ⟨h1,h2,h3⟩:=pH hm
 exact ⟨m,hm,by rw [h1]; simp,h2,h3⟩
theorem LA {c:Int} {m:Nat} (h:c=((2 ^ m:Nat):Int)) (hb:c<=512):IntKind.u64.wrap c=((2 ^ m:Nat):Int):=by
 have h0:0<=c:=by rw [h]; exact Int.natCast_nonneg _
 rw [<- h]; exact IntWalk.u64_in _ ae
theorem Rs {t a c:Int} (h1:c≠1) (h2:c≠-1) (sY:∀m,p2 c≠some m):oI t a c=(5,t,a,0,c):=by
 unfold oI
 rw [aQ h1,aQ h2]
 cases hq:p2 c with
 | none=>rfl
 | some m=>exact absurd hq (sY m)
theorem pW {op t a b c:Int} (h:¬(op=1/\t=a)):vp (op,t,a,b,c)=[(op,t,a,b,c)]:=by unfold vp nm; rw [aQ (by simpa using h)]
theorem abr {op t a b c:Int} (h:op=1/\t=a):vp (op,t,a,b,c)=[]:=by unfold vp nm; rw [aR (by simpa using h)]
theorem abt {w0:World} (hD:iG w0):
  Calls Tryz.prog 170 #[.int .u64 2] w0 fun e w'=>e=.returned (aq 1)/\Below w0.heap.size w0 w':=by
 refine dp Tryz.func170 rfl Tryz.ntmps170 rfl fun σ=>?_
 replace σ:=σ.j1 hD
 exact cZ rfl<|kB (b':=false) rfl<|iF rfl rfl<|vE rfl (fun η=>kF (v:=.int .u64 18446744073709551614) η rfl aK)<|vE rfl (fun η=>bg (v:=.int .u64 2) η rfl rfl aK)<|vE rfl (fun η=>bg (v:=.int .u64 571740426102707730) η rfl rfl aK)<|vE rfl (fun η=>bg (v:=.int .u64 1) η rfl rfl aK)<|vE rfl (fun η=>iV (i:=1) η Tryz.underlying291 (eU.size) rfl rfl ai ai)<|cE rfl (fun η=>jl η eU rfl ((show iG _ from σ.aU) 1 ai))<|vE rfl (fun η=>iC η rfl Tryz.underlying5 Tryz.underlying3 rfl)<|o1 Tryz.results170 rfl<|⟨rfl,σ.below⟩
theorem abu {w0:World} (hD:iG w0):
  Calls Tryz.prog 170 #[.int .u64 4] w0 fun e w'=>e=.returned (aq 2)/\Below w0.heap.size w0 w':=by
 refine dp Tryz.func170 rfl Tryz.ntmps170 rfl fun σ=>?_
 replace σ:=σ.j1 hD
 exact cZ rfl<|kB (b':=false) rfl<|iF rfl rfl<|vE rfl (fun η=>kF (v:=.int .u64 18446744073709551612) η rfl aK)<|vE rfl (fun η=>bg (v:=.int .u64 4) η rfl rfl aK)<|vE rfl (fun η=>bg (v:=.int .u64 1143480852205415460) η rfl rfl aK)<|vE rfl (fun η=>bg (v:=.int .u64 3) η rfl rfl aK)<|vE rfl (fun η=>iV (i:=3) η Tryz.underlying291 (eU.size) rfl rfl ai ai)<|cE rfl (fun η=>jl η eU rfl ((show iG _ from σ.aU) 3 ai))<|vE rfl (fun η=>iC η rfl Tryz.underlying5 Tryz.underlying3 rfl)<|o1 Tryz.results170 rfl<|⟨rfl,σ.below⟩
theorem abv {w0:World} (hD:iG w0):
  Calls Tryz.prog 170 #[.int .u64 8] w0 fun e w'=>e=.returned (aq 3)/\Below w0.heap.size w0 w':=by
 refine dp Tryz.func170 rfl Tryz.ntmps170 rfl fun σ=>?_
 replace σ:=σ.j1 hD
 exact cZ rfl<|kB (b':=false) rfl<|iF rfl rfl<|vE rfl (fun η=>kF (v:=.int .u64 18446744073709551608) η rfl aK)<|vE rfl (fun η=>bg (v:=.int .u64 8) η rfl rfl aK)<|vE rfl (fun η=>bg (v:=.int .u64 2286961704410830920) η rfl rfl aK)<|vE rfl (fun η=>bg (v:=.int .u64 7) η rfl rfl aK)<|vE rfl (fun η=>iV (i:=7) η Tryz.underlying291 (eU.size) rfl rfl ai ai)<|cE rfl (fun η=>jl η eU rfl ((show iG _ from σ.aU) 7 ai))<|vE rfl (fun η=>iC η rfl Tryz.underlying5 Tryz.underlying3 rfl)<|o1 Tryz.results170 rfl<|⟨rfl,σ.below⟩
theorem abw {w0:World} (hD:iG w0):
  Calls Tryz.prog 170 #[.int .u64 16] w0 fun e w'=>e=.returned (aq 4)/\Below w0.heap.size w0 w':=by
 refine dp Tryz.func170 rfl Tryz.ntmps170 rfl fun σ=>?_
 replace σ:=σ.j1 hD
 exact cZ rfl<|kB (b':=false) rfl<|iF rfl rfl<|vE rfl (fun η=>kF (v:=.int .u64 18446744073709551600) η rfl aK)<|vE rfl (fun η=>bg (v:=.int .u64 16) η rfl rfl aK)<|vE rfl (fun η=>bg (v:=.int .u64 4573923408821661840) η rfl rfl aK)<|vE rfl (fun η=>bg (v:=.int .u64 15) η rfl rfl aK)<|vE rfl (fun η=>iV (i:=15) η Tryz.underlying291 (eU.size) rfl rfl ai ai)<|cE rfl (fun η=>jl η eU rfl ((show iG _ from σ.aU) 15 ai))<|vE rfl (fun η=>iC η rfl Tryz.underlying5 Tryz.underlying3 rfl)<|o1 Tryz.results170 rfl<|⟨rfl,σ.below⟩
theorem abx {w0:World} (hD:iG w0):
  Calls Tryz.prog 170 #[.int .u64 32] w0 fun e w'=>e=.returned (aq 5)/\Below w0.heap.size w0 w':=by
 refine dp Tryz.func170 rfl Tryz.ntmps170 rfl fun σ=>?_
 replace σ:=σ.j1 hD
 exact cZ rfl<|kB (b':=false) rfl<|iF rfl rfl<|vE rfl (fun η=>kF (v:=.int .u64 18446744073709551584) η rfl aK)<|vE rfl (fun η=>bg (v:=.int .u64 32) η rfl rfl aK)<|vE rfl (fun η=>bg (v:=.int .u64 9147846817643323680) η rfl rfl aK)<|vE rfl (fun η=>bg (v:=.int .u64 31) η rfl rfl aK)<|vE rfl (fun η=>iV (i:=31) η Tryz.underlying291 (eU.size) rfl rfl ai ai)<|cE rfl (fun η=>jl η eU rfl ((show iG _ from σ.aU) 31 ai))<|vE rfl (fun η=>iC η rfl Tryz.underlying5 Tryz.underlying3 rfl)<|o1 Tryz.results170 rfl<|⟨rfl,σ.below⟩
theorem aby {w0:World} (hD:iG w0):
  Calls Tryz.prog 170 #[.int .u64 64] w0 fun e w'=>e=.returned (aq 6)/\Below w0.heap.size w0 w':=by
 refine dp Tryz.func170 rfl Tryz.ntmps170 rfl fun σ=>?_
 replace σ:=σ.j1 hD
 exact cZ rfl<|kB (b':=false) rfl<|iF rfl rfl<|vE rfl (fun η=>kF (v:=.int .u64 18446744073709551552) η rfl aK)<|vE rfl (fun η=>bg (v:=.int .u64 64) η rfl rfl aK)<|vE rfl (fun η=>bg (v:=.int .u64 18295693635286647360) η rfl rfl aK)<|vE rfl (fun η=>bg (v:=.int .u64 63) η rfl rfl aK)<|vE rfl (fun η=>iV (i:=63) η Tryz.underlying291 (eU.size) rfl rfl ai ai)<|cE rfl (fun η=>jl η eU rfl ((show iG _ from σ.aU) 63 ai))<|vE rfl (fun η=>iC η rfl Tryz.underlying5 Tryz.underlying3 rfl)<|o1 Tryz.results170 rfl<|⟨rfl,σ.below⟩
theorem abz {w0:World} (hD:iG w0):
  Calls Tryz.prog 170 #[.int .u64 128] w0 fun e w'=>e=.returned (aq 7)/\Below w0.heap.size w0 w':=by
 refine dp Tryz.func170 rfl Tryz.ntmps170 rfl fun σ=>?_
 replace σ:=σ.j1 hD
 exact cZ rfl<|kB (b':=false) rfl<|iF rfl rfl<|vE rfl (fun η=>kF (v:=.int .u64 18446744073709551488) η rfl aK)<|vE rfl (fun η=>bg (v:=.int .u64 128) η rfl rfl aK)<|vE rfl (fun η=>bg (v:=.int .u64 18144643196863743104) η rfl rfl aK)<|vE rfl (fun η=>bg (v:=.int .u64 62) η rfl rfl aK)<|vE rfl (fun η=>iV (i:=62) η Tryz.underlying291 (eU.size) rfl rfl ai ai)<|cE rfl (fun η=>jl η eU rfl ((show iG _ from σ.aU) 62 ai))<|vE rfl (fun η=>iC η rfl Tryz.underlying5 Tryz.underlying3 rfl)<|o1 Tryz.results170 rfl<|⟨rfl,σ.below⟩
theorem abA {w0:World} (hD:iG w0):
  Calls Tryz.prog 170 #[.int .u64 256] w0 fun e w'=>e=.returned (aq 8)/\Below w0.heap.size w0 w':=by
 refine dp Tryz.func170 rfl Tryz.ntmps170 rfl fun σ=>?_
 replace σ:=σ.j1 hD
 exact cZ rfl<|kB (b':=false) rfl<|iF rfl rfl<|vE rfl (fun η=>kF (v:=.int .u64 18446744073709551360) η rfl aK)<|vE rfl (fun η=>bg (v:=.int .u64 256) η rfl rfl aK)<|vE rfl (fun η=>bg (v:=.int .u64 17842542320017934592) η rfl rfl aK)<|vE rfl (fun η=>bg (v:=.int .u64 61) η rfl rfl aK)<|vE rfl (fun η=>iV (i:=61) η Tryz.underlying291 (eU.size) rfl rfl ai ai)<|cE rfl (fun η=>jl η eU rfl ((show iG _ from σ.aU) 61 ai))<|vE rfl (fun η=>iC η rfl Tryz.underlying5 Tryz.underlying3 rfl)<|o1 Tryz.results170 rfl<|⟨rfl,σ.below⟩
theorem abB {w0:World} (hD:iG w0):
  Calls Tryz.prog 170 #[.int .u64 512] w0 fun e w'=>e=.returned (aq 9)/\Below w0.heap.size w0 w':=by
 refine dp Tryz.func170 rfl Tryz.ntmps170 rfl fun σ=>?_
 replace σ:=σ.j1 hD
 exact cZ rfl<|kB (b':=false) rfl<|iF rfl rfl<|vE rfl (fun η=>kF (v:=.int .u64 18446744073709551104) η rfl aK)<|vE rfl (fun η=>bg (v:=.int .u64 512) η rfl rfl aK)<|vE rfl (fun η=>bg (v:=.int .u64 17238340566326317568) η rfl rfl aK)<|vE rfl (fun η=>bg (v:=.int .u64 59) η rfl rfl aK)<|vE rfl (fun η=>iV (i:=59) η Tryz.underlying291 (eU.size) rfl rfl ai ai)<|cE rfl (fun η=>jl η eU rfl ((show iG _ from σ.aU) 59 ai))<|vE rfl (fun η=>iC η rfl Tryz.underlying5 Tryz.underlying3 rfl)<|o1 Tryz.results170 rfl<|⟨rfl,σ.below⟩
theorem alu {m:Nat} {w0:World} (h1:1<=m) (h2:m<=9) (hD:iG w0):Calls Tryz.prog 170 #[.int .u64 ((2 ^ m:Nat):Int)] w0 fun e w'=>e=.returned (ak m)/\Below w0.heap.size w0 w':=by
 rcases (show m=1∨m=2∨m=3∨m=4∨m=5∨m=6∨m=7∨m=8∨m=9 by omega) with rfl | rfl | rfl | rfl | rfl | rfl | rfl | rfl | rfl
 ·exact abt hD
 ·exact abu hD
 ·exact abv hD
 ·exact abw hD
 ·exact abx hD
 ·exact aby hD
 ·exact abz hD
 ·exact abA hD
 ·exact abB hD
theorem tz {w0:World} {m:Nat} (h1:1<=m) (h2:m<=9) (hD:iG w0):
  Calls Tryz.prog 128 #[.int .u64 (2 ^ m:Nat)] w0 fun e w'=>e=.returned (ak m)/\Below w0.heap.size w0 w':=by
 refine dp Tryz.func128 rfl Tryz.ntmps128 rfl fun σ=>?_
 replace σ:=σ.j1 hD
 exact iF rfl rfl<|eE rfl<|dx Tryz.call170 (alu h1 h2 σ.aU) σ rfl fun _ σ=>o1 Tryz.results128 rfl<|⟨rfl,σ.below⟩
theorem Gt {es:List Pt} {j:Nat} {pa pb:Int} (h:∀(x:Nat) (p:Pt),x<j->es[x]?=some p->mv p) (he:es[j]?=some (pa,pb)) (hp:vq pa/\vq pb):∀(x:Nat) (p:Pt),x<j+1->es[x]?=some p->mv p:=fun x p h1 h2=>by
 rcases dr x j with c | c
 ·exact h x p c h2
 ·obtain rfl:x=j:=ae
  rw [he] at h2
  cases h2
  exact hp
def zZ (l:List Pt):Prop:=1<=l.length/\l.length<=15/\∀p∈l,mv p
instance (l:List Pt):Decidable (zZ l):=by unfold zZ mv; infer_instance
theorem Cv {w0:World} {A0:Option Addr} {n0 c0:Nat} {es0:List Pt} (h0:(u3 A0 n0 c0 es0).P w0):
  Calls Tryz.prog 82 #[.slice A0 n0 c0] w0 fun e w'=>e=.returned (.bool (decide (zZ es0)))/\Below w0.heap.size w0 w':=by
 refine dp Tryz.func82 rfl Tryz.ntmps82 rfl fun σ=>?_
 have a8:=h0.2.1
 have ic:=h0.1.cap
 have bW:=h0.1.big
 unfold maxLen at bW
 replace σ:=σ.aE h0
 clear h0
 refine fX (fun mz l w=>∃j:Nat,n0 - j=mz/\l=[(7,ak j),(0,.slice A0 n0 c0),(5,.slice A0 n0 c0),(6,ak n0)]/\St w0 w [] [u3 A0 n0 c0 es0]/\j<=n0/\(∀(x:Nat) (p:Pt),x<j->es0[x]?=some p->mv p)) ⟨0,rfl,rfl,σ,(bm _),(fun _ _ h=>absurd h (ks _))⟩ ay ?_
 rintro _ _ _ ⟨j,rfl,rfl,σ,hj,n8⟩
 refine ei rfl<|wD (fun iz=>?_) fun iz=>?_
 ·have cD:j<n0:=ae
  obtain ⟨⟨pa,pb⟩,b5⟩:∃e,es0[j]?=some e:=⟨_,aw ae⟩
  refine iT rfl rfl<|vE rfl (fun η=>az (i:=j) η Tryz.underlying22 (aC.size) rfl rfl ae rfl (show (u3 A0 n0 c0 es0).P _ from σ.aU).1)<|cE rfl (fun η=>bF (i:=j) (e:=(pa,pb)) η aC rfl rfl ft (show (u3 A0 n0 c0 es0).P _ from σ.aU).1 ae b5 rfl)<|eE rfl<|eL bp σ rfl fun _ cJ σ=>eE rfl<|cX 0 σ rfl fun _ σ=>gE 0 σ rfl<|eE rfl<|dx Tryz.call69 (uY (pa:=pa) (pb:=pb)) σ rfl fun _ σ=>wD (fun lU=>?_) fun lU=>?_
  ·exact iF rfl rfl<|can (j:=1) rfl ae<|dF ⟨j+1,rfl,rfl,σ.pick [] [0] ai,ae,(Gt n8 b5 lU)⟩ ay ae
  ·exact iT rfl rfl<|o1 Tryz.results82 rfl<|⟨by rw [bR fun q=>lU (q.2.2 _ (aB b5))],σ.below⟩
 ·obtain rfl:j=n0:=ae
  refine iF rfl rfl<|xd rfl<|wD (fun pV=>?_) fun pV=>?_
  ·exact IZ rfl<|o1 Tryz.results82 rfl<|⟨aM (fun b=>Ending.returned (Value.bool b)) (uu.2 ⟨fun q=>⟨by omega,by omega,fun p hp=>by obtain ⟨x,hx⟩:=lV hp; exact n8 x p (by have:=(bU.1 hx).1; omega) hx⟩,fun q=>by have:=q.2.1; omega⟩),σ.below⟩
  ·exact o1 Tryz.results82 rfl<|⟨by rw [bR fun q=>by have:=q.1; omega],σ.below⟩
theorem Gu {w0:World} {t a c:Int} (hD:iG w0) (h1:-512<=c) (h2:c<=512):
  Calls Tryz.prog 85 #[aq t,aq a,aq c] w0 fun e w'=>e=.returned (.agg #[aq (oI t a c).1,aq (oI t a c).2.1,aq (oI t a c).2.2.1,aq (oI t a c).2.2.2.1,aq (oI t a c).2.2.2.2])/\Below w0.heap.size w0 w':=by
 refine dp Tryz.func85 rfl Tryz.ntmps85 rfl fun σ=>?_
 replace σ:=σ.j1 hD
 refine eE rfl<|eL aI σ rfl fun _ bJ σ=>cZ rfl<|wQ (fun jG=>?_) fun jG=>?_
 ·refine iT rfl rfl<|vE rfl (fun η=>cK (c:=#[aq 1,aq t,aq a,aq 0,aq 0]) bG η rfl rfl)<|eE rfl<|cX 0 σ rfl fun _ σ=>oR (fun e=>dA Tryz.results85 (RV.cell e an rfl σ.dj rfl))<|?_
  have ht:oI t a c=((1:Int),t,a,(0:Int),(0:Int)):=by unfold oI; rw [aR ae]
  exact ⟨by rw [ht],σ.below⟩
 ·refine iF rfl rfl<|cZ rfl<|wQ (fun lU=>?_) fun lU=>?_
  ·refine iT rfl rfl<|vE rfl (fun η=>cK (c:=#[aq 2,aq t,aq a,aq 0,aq 0]) bG η rfl rfl)<|eE rfl<|cX 0 σ rfl fun _ σ=>oR (fun e=>dA Tryz.results85 (RV.cell e an rfl σ.dj rfl))<|?_
   have ht:oI t a c=((2:Int),t,a,(0:Int),(0:Int)):=by unfold oI; rw [aQ ae,aR ae]
   exact ⟨by rw [ht],σ.below⟩
  ·refine iF rfl rfl<|pd rfl<|wD (fun pV=>?_) fun pV=>?_
   ·refine yf rfl ae<|vE rfl (fun η=>Ly η rfl rfl)<|cZ rfl<|wQ (fun qx=>?_) fun qx=>?_
    ·have ua:=((Lz ae ae).1 qx).resolve_left ae
     obtain ⟨m,hm,Nt,wM,Ou⟩:=Y6 ua
     refine iT rfl rfl<|vE rfl (fun η=>iC η rfl Tryz.underlying3 Tryz.underlying99 (LA Nt ae))<|eE rfl<|dx Tryz.call128 (tz wM Ou σ.aU) σ rfl fun _ σ=>vE rfl (fun η=>cK (c:=#[aq 7,aq t,aq a,aq 0,ak m]) bG η rfl rfl)<|eE rfl<|cX 0 σ rfl fun _ σ=>oR (fun e=>dA Tryz.results85 (RV.cell e an rfl σ.dj rfl))<|?_
     have ht:oI t a c=((7:Int),t,a,(0:Int),((m:Nat):Int)):=by unfold oI; rw [aQ ae,aQ ae,hm]
     exact ⟨by rw [ht],σ.below⟩
    ·have sY:∀m,p2 c≠some m:=fun m q=>qx ((Lz ae ae).2 (.inr (by rw [q]; rfl)))
     refine iF rfl rfl<|vE rfl (fun η=>cK (c:=#[aq 5,aq t,aq a,aq 0,aq c]) bG η rfl rfl)<|eE rfl<|cX 0 σ rfl fun _ σ=>oR (fun e=>dA Tryz.results85 (RV.cell e an rfl σ.dj rfl))<|?_
     have ht:oI t a c=((5:Int),t,a,(0:Int),c):=Rs ae ae sY
     exact ⟨by rw [ht],σ.below⟩
   ·have sY:∀m,p2 c≠some m:=fun m q=>by have:=pH q; have h9:(0:Int)<2^m:=Int.pow_pos ai; omega
    refine iF rfl rfl<|vE rfl (fun η=>cK (c:=#[aq 5,aq t,aq a,aq 0,aq c]) bG η rfl rfl)<|eE rfl<|cX 0 σ rfl fun _ σ=>oR (fun e=>dA Tryz.results85 (RV.cell e an rfl σ.dj rfl))<|?_
    have ht:oI t a c=((5:Int),t,a,(0:Int),c):=Rs ae ae sY
    exact ⟨by rw [ht],σ.below⟩
section
variable {N:Nat} {dq:List Deferred} {a:Act} {l:List (Nat×Value)} {w:World} {d:Nat} {ty:TypeId} {pos:String} {af:Array Edge} {gd:Option (Nat×Bool)}
end
section
variable {P:Program} {ro:Option Nat} {m k:Nat} {K:Act->World->Prop} {Q:Exit->Act->World->Prop} {N:Nat} {dq:List Deferred} {a:Act} {l:List (Nat×Value)} {w:World}
variable {d:Nat} {ty:TypeId} {pos:String} {af:Array Edge} {gd:Option (Nat×Bool)}
theorem wy {z:Operand} {xs:Array Operand} {Ts:Array TypeId} {vs:Array Value} {l0:Nat} {R:Ending->World->Prop} (h:aW dq N a l) (hd:Nat.blt d N=true) (hz:bV l z=some (.func (.yield l0) #[] #[]))
  (hx:xs.toList.map (bV l)=vs.toList.map some) (hY:YieldAt (WF none) k P l0 vs w R)
  (hK:∀e w',R e w'->∃v,e=.returned v/\∀a',aW dq N a' ((d,v)::l)->K a' w'):
  Oper.wpIn (WF ro) m P ⟨some d,.call ⟨.value z,xs,Ts⟩,ty,pos,af,gd⟩ a w K Q:=by
 have he:xs.map a.eval=vs:=by
  apply BG
  rw [qg]
  generalize xs.toList=xl at hx ⊢
  generalize vs.toList=vl at hx ⊢
  induction xl generalizing vl with
  | nil=>cases vl with
   | nil=>rfl
   | cons=>simp at hx
  | cons x xl ih=>cases vl with
   | nil=>simp at hx
   | cons v vl=>
    simp only [jJ,pf] at hx ⊢
    exact ⟨h.ev hx.1,ih vl hx.2⟩
 obtain ⟨fn,tmps,assign,body,hy,hR⟩:=hY
 have hv:=h.ev hz
 have hr:(execOp a.eval ⟨some d,.call ⟨.value z,xs,Ts⟩,ty,pos,af,gd⟩).run P w=.ok (.round l0 fn tmps assign body) w:=by
  simp [execOp,resolve,invoke,Deferred.ofValue,hv,he,hy]
 have hR2:RoundIn (WF ro) (m - 1) P l0 fn tmps assign body w R:=⟨hR.1,fun c cs _=>hR.2 c cs (room_wide _)⟩
 refine ⟨fun _ _=>trivial,?_⟩
 have e0:Oper.semAt (WF ro).round a.eval ⟨some d,.call ⟨.value z,xs,Ts⟩,ty,pos,af,gd⟩=execOp a.eval ⟨some d,.call ⟨.value z,xs,Ts⟩,ty,pos,af,gd⟩:=Oper.semAt_eq _ _ _ fun _ h=>by cases h
 rw [e0,hr]
 refine ⟨fun hd=>(by cases hd),hR2.mono fun e w' he=>?_⟩
 obtain ⟨v,rfl,Bp⟩:=hK e w' he
 exact Bp _ (h.put hd v)
end
abbrev YE:=Nat×IE
def NA (x:YE):Value:=.int .i64 (x.1:Nat)
def WH (x:YE):Value:=.agg #[.int .i64 x.2.1,.int .i64 x.2.2.1,.int .i64 x.2.2.2.1,.int .i64 x.2.2.2.2.1,.int .i64 x.2.2.2.2.2]
def NB (es:List IE) (k:Nat):List YE:=(List.range k).map fun t=>(es.length - 1 - t,es.getD (es.length - 1 - t) (0,0,0,0,0))
theorem ym (es:List IE) (k:Nat):(NB es k).length=k:=by rw [NB,aZ,mK]
theorem RS {es:List IE} {j k:Nat} {e:IE} (he:es[j]?=some e) (hk:k+j+1=es.length):NB es (k+1)=NB es k++[(j,e)]:=by
 rw [NB,vB,je,jJ,List.map_nil,show es.length - 1 - k=j by omega,aF,he]
 rfl
def KB (p:World->Prop) (X Y:World):Prop:=p X->p Y
def bwP (B:Nat) (A:Option Addr) (n c:Nat) (es:List IE) (w:World):Prop:=w.heap[B]?=some (.cells #[.slice A n c] 25 (0,0))/\(ag fJ FJ 5 A n c es).P w
def atX {α:Type} (P:Program) (g:Nat) (lb:Array Value) (encs:α->Array Value) (Kp:World->World->Prop) (S Sp:List α->Prop) (N:Nat) (w:World):Prop:=
 ∀(l:Nat) (J Jx:List α->World->Prop) (X:World),Below w.heap.size w X->w.heap.size+2<=X.heap.size->OwnFrom X.heap.size J->OwnFrom X.heap.size Jx->
  (∀pre x Y,J pre Y->pre.length<N->YieldAt (WF none) 7 P l (encs x) Y fun e Z=>(e=.returned (.bool true)/\J (pre++[x]) Z/\Kp Y Z)∨(e=.returned (.bool false)/\Jx (pre++[x]) Z/\Kp Y Z))->
  J [] X->Calls P g (#[.func (.yield l) #[] #[]]++lb) X fun e Z=>(∃v,e=.returned v)/\((∃xs,S xs/\J xs Z)∨∃pre,Sp pre/\Jx pre Z)
def RT {α:Type} (B:Nat) (Kp:World->World->Prop) (I:List α->World->Prop) (Ix:Code->List α->World->Prop) (xs:List α) (W:World):Exit->Act->World->Prop
 | .normal,_,Z=>KeepsFrom B W Z/\Kp W Z/\I xs Z
 | .ret,_,Z=>KeepsFrom B W Z/\Kp W Z/\Ix .ret xs Z
 | .exit id,_,Z=>KeepsFrom B W Z/\Kp W Z/\Ix (.exit id) xs Z
 | _,_,_=>False
def CA (fn:FuncId) (t:Array Value) (ps:Array Tmp) (asg bd:Code) (D:Nat) (st:LoopState) (pe:Option Code):Loop:={ state:=st,pending:=pe,fn:=fn,tmps:=t,params:=ps,assign:=asg,body:=bd,defers:=D }
def AF (r:Loop) (D:Nat) (W:World):Prop:=W.heap[D+1]?=some (.loop r)/\W.heap[D]?=some (.deferred (some []))
theorem yn {β:Type} (r:Loop) (D:Nat):OwnFrom (D+2) (fun (_:β) W=>AF r D W):=fun _ X Y row hs hg hr=>
 ⟨(hg.block _ (lt_of_block hs.1) fun e=>by have:=(hr _ e.symm).1; omega).trans hs.1,(hg.block _ (lt_of_block hs.2) fun e=>by have:=(hr _ e.symm).1; omega).trans hs.2⟩
theorem ki {β:Type} {B C:Nat} {I:β->World->Prop} (h:OwnFrom B I) (hB:B<=C):OwnFrom C I:=fun s X Y row hs hg hr=>h s X Y row hs hg fun r e=>⟨bq hB (hr r e).1,(hr r e).2⟩
theorem kT {r r':Loop} {D:Nat} {W:World} (h:AF r D W):AF r' D (W.putObj (D+1) (.loop r')):=
 ⟨World.putObj_heap_same (lt_of_block h.1),(World.putObj_heap_other ae).trans h.2⟩
theorem oL {r:Loop} {D:Nat} {X Y:World} (h:AF r D X) (hk:KeepsFrom D X Y):AF r D Y:=⟨hk.same _ _ ae h.1 rfl,hk.same _ _ (aY _) h.2 rfl⟩
section
variable {P:Program} {Q:Exit->Act->World->Prop} {N:Nat} {dq:List Deferred} {a:Act} {l:List (Nat×Value)} {w:World}
end
theorem Jh {A0:Option Addr} {n0 c0:Nat} {w0:World}:
  Calls Tryz.prog 213 #[.slice A0 n0 c0] w0 fun e w'=>∃g,e=.returned (.func (.func 238) #[] #[bB g])/\w'.heap[g]?=some (.cells #[.slice A0 n0 c0] 25 (0,0))/\w0.heap.size<=g/\Below w0.heap.size w0 w':=by
 refine enter Tryz.func213 rfl Tryz.ntmps213 rfl ?_
 intro a η σ
 refine wp_seq (aj ?_)
 refine au rfl (jL η σ rfl rfl rfl ?_)
 clear η σ a; intro a Uf bJ η σ
 refine sv η rfl (aV η rfl) ?_
 clear η a; intro a η
 refine wpList_nil (aT (wp_seq (aj ?_)))
 revert a
 refine sA rfl (fun _ η=>cW (us:=#[]) (vs:=#[bB bJ]) η rfl rfl) ?_
 refine aA rfl rfl ?_
 intro a η
 refine wpList_nil (aT (wp_ret ?_))
 refine leave η (dA Tryz.results213 (RV.tmp η rfl)) ?_
 exact ⟨bJ,rfl,σ.dj,σ.new _ (aB (i:=0) rfl) _ rfl,σ.below⟩
theorem RU {i g:Int} {A0 A1:Option Addr} {n0 c0 n1 c1:Nat} {w0:World}:
  Calls Tryz.prog 184 #[.agg #[.int .i64 i,.int .i64 g,.slice A0 n0 c0,.slice A1 n1 c1]] w0 fun e w'=>∃b,e=.returned (.func (.func 211) #[] #[bB b])/\w'.heap[b]?=some (.cells #[.int .i64 i,.int .i64 g,.slice A0 n0 c0,.slice A1 n1 c1] 28 (0,0))/\w0.heap.size<=b/\Below w0.heap.size w0 w':=by
 refine enter Tryz.func184 rfl Tryz.ntmps184 rfl ?_
 intro a η σ
 refine wp_seq (aj ?_)
 refine au rfl (jL η σ rfl rfl rfl ?_)
 clear η σ a; intro a Uf bJ η σ
 refine sv η rfl (aV η rfl) ?_
 clear η a; intro a η
 refine wpList_nil (aT (wp_seq (aj ?_)))
 revert a
 refine sA rfl (fun _ η=>cW (us:=#[]) (vs:=#[bB bJ]) η rfl rfl) ?_
 refine aA rfl rfl ?_
 intro a η
 refine wpList_nil (aT (wp_ret ?_))
 refine leave η (dA Tryz.results184 (RV.tmp η rfl)) ?_
 exact ⟨bJ,rfl,σ.dj,σ.new _ (aB (i:=0) rfl) _ rfl,σ.below⟩
theorem jv {w w':World} (h:Below w.heap.size w w'):w.grownBy w' none:=⟨h.os,h.tape,h.output,h.size,fun k hk _=>h.block k hk⟩
theorem GM {B:Nat} {w w':World} (h:Below w.heap.size w w'):KeepsFrom B w w':=⟨h.size,fun k _ _ hk _=>(h.block k (lt_of_block hk)).trans hk⟩
theorem fu {α:Type} {f:α->List Value} {F:α->PF} (hF:∀e b,¬(F e).di b) {z n c:Nat} {A:Option Addr} {es:List α} (hz:0<z):tD (ag f F z A n c es):=fun w b h hf=>by
 rcases hf with ⟨hp,off,rfl⟩ | ⟨e,_,hf⟩
 ·obtain ⟨b',o,e',cD,hc⟩:=h.1.cells hp
  cases e'
  have C5:0<n*z:=BH hp hz
  have h1:=hc 0 C5
  rw [j7,aw (by rw [h.1.len]; exact C5)] at h1
  have h2:w.heap[b]?=some w.heap[b]:=yJ cD
  refine ⟨_,h2,?_⟩
  unfold World.cell? at h1
  rw [h2] at h1
  revert h1
  cases w.heap[b]<;>simp [Obj.isCells]
 ·exact (hF e b hf).elim
def RW (B:Nat) (i g:Int) (A0:Option Addr) (n0 c0:Nat) (A1:Option Addr) (n1 c1:Nat) (es:List IE) (os:List Int) (w:World):Prop:=
 (bk B #[.int .i64 i,.int .i64 g,.slice A0 n0 c0,.slice A1 n1 c1] 28).P w/\(ag fJ FJ 5 A0 n0 c0 es).P w/\(ag fI FI 1 A1 n1 c1 os).P w
theorem D5 {B D n0 c0 n1 c1:Nat} {i g:Int} {A0 A1:Option Addr} {es:List IE} {os:List Int} {X Y:World} {row:Option Nat} (h:RW B i g A0 n0 c0 A1 n1 c1 es os X) (hg:X.grownBy Y row) (hr:∀r,row=some r->D<=r/\∃o:Obj,X.heap[r]?=some o/\o.isCells=false):RW B i g A0 n0 c0 A1 n1 c1 es os Y:=
 ⟨dC bI h.1 hg hr,dC (fu (fun _ _ h=>h) ai) h.2.1 hg hr,dC (fu (fun _ _ h=>h) ai) h.2.2 hg hr⟩
def KX (n:Nat) (p:World->Prop) (X Y:World):Prop:=X.heap.size<=Y.heap.size/\(∀b o,n+2<=b->X.heap[b]?=some o->Y.heap[b]?=some o)/\(p X->p Y)
theorem GN {n:Nat} {p:World->Prop} {X Y Z:World} (h:KX n p X Y) (k:KX n p Y Z):KX n p X Z:=⟨bq h.1 k.1,fun b o hb ho=>k.2.1 b o hb (h.2.1 b o hb ho),fun q=>k.2.2 (h.2.2 q)⟩
section
variable {B n0 c0 n1 c1:Nat} {i g:Int} {A0 A1:Option Addr} {es:List IE} {os:List Int} {w:World}
theorem RX {n:Nat} {X:World} {o o':Obj} (h:X.heap[n+1]?=some o) (hc:o.isCells=false):KX n (RW B i g A0 n0 c0 A1 n1 c1 es os) X (X.putObj (n+1) o'):=by
 have hg:=grownBy_putObj' X (n+1) o'
 exact ⟨hg.size,fun b q hb hq=>(World.putObj_heap_other ae).trans hq,fun hp=>D5 hp hg fun r e=>by cases e; exact ⟨bm _,o,h,hc⟩⟩
theorem LJ {X:World} (hp:RW B i g A0 n0 c0 A1 n1 c1 es os w) (hX:Below w.heap.size w X):RW B i g A0 n0 c0 A1 n1 c1 es os X:=D5 (D:=0) hp (jv hX) fun r e=>by cases e
end
end Go.Proofs.YtgopcdagnicekaaGreatDoor.W
