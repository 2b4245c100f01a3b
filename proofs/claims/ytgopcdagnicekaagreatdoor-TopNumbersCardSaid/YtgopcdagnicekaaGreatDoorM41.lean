/- Package row: what its functions leave. Printed by pv/gen_row.py. No condition. -/
import Derived.Test.YtgopcdagnicekaaGreatDoorM1
import Derived.Test.YtgopcdagnicekaaGreatDoorM12
import Derived.Test.YtgopcdagnicekaaGreatDoorM31
import Derived.Test.YtgopcdagnicekaaGreatDoorM40

set_option linter.unusedVariables false
set_option linter.unusedSimpArgs false
set_option linter.all false
set_option maxRecDepth 100000
set_option maxHeartbeats 1000000
namespace Go.Proofs.YtgopcdagnicekaaGreatDoor.W
open Go.RowKit Anv Go.Lib
theorem Fw {E:PF} {f:FuncId} {first caps:Array Value} {g:Int->Int} {A0:Option Addr} {n0 c0:Nat} {es0:List NE} {w0:World} (h0:(ag fN FN 2 A0 n0 c0 es0).P w0) (hE:E.P w0) (Vn:∀args w,(callFunc f args).run Tryz.prog w=.ok (.enter f args) w) (hf:∀(i:Nat) (A:Option Addr) (c:Nat) (z:Int) (w:World),es0[i]?=some (A,c,z)->E.P w->dK w A c z->Calls Tryz.prog f (first++#[.agg #[.bool (neg z),.slice A (zl z) c]]++caps) w fun e w'=>∃v,e=.returned v/\pj w' v (g z)/\Below w.heap.size w w') (hn:n0<=100000000):
  Calls Tryz.prog 226 #[.slice A0 n0 c0,.func (.func f) first caps] w0 fun e w'=>∃v,e=.returned v/\qC w0.heap.size w' v n0 ((es0.map zz).map g)/\Below w0.heap.size w0 w':=by
 refine enter Tryz.func226 rfl Tryz.ntmps226 rfl ?_
 intro a η σ
 replace σ:=σ.iq E hE
 have a8:=h0.2.1
 have bW:=bq h0.1.cap h0.1.big
 unfold maxLen at bW
 replace σ:=σ.aE h0
 clear h0
 refine wp_seq (aj ?_)
 refine sv (v:=bA) η rfl (aV η rfl) ?_
 clear η a; intro a η
 refine wpList_nil (aT (wp_seq (aj ?_)))
 refine sv (v:=bA) η rfl (aV η rfl) ?_
 clear η a; intro a η
 refine wpList_nil (aT (wp_seq (wp_seq (aj ?_))))
 revert a
 refine mA rfl rfl ?_
 refine sA (v:=.int .i64 (n0:Nat)) rfl (fun _ η=>eW η Tryz.underlying43 rfl) ?_
 refine mA rfl rfl ?_
 intro a η
 refine wpList_nil (aT (wp_block ?_))
 replace σ:=(σ.cl ar 52 2).nP FN
 refine wp_loop_ghost (fun mz a w=>∃(j:Nat) (B:Option Addr) (d:Nat) (os:List NE),n0 - j=mz/\Env 22 a [(1,.func (.func f) first caps),(8,.slice A0 n0 c0),(9,.int .i64 (n0:Nat)),(10,.int .i64 (j:Nat)),(5,.slice B j d)]/\St w0 w [av ar 52 2 B j d (fl fN os)] [bL FN os,ag fN FN 2 A0 n0 c0 es0,E]/\j<=n0/\os.map zz=((es0.map zz).take j).map g) _ ⟨0,none,0,[],rfl,η.sub ay,σ.pick [0] [0,1,2] ai,(bm _),rfl⟩ ?_
 clear η σ a
 rintro mz a w1 ⟨j,B,d,os,rfl,η,σ,hj,ho⟩
 refine wp_seq (aj ?_)
 refine sv (v:=.bool (decide (((j:Nat):Int)<((n0:Nat):Int)))) η rfl (bg η rfl rfl rfl) ?_
 clear η a; intro a η
 refine wpList_nil (aT (wp_seq ?_))
 refine dY η rfl (fun xx=>?_) (fun xx=>?_)
 ·have cD:j<n0:=by have:=bX xx; omega
  obtain ⟨⟨A,c,z⟩,b5⟩:∃e,es0[j]?=some e:=⟨_,aw ae⟩
  replace σ:=σ.elem (k:=1) rfl b5
  refine wp_skip (aT (wp_seq (wp_block (wp_seq (aj ?_)))))
  revert a
  refine sA (v:=.pointer (some ⟨ab A0,ao A0+j*2,none⟩)) rfl (fun _ η=>jy (i:=j) η Tryz.underlying43 (ah.size) rfl rfl ae rfl σ.cF.1) ?_
  refine sA (v:=.agg #[.bool (neg z),.slice A (zl z) c]) rfl (fun _ η=>bF (i:=j) (e:=(A,c,z)) η ah rfl rfl eF σ.cF.1 ae b5 rfl) ?_
  intro a η
  refine au rfl (fA (c:=#[.bool (neg 0),.slice none (zl 0) 0]) η σ rfl aG lZ ?_)
  clear η σ a; intro a w4 g3 η σ
  refine au rfl (fW (k:=0) (c':=#[.bool (neg z),.slice A (zl z) c]) η σ (ah.size) rfl rfl rfl rfl cT rfl rfl ?_)
  clear η σ a; intro a w5 η σ
  refine wpList_nil (aT (aj ?_))
  revert a
  refine mA rfl rfl ?_
  refine mA rfl rfl ?_
  refine sA (v:=.agg #[.bool (neg z),.slice A (zl z) c]) rfl (fun _ η=>dX η ah rfl σ.dj rfl) ?_
  intro a η
  refine au rfl (uJ (vs:=#[.agg #[.bool (neg z),.slice A (zl z) c]]) η rfl Vn rfl rfl (hf j _ _ _ _ b5 σ.eY (show dK _ A c z from σ.aU)) ?_)
  rintro e w9 ⟨_,rfl,⟨A6,c7,rfl,hz8⟩,hb⟩
  refine ⟨_,rfl,?_⟩
  clear η a; intro a η
  replace σ:=(σ.call hb).eO hz8 ⟨aN rfl,aL,trivial⟩
  clear hz8
  clear hb
  refine au rfl (jX (z:=2) (pv:=#[(0,.agg #[.bool (neg (g z)),.slice A6 (zl (g z)) c7])]) (c:=#[.bool (neg (g z)),.slice A6 (zl (g z)) c7]) η σ rfl Tryz.underlying43 (ah.size) aG ai ai rfl aK ?_)
  clear η σ a; intro a w11 g10 η σ
  refine au rfl (pG (k:=2) (j:=0) η σ rfl Tryz.underlying43 bK rfl rfl rfl rfl rfl rfl rfl rfl rfl rfl rfl (by unfold maxLen; omega) ae ?_)
  clear η σ a; intro a w14 g12 c13 η σ
  rw [show fl fN os++(#[.bool (neg (g z)),.slice A6 (zl (g z)) c7]:Array Value).toList=fl fN (os++[(A6,c7,(g z))]) from Dp (f:=fN) os (A6,c7,(g z))] at σ
  replace σ:=σ.l7 (e:=(A6,c7,(g z))) (i:=2) (j:=0) rfl rfl
  refine sv (v:=.slice (bh g12) (j+1) c13) η rfl (aV η rfl) ?_
  clear η a; intro a η
  refine wpList_nil (qA (aT (aj ?_)))
  revert a
  refine sA (v:=.int .i64 (j+1:Nat)) rfl (fun _ η=>im η rfl rfl (by rw [IntWalk.i64_in _ ae]; omega)) ?_
  refine mA rfl rfl ?_
  intro a η
  refine wpList_nil ?_
  exact aT ⟨_,ae,⟨j+1,(bh g12),c13,(os++[(A6,c7,(g z))]),rfl,η.sub ay,σ.pick [2] [0,4,5] ai,ae,(step_map ho b5)⟩⟩
 ·obtain rfl:j=n0:=by have:=fT xx; omega
  refine wp_exit (kW (kW (tt (aT (wp_seq (aj ?_))))))
  revert a
  refine mA rfl rfl ?_
  refine aA rfl rfl ?_
  intro a η
  refine wpList_nil (aT (wp_ret ?_))
  refine leave η (dA Tryz.results226 (RV.tmp η rfl)) ?_
  have Hw:os.map zz=_:=ho.trans (by rw [bD (by rw [aZ]; omega)])
  exact ⟨_,rfl,⟨_,_,os,rfl,σ.newRow (k:=0) (j:=0) rfl rfl,Ds Hw (by rw [aZ,aZ]; omega),Hw⟩,σ.below⟩
theorem M1 {E X Y:PF} {f:FuncId} {first caps:Array Value} {g:Int->Int->Int} {A0 A1:Option Addr} {n0 c0 c1:Nat} {es0 es1:List NE} {w0 w1:World} {A B:Option Addr} {c d:Nat} {z y:Int} {kb fb bb j:Nat} (hX:YD X) (hS:St w0 w1 [X,bk kb #[.int .i64 ((j:Int) - 1)] 3,bk fb #[.func (.func f) first caps] 300,bk bb #[.slice A1 n0 c1] 43] [BW A c z,Y,ag fN FN 2 A0 n0 c0 es0,E,ag fN FN 2 A1 n0 c1 es1]) (hj:j<n0) (hn:n0<=100000000) (b5:es0[j]?=some (A,c,z)) (iH:es1[j]?=some (B,d,y)) (Vn:∀args w,(callFunc f args).run Tryz.prog w=.ok (.enter f args) w) (hf:∀(i:Nat) (A:Option Addr) (c:Nat) (z:Int) (B:Option Addr) (d:Nat) (y:Int) (w:World),es0[i]?=some (A,c,z)->es1[i]?=some (B,d,y)->E.P w->dK w A c z->dK w B d y->Calls Tryz.prog f (first++#[.agg #[.bool (neg z),.slice A (zl z) c],.agg #[.bool (neg y),.slice B (zl y) d]]++caps) w fun e w'=>∃v,e=.returned v/\pj w' v (g z y)/\Below w.heap.size w w'):
  Calls Tryz.prog 240 #[.agg #[.bool (neg z),.slice A (zl z) c],bB kb,bB fb,bB bb] w1 fun e w'=>∃(A':Option Addr) (c':Nat),e=.returned (.agg #[.bool (neg (g z y)),.slice A' (zl (g z y)) c'])/\St w0 w' [X,bk kb #[.int .i64 (j:Nat)] 3,bk fb #[.func (.func f) first caps] 300,bk bb #[.slice A1 n0 c1] 43] [BW A' c' (g z y),Y,ag fN FN 2 A0 n0 c0 es0,E,ag fN FN 2 A1 n0 c1 es1]:=by
 refine enter Tryz.func240 rfl Tryz.ntmps240 rfl ?_
 intro a η σ
 clear σ
 have σ:=hS
 clear hS
 replace σ:=σ.elem (k:=4) rfl iH
 refine wp_seq (aj ?_)
 refine au rfl (jL (c:=#[.bool (neg z),.slice A (zl z) c]) η σ rfl rfl rfl ?_)
 clear η σ a; intro a w2 g1 η σ
 refine au rfl (fA (c:=#[.bool (neg 0),.slice none (zl 0) 0]) η σ rfl aG lZ ?_)
 clear η σ a; intro a w4 g3 η σ
 refine wpList_nil (aT (wp_seq (aj ?_)))
 revert a
 refine sA (v:=.int .i64 ((j:Int) - 1)) rfl (fun _ η=>aS η aD rfl σ.Dg rfl) ?_
 refine sA (v:=.int .i64 (j:Nat)) rfl (fun _ η=>im η rfl rfl (by rw [IntWalk.i64_in _ ae]; omega)) ?_
 intro a η
 refine au rfl (rM (k:=3) (c':=#[.int .i64 (j:Nat)]) η σ (aD.size) rfl rfl rfl cT rfl rfl ?_)
 clear η σ a; intro a w5 η σ
 refine wpList_nil (aT (wp_seq ?_))
 refine pw (n:=8) (Sk [bk g1 #[.bool (neg z),.slice A (zl z) c] 52,X,bk kb #[.int .i64 (j:Nat)] 3,bk fb #[.func (.func f) first caps] 300,bk bb #[.slice A1 n0 c1] 43] [BW B d y,BW A c z,Y,ag fN FN 2 A0 n0 c0 es0,E,ag fN FN 2 A1 n0 c1 es1] [7] []) mixed rfl η σ ?_
 clear η σ; intro w6 η σ
 refine fH (i:=0) [6,7] (fun w'=>w'.heap[fb]?=some (.cells #[.func (.func f) first caps] 300 (0,0))) (v:=.func (.func f) first caps) rfl aK (fun _ _ _ h=>h) (fun _ _ _ hS=>hS.1.nA (k:=3) rfl) η rfl (σ.nA (k:=4) rfl) (fun w' hg=>aS η eG rfl hg rfl) ?_
 clear η a; intro a η
 refine tL (i:=1) 0 1 [6,7] rfl aK (fun _ _ _ h=>h) η rfl ah rfl σ rfl rfl rfl ?_
 clear η a; intro a η
 refine fH (i:=2) [4,5,6,7] (fun w'=>w'.heap[bb]?=some (.cells #[.slice A1 n0 c1] 43 (0,0))) (v:=.slice A1 n0 c1) rfl aK (fun _ _ _ h=>h) (fun _ _ _ hS=>hS.1.nA (k:=4) rfl) η rfl (σ.nA (k:=5) rfl) (fun w' hg=>aS η aH rfl hg rfl) ?_
 clear η a; intro a η
 refine fH (i:=3) [4,5,6,7] (fun w'=>w'.heap[kb]?=some (.cells #[.int .i64 (j:Nat)] 3 (0,0))) (v:=.int .i64 (j:Nat)) rfl aK (fun _ _ _ h=>h) (fun _ _ _ hS=>hS.1.nA (k:=2) rfl) η rfl σ.Dg (fun w' hg=>aS η aD rfl hg rfl) ?_
 clear η a; intro a η
 refine fH (i:=4) [5,6,7] (fun w'=>(ag fN FN 2 A1 n0 c1 es1).P w') (v:=.pointer (some ⟨ab A1,ao A1+j*2,none⟩)) rfl aK (fun _ _ _ h=>h) (fun _ _ _ hS=>hS.1.pat (k:=5) rfl) η rfl σ.nF (fun w' hg=>jy (i:=j) η Tryz.underlying43 (ah.size) rfl rfl ae rfl (hg).1) ?_
 clear η a; intro a η
 refine fH (i:=5) [6,7] (fun w'=>(ag fN FN 2 A1 n0 c1 es1).P w') (v:=.agg #[.bool (neg y),.slice B (zl y) d]) rfl aK (fun _ _ _ h=>h) (fun _ _ _ hS=>hS.1.pat (k:=5) rfl) η rfl σ.nF (fun w' hg=>bF (i:=j) (e:=(B,d,y)) η ah rfl rfl eF (hg).1 ae iH rfl) ?_
 clear η a; intro a η
 refine mY (i:=6) aK rfl rfl (uJ (vs:=#[.agg #[.bool (neg z),.slice A (zl z) c],.agg #[.bool (neg y),.slice B (zl y) d]]) η rfl Vn rfl rfl (hf j _ _ _ _ _ _ _ b5 iH σ.jW (show dK _ A c z from σ.bC) (show dK _ B d y from σ.aU)) ?_)
 rintro e w10 ⟨_,rfl,⟨A7,c8,rfl,hz9⟩,hb⟩
 refine ⟨_,rfl,?_⟩
 clear η a; intro a η
 replace σ:=(σ.call hb).eO hz9 ⟨aN rfl,aN rfl,hX,aN rfl,aN rfl,aN rfl,trivial⟩
 clear hz9
 clear hb
 refine ⟨.inr ⟨σ.kn.pick (rg 1 5) (rg 1 6),.inr (σ.kn.pick [] [])⟩,?_⟩
 refine mY (i:=7) aK rfl rfl (fW (k:=0) (c':=#[.bool (neg (g z y)),.slice A7 (zl (g z y)) c8]) η σ (ah.size) rfl rfl rfl rfl cT rfl rfl ?_)
 clear η σ a; intro a w11 η σ
 refine ⟨.inr ⟨σ.kn.pick (rg 1 5) (rg 1 6),.inl rfl⟩,?_⟩
 refine rN aK ?_ _
 refine aT (wp_ret ?_)
 refine leave η (dA Tryz.results240 (RV.cell η ah rfl σ.dj rfl)) ?_
 exact ⟨_,_,rfl,σ.pick [2,3,4,5] [0,3,4,5,6] ai⟩
theorem M3 {E:PF} {f:FuncId} {first caps:Array Value} {g:Int->Int->Int} {A0 A1:Option Addr} {n0 c0 c1:Nat} {es0 es1:List NE} {w0 w1:World} {kb fb bb:Nat} (hS:St w0 w1 [bk kb #[.int .i64 (-1)] 3,bk fb #[.func (.func f) first caps] 300,bk bb #[.slice A1 n0 c1] 43] [ag fN FN 2 A0 n0 c0 es0,E,ag fN FN 2 A1 n0 c1 es1]) (hn:n0<=100000000) (Vn:∀args w,(callFunc f args).run Tryz.prog w=.ok (.enter f args) w) (hf:∀(i:Nat) (A:Option Addr) (c:Nat) (z:Int) (B:Option Addr) (d:Nat) (y:Int) (w:World),es0[i]?=some (A,c,z)->es1[i]?=some (B,d,y)->E.P w->dK w A c z->dK w B d y->Calls Tryz.prog f (first++#[.agg #[.bool (neg z),.slice A (zl z) c],.agg #[.bool (neg y),.slice B (zl y) d]]++caps) w fun e w'=>∃v,e=.returned v/\pj w' v (g z y)/\Below w.heap.size w w'):
  Calls Tryz.prog 226 #[.slice A0 n0 c0,.func (.func 240) #[] #[bB kb,bB fb,bB bb]] w1 fun e w'=>∃(A:Option Addr) (c:Nat) (es:List NE),e=.returned (.slice A n0 c)/\St w0 w' [av ar 52 2 A n0 c (fl fN es),bk kb #[.int .i64 ((n0:Int) - 1)] 3,bk fb #[.func (.func f) first caps] 300,bk bb #[.slice A1 n0 c1] 43] [bL FN es,ag fN FN 2 A0 n0 c0 es0,E,ag fN FN 2 A1 n0 c1 es1]/\es.length=n0/\es.map zz=List.zipWith g (es0.map zz) (es1.map zz):=by
 refine enter Tryz.func226 rfl Tryz.ntmps226 rfl ?_
 intro a η σ
 have a8:=(show (ag fN FN 2 A0 n0 c0 es0).P w1 from hS.pat (k:=0) rfl).2.1
 have cY:=(show (ag fN FN 2 A1 n0 c1 es1).P w1 from hS.pat (k:=2) rfl).2.1
 clear σ
 have σ:=hS
 clear hS
 refine wp_seq (aj ?_)
 refine sv (v:=bA) η rfl (aV η rfl) ?_
 clear η a; intro a η
 refine wpList_nil (aT (wp_seq (aj ?_)))
 refine sv (v:=bA) η rfl (aV η rfl) ?_
 clear η a; intro a η
 refine wpList_nil (aT (wp_seq (wp_seq (aj ?_))))
 revert a
 refine mA rfl rfl ?_
 refine sA (v:=.int .i64 (n0:Nat)) rfl (fun _ η=>eW η Tryz.underlying43 rfl) ?_
 refine mA rfl rfl ?_
 intro a η
 refine wpList_nil (aT (wp_block ?_))
 replace σ:=(σ.cl ar 52 2).nP FN
 rw [show (-1:Int)=((0:Nat):Int) - 1 from rfl] at σ
 refine wp_loop_ghost (fun mz a w=>∃(j:Nat) (B:Option Addr) (d:Nat) (os:List NE),n0 - j=mz/\Env 22 a [(1,.func (.func 240) #[] #[bB kb,bB fb,bB bb]),(8,.slice A0 n0 c0),(9,.int .i64 (n0:Nat)),(10,.int .i64 (j:Nat)),(5,.slice B j d)]/\St w0 w [av ar 52 2 B j d (fl fN os),bk kb #[.int .i64 ((j:Int) - 1)] 3,bk fb #[.func (.func f) first caps] 300,bk bb #[.slice A1 n0 c1] 43] [bL FN os,ag fN FN 2 A0 n0 c0 es0,E,ag fN FN 2 A1 n0 c1 es1]/\j<=n0/\os.map zz=(List.zipWith g (es0.map zz) (es1.map zz)).take j) _ ⟨0,none,0,[],rfl,η.sub ay,σ.pick [0,1,2,3] [0,1,2,3] ai,(bm _),rfl⟩ ?_
 clear η σ a
 rintro mz a w1 ⟨j,B,d,os,rfl,η,σ,hj,ho⟩
 refine wp_seq (aj ?_)
 refine sv (v:=.bool (decide (((j:Nat):Int)<((n0:Nat):Int)))) η rfl (bg η rfl rfl rfl) ?_
 clear η a; intro a η
 refine wpList_nil (aT (wp_seq ?_))
 refine dY η rfl (fun xx=>?_) (fun xx=>?_)
 ·have cD:j<n0:=by have:=bX xx; omega
  obtain ⟨⟨A,c,z⟩,b5⟩:∃e,es0[j]?=some e:=⟨_,aw ae⟩
  replace σ:=σ.elem (k:=1) rfl b5
  refine wp_skip (aT (wp_seq (wp_block (wp_seq (aj ?_)))))
  revert a
  refine sA (v:=.pointer (some ⟨ab A0,ao A0+j*2,none⟩)) rfl (fun _ η=>jy (i:=j) η Tryz.underlying43 (ah.size) rfl rfl ae rfl σ.cF.1) ?_
  refine sA (v:=.agg #[.bool (neg z),.slice A (zl z) c]) rfl (fun _ η=>bF (i:=j) (e:=(A,c,z)) η ah rfl rfl eF σ.cF.1 ae b5 rfl) ?_
  intro a η
  refine au rfl (fA (c:=#[.bool (neg 0),.slice none (zl 0) 0]) η σ rfl aG lZ ?_)
  clear η σ a; intro a w4 g3 η σ
  refine au rfl (fW (k:=0) (c':=#[.bool (neg z),.slice A (zl z) c]) η σ (ah.size) rfl rfl rfl rfl cT rfl rfl ?_)
  clear η σ a; intro a w5 η σ
  refine wpList_nil (aT (aj ?_))
  revert a
  refine mA rfl rfl ?_
  refine mA rfl rfl ?_
  refine sA (v:=.agg #[.bool (neg z),.slice A (zl z) c]) rfl (fun _ η=>dX η ah rfl σ.dj rfl) ?_
  intro a η
  obtain ⟨⟨B1,d1,y⟩,iH⟩:∃e,es1[j]?=some e:=⟨_,aw ae⟩
  refine au rfl (uJ (vs:=#[.agg #[.bool (neg z),.slice A (zl z) c]]) η rfl Tryz.call240 rfl rfl (oF cT (M1 (X:=av ar 52 2 B j d (fl fN os)) (Y:=bL FN os) aL (σ.pick [1,2,3,4] [0,1,2,3,4] ai) cD hn b5 iH Vn hf)) ?_)
  rintro e w8 ⟨A6,c7,rfl,σ⟩
  refine ⟨_,rfl,?_⟩
  clear η a; intro a η
  refine au rfl (jX (z:=2) (pv:=#[(0,.agg #[.bool (neg (g z y)),.slice A6 (zl (g z y)) c7])]) (c:=#[.bool (neg (g z y)),.slice A6 (zl (g z y)) c7]) η σ rfl Tryz.underlying43 (ah.size) aG ai ai rfl aK ?_)
  clear η σ a; intro a w10 g9 η σ
  refine au rfl (pG (k:=1) (j:=0) η σ rfl Tryz.underlying43 bK rfl rfl rfl rfl rfl rfl rfl rfl rfl rfl rfl (by unfold maxLen; omega) ae ?_)
  clear η σ a; intro a w13 g11 c12 η σ
  rw [show fl fN os++(#[.bool (neg (g z y)),.slice A6 (zl (g z y)) c7]:Array Value).toList=fl fN (os++[(A6,c7,(g z y))]) from Dp (f:=fN) os (A6,c7,(g z y))] at σ
  replace σ:=σ.l7 (e:=(A6,c7,(g z y))) (i:=1) (j:=0) rfl rfl
  refine sv (v:=.slice (bh g11) (j+1) c12) η rfl (aV η rfl) ?_
  clear η a; intro a η
  refine wpList_nil (qA (aT (aj ?_)))
  revert a
  refine sA (v:=.int .i64 (j+1:Nat)) rfl (fun _ η=>im η rfl rfl (by rw [IntWalk.i64_in _ ae]; omega)) ?_
  refine mA rfl rfl ?_
  intro a η
  refine wpList_nil ?_
  rw [show ((j:Nat):Int)=((j+1:Nat):Int) - 1 by omega] at σ
  exact aT ⟨_,ae,⟨j+1,(bh g11),c12,(os++[(A6,c7,(g z y))]),rfl,η.sub ay,σ.pick [1,2,3,4] [0,3,4,5] ai,ae,(step_zip ho b5 iH)⟩⟩
 ·obtain rfl:n0=j:=by have:=fT xx; omega
  refine wp_exit (kW (kW (tt (aT (wp_seq (aj ?_))))))
  revert a
  refine mA rfl rfl ?_
  refine aA rfl rfl ?_
  intro a η
  refine wpList_nil (aT (wp_ret ?_))
  refine leave η (dA Tryz.results226 (RV.tmp η rfl)) ?_
  have Hw:os.map zz=_:=ho.trans (bD (by rw [Ku a8 cY]; omega))
  exact ⟨_,_,os,rfl,σ.pick [0,1,2,3] [0,1,2,3] ai,Ds Hw (Ku a8 cY),Hw⟩
theorem wP {E:PF} {f:FuncId} {first caps:Array Value} {g:Int->Int->Int} {A0 A1:Option Addr} {n0 c0 c1:Nat} {es0 es1:List NE} {w0:World} (h0:(ag fN FN 2 A0 n0 c0 es0).P w0) (h1:(ag fN FN 2 A1 n0 c1 es1).P w0) (hE:E.P w0) (Vn:∀args w,(callFunc f args).run Tryz.prog w=.ok (.enter f args) w) (hf:∀(i:Nat) (A:Option Addr) (c:Nat) (z:Int) (B:Option Addr) (d:Nat) (y:Int) (w:World),es0[i]?=some (A,c,z)->es1[i]?=some (B,d,y)->E.P w->dK w A c z->dK w B d y->Calls Tryz.prog f (first++#[.agg #[.bool (neg z),.slice A (zl z) c],.agg #[.bool (neg y),.slice B (zl y) d]]++caps) w fun e w'=>∃v,e=.returned v/\pj w' v (g z y)/\Below w.heap.size w w') (hn:n0<=100000000):
  Calls Tryz.prog 227 #[.slice A0 n0 c0,.slice A1 n0 c1,.func (.func f) first caps] w0 fun e w'=>∃v,e=.returned (.tuple #[v,.int .i64 0])/\qC w0.heap.size w' v n0 (List.zipWith g (es0.map zz) (es1.map zz))/\Below w0.heap.size w0 w':=by
 refine enter Tryz.func227 rfl Tryz.ntmps227 rfl ?_
 intro a η σ
 replace σ:=σ.iq E hE
 replace σ:=σ.aE h1
 replace σ:=σ.aE h0
 refine wp_seq (aj ?_)
 refine au rfl (jL (c:=#[.slice A1 n0 c1]) η σ rfl rfl rfl ?_)
 clear η σ a; intro a w2 g1 η σ
 refine au rfl (jL (c:=#[.func (.func f) first caps]) η σ rfl rfl rfl ?_)
 clear η σ a; intro a w4 g3 η σ
 revert a
 refine aA rfl rfl ?_
 refine aA rfl rfl ?_
 intro a η
 refine wpList_nil (aT (wp_seq (wp_seq (aj ?_))))
 revert a
 refine mA rfl rfl ?_
 refine sA (v:=.int .i64 (n0:Nat)) rfl (fun _ η=>eW η Tryz.underlying43 rfl) ?_
 refine sA (v:=.slice A1 n0 c1) rfl (fun _ η=>aS η aH rfl σ.vQ rfl) ?_
 refine sA (v:=.int .i64 (n0:Nat)) rfl (fun _ η=>eW η Tryz.underlying43 rfl) ?_
 refine sA (v:=.bool (((n0:Nat):Int) !=((n0:Nat):Int))) rfl (fun _ η=>bg η rfl rfl rfl) ?_
 intro a η
 rw [show (((n0:Nat):Int) !=((n0:Nat):Int))=false from (bne_self_eq_false _)] at η
 refine wpList_nil (aT ?_)
 refine oD η rfl (rfl) ?_
 refine wp_skip (aT (wp_seq (aj ?_)))
 refine au rfl (fA (c:=#[.int .i64 0]) η σ rfl dc rfl ?_)
 clear η σ a; intro a w6 g5 η σ
 refine au rfl (rM (k:=0) (c':=#[.int .i64 (-1)]) η σ (aD.size) rfl rfl rfl cT rfl rfl ?_)
 clear η σ a; intro a w7 η σ
 refine wpList_nil (aT (wp_seq (aj ?_)))
 revert a
 refine mA rfl rfl ?_
 refine sA (v:=.func (.func 240) #[] #[bB g5,bB g3,bB g1]) rfl (fun _ η=>Fq η rfl) ?_
 intro a η
 refine au rfl (cV η rfl Tryz.call226 rfl (M3 (σ.pick [0,1,2] [0,2,1] ai) hn Vn hf) ?_)
 rintro e w11 ⟨A8,c9,asu,rfl,σ,hl,hz⟩
 refine ⟨_,rfl,?_⟩
 clear η a; intro a η
 revert a
 refine aA rfl rfl ?_
 refine aA rfl rfl ?_
 intro a η
 refine wpList_nil (aT (wp_ret ?_))
 refine leave η (gC Tryz.results227 (RV.tmp η rfl) (RV.tmp η rfl)) ?_
 exact ⟨_,rfl,⟨_,_,_,rfl,σ.newRow (k:=0) (j:=0) rfl rfl,hl,hz⟩,σ.below⟩
theorem Vo {A0 A1:Option Addr} {n0 c0 c1:Nat} {es0 es1:List NE} {w0:World} (h0:(ag fN FN 2 A0 n0 c0 es0).P w0) (h1:(ag fN FN 2 A1 n0 c1 es1).P w0) (jF:ZB 500000 es0) (ld:ZB 500000 es1) (hn:n0<=100000000):
  Calls Tryz.prog 195 #[.slice A0 n0 c0,.slice A1 n0 c1] w0 fun e w'=>∃v,e=.returned (.tuple #[v,.int .i64 0])/\qC w0.heap.size w' v n0 (List.zipWith (·+·) (es0.map zz) (es1.map zz))/\Below w0.heap.size w0 w':=by
 refine enter Tryz.func195 rfl Tryz.ntmps195 rfl ?_
 intro a η σ
 replace σ:=(σ.aE h1).aE h0
 refine wp_seq (aj ?_)
 revert a
 refine aA rfl rfl ?_
 refine aA rfl rfl ?_
 intro a η
 refine wpList_nil (aT (wp_seq (aj ?_)))
 revert a
 refine mA rfl rfl ?_
 refine mA rfl rfl ?_
 intro a η
 refine au rfl (cV η rfl Tryz.call227 rfl (wP (E:=jY) (g:=(·+·)) (first:=#[]) (caps:=#[]) σ.aU σ.bC trivial Tryz.call63 (fun _ _ _ _ _ _ _ _ q1 q2 _ hx hy=>oF cT (BR hx hy (by have:=jF.at q1; omega) (by have:=ld.at q2; omega))) hn) ?_)
 rintro e w4 ⟨_,rfl,⟨A1,c2,zk,rfl,hr,hl,hz⟩,hb⟩
 refine ⟨_,rfl,?_⟩
 clear η a; intro a η
 replace σ:=σ.lN hb hr (lh hr.2.1 ⟨aL,trivial⟩)
 revert a
 refine sA (v:=.slice A1 n0 c2) rfl (fun _ η=>dQ η rfl rfl) ?_
 refine sA (v:=.int .i64 0) rfl (fun _ η=>dQ η rfl rfl) ?_
 refine aA rfl rfl ?_
 refine aA rfl rfl ?_
 intro a η
 refine wpList_nil (aT (wp_ret ?_))
 refine leave η (gC Tryz.results195 (RV.tmp η rfl) (RV.tmp η rfl)) ?_
 exact ⟨_,rfl,⟨_,_,_,rfl,σ.newRow (k:=0) (j:=0) rfl rfl,hl,hz⟩,σ.below⟩
theorem Vp {A0 A1:Option Addr} {n0 c0 c1:Nat} {es0 es1:List NE} {w0:World} (h0:(ag fN FN 2 A0 n0 c0 es0).P w0) (h1:(ag fN FN 2 A1 n0 c1 es1).P w0) (jF:ZB 500000 es0) (ld:ZB 500000 es1) (hn:n0<=100000000):
  Calls Tryz.prog 197 #[.slice A0 n0 c0,.slice A1 n0 c1] w0 fun e w'=>∃v,e=.returned (.tuple #[v,.int .i64 0])/\qC w0.heap.size w' v n0 (List.zipWith (· - ·) (es0.map zz) (es1.map zz))/\Below w0.heap.size w0 w':=by
 refine enter Tryz.func197 rfl Tryz.ntmps197 rfl ?_
 intro a η σ
 replace σ:=(σ.aE h1).aE h0
 refine wp_seq (aj ?_)
 revert a
 refine aA rfl rfl ?_
 refine aA rfl rfl ?_
 intro a η
 refine wpList_nil (aT (wp_seq (aj ?_)))
 revert a
 refine mA rfl rfl ?_
 refine mA rfl rfl ?_
 intro a η
 refine au rfl (cV η rfl Tryz.call227 rfl (wP (E:=jY) (g:=(· - ·)) (first:=#[]) (caps:=#[]) σ.aU σ.bC trivial Tryz.call104 (fun _ _ _ _ _ _ _ _ q1 q2 _ hx hy=>oF cT (O0 hx hy (by have:=jF.at q1; omega) (by have:=ld.at q2; omega))) hn) ?_)
 rintro e w4 ⟨_,rfl,⟨A1,c2,zk,rfl,hr,hl,hz⟩,hb⟩
 refine ⟨_,rfl,?_⟩
 clear η a; intro a η
 replace σ:=σ.lN hb hr (lh hr.2.1 ⟨aL,trivial⟩)
 revert a
 refine sA (v:=.slice A1 n0 c2) rfl (fun _ η=>dQ η rfl rfl) ?_
 refine sA (v:=.int .i64 0) rfl (fun _ η=>dQ η rfl rfl) ?_
 refine aA rfl rfl ?_
 refine aA rfl rfl ?_
 intro a η
 refine wpList_nil (aT (wp_ret ?_))
 refine leave η (gC Tryz.results197 (RV.tmp η rfl) (RV.tmp η rfl)) ?_
 exact ⟨_,rfl,⟨_,_,_,rfl,σ.newRow (k:=0) (j:=0) rfl rfl,hl,hz⟩,σ.below⟩
def afQ (zs:List Int):Int:=zs.foldl (fun g z=>((Int.gcd g z:Nat):Int)) 0
def ak0 (zs:List Int):Int:=zs.foldl (fun g z=>g+z) 0
def asw (xs ys:List Int):Int:=ak0 (List.zipWith (·*·) xs ys)
def lead (zs:List Int):Int:=(zs.find? fun z=>z≠0).getD 0
def afR (zs:List Int):Int:=if lead zs<0 then -afQ zs else afQ zs
def afS (zs:List Int):List Int:=zs.map (· / afR zs)
def Du (c:Int) (zs:List Int):Prop:=∀z∈zs,z%c=0
end Go.Proofs.YtgopcdagnicekaaGreatDoor.W
