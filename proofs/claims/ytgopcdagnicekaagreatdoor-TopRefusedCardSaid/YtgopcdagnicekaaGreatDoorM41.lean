/- Package row: what its functions leave. Printed by pv/gen_row.py. No condition. -/
import Derived.Test.YtgopcdagnicekaaGreatDoorM31
import Derived.Test.YtgopcdagnicekaaGreatDoorM40
set_option linter.all false
open Go.Proofs.Tryz
set_option maxRecDepth 100000
set_option maxHeartbeats 1000000
namespace Go.Proofs.YtgopcdagnicekaaGreatDoor.W
open Go.RowKit Anv Go.Lib
variable {E:PF} {f:FuncId} {first caps:Array Value} {g:Int->Int->Int} {A0 A1:Option Addr} {n0 c0 c1 kb fb bb:Nat} {es0 es1:List NE} {w0 w1:World}
theorem Hf {g:Int->Int} (h0:(bH fN FN 2 A0 n0 c0 es0).P w0) (hE:E.P w0) (Xt:∀args w,(callFunc f args).run prog w=.ok (.enter f args) w) (hf:∀(i:Nat) (A:Option Addr) (c:Nat) (z:Int) (w:World),es0[i]?=some (A,c,z)->E.P w->iY w A c z->Calls prog f (first++#[.agg #[.bool (neg z),.slice A (zl z) c]]++caps) w fun e w'=>∃v,e=.returned v/\sL w' v (g z)/\Below w.heap.size w w') (hn:n0<=100000000):
  Calls prog 226 #[.slice A0 n0 c0,.func (.func f) first caps] w0 fun e w'=>∃v,e=.returned v/\tP w0.heap.size w' v n0 ((es0.map zz).map g)/\Below w0.heap.size w0 w':=by
 refine enter func226 I ntmps226 I ?_
 intro a η σ
 replace σ:=σ.lZ E hE
 have cQ:=h0.2.1
 have eN:=aD h0.1.cap h0.1.big
 unfold maxLen at eN
 replace σ:=σ.aY h0
 clear h0
 refine wp_seq (aI ?_)
 refine sv (v:=bM) η I (cf η I) ?_
 clear η a; intro a η
 refine wpList_nil (b5 (wp_seq (aI ?_)))
 refine sv (v:=bM) η I (cf η I) ?_
 clear η a; intro a η
 refine wpList_nil (b5 (wp_seq (wp_seq (aI ?_))))
 revert a
 refine mA I I ?_
 refine sA (v:=.int .i64 (n0:Nat)) I (fun _ η=>ky η underlying43 I) ?_
 refine mA I I ?_
 intro a η
 refine wpList_nil (b5 (wp_block ?_))
 replace σ:=(σ.fp dD 52 2).rA FN
 refine wp_loop_ghost (fun mz a w=>∃(j:Nat) (B:Option Addr) (d:Nat) (os:List NE),n0 - j=mz/\Env 22 a [(1,.func (.func f) first caps),(8,.slice A0 n0 c0),(9,.int .i64 (n0:Nat)),(10,.int .i64 (j:Nat)),(5,.slice B j d)]/\St w0 w [fc dD 52 2 B j d (fl fN os)] [dW FN os,bH fN FN 2 A0 n0 c0 es0,E]/\j<=n0/\os.map zz=((es0.map zz).take j).map g) _ ⟨0,none,0,[],I,η.sub aT,σ.pick [0] [0,1,2] aB,(av _),I⟩ ?_
 clear η σ a
 rintro mz a w1 ⟨j,B,d,os,rfl,η,σ,hj,ho⟩
 refine wp_seq (aI ?_)
 refine sv (v:=.bool (decide (((j:Nat):Int)<((n0:Nat):Int)))) η I (cV η I I I) ?_
 clear η a; intro a η
 refine wpList_nil (b5 (wp_seq ?_))
 refine jA η I (fun zG=>?_) (fun zG=>?_)
 ·have fh:j<n0:=by have:=aN zG; omega
  obtain ⟨⟨A,c,z⟩,eG⟩:∃e,es0[j]?=some e:=⟨_,ag ae⟩
  replace σ:=σ.elem (k:=1) I eG
  refine wp_skip (b5 (wp_seq (wp_block (wp_seq (aI ?_)))))
  revert a
  refine sA (v:=.pointer (some ⟨ab A0,ao A0+j*2,none⟩)) I (fun _ η=>m7 (i:=j) η underlying43 (az.size) I I ae I σ.fX.1) ?_
  refine sA (v:=.agg #[.bool (neg z),.slice A (zl z) c]) I (fun _ η=>cX (i:=j) (e:=(A,c,z)) η az I I jV σ.fX.1 ae eG I) ?_
  intro a η
  refine aS I (kQ (c:=#[.bool (neg 0),.slice none (zl 0) 0]) η σ I bA pW ?_)
  clear η σ a; intro a w4 g3 η σ
  refine aS I (kZ (k:=0) (c':=#[.bool (neg z),.slice A (zl z) c]) η σ (az.size) I I I I fW I I ?_)
  clear η σ a; intro a w5 η σ
  refine wpList_nil (b5 (aI ?_))
  revert a
  refine mA I I ?_
  refine mA I I ?_
  refine sA (v:=.agg #[.bool (neg z),.slice A (zl z) c]) I (fun _ η=>jz η az I σ.gq I) ?_
  intro a η
  refine aS I (xJ (vs:=#[.agg #[.bool (neg z),.slice A (zl z) c]]) η I Xt I I (hf j _ _ _ _ eG σ.kC (show iY _ A c z from σ.bW)) ?_)
  rintro e w9 ⟨_,rfl,⟨A6,c7,rfl,hz8⟩,hb⟩
  refine ⟨_,I,?_⟩
  clear η a; intro a η
  replace σ:=(σ.call hb).j8 hz8 ⟨bV I,bX,trivial⟩
  clear hz8
  clear hb
  refine aS I (nC (z:=2) (pv:=#[(0,.agg #[.bool (neg (g z)),.slice A6 (zl (g z)) c7])]) (c:=#[.bool (neg (g z)),.slice A6 (zl (g z)) c7]) η σ I underlying43 (az.size) bA aB aB I bI ?_)
  clear η σ a; intro a w11 g10 η σ
  refine aS I (sX (k:=2) (j:=0) η σ I underlying43 dP I I I I I I I I I I I (by unfold maxLen; omega) ae ?_)
  clear η σ a; intro a w14 g12 c13 η σ
  rw [show fl fN os++(#[.bool (neg (g z)),.slice A6 (zl (g z)) c7]:Array Value).toList=fl fN (os++[(A6,c7,(g z))]) from EJ (f:=fN) os (A6,c7,(g z))] at σ
  replace σ:=σ.pX (e:=(A6,c7,(g z))) (i:=2) (j:=0) I I
  refine sv (v:=.slice (cS g12) (j+1) c13) η I (cf η I) ?_
  clear η a; intro a η
  refine wpList_nil (tK (b5 (aI ?_)))
  revert a
  refine sA (v:=.int .i64 (j+1:Nat)) I (fun _ η=>lY η I I (by rw [IntWalk.i64_in _ ae]; omega)) ?_
  refine mA I I ?_
  intro a η
  refine wpList_nil ?_
  exact b5 ⟨_,ae,⟨j+1,(cS g12),c13,(os++[(A6,c7,(g z))]),I,η.sub aT,σ.pick [2] [0,4,5] aB,ae,(step_map ho eG)⟩⟩
 ·obtain rfl:j=n0:=by have:=bP zG; omega
  refine wp_exit (oM (oM (wz (b5 (wp_seq (aI ?_))))))
  revert a
  refine mA I I ?_
  refine aA I I ?_
  intro a η
  refine wpList_nil (b5 (wp_ret ?_))
  refine leave η (iJ results226 (RV.tmp η I)) ?_
  have JB:os.map zz=_:=ho.trans (by rw [ax (by rw [aw]; omega)])
  exact ⟨_,I,⟨_,_,os,I,σ.newRow (k:=0) (j:=0) I I,EL JB (by rw [aw,aw]; omega),JB⟩,σ.below⟩
theorem OS {X Y:PF} {A B:Option Addr} {c d:Nat} {z y:Int} {j:Nat} (hX:NoU X) (hS:St w0 w1 [X,bk kb #[.int .i64 ((j:Int) - 1)] 3,bk fb #[.func (.func f) first caps] 300,bk bb #[.slice A1 n0 c1] 43] [DJ A c z,Y,bH fN FN 2 A0 n0 c0 es0,E,bH fN FN 2 A1 n0 c1 es1]) (hj:j<n0) (hn:n0<=100000000) (eG:es0[j]?=some (A,c,z)) (kf:es1[j]?=some (B,d,y)) (Xt:∀args w,(callFunc f args).run prog w=.ok (.enter f args) w) (hf:∀(i:Nat) (A:Option Addr) (c:Nat) (z:Int) (B:Option Addr) (d:Nat) (y:Int) (w:World),es0[i]?=some (A,c,z)->es1[i]?=some (B,d,y)->E.P w->iY w A c z->iY w B d y->Calls prog f (first++#[.agg #[.bool (neg z),.slice A (zl z) c],.agg #[.bool (neg y),.slice B (zl y) d]]++caps) w fun e w'=>∃v,e=.returned v/\sL w' v (g z y)/\Below w.heap.size w w'):
  Calls prog 240 #[.agg #[.bool (neg z),.slice A (zl z) c],cY kb,cY fb,cY bb] w1 fun e w'=>∃(A':Option Addr) (c':Nat),e=.returned (.agg #[.bool (neg (g z y)),.slice A' (zl (g z y)) c'])/\St w0 w' [X,bk kb #[.int .i64 (j:Nat)] 3,bk fb #[.func (.func f) first caps] 300,bk bb #[.slice A1 n0 c1] 43] [DJ A' c' (g z y),Y,bH fN FN 2 A0 n0 c0 es0,E,bH fN FN 2 A1 n0 c1 es1]:=by
 refine enter func240 I ntmps240 I ?_
 intro a η σ
 clear σ
 have σ:=hS
 clear hS
 replace σ:=σ.elem (k:=4) I kf
 refine wp_seq (aI ?_)
 refine aS I (ns (c:=#[.bool (neg z),.slice A (zl z) c]) η σ I I I ?_)
 clear η σ a; intro a w2 g1 η σ
 refine aS I (kQ (c:=#[.bool (neg 0),.slice none (zl 0) 0]) η σ I bA pW ?_)
 clear η σ a; intro a w4 g3 η σ
 refine wpList_nil (b5 (wp_seq (aI ?_)))
 revert a
 refine sA (v:=.int .i64 ((j:Int) - 1)) I (fun _ η=>cC η bn I σ.G1 I) ?_
 refine sA (v:=.int .i64 (j:Nat)) I (fun _ η=>lY η I I (by rw [IntWalk.i64_in _ ae]; omega)) ?_
 intro a η
 refine aS I (u6 (k:=3) (c':=#[.int .i64 (j:Nat)]) η σ (bn.size) I I I fW I I ?_)
 clear η σ a; intro a w5 η σ
 refine wpList_nil (b5 (wp_seq ?_))
 refine sQ (n:=8) (Sk [bk g1 #[.bool (neg z),.slice A (zl z) c] 52,X,bk kb #[.int .i64 (j:Nat)] 3,bk fb #[.func (.func f) first caps] 300,bk bb #[.slice A1 n0 c1] 43] [DJ B d y,DJ A c z,Y,bH fN FN 2 A0 n0 c0 es0,E,bH fN FN 2 A1 n0 c1 es1] [7] []) mixed I η σ ?_
 clear η σ; intro w6 η σ
 refine kV (i:=0) [6,7] (fun w'=>w'.heap[fb]?=some (.cells #[.func (.func f) first caps] 300 (0,0))) (v:=.func (.func f) first caps) I bI (fun _ _ _ h=>h) (fun _ _ _ hS=>hS.1.pV (k:=3) I) η I (σ.pV (k:=4) I) (fun w' hg=>cC η jW I hg I) ?_
 clear η a; intro a η
 refine tL (i:=1) 0 1 [6,7] I bI (fun _ _ _ h=>h) η I az I σ I I I ?_
 clear η a; intro a η
 refine kV (i:=2) [4,5,6,7] (fun w'=>w'.heap[bb]?=some (.cells #[.slice A1 n0 c1] 43 (0,0))) (v:=.slice A1 n0 c1) I bI (fun _ _ _ h=>h) (fun _ _ _ hS=>hS.1.pV (k:=4) I) η I (σ.pV (k:=5) I) (fun w' hg=>cC η bF I hg I) ?_
 clear η a; intro a η
 refine kV (i:=3) [4,5,6,7] (fun w'=>w'.heap[kb]?=some (.cells #[.int .i64 (j:Nat)] 3 (0,0))) (v:=.int .i64 (j:Nat)) I bI (fun _ _ _ h=>h) (fun _ _ _ hS=>hS.1.pV (k:=2) I) η I σ.G1 (fun w' hg=>cC η bn I hg I) ?_
 clear η a; intro a η
 refine kV (i:=4) [5,6,7] (fun w'=>(bH fN FN 2 A1 n0 c1 es1).P w') (v:=.pointer (some ⟨ab A1,ao A1+j*2,none⟩)) I bI (fun _ _ _ h=>h) (fun _ _ _ hS=>hS.1.pat (k:=5) I) η I σ.rK (fun w' hg=>m7 (i:=j) η underlying43 (az.size) I I ae I (hg).1) ?_
 clear η a; intro a η
 refine kV (i:=5) [6,7] (fun w'=>(bH fN FN 2 A1 n0 c1 es1).P w') (v:=.agg #[.bool (neg y),.slice B (zl y) d]) I bI (fun _ _ _ h=>h) (fun _ _ _ hS=>hS.1.pat (k:=5) I) η I σ.rK (fun w' hg=>cX (i:=j) (e:=(B,d,y)) η az I I jV (hg).1 ae kf I) ?_
 clear η a; intro a η
 refine qL (i:=6) bI I I (xJ (vs:=#[.agg #[.bool (neg z),.slice A (zl z) c],.agg #[.bool (neg y),.slice B (zl y) d]]) η I Xt I I (hf j _ _ _ _ _ _ _ eG kf σ.nX (show iY _ A c z from σ.dw) (show iY _ B d y from σ.bW)) ?_)
 rintro e w10 ⟨_,rfl,⟨A7,c8,rfl,hz9⟩,hb⟩
 refine ⟨_,I,?_⟩
 clear η a; intro a η
 replace σ:=(σ.call hb).j8 hz9 ⟨bV I,bV I,hX,bV I,bV I,bV I,trivial⟩
 clear hz9
 clear hb
 refine ⟨.inr ⟨σ.kn.pick (rg 1 5) (rg 1 6),.inr (σ.kn.pick [] [])⟩,?_⟩
 refine qL (i:=7) bI I I (kZ (k:=0) (c':=#[.bool (neg (g z y)),.slice A7 (zl (g z y)) c8]) η σ (az.size) I I I I fW I I ?_)
 clear η σ a; intro a w11 η σ
 refine ⟨.inr ⟨σ.kn.pick (rg 1 5) (rg 1 6),.inl I⟩,?_⟩
 refine u7 bI ?_ _
 refine b5 (wp_ret ?_)
 refine leave η (iJ results240 (RV.cell η az I σ.gq I)) ?_
 exact ⟨_,_,I,σ.pick [2,3,4,5] [0,3,4,5,6] aB⟩
theorem OT (hS:St w0 w1 [bk kb #[.int .i64 (-1)] 3,bk fb #[.func (.func f) first caps] 300,bk bb #[.slice A1 n0 c1] 43] [bH fN FN 2 A0 n0 c0 es0,E,bH fN FN 2 A1 n0 c1 es1]) (hn:n0<=100000000) (Xt:∀args w,(callFunc f args).run prog w=.ok (.enter f args) w) (hf:∀(i:Nat) (A:Option Addr) (c:Nat) (z:Int) (B:Option Addr) (d:Nat) (y:Int) (w:World),es0[i]?=some (A,c,z)->es1[i]?=some (B,d,y)->E.P w->iY w A c z->iY w B d y->Calls prog f (first++#[.agg #[.bool (neg z),.slice A (zl z) c],.agg #[.bool (neg y),.slice B (zl y) d]]++caps) w fun e w'=>∃v,e=.returned v/\sL w' v (g z y)/\Below w.heap.size w w'):
  Calls prog 226 #[.slice A0 n0 c0,.func (.func 240) #[] #[cY kb,cY fb,cY bb]] w1 fun e w'=>∃(A:Option Addr) (c:Nat) (es:List NE),e=.returned (.slice A n0 c)/\St w0 w' [fc dD 52 2 A n0 c (fl fN es),bk kb #[.int .i64 ((n0:Int) - 1)] 3,bk fb #[.func (.func f) first caps] 300,bk bb #[.slice A1 n0 c1] 43] [dW FN es,bH fN FN 2 A0 n0 c0 es0,E,bH fN FN 2 A1 n0 c1 es1]/\es.length=n0/\es.map zz=List.zipWith g (es0.map zz) (es1.map zz):=by
 refine enter func226 I ntmps226 I ?_
 intro a η σ
 have cQ:=(show (bH fN FN 2 A0 n0 c0 es0).P w1 from hS.pat (k:=0) rfl).2.1
 have iI:=(show (bH fN FN 2 A1 n0 c1 es1).P w1 from hS.pat (k:=2) rfl).2.1
 clear σ
 have σ:=hS
 clear hS
 refine wp_seq (aI ?_)
 refine sv (v:=bM) η I (cf η I) ?_
 clear η a; intro a η
 refine wpList_nil (b5 (wp_seq (aI ?_)))
 refine sv (v:=bM) η I (cf η I) ?_
 clear η a; intro a η
 refine wpList_nil (b5 (wp_seq (wp_seq (aI ?_))))
 revert a
 refine mA I I ?_
 refine sA (v:=.int .i64 (n0:Nat)) I (fun _ η=>ky η underlying43 I) ?_
 refine mA I I ?_
 intro a η
 refine wpList_nil (b5 (wp_block ?_))
 replace σ:=(σ.fp dD 52 2).rA FN
 rw [show (-1:Int)=((0:Nat):Int) - 1 from rfl] at σ
 refine wp_loop_ghost (fun mz a w=>∃(j:Nat) (B:Option Addr) (d:Nat) (os:List NE),n0 - j=mz/\Env 22 a [(1,.func (.func 240) #[] #[cY kb,cY fb,cY bb]),(8,.slice A0 n0 c0),(9,.int .i64 (n0:Nat)),(10,.int .i64 (j:Nat)),(5,.slice B j d)]/\St w0 w [fc dD 52 2 B j d (fl fN os),bk kb #[.int .i64 ((j:Int) - 1)] 3,bk fb #[.func (.func f) first caps] 300,bk bb #[.slice A1 n0 c1] 43] [dW FN os,bH fN FN 2 A0 n0 c0 es0,E,bH fN FN 2 A1 n0 c1 es1]/\j<=n0/\os.map zz=(List.zipWith g (es0.map zz) (es1.map zz)).take j) _ ⟨0,none,0,[],I,η.sub aT,σ.pick [0,1,2,3] [0,1,2,3] aB,(av _),I⟩ ?_
 clear η σ a
 rintro mz a w1 ⟨j,B,d,os,rfl,η,σ,hj,ho⟩
 refine wp_seq (aI ?_)
 refine sv (v:=.bool (decide (((j:Nat):Int)<((n0:Nat):Int)))) η I (cV η I I I) ?_
 clear η a; intro a η
 refine wpList_nil (b5 (wp_seq ?_))
 refine jA η I (fun zG=>?_) (fun zG=>?_)
 ·have fh:j<n0:=by have:=aN zG; omega
  obtain ⟨⟨A,c,z⟩,eG⟩:∃e,es0[j]?=some e:=⟨_,ag ae⟩
  replace σ:=σ.elem (k:=1) I eG
  refine wp_skip (b5 (wp_seq (wp_block (wp_seq (aI ?_)))))
  revert a
  refine sA (v:=.pointer (some ⟨ab A0,ao A0+j*2,none⟩)) I (fun _ η=>m7 (i:=j) η underlying43 (az.size) I I ae I σ.fX.1) ?_
  refine sA (v:=.agg #[.bool (neg z),.slice A (zl z) c]) I (fun _ η=>cX (i:=j) (e:=(A,c,z)) η az I I jV σ.fX.1 ae eG I) ?_
  intro a η
  refine aS I (kQ (c:=#[.bool (neg 0),.slice none (zl 0) 0]) η σ I bA pW ?_)
  clear η σ a; intro a w4 g3 η σ
  refine aS I (kZ (k:=0) (c':=#[.bool (neg z),.slice A (zl z) c]) η σ (az.size) I I I I fW I I ?_)
  clear η σ a; intro a w5 η σ
  refine wpList_nil (b5 (aI ?_))
  revert a
  refine mA I I ?_
  refine mA I I ?_
  refine sA (v:=.agg #[.bool (neg z),.slice A (zl z) c]) I (fun _ η=>jz η az I σ.gq I) ?_
  intro a η
  obtain ⟨⟨B1,d1,y⟩,kf⟩:∃e,es1[j]?=some e:=⟨_,ag ae⟩
  refine aS I (xJ (vs:=#[.agg #[.bool (neg z),.slice A (zl z) c]]) η I call240 I I (rZ fW (OS (X:=fc dD 52 2 B j d (fl fN os)) (Y:=dW FN os) bX (σ.pick [1,2,3,4] [0,1,2,3,4] aB) fh hn eG kf Xt hf)) ?_)
  rintro e w8 ⟨A6,c7,rfl,σ⟩
  refine ⟨_,I,?_⟩
  clear η a; intro a η
  refine aS I (nC (z:=2) (pv:=#[(0,.agg #[.bool (neg (g z y)),.slice A6 (zl (g z y)) c7])]) (c:=#[.bool (neg (g z y)),.slice A6 (zl (g z y)) c7]) η σ I underlying43 (az.size) bA aB aB I bI ?_)
  clear η σ a; intro a w10 g9 η σ
  refine aS I (sX (k:=1) (j:=0) η σ I underlying43 dP I I I I I I I I I I I (by unfold maxLen; omega) ae ?_)
  clear η σ a; intro a w13 g11 c12 η σ
  rw [show fl fN os++(#[.bool (neg (g z y)),.slice A6 (zl (g z y)) c7]:Array Value).toList=fl fN (os++[(A6,c7,(g z y))]) from EJ (f:=fN) os (A6,c7,(g z y))] at σ
  replace σ:=σ.pX (e:=(A6,c7,(g z y))) (i:=1) (j:=0) I I
  refine sv (v:=.slice (cS g11) (j+1) c12) η I (cf η I) ?_
  clear η a; intro a η
  refine wpList_nil (tK (b5 (aI ?_)))
  revert a
  refine sA (v:=.int .i64 (j+1:Nat)) I (fun _ η=>lY η I I (by rw [IntWalk.i64_in _ ae]; omega)) ?_
  refine mA I I ?_
  intro a η
  refine wpList_nil ?_
  rw [show ((j:Nat):Int)=((j+1:Nat):Int) - 1 by omega] at σ
  exact b5 ⟨_,ae,⟨j+1,(cS g11),c12,(os++[(A6,c7,(g z y))]),I,η.sub aT,σ.pick [1,2,3,4] [0,3,4,5] aB,ae,(step_zip ho eG kf)⟩⟩
 ·obtain rfl:n0=j:=by have:=bP zG; omega
  refine wp_exit (oM (oM (wz (b5 (wp_seq (aI ?_))))))
  revert a
  refine mA I I ?_
  refine aA I I ?_
  intro a η
  refine wpList_nil (b5 (wp_ret ?_))
  refine leave η (iJ results226 (RV.tmp η I)) ?_
  have JB:os.map zz=_:=ho.trans (ax (by rw [Mb cQ iI]; omega))
  exact ⟨_,_,os,I,σ.pick [0,1,2,3] [0,1,2,3] aB,EL JB (Mb cQ iI),JB⟩
theorem y5 (h0:(bH fN FN 2 A0 n0 c0 es0).P w0) (h1:(bH fN FN 2 A1 n0 c1 es1).P w0) (hE:E.P w0) (Xt:∀args w,(callFunc f args).run prog w=.ok (.enter f args) w) (hf:∀(i:Nat) (A:Option Addr) (c:Nat) (z:Int) (B:Option Addr) (d:Nat) (y:Int) (w:World),es0[i]?=some (A,c,z)->es1[i]?=some (B,d,y)->E.P w->iY w A c z->iY w B d y->Calls prog f (first++#[.agg #[.bool (neg z),.slice A (zl z) c],.agg #[.bool (neg y),.slice B (zl y) d]]++caps) w fun e w'=>∃v,e=.returned v/\sL w' v (g z y)/\Below w.heap.size w w') (hn:n0<=100000000):
  Calls prog 227 #[.slice A0 n0 c0,.slice A1 n0 c1,.func (.func f) first caps] w0 fun e w'=>∃v,e=.returned (.tuple #[v,.int .i64 0])/\tP w0.heap.size w' v n0 (List.zipWith g (es0.map zz) (es1.map zz))/\Below w0.heap.size w0 w':=by
 refine enter func227 I ntmps227 I ?_
 intro a η σ
 replace σ:=σ.lZ E hE
 replace σ:=σ.aY h1
 replace σ:=σ.aY h0
 refine wp_seq (aI ?_)
 refine aS I (ns (c:=#[.slice A1 n0 c1]) η σ I I I ?_)
 clear η σ a; intro a w2 g1 η σ
 refine aS I (ns (c:=#[.func (.func f) first caps]) η σ I I I ?_)
 clear η σ a; intro a w4 g3 η σ
 revert a
 refine aA I I ?_
 refine aA I I ?_
 intro a η
 refine wpList_nil (b5 (wp_seq (wp_seq (aI ?_))))
 revert a
 refine mA I I ?_
 refine sA (v:=.int .i64 (n0:Nat)) I (fun _ η=>ky η underlying43 I) ?_
 refine sA (v:=.slice A1 n0 c1) I (fun _ η=>cC η bF I σ.vN I) ?_
 refine sA (v:=.int .i64 (n0:Nat)) I (fun _ η=>ky η underlying43 I) ?_
 refine sA (v:=.bool (((n0:Nat):Int) !=((n0:Nat):Int))) I (fun _ η=>cV η I I I) ?_
 intro a η
 rw [show (((n0:Nat):Int) !=((n0:Nat):Int))=false from (bne_self_eq_false _)] at η
 refine wpList_nil (b5 ?_)
 refine rV η I (I) ?_
 refine wp_skip (b5 (wp_seq (aI ?_)))
 refine aS I (kQ (c:=#[.int .i64 0]) η σ I gY I ?_)
 clear η σ a; intro a w6 g5 η σ
 refine aS I (u6 (k:=0) (c':=#[.int .i64 (-1)]) η σ (bn.size) I I I fW I I ?_)
 clear η σ a; intro a w7 η σ
 refine wpList_nil (b5 (wp_seq (aI ?_)))
 revert a
 refine mA I I ?_
 refine sA (v:=.func (.func 240) #[] #[cY g5,cY g3,cY g1]) I (fun _ η=>Ha η I) ?_
 intro a η
 refine aS I (gG η I call226 I (OT (σ.pick [0,1,2] [0,2,1] aB) hn Xt hf) ?_)
 rintro e w11 ⟨A8,c9,avi,rfl,σ,hl,hz⟩
 refine ⟨_,I,?_⟩
 clear η a; intro a η
 revert a
 refine aA I I ?_
 refine aA I I ?_
 intro a η
 refine wpList_nil (b5 (wp_ret ?_))
 refine leave η (lk results227 (RV.tmp η I) (RV.tmp η I)) ?_
 exact ⟨_,I,⟨_,_,_,I,σ.newRow (k:=0) (j:=0) I I,hl,hz⟩,σ.below⟩
theorem Xu (h0:(bH fN FN 2 A0 n0 c0 es0).P w0) (h1:(bH fN FN 2 A1 n0 c1 es1).P w0) (mZ:ZB 500000 es0) (po:ZB 500000 es1) (hn:n0<=100000000):
  Calls prog 195 #[.slice A0 n0 c0,.slice A1 n0 c1] w0 fun e w'=>∃v,e=.returned (.tuple #[v,.int .i64 0])/\tP w0.heap.size w' v n0 (List.zipWith (·+·) (es0.map zz) (es1.map zz))/\Below w0.heap.size w0 w':=by
 refine enter func195 I ntmps195 I ?_
 intro a η σ
 replace σ:=(σ.aY h1).aY h0
 refine wp_seq (aI ?_)
 revert a
 refine aA I I ?_
 refine aA I I ?_
 intro a η
 refine wpList_nil (b5 (wp_seq (aI ?_)))
 revert a
 refine mA I I ?_
 refine mA I I ?_
 intro a η
 refine aS I (gG η I call227 I (y5 (E:=kF) (g:=(·+·)) (first:=#[]) (caps:=#[]) σ.bW σ.dw trivial call63 (fun _ _ _ _ _ _ _ _ q1 q2 _ hx hy=>rZ fW (DF hx hy (by have:=mZ.at q1; omega) (by have:=po.at q2; omega))) hn) ?_)
 rintro e w4 ⟨_,rfl,⟨A1,c2,C6,rfl,hr,hl,hz⟩,hb⟩
 refine ⟨_,I,?_⟩
 clear η a; intro a η
 replace σ:=σ.pM hb hr (oU hr.2.1 ⟨bX,trivial⟩)
 revert a
 refine sA (v:=.slice A1 n0 c2) I (fun _ η=>je η I I) ?_
 refine sA (v:=.int .i64 0) I (fun _ η=>je η I I) ?_
 refine aA I I ?_
 refine aA I I ?_
 intro a η
 refine wpList_nil (b5 (wp_ret ?_))
 refine leave η (lk results195 (RV.tmp η I) (RV.tmp η I)) ?_
 exact ⟨_,I,⟨_,_,_,I,σ.newRow (k:=0) (j:=0) I I,hl,hz⟩,σ.below⟩
theorem Xv (h0:(bH fN FN 2 A0 n0 c0 es0).P w0) (h1:(bH fN FN 2 A1 n0 c1 es1).P w0) (mZ:ZB 500000 es0) (po:ZB 500000 es1) (hn:n0<=100000000):
  Calls prog 197 #[.slice A0 n0 c0,.slice A1 n0 c1] w0 fun e w'=>∃v,e=.returned (.tuple #[v,.int .i64 0])/\tP w0.heap.size w' v n0 (List.zipWith (· - ·) (es0.map zz) (es1.map zz))/\Below w0.heap.size w0 w':=by
 refine enter func197 I ntmps197 I ?_
 intro a η σ
 replace σ:=(σ.aY h1).aY h0
 refine wp_seq (aI ?_)
 revert a
 refine aA I I ?_
 refine aA I I ?_
 intro a η
 refine wpList_nil (b5 (wp_seq (aI ?_)))
 revert a
 refine mA I I ?_
 refine mA I I ?_
 intro a η
 refine aS I (gG η I call227 I (y5 (E:=kF) (g:=(· - ·)) (first:=#[]) (caps:=#[]) σ.bW σ.dw trivial call104 (fun _ _ _ _ _ _ _ _ q1 q2 _ hx hy=>rZ fW (QS hx hy (by have:=mZ.at q1; omega) (by have:=po.at q2; omega))) hn) ?_)
 rintro e w4 ⟨_,rfl,⟨A1,c2,C6,rfl,hr,hl,hz⟩,hb⟩
 refine ⟨_,I,?_⟩
 clear η a; intro a η
 replace σ:=σ.pM hb hr (oU hr.2.1 ⟨bX,trivial⟩)
 revert a
 refine sA (v:=.slice A1 n0 c2) I (fun _ η=>je η I I) ?_
 refine sA (v:=.int .i64 0) I (fun _ η=>je η I I) ?_
 refine aA I I ?_
 refine aA I I ?_
 intro a η
 refine wpList_nil (b5 (wp_ret ?_))
 refine leave η (lk results197 (RV.tmp η I) (RV.tmp η I)) ?_
 exact ⟨_,I,⟨_,_,_,I,σ.newRow (k:=0) (j:=0) I I,hl,hz⟩,σ.below⟩
def ahU (zs:List Int):Int:=zs.foldl (fun g z=>((Int.gcd g z:Nat):Int)) 0
def ang (zs:List Int):Int:=zs.foldl (fun g z=>g+z) 0
def avk (xs ys:List Int):Int:=ang (List.zipWith (·*·) xs ys)
def lead (zs:List Int):Int:=(zs.find? fun z=>z≠0).getD 0
def ahV (zs:List Int):Int:=if lead zs<0 then -ahU zs else ahU zs
def ahW (zs:List Int):List Int:=zs.map (· / ahV zs)
def EN (c:Int) (zs:List Int):Prop:=∀z∈zs,z%c=0
end Go.Proofs.YtgopcdagnicekaaGreatDoor.W
