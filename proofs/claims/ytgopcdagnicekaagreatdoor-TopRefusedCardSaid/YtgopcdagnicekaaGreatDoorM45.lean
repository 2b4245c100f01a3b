/- A region that draws its order and yields at its end; a range over a function whose iterator has blocks of its own. Over any program. No condition. -/
import Derived.Test.YtgopcdagnicekaaGreatDoorM44
set_option linter.all false
open Go.Proofs.Tryz
set_option maxRecDepth 100000
set_option maxHeartbeats 2000000
namespace Go.Proofs.YtgopcdagnicekaaGreatDoor.W
open Go.RowKit Anv Go.Lib
def upF:Nat->Nat->List Nat
 | _,0=>[]
 | n,k+1=>n::upF (n+1) k
def UB (ops:Array Oper):List Nat->Array Bool->Bool
 | [],ls=>(Region.ready .any ops ls).isEmpty
 | j::js,ls=>decide (Region.ready .any ops ls=[j]) && UB ops js (ls.setIfInBounds j true)
def UC (ops ot:Array Oper) (js:List Nat):Nat->Array Bool->Array Bool->Bool
 | 0,ls,lt=>(Region.ready .any ot lt).isEmpty && UB ops js ls
 | k+1,ls,lt=>(decide (Region.ready .any ops ls=Region.ready .any ot lt) && !(Region.ready .any ot lt).isEmpty) && (Region.ready .any ot lt).all fun i=>UC ops ot js k (ls.setIfInBounds i true) (lt.setIfInBounds i true)
section
variable {P:Program} {ro:Option Nat} {m:Nat} {Q:Exit->Act->World->Prop} {K:Act->World->Prop} {S:Nat->World->Prop}
theorem CP {os:List Oper}:∀(rest:List Oper) (n:Nat) (ls:Array Bool) (a:Act) (w:World),os.drop n=rest->UB os.toArray (upF n rest.length) ls=true->wpListIn (WF ro) m P os.toArray Q rest a w->wpAnyIn (WF ro) m P .any os.toArray Q rest.length ls a w
 | [],n,ls,a,w,_,h,hw=>⟨by simpa [upF,UB] using h,hw⟩
 | o::rest,n,ls,a,w,hd,h,hw=>by
  have G6:os[n]?=some o:=by rw [<- List.head?_drop,hd]; rfl
  have hd2:os.drop (n+1)=rest:=by rw [<- List.tail_drop,hd]; rfl
  rw [aR,upF,UB,bL] at h
  have hr:=aN h.1
  refine ⟨fun h0=>(by rw [hr] at h0; cases h0),fun i hi=>?_⟩
  rw [hr,aL] at hi
  subst hi
  unfold wpListIn at hw
  unfold wpOpIn
  simp only [List.getElem?_toArray,G6]
  split
  ·rename_i c
   rw [au c] at hw
   exact Oper.wpIn_mono (fun a' w' h'=>CP rest (i+1) _ a' w' hd2 h.2 h') hw
  ·rename_i c
   rw [ak c] at hw
   exact ⟨hw.1,CP rest (i+1) _ _ w hd2 h.2 hw.2⟩
theorem Eb {os:List Oper} {n:Nat} (hQ:Ck Q) (hd:xQ os.toArray=true) (hg:(os.take n).all (fun o=>o.guard.isNone)=true) (hK:∀a w,K a w->wpListIn (WF ro) m P os.toArray Q (os.drop n) a w):
  ∀(k:Nat) (ls lt:Array Bool) (a:Act) (w:World),UC os.toArray (os.take n).toArray (upF n (os.drop n).length) k ls lt=true->nB P (os.take n).toArray (Exit.then K Q) S k lt a w->wpAnyIn (WF ro) m P .any os.toArray Q (k+(os.drop n).length) ls a w
 | 0,ls,lt,a,w,h,hs=>by
  rw [UC,bL] at h
  rw [bD]
  exact CP _ n _ _ _ I h.2 (hK _ _ hs.2)
 | k+1,ls,lt,a,w,h,hs=>by
  rw [UC,bL,bL] at h
  have hr:=aN h.1.1
  have u5:=h.1.2
  rw [show k+1+(os.drop n).length=(k+(os.drop n).length)+1 by omega]
  refine ⟨fun h0=>?_,fun i hi=>?_⟩
  ·rw [<- hr,h0] at u5
   cases u5
  ·rw [hr] at hi
   have h1:=hs.2 i hi
   obtain ⟨_,o,ho,_⟩:=mem_ready.1 hi
   have OK:(os.take n)[i]?=some o:=by simpa using ho
   have nz:i<n:=by
    rcases aV i n with q | q
    ·exact q
    ·rw [bg (by rw [bJ]; omega)] at OK; cases OK
   have JB:os[i]?=some o:=by rw [<- eM nz]; exact OK
   have hgn:o.guard=none:=by
    have:=bp.1 hg o (ah OK)
    exact Option.isNone_iff_eq_none.1 this
   unfold wpOp at h1
   simp only [ho] at h1
   rw [au (by simp [Region.wanted,hgn])] at h1
   unfold wpOpIn
   simp only [List.getElem?_toArray,JB]
   rw [au (by simp [Region.wanted,hgn])]
   have h2:o.wp P a w _ (Exit.then K Q):=h1.resolve_right fun ⟨_,a',w',hq⟩=>hQ.og _ _ hq
   have h3:=zZ (ro:=ro) (m:=m) (Ic hd (i:=i) (by simpa using JB)) h2
   have h5:=bp.1 h.2 i hi
   exact zj (Q':=Q) (Q:=Exit.then K Q) ⟨fun _ _ _ h=>hQ.Ws _ _ _ h,fun _ _ h=>hQ.og _ _ h⟩ (fun a' w' h'=>Eb hQ hd hg hK k _ _ a' w' h5 h'.2) h3
end
section
variable {P:Program} {X:Cx P} {w w0:World} {s:List zh} {l:List (Nat×Value)} {own ps:List PF}
theorem drY {id:Nat} {os:List Oper} (n:Nat) (Z is:List Nat) (J:List (Nat×Value)->World->Prop)
 (e:(yI (os.take n).toArray Z is (Array.replicate n false),xQ os.toArray,(decide (is.length=n) && decide (n<=os.length)),UC os.toArray (os.take n).toArray (upF n (os.drop n).length) n (Array.replicate os.length false) (Array.replicate n false),(os.take n).all (fun o=>o.guard.isNone))=(true,true,true,true,true))
 (hs:St w0 w own ps) (h:∀w',St w0 w' own ps->Mq X w' 999 (.Da own ps Z (os.take n) is (Array.replicate n false)) (.q (KC X J)::s) l) (hb:∀l w,J l w->Mq X w 999 (.list os (os.drop n)) s l):np X w (.code (.region id ⟨os⟩ true)) s l:=
 ⟨fun a he=>by
  have e1:=aq (·.1) e
  have e2:=aq (·.2.1) e
  have e3:=aq (·.2.2.1) e
  have e4:=aq (·.2.2.2.1) e
  have e5:=aq (·.2.2.2.2) e
  dsimp only at e1 e2 e3 e4 e5
  rw [bL] at e3
  have e6:=aN e3.1
  have e7:=aN e3.2
  refine wpIn_region_any X.mix ?_
  show wpAnyIn (WF X.ro) X.m P .any os.toArray (tR X s) os.length (Array.replicate os.length false) a w.drew
  have hl:os.length=n+(os.drop n).length:=by rw [dp]; omega
  have h1:=Eb (ro:=X.ro) (m:=X.m) (K:=KC X J) (oE X s) e2 e5 (fun a w ⟨l',e',hJ⟩=>(lR _ (hb l' w hJ)).go a e') n _ _ a w.drew e4 (by
   have:=(lR _ (h w.drew hs.drew)).go a he e1 fun _=>hs.drew.kn
   rw [e6] at this
   exact this)
  rw [<- hl] at h1
  exact h1⟩
end
theorem size_put (w:World) (b:Nat) (o:Obj):(w.putObj b o).heap.size=w.heap.size:=by unfold World.putObj; simp
def Le (r:Loop) (D:Nat):PF:=
 ⟨fun w=>CH r D w,fun b=>b=D+1∨b=D,fun h hb=>by rcases hb with rfl | rfl; exact lt_of_block h.1; exact lt_of_block h.2,fun h _ hk=>⟨(hk _ (.inl rfl)).trans h.1,(hk _ (.inr rfl)).trans h.2⟩⟩
section
variable {w0 w w':World} {own ps new:List PF} {o o':PF} {k D b:Nat} {r r':Loop}
theorem St.ae0 (h:St w0 w (Le r D::own) ps):St w0 (w.putObj (D+1) (.loop r')) (Le r' D::own) ps:=
 h.pH (k:=0) rfl (oJ (h.owns (k:=0) rfl)) (fun _ hb=>.inl hb) rfl rfl rfl (ew (size_put _ _ _).symm) fun _ _ hb=>World.putObj_heap_other (fun e=>hb (.inl e))
theorem St.front (h:St w0 w own ps) (hk:own[k]?=some o):St w0 w (o::own.eraseIdx k) ps:=by
 have hm:∀e∈o::own.eraseIdx k,e∈own:=fun e he=>by
  rcases bf.1 he with rfl | he
  ·exact ah hk
  ·exact iq he
 refine ⟨h.below,fun e he=>h.mine e (hm e he),fun e he=>h.new e (hm e he),dR.2 ⟨fun e he=>?_,h.nd.sublist (i' ..)⟩,h.pers,fun p hp e he=>h.apart p hp e (hm e he)⟩
 obtain ⟨j,hj,Gv⟩:=List.mem_eraseIdx_iff_getElem?.1 he
 exact h.one hk Gv (fw hj)
theorem St.ajs (h:St w0 w (o::own) ps):St w0 w own ps:=
 ⟨h.below,fun e he=>h.mine e (aQ _ he),fun e he=>h.new e (aQ _ he),(dR.1 h.nd).2,h.pers,fun p hp e he=>h.apart p hp e (aQ _ he)⟩
theorem St.ajt (h:St w0 w (o::own) ps):St w0 w [o] (dA w o::ps):=by
 have h1:St w0 w [o] ps:=⟨h.below,fun e he=>h.mine e (by rw [aL.1 he]; exact aJ ..),fun e he=>h.new e (by rw [aL.1 he]; exact aJ ..),List.pairwise_singleton ..,h.pers,fun p hp e he=>h.apart p hp e (by rw [aL.1 he]; exact aJ ..)⟩
 exact h1.l9 _ ⟨ar _,fun _ _ _=>I⟩ fun e he b h2 h3=>by
  rw [aL.1 he] at h2
  exact h3.2 h2
theorem St.aju (h:St w0 w (Le r D::own) ps):St w0 (w.putObj D (.deferred none)) own ps:=
 (show St w0 (w.putObj D (.deferred none)) (kF::own) ps from h.pH (k:=0) (e':=kF) rfl trivial (fun _ hb=>hb.elim) rfl rfl rfl (ew (size_put _ _ _).symm) fun _ _ hb=>World.putObj_heap_other (fun e=>hb (.inr e))).ajs
theorem St.api (h:St w0 w own ps) (hk:own[k]?=some o) (h':St w0 w' (o'::new) [dA w o]):St w0 w' (o'::(new++own.eraseIdx k)) ps:=by
 have hr:St w0 w' [] [dA w o]:=⟨h'.below,fun e h=>by simp at h,fun e h=>by simp at h,List.Pairwise.nil,h'.pers,fun p _ e h=>by simp at h⟩
 have h2:=h.rest hk hr
 have hf:∀e∈o'::new,∀b,e.gO b->o.gO b∨w.heap.size<=b:=fun e he b hb=>by
  have h1:=h'.apart _ (aJ ..) e he b hb
  rcases aV b w.heap.size with q | q
  ·exact .inl (jl fun hn=>h1 ⟨q,hn⟩)
  ·exact .inr q
 have hm:∀e∈own.eraseIdx k,(∀b,o.gO b->¬e.gO b)/\∀b,e.gO b->b<w.heap.size:=fun e he=>by
  obtain ⟨j,hj,Gv⟩:=List.mem_eraseIdx_iff_getElem?.1 he
  exact ⟨h.one hk Gv (fw hj),fun b hb=>e.lt (h.owns Gv) hb⟩
 refine ⟨h2.below,fun e he=>?_,fun e he=>?_,?_,h2.pers,fun p hp e he b hb L2=>?_⟩
 ·rw [<- ft] at he
  rcases aK.1 he with he | he
  ·exact h'.mine e he
  ·exact h2.mine e he
 ·rw [<- ft] at he
  rcases aK.1 he with he | he
  ·exact h'.new e he
  ·exact h2.new e he
 ·rw [<- ft]
  refine jy.2 ⟨h'.nd,h2.nd,fun e he f Rp b hb Dg=>?_⟩
  rcases hf e he b hb with q | q
  ·exact (hm f Rp).1 b q Dg
  ·have:=(hm f Rp).2 b Dg; omega
 ·rw [<- ft] at he
  rcases aK.1 he with he | he
  ·rcases hf e he b hb with q | q
   ·exact h.apart p hp o (ah hk) b q L2
   ·have:=p.lt (h.pers p hp) L2; omega
  ·exact h2.apart p hp e he b hb L2
end
def rsQ (w0:World) (D:Nat) (r:Loop) (R F:PF):Exit->Act->World->Prop
 | .normal,_,Z=>St w0 Z [Le r D,R] [F]
 | _,_,_=>False
variable {os es1 xs zs ys:List Int} {w0:World} {r:Loop} {k g n j a i n0 c0 n1 c1 m nn N k1 k2 b:Nat} {c s d op tr ra rb cn oa ta aa ba ca ob xb yb cb t:Int} {f:Nat->Int} {q p:List IE×List Int} {es st:List IE} {A0 A1:Option Addr} {es0 l:List Pt} {G O:List Rw} {P:List (List Int)} {a0:Addr}
theorem ae1 {D:Nat} {R F:PF}:Ck (rsQ w0 D r R F):=⟨fun _ _ _ h=>h,fun _ _ h=>h⟩
section
variable {P:Program} {T:Ig P} {mix:P.follows .mixedOrders=true} {N m:Nat} {dq:List Deferred} {Q:Exit->Act->World->Prop} {ok:Ck Q} {s:List zh} {l:List (Nat×Value)} {w0 w:World} {own ps:List PF} {α σ:Type}
theorem rgS {z:Operand} {gf:Nat} {pp:Array Tmp} {lb:Array Value} {assign body:Code} {encs:α->Array Value} {l2:α->List (Nat×Value)} {R:σ->PF} {s0:σ} {V:α->Prop} {G:σ->List PF->Prop}
 (hz:eB l z=some (.func (.func gf) #[] lb)) (eg:∀args w,(callFunc gf args).run P w=.ok (.enter gf args) w) (mf:∀x,(encs x).size=pp.size) (Oz:∀(a:Act) x,b7 dq N a l->b7 [] N { tmps:=(pp.zip (encs x)).foldl (fun t (p,v)=>t.setIfInBounds p v) a.tmps,defers:=[] } (l2 x))
 (st:σ->α->σ) (qY:St w0 w own ps) (hk:own[k]?=some (R s0))
 (hit:∀(J:σ->PF) (l0:Nat) (w1:World),(∀x s Y,V x->St w0 Y [J s] [dA Y (J s)]->YieldAt (WF none) 7 P l0 (encs x) Y fun e Z=>e=.returned (.bool true)/\St w0 Z [J (st s x)] [dA Y (J s)])->
 St w0 w1 [J s0] (dA w1 (J s0)::ps)->Calls P gf (#[.func (.yield l0) #[] #[]]++lb) w1 fun e Z=>(∃v,e=.returned v)/\∃s' new,G s' new/\St w0 Z (J s'::new) [dA w1 (J s0)])
 (A:α->σ->List PF->List (Nat×Value)->Prop)
 (tw:∀(i D:Nat) (r:Loop) (F:PF) (x:α) (q:σ) (W:World) (K:Act->World->Prop),V x->St w0 W [Le r D,R q] [F]->(∀a' l' W' nu,b7 [] N a' l'->A x q nu l'->St w0 W' (Le r D::nu) [F]->K a' W')->Mq ⟨T,mix,some i,7,[],N,noQ,T6⟩ W 999 (.code assign) [.q K] (l2 x))
 (CI:∀(i D:Nat) (r:Loop) (F:PF) (x:α) (q:σ) (nu:List PF) (l':List (Nat×Value)) (W:World),V x->A x q nu l'->St w0 W (Le r D::nu) [F]->Mq ⟨T,mix,some i,7,[],N,rsQ w0 D r (R (st q x)) F,ae1⟩ W 999 (.code body) [] l')
 (CJ:∀(D:Nat) (r:Loop) (s':σ) (new:List PF) (W:World),G s' new->W.heap[D]?=some (.deferred (some []))->St w0 W (Le r D::R s'::(new++own.eraseIdx k)) ps->Mq ⟨T,mix,none,m,{ target:=.collected D,args:=#[] }::dq,N,Q,ok⟩ W 999 (.fin .normal) s l):
  np ⟨T,mix,none,m,dq,N,Q,ok⟩ w (.code (.rangeFunc z pp assign body)) s l:=by
 refine ⟨fun a e=>(wpIn_wide (n:=m)).2 ((wpIn_wide (n:=9)).1 (wpIn_rangeFunc fun fn _=>?_))⟩
 obtain ⟨D,hD⟩:∃D,D=w.heap.size:=⟨_,rfl⟩
 obtain ⟨rr,Y6⟩:∃rr,rr=fun (q:LoopState)=>D9 fn a.tmps pp assign body D q none:=⟨_,rfl⟩
 obtain ⟨X,hX⟩:∃X,X=(w.alloc (.deferred (some []))).alloc (.loop (rr .ready)):=⟨_,rfl⟩
 have hbX:CH (rr .ready) D X:=by
  subst hX Y6 hD
  refine ⟨?_,?_⟩
  ·have:=World.alloc_heap_new (w.alloc (.deferred (some []))) (.loop (D9 fn a.tmps pp assign body w.heap.size .ready none))
   rwa [World.size_alloc] at this
  ·exact (Below.heap_alloc _ _ _ fW).trans (World.alloc_heap_new w _)
 have T5:Below w.heap.size w X:=hX ▸ (((Below.refl _ w).alloc (ar _) _).alloc fW _)
 have aeF:St w0 X (Le (rr .ready) D::own) ps:=qY.add T5 _ hbX fun b hb=>by
  have Df:b=D+1∨b=D:=hb
  omega
 -- the two as one
 obtain ⟨J,hJ⟩:∃J:σ->PF,∀q,J q=star [R q,Le (rr .ready) D]:=⟨_,fun _=>rfl⟩
 have Bv:St w0 X (J s0::own.eraseIdx k) ps:=by
  have hpk:=(aeF.front (k:=k+1) hk).pack 2
  rw [hJ]
  exact hpk
 have hYD:∀x q Y,V x->St w0 Y [J q] [dA Y (J q)]->YieldAt (WF none) 7 P (D+1) (encs x) Y fun e Z=>e=.returned (.bool true)/\St w0 Z [J (st q x)] [dA Y (J q)]:=fun x q Y hV hY=>by
  have hY1:St w0 Y [Le (rr .ready) D,R q] [dA Y (J q)]:=by
   have:=hY
   rw [hJ] at this ⊢
   exact this.unpack.front (k:=1) I
  have hb:CH (rr .ready) D Y:=hY1.owns (k:=0) rfl
  refine ⟨fn,_,assign,body,(by have:=run_yield (P:=P) hb.1 (args:=encs x) (by rw [Y6]; exact mf x); rw [Y6] at this; exact this),roundIn_of_wpIn trivial ?_⟩
  have h1:=Oz a x e
  refine (lR _ (tw (D+1) D (rr .ready) (dA Y (J q)) x q Y _ hV hY1 fun a' l' W' nu e' hA hS=>?_)).go _ h1
  have kY:CH (rr .ready) D W':=hS.owns (k:=0) rfl
  refine ⟨_,run_beginRound kY.1 (by rw [Y6]; rfl),?_⟩
  have hS3:St w0 (W'.putObj (D+1) (.loop (rr .busy))) (Le (rr .busy) D::nu) [dA Y (J q)]:=hS.ae0
  have e3:({ rr .ready with state:=.busy }:Loop)=rr .busy:=by rw [Y6]; rfl
  rw [e3]
  refine wpIn_mono ((lR _ (CI (D+1) D (rr .busy) (dA Y (J q)) x q nu l' _ hV hA hS3)).go _ e') ?_
  intro e a3 Z hz
  cases e with
  | normal=>
   have hS4:St w0 Z [Le (rr .busy) D,R (st q x)] [dA Y (J q)]:=hz
   have ru:CH (rr .busy) D Z:=hS4.owns (k:=0) rfl
   refine ⟨_,_,run_endRound none ru.1,I,?_⟩
   have e5:({ rr .busy with state:=if (none:Option Code).isNone then .ready else .done,pending:=none }:Loop)=rr .ready:=by rw [Y6]; rfl
   rw [e5]
   have:=((hS4.ae0 (r':=rr .ready)).front (k:=1) rfl).pack 2
   rw [hJ (st q x)]
   exact this
  | ret=>exact hz.elim
  | exit id=>exact hz.elim
  | goto t=>exact hz.elim
  | panic _=>exact hz.elim
  | outgrown=>exact hz.elim
 have XQ:a.eval z=.func (.func gf) #[] lb:=e.ev hz
 have hSi:St w0 X [J s0] (dA X (J s0)::ps):=by
  exact Bv.ajt
 refine ⟨D+1,[{ target:=.collected D,args:=#[] }],X,{ target:=.fn (.func gf) lb,args:=#[.func (.yield (D+1)) #[] #[]] },X,gf,#[.func (.yield (D+1)) #[] #[]]++lb,X,
  (by subst hX Y6 hD; exact run_enterLoop_outer fn a.tmps pp assign body),by simp only [resolve,XQ]; simp [go_sem],fun _ _=>trivial,by simp [invoke,go_sem,eg],fun h=>(by cases h),sV (ro:=none) ?_⟩
 refine (hit J (D+1) X hYD hSi).mono fun e2 Z hZ=>?_
 obtain ⟨⟨v,rfl⟩,s',new,hG,hS5⟩:=hZ
 have hS6:=Bv.api (k:=0) rfl hS5
 rw [List.eraseIdx_cons_zero] at hS6
 have hS7:St w0 Z (Le (rr .ready) D::R s'::(new++own.eraseIdx k)) ps:=by
  rw [hJ] at hS6
  exact hS6.unpack.front (k:=1) I
 have hb7:CH (rr .ready) D Z:=hS7.owns (k:=0) rfl
 have h9:=run_endLoop (P:=P) hb7.1 (by rw [Y6]; intro h; cases h)
 rw [show (rr .ready).pending=none by rw [Y6]; rfl] at h9
 refine ⟨none,_,h9,?_⟩
 have hS8:=hS7.ae0 (r':={ rr .ready with state:=.exhausted,pending:=none })
 have:=(lR _ (CJ D _ s' new _ hG (hS8.owns (k:=0) rfl).2 hS8)).go _ (uy e _)
 rw [yR (dq:=dq) (dq':={ target:=.collected D,args:=#[] }::dq) s]
 exact this
end
section
variable {P:Program} {fn:Func} {R:Ending->World->Prop} {T:Ig P} {mix:P.follows .mixedOrders=true} {N:Nat} {w w0:World} {l:List (Nat×Value)} {v:Value}
theorem oMR {D:Nat} {own ps:List PF} {ok:Ck (poM P fn R)} (qY:St w0 w (Le r D::own) ps) (h:∀w',St w0 w' own ps->(∀a:Act,b7 [{ target:=.collected D,args:=#[] }] N a l->(results fn a.tmps).run P w'=.ok v w')/\R (.returned v) w'):np ⟨T,mix,none,9,[{ target:=.collected D,args:=#[] }],N,poM P fn R,ok⟩ w (.fin .ret) [] l:=
 have h1:=h _ qY.aju
 ⟨fun _ e=>xG e qY.jr.2 (h1.1 _ e) h1.2⟩
end
theorem ae2 (h:c<2):p2 c=none:=by
 cases hq:p2 c with
 | none=>rfl
 | some m=>
  obtain ⟨h1,h2,_⟩:=sY hq
  have h3:(2:Int) ^ 1<=2 ^ m:=by exact_mod_cast bS aB h2
  have:(2:Int) ^ 1=2:=rfl
  omega
theorem ajv (h1:2<=c) (h2:c<=512) (h:bits .and .i64 c (c - 1)≠0):p2 c=none:=by
 cases hq:p2 c with
 | none=>rfl
 | some m=>exact absurd ((Nb ae h2).2 (.inr (by rw [hq]; rfl))) h
def tgO (f c s d:Int):Int:=((qB f c s d).getD (0,0)).1
def WG (f c s d:Int):Int:=((qB f c s d).getD (0,0)).2
theorem pT {f:Int} {q:Int×Int} (h:qB f c s d=some q):tgO f c s d=q.1/\WG f c s d=q.2/\(qB f c s d).isSome=true:=by unfold tgO WG; rw [h]; exact ⟨rfl,rfl,rfl⟩
theorem uQ {f:Int} (h:qB f c s d=none):tgO f c s d=0/\WG f c s d=0/\(qB f c s d).isSome=false:=by unfold tgO WG; rw [h]; exact ⟨rfl,rfl,rfl⟩
theorem NF {g:Int} (h:gl (op,tr,ra,rb,cn) g):-512<=cn/\cn<=512:=by unfold gl at h; dsimp only at h; omega
theorem ajw {g:Int} (h:gl (op,tr,ra,rb,cn) g) (ho:op=5∨op=6):cn≠0:=by unfold gl at h; dsimp only at h; omega
theorem ajx (h1:-512<=c/\c<=512) (h2:-512<=d/\d<=512):-1000000<=c*d/\c*d<=1000000:=by
 have:=TC h1 h2
 omega
theorem NG {n:Int}:
  Calls prog 210 #[aG n] w0 fun e w'=>e=.returned (.bool (decide (-512<=n/\n<=512)))/\Below w0.heap.size w0 w':=by
 refine gQ func210 I ntmps210 I fun σ=>xo I<|wD (fun lC=>?_) fun lC=>?_
 ·exact Dn I<|o1 results210 I<|⟨aq (fun b=>Ending.returned (Value.bool b)) (eI.2 (by simp; try omega)),σ.below⟩
 ·exact o1 results210 I<|⟨aq (fun b=>Ending.returned (Value.bool b)) (eI.2 (by simp; try omega)),σ.below⟩
theorem pg:
  Calls prog 181 #[aG op,aG tr,aG ra,aG cn] w0 fun e w'=>e=.returned (.agg #[aG op,aG tr,aG ra,aG 0,aG cn])/\Below w0.heap.size w0 w':=by
 exact gQ func181 I ntmps181 I fun σ=>eE I<|iR bm σ I fun _ de σ=>vE I (fun η=>eV dg η I I)<|eE I<|fB 0 σ I fun _ σ=>oR (fun e=>iJ results181 (RV.cell e aF I σ.gq I))<|⟨I,σ.below⟩
theorem UD (hD:me w0) (b1:-512<=c) (b2:c<=512):
  Calls prog 180 #[aG c] w0 fun e w'=>e=.returned (.tuple #[aM ((p2 c).getD 0),.bool (p2 c).isSome])/\Below w0.heap.size w0 w':=by
 refine gQ func180 I ntmps180 I fun σ=>?_
 replace σ:=σ.nG hD
 refine il I<|wD (fun lC=>?_) fun lC=>?_
 ·have v7:=ae2 lC
  exact iT I I<|o2 results180 I<|⟨by rw [v7]; rfl,σ.below⟩
 ·refine xq I ae<|vE I (fun η=>Na η I I)<|lK I<|wN (fun mX=>?_) fun mX=>?_
  ·have v7:=ajv ae ae mX
   exact iT I I<|o2 results180 I<|⟨by rw [v7]; rfl,σ.below⟩
  ·have Cp:=((Nb (c:=c) ae ae).1 ae).resolve_left ae
   obtain ⟨m,hm,KA,qP,Ql⟩:=aa4 Cp
   exact iF I I<|vE I (fun η=>dS η I underlying3 underlying99 (Nc KA ae))<|eE I<|gV call128 (tz qP Ql σ.bW) σ I fun _ σ=>o2 results180 I<|⟨by rw [hm]; rfl,σ.below⟩
theorem IY {f:Int} (hc:-512<=c/\c<=512) (hd:-512<=d/\d<=512) (hf:f=5∨f=6->c≠0) (hs:s=5∨s=6->d≠0):
  Calls prog 182 #[aG f,aG c,aG s,aG d] w0 fun e w'=>e=.returned (.tuple #[aG (tgO f c s d),aG (WG f c s d),.bool (qB f c s d).isSome])/\Below w0.heap.size w0 w':=by
 have hcd:=ajx hc hd
 refine gQ func182 I ntmps182 I fun σ=>gj I<|wQ (fun lC=>?_) fun lC=>?_
 ·exact iT I I<|o3 results182 I<|⟨by obtain ⟨a1,a2,a3⟩:=pT (f:=f) (c:=c) (s:=s) (d:=d) (q:=(s,d)) (by unfold qB; simp [*]<;>omega); rw [a1,a2,a3],σ.below⟩
 ·refine iF I I<|gj I<|wQ (fun mX=>?_) fun mX=>?_
  ·refine iT I I<|gj I<|wQ (fun oL=>?_) fun oL=>?_
   ·exact iT I I<|o3 results182 I<|⟨by obtain ⟨a1,a2,a3⟩:=pT (f:=f) (c:=c) (s:=s) (d:=d) (q:=((2:Int),(0:Int))) (by unfold qB; simp [*]<;>omega); rw [a1,a2,a3],σ.below⟩
   ·refine iF I I<|gj I<|wQ (fun rP=>?_) fun rP=>?_
    ·exact iT I I<|o3 results182 I<|⟨by obtain ⟨a1,a2,a3⟩:=pT (f:=f) (c:=c) (s:=s) (d:=d) (q:=((1:Int),(0:Int))) (by unfold qB; simp [*]<;>omega); rw [a1,a2,a3],σ.below⟩
    ·refine iF I I<|gj I<|wQ (fun sI=>?_) fun sI=>?_
     ·exact iT I I<|iT I I<|Ye I ae<|o3 results182 I<|⟨by obtain ⟨a1,a2,a3⟩:=pT (f:=f) (c:=c) (s:=s) (d:=d) (q:=(s,(-d))) (by unfold qB; simp [*]<;>omega); rw [a1,a2,a3],σ.below⟩
     ·refine iF I I<|gj I<|wQ (fun wU=>?_) fun wU=>?_
      ·exact iT I I<|Ye I ae<|o3 results182 I<|⟨by obtain ⟨a1,a2,a3⟩:=pT (f:=f) (c:=c) (s:=s) (d:=d) (q:=(s,(-d))) (by unfold qB; simp [*]<;>omega); rw [a1,a2,a3],σ.below⟩
      ·exact iF I I<|o3 results182 I<|⟨by obtain ⟨a1,a2,a3⟩:=uQ (f:=f) (c:=c) (s:=s) (d:=d) (by unfold qB; simp [*]<;>omega); rw [a1,a2,a3],σ.below⟩
  ·refine iF I I<|gj I<|wQ (fun yM=>?_) fun yM=>?_
   ·refine iT I I<|gj I<|wQ (fun tt=>?_) fun tt=>?_
    ·exact iT I I<|Ye I ae<|o3 results182 I<|⟨by obtain ⟨a1,a2,a3⟩:=pT (f:=f) (c:=c) (s:=s) (d:=d) (q:=((5:Int),(-c))) (by unfold qB; simp [*]<;>omega); rw [a1,a2,a3],σ.below⟩
    ·refine iF I I<|gj I<|wQ (fun wX=>?_) fun wX=>?_
     ·refine ym I ae<|eE I<|gV call210 (NG (n:=(c*d))) σ I fun _ σ=>wD (fun wh=>?_) fun wh=>?_
      ·exact iT I I<|ym I ae<|o3 results182 I<|⟨by obtain ⟨a1,a2,a3⟩:=pT (f:=f) (c:=c) (s:=s) (d:=d) (q:=((5:Int),(c*d))) (by unfold qB; simp [*]<;>omega); rw [a1,a2,a3],σ.below⟩
      ·exact iF I I<|gj I<|kB (b':=false) (by rw [wX]; rfl)<|iF rfl rfl<|gj rfl<|kB (b':=false) (by rw [wX]; rfl)<|iF rfl rfl<|o3 results182 rfl<|⟨by obtain ⟨a1,a2,a3⟩:=uQ (f:=f) (c:=c) (s:=s) (d:=d) (by unfold qB; simp [*]<;>omega); rw [a1,a2,a3],σ.below⟩
     ·refine iF I I<|gj I<|wQ (fun yL=>?_) fun yL=>?_
      ·refine vE I (fun η=>uu (m:=c) (n:=d) η I I ae I)<|gj I<|wQ (fun KO=>?_) fun KO=>?_
       ·exact iT I I<|lj [] [0,4,8,12,16,20] bI σ fun _ σ=>vE I (fun η=>nP (m:=c) (n:=d) η I I ae (lJ ae))<|o3 results182 I<|⟨by obtain ⟨a1,a2,a3⟩:=pT (f:=f) (c:=c) (s:=s) (d:=d) (q:=((5:Int),(c.tdiv d))) (by unfold qB; simp [*]<;>omega); rw [a1,a2,a3],σ.below⟩
       ·refine iF I I<|gj I<|kB (b':=true) (eA.2 yL)<|vE I (fun η=>uu (m:=d) (n:=c) η I I ae I)<|gj I<|wQ (fun Eu=>?_) fun Eu=>?_
        ·exact iT I I<|lj [] [0,4,8,12,16,20] bI σ fun _ σ=>vE I (fun η=>nP (m:=d) (n:=c) η I I ae (lJ ae))<|o3 results182 I<|⟨by obtain ⟨a1,a2,a3⟩:=pT (f:=f) (c:=c) (s:=s) (d:=d) (q:=((6:Int),(d.tdiv c))) (by unfold qB; simp [*]<;>omega); rw [a1,a2,a3],σ.below⟩
        ·exact iF I I<|o3 results182 I<|⟨by obtain ⟨a1,a2,a3⟩:=uQ (f:=f) (c:=c) (s:=s) (d:=d) (by unfold qB; simp [*]<;>omega); rw [a1,a2,a3],σ.below⟩
      ·exact iF I I<|gj I<|kB (b':=false) (du.2 yL)<|iF I I<|o3 results182 I<|⟨by obtain ⟨a1,a2,a3⟩:=uQ (f:=f) (c:=c) (s:=s) (d:=d) (by unfold qB; simp [*]<;>omega); rw [a1,a2,a3],σ.below⟩
   ·refine iF I I<|gj I<|wQ (fun JG=>?_) fun JG=>?_
    ·refine iT I I<|gj I<|wQ (fun IA=>?_) fun IA=>?_
     ·exact iT I I<|Ye I ae<|o3 results182 I<|⟨by obtain ⟨a1,a2,a3⟩:=pT (f:=f) (c:=c) (s:=s) (d:=d) (q:=((6:Int),(-c))) (by unfold qB; simp [*]<;>omega); rw [a1,a2,a3],σ.below⟩
     ·refine iF I I<|gj I<|wQ (fun h66=>?_) fun h66=>?_
      ·refine ym I ae<|eE I<|gV call210 (NG (n:=(c*d))) σ I fun _ σ=>wD (fun WH=>?_) fun WH=>?_
       ·exact iT I I<|ym I ae<|o3 results182 I<|⟨by obtain ⟨a1,a2,a3⟩:=pT (f:=f) (c:=c) (s:=s) (d:=d) (q:=((6:Int),(c*d))) (by unfold qB; simp [*]<;>omega); rw [a1,a2,a3],σ.below⟩
       ·exact iF I I<|o3 results182 I<|⟨by obtain ⟨a1,a2,a3⟩:=uQ (f:=f) (c:=c) (s:=s) (d:=d) (by unfold qB; simp [*]<;>omega); rw [a1,a2,a3],σ.below⟩
      ·exact iF I I<|o3 results182 I<|⟨by obtain ⟨a1,a2,a3⟩:=uQ (f:=f) (c:=c) (s:=s) (d:=d) (by unfold qB; simp [*]<;>omega); rw [a1,a2,a3],σ.below⟩
    ·refine iF I I<|gj I<|wQ (fun h68=>?_) fun h68=>?_
     ·refine iT I I<|gj I<|wQ (fun h69=>?_) fun h69=>?_
      ·refine Tg I ae<|Dn I<|wD (fun h70=>?_) fun h70=>?_
       ·exact iT I I<|Tg I ae<|o3 results182 I<|⟨by obtain ⟨a1,a2,a3⟩:=pT (f:=f) (c:=c) (s:=s) (d:=d) (q:=((7:Int),(c+d))) (by unfold qB; simp [*]<;>omega); rw [a1,a2,a3],σ.below⟩
       ·exact iF I I<|lK I<|kB (b':=true) (by rw [h69]; rfl)<|iT rfl rfl<|o3 results182 rfl<|⟨by obtain ⟨a1,a2,a3⟩:=uQ (f:=f) (c:=c) (s:=s) (d:=d) (by unfold qB; simp [*]<;>omega); rw [a1,a2,a3],σ.below⟩
      ·refine iF I I<|lK I<|wN (fun h71=>?_) fun h71=>?_
       ·exact iT I I<|o3 results182 I<|⟨by obtain ⟨a1,a2,a3⟩:=uQ (f:=f) (c:=c) (s:=s) (d:=d) (by unfold qB; simp [*]<;>omega); rw [a1,a2,a3],σ.below⟩
       ·refine iF I I<|gj I<|wQ (fun Yo=>?_) fun Yo=>?_
        ·exact iT I I<|o3 results182 I<|⟨by obtain ⟨a1,a2,a3⟩:=pT (f:=f) (c:=c) (s:=s) (d:=d) (q:=((1:Int),(0:Int))) (by unfold qB; simp [*]<;>omega); rw [a1,a2,a3],σ.below⟩
        ·refine iF I I<|sG I<|wD (fun h73=>?_) fun h73=>?_
         ·exact iT I I<|xq I ae<|o3 results182 I<|⟨by obtain ⟨a1,a2,a3⟩:=pT (f:=f) (c:=c) (s:=s) (d:=d) (q:=((7:Int),(c - d))) (by unfold qB; simp [*]<;>omega); rw [a1,a2,a3],σ.below⟩
         ·exact iF I I<|xq I ae<|o3 results182 I<|⟨by obtain ⟨a1,a2,a3⟩:=pT (f:=f) (c:=c) (s:=s) (d:=d) (q:=((8:Int),(d - c))) (by unfold qB; simp [*]<;>omega); rw [a1,a2,a3],σ.below⟩
     ·refine iF I I<|gj I<|wQ (fun WD=>?_) fun WD=>?_
      ·refine iT I I<|gj I<|wQ (fun h75=>?_) fun h75=>?_
       ·refine Tg I ae<|Dn I<|wD (fun h76=>?_) fun h76=>?_
        ·exact iT I I<|Tg I ae<|o3 results182 I<|⟨by obtain ⟨a1,a2,a3⟩:=pT (f:=f) (c:=c) (s:=s) (d:=d) (q:=((8:Int),(c+d))) (by unfold qB; simp [*]<;>omega); rw [a1,a2,a3],σ.below⟩
        ·exact iF I I<|o3 results182 I<|⟨by obtain ⟨a1,a2,a3⟩:=uQ (f:=f) (c:=c) (s:=s) (d:=d) (by unfold qB; simp [*]<;>omega); rw [a1,a2,a3],σ.below⟩
       ·exact iF I I<|o3 results182 I<|⟨by obtain ⟨a1,a2,a3⟩:=uQ (f:=f) (c:=c) (s:=s) (d:=d) (by unfold qB; simp [*]<;>omega); rw [a1,a2,a3],σ.below⟩
      ·exact iF I I<|o3 results182 I<|⟨by obtain ⟨a1,a2,a3⟩:=uQ (f:=f) (c:=c) (s:=s) (d:=d) (by unfold qB; simp [*]<;>omega); rw [a1,a2,a3],σ.below⟩
theorem IZ (hD:me w0) (b1:-512<=cn) (b2:cn<=512):
  Calls prog 133 #[.agg #[aG op,aG tr,aG ra,aG rb,aG cn]] w0 fun e w'=>e=.returned (.agg #[aG (dY (op,tr,ra,rb,cn)).1,aG (dY (op,tr,ra,rb,cn)).2.1,aG (dY (op,tr,ra,rb,cn)).2.2.1,aG (dY (op,tr,ra,rb,cn)).2.2.2.1,aG (dY (op,tr,ra,rb,cn)).2.2.2.2])/\Below w0.heap.size w0 w':=by
 refine gQ func133 I ntmps133 I fun σ=>?_
 replace σ:=σ.nG hD
 refine eE I<|ll σ I fun _ de σ=>eE I<|iR bm σ I fun _ eQ σ=>lE 1 σ I<|eE I<|gV call180 (UD σ.bW b1 b2) σ I fun _ σ=>?_
 cases hm:p2 cn
 ·refine lE 1 σ I<|gj I<|wQ (fun oL=>?_) fun oL=>?_
  ·refine iT I I<|lE 1 σ I<|lE 1 σ I<|gj I<|wQ (fun rP=>?_) fun rP=>?_
   ·exact iT I I<|lE 1 σ I<|lE 1 σ I<|eE I<|gV call181 (pg (op:=(7:Int)) (tr:=tr) (ra:=ra) (cn:=(1:Int))) σ I fun _ σ=>eE I<|fB 0 σ I fun _ σ=>oR (fun e=>iJ results133 (RV.cell e aF I σ.gq I))<|⟨by rw [show dY (op,tr,ra,rb,cn)=((7:Int),tr,ra,(0:Int),(1:Int)) by unfold dY; simp [*]<;>omega],σ.below⟩
   ·exact iF I I<|gE 1 σ I<|eE I<|fB 0 σ I fun _ σ=>oR (fun e=>iJ results133 (RV.cell e aF I σ.gq I))<|⟨by rw [show dY (op,tr,ra,rb,cn)=(op,tr,ra,rb,cn) by unfold dY; simp [*]<;>omega],σ.below⟩
  ·refine iF I I<|gj I<|wQ (fun sI=>?_) fun sI=>?_
   ·refine iT I I<|iT I I<|lE 1 σ I<|gj I<|wQ (fun wU=>?_) fun wU=>?_
    ·exact iT I I<|lE 1 σ I<|lE 1 σ I<|eE I<|gV call181 (pg (op:=(1:Int)) (tr:=tr) (ra:=ra) (cn:=(0:Int))) σ I fun _ σ=>eE I<|fB 0 σ I fun _ σ=>oR (fun e=>iJ results133 (RV.cell e aF I σ.gq I))<|⟨by rw [show dY (op,tr,ra,rb,cn)=((1:Int),tr,ra,(0:Int),(0:Int)) by unfold dY; simp [*]<;>omega],σ.below⟩
    ·refine iF I I<|lE 1 σ I<|gj I<|wQ (fun yM=>?_) fun yM=>?_
     ·exact iT I I<|lE 1 σ I<|lE 1 σ I<|eE I<|gV call181 (pg (op:=(2:Int)) (tr:=tr) (ra:=ra) (cn:=(0:Int))) σ I fun _ σ=>eE I<|fB 0 σ I fun _ σ=>oR (fun e=>iJ results133 (RV.cell e aF I σ.gq I))<|⟨by rw [show dY (op,tr,ra,rb,cn)=((2:Int),tr,ra,(0:Int),(0:Int)) by unfold dY; simp [*]<;>omega],σ.below⟩
     ·exact iF I I<|iF I I<|iF I I<|gE 1 σ I<|eE I<|fB 0 σ I fun _ σ=>oR (fun e=>iJ results133 (RV.cell e aF I σ.gq I))<|⟨by rw [show dY (op,tr,ra,rb,cn)=(op,tr,ra,rb,cn) by unfold dY; simp [*]<;>omega],σ.below⟩
   ·refine iF I I<|gj I<|wQ (fun tt=>?_) fun tt=>?_
    ·refine iT I I<|lE 1 σ I<|gj I<|wQ (fun wX=>?_) fun wX=>?_
     ·exact iT I I<|lE 1 σ I<|lE 1 σ I<|eE I<|gV call181 (pg (op:=(1:Int)) (tr:=tr) (ra:=ra) (cn:=(0:Int))) σ I fun _ σ=>eE I<|fB 0 σ I fun _ σ=>oR (fun e=>iJ results133 (RV.cell e aF I σ.gq I))<|⟨by rw [show dY (op,tr,ra,rb,cn)=((1:Int),tr,ra,(0:Int),(0:Int)) by unfold dY; simp [*]<;>omega],σ.below⟩
     ·refine iF I I<|lE 1 σ I<|gj I<|wQ (fun wh=>?_) fun wh=>?_
      ·exact iT I I<|lE 1 σ I<|lE 1 σ I<|eE I<|gV call181 (pg (op:=(2:Int)) (tr:=tr) (ra:=ra) (cn:=(0:Int))) σ I fun _ σ=>eE I<|fB 0 σ I fun _ σ=>oR (fun e=>iJ results133 (RV.cell e aF I σ.gq I))<|⟨by rw [show dY (op,tr,ra,rb,cn)=((2:Int),tr,ra,(0:Int),(0:Int)) by unfold dY; simp [*]<;>omega],σ.below⟩
      ·exact iF I I<|iF I I<|iF I I<|gE 1 σ I<|eE I<|fB 0 σ I fun _ σ=>oR (fun e=>iJ results133 (RV.cell e aF I σ.gq I))<|⟨by rw [show dY (op,tr,ra,rb,cn)=(op,tr,ra,rb,cn) by unfold dY; simp [*]<;>omega],σ.below⟩
    ·exact iF I I<|gE 1 σ I<|eE I<|fB 0 σ I fun _ σ=>oR (fun e=>iJ results133 (RV.cell e aF I σ.gq I))<|⟨by rw [show dY (op,tr,ra,rb,cn)=(op,tr,ra,rb,cn) by unfold dY; simp [*]<;>omega],σ.below⟩
 ·rename_i m
  refine lE 1 σ I<|gj I<|wQ (fun yL=>?_) fun yL=>?_
  ·refine iT I I<|lE 1 σ I<|lE 1 σ I<|gj I<|wQ (fun KO=>?_) fun KO=>?_
   ·exact iT I I<|lE 1 σ I<|lE 1 σ I<|eE I<|gV call181 (pg (op:=(7:Int)) (tr:=tr) (ra:=ra) (cn:=(1:Int))) σ I fun _ σ=>eE I<|fB 0 σ I fun _ σ=>oR (fun e=>iJ results133 (RV.cell e aF I σ.gq I))<|⟨by rw [show dY (op,tr,ra,rb,cn)=((7:Int),tr,ra,(0:Int),(1:Int)) by unfold dY; simp [*]<;>omega],σ.below⟩
   ·exact iF I I<|gE 1 σ I<|eE I<|fB 0 σ I fun _ σ=>oR (fun e=>iJ results133 (RV.cell e aF I σ.gq I))<|⟨by rw [show dY (op,tr,ra,rb,cn)=(op,tr,ra,rb,cn) by unfold dY; simp [*]<;>omega],σ.below⟩
  ·refine iF I I<|gj I<|wQ (fun Eu=>?_) fun Eu=>?_
   ·refine iT I I<|iT I I<|lE 1 σ I<|gj I<|wQ (fun JG=>?_) fun JG=>?_
    ·exact iT I I<|lE 1 σ I<|lE 1 σ I<|eE I<|gV call181 (pg (op:=(1:Int)) (tr:=tr) (ra:=ra) (cn:=(0:Int))) σ I fun _ σ=>eE I<|fB 0 σ I fun _ σ=>oR (fun e=>iJ results133 (RV.cell e aF I σ.gq I))<|⟨by rw [show dY (op,tr,ra,rb,cn)=((1:Int),tr,ra,(0:Int),(0:Int)) by unfold dY; simp [*]<;>omega],σ.below⟩
    ·refine iF I I<|lE 1 σ I<|gj I<|wQ (fun IA=>?_) fun IA=>?_
     ·exact iT I I<|lE 1 σ I<|lE 1 σ I<|eE I<|gV call181 (pg (op:=(2:Int)) (tr:=tr) (ra:=ra) (cn:=(0:Int))) σ I fun _ σ=>eE I<|fB 0 σ I fun _ σ=>oR (fun e=>iJ results133 (RV.cell e aF I σ.gq I))<|⟨by rw [show dY (op,tr,ra,rb,cn)=((2:Int),tr,ra,(0:Int),(0:Int)) by unfold dY; simp [*]<;>omega],σ.below⟩
     ·exact iF I I<|lE 1 σ I<|gj I<|kB (b':=true) (eA.2 Eu)<|iT I I<|lE 1 σ I<|lE 1 σ I<|eE I<|gV call181 (pg (op:=(7:Int)) (tr:=tr) (ra:=ra) (cn:=((m:Nat):Int))) σ I fun _ σ=>eE I<|fB 0 σ I fun _ σ=>oR (fun e=>iJ results133 (RV.cell e aF I σ.gq I))<|⟨by rw [show dY (op,tr,ra,rb,cn)=((7:Int),tr,ra,(0:Int),((m:Nat):Int)) by unfold dY; simp [*]<;>omega],σ.below⟩
   ·refine iF I I<|gj I<|wQ (fun h66=>?_) fun h66=>?_
    ·refine iT I I<|lE 1 σ I<|gj I<|wQ (fun WH=>?_) fun WH=>?_
     ·exact iT I I<|lE 1 σ I<|lE 1 σ I<|eE I<|gV call181 (pg (op:=(1:Int)) (tr:=tr) (ra:=ra) (cn:=(0:Int))) σ I fun _ σ=>eE I<|fB 0 σ I fun _ σ=>oR (fun e=>iJ results133 (RV.cell e aF I σ.gq I))<|⟨by rw [show dY (op,tr,ra,rb,cn)=((1:Int),tr,ra,(0:Int),(0:Int)) by unfold dY; simp [*]<;>omega],σ.below⟩
     ·refine iF I I<|lE 1 σ I<|gj I<|wQ (fun h68=>?_) fun h68=>?_
      ·exact iT I I<|lE 1 σ I<|lE 1 σ I<|eE I<|gV call181 (pg (op:=(2:Int)) (tr:=tr) (ra:=ra) (cn:=(0:Int))) σ I fun _ σ=>eE I<|fB 0 σ I fun _ σ=>oR (fun e=>iJ results133 (RV.cell e aF I σ.gq I))<|⟨by rw [show dY (op,tr,ra,rb,cn)=((2:Int),tr,ra,(0:Int),(0:Int)) by unfold dY; simp [*]<;>omega],σ.below⟩
      ·exact iF I I<|lE 1 σ I<|gj I<|kB (b':=false) (du.2 Eu)<|iF I I<|iT I I<|lE 1 σ I<|lE 1 σ I<|eE I<|gV call181 (pg (op:=(8:Int)) (tr:=tr) (ra:=ra) (cn:=((m:Nat):Int))) σ I fun _ σ=>eE I<|fB 0 σ I fun _ σ=>oR (fun e=>iJ results133 (RV.cell e aF I σ.gq I))<|⟨by rw [show dY (op,tr,ra,rb,cn)=((8:Int),tr,ra,(0:Int),((m:Nat):Int)) by unfold dY; simp [*]<;>omega],σ.below⟩
    ·exact iF I I<|gE 1 σ I<|eE I<|fB 0 σ I fun _ σ=>oR (fun e=>iJ results133 (RV.cell e aF I σ.gq I))<|⟨by rw [show dY (op,tr,ra,rb,cn)=(op,tr,ra,rb,cn) by unfold dY; simp [*]<;>omega],σ.below⟩
theorem ajy {tb g o k:Int} (hA:gl (oa,ta,aa,ba,ca) g) (hB:gl (ob,tb,xb,yb,cb) g) (h:qB oa ca ob cb=some (o,k)) (hn:¬(ob=3∨ob=4)):-512<=k/\k<=512:=by
 have h1:CN oa ca:=by unfold gl at hA; unfold CN; dsimp only at hA; omega
 have h2:CN ob cb:=by unfold gl at hB; unfold CN; dsimp only at hB; omega
 have h3:1<=oa/\oa<=8:=by unfold gl at hA; dsimp only at hA; omega
 have h4:1<=ob/\ob<=8:=by unfold gl at hB; dsimp only at hB; omega
 have h5:=ES h h1 h2 h3 h4 hn
 unfold CN at h5
 omega
theorem AP {tb g:Int} (hD:me w0) (hA:gl (oa,ta,aa,ba,ca) g) (hB:gl (ob,tb,xb,yb,cb) g):
  Calls prog 134 #[.agg #[aG oa,aG ta,aG aa,aG ba,aG ca],.agg #[aG ob,aG tb,aG xb,aG yb,aG cb]] w0 fun e w'=>e=.returned (.tuple #[.agg #[aG ((jS (oa,ta,aa,ba,ca) (ob,tb,xb,yb,cb)).getD (0,0,0,0,0)).1,aG ((jS (oa,ta,aa,ba,ca) (ob,tb,xb,yb,cb)).getD (0,0,0,0,0)).2.1,aG ((jS (oa,ta,aa,ba,ca) (ob,tb,xb,yb,cb)).getD (0,0,0,0,0)).2.2.1,aG ((jS (oa,ta,aa,ba,ca) (ob,tb,xb,yb,cb)).getD (0,0,0,0,0)).2.2.2.1,aG ((jS (oa,ta,aa,ba,ca) (ob,tb,xb,yb,cb)).getD (0,0,0,0,0)).2.2.2.2],.bool (jS (oa,ta,aa,ba,ca) (ob,tb,xb,yb,cb)).isSome])/\Below w0.heap.size w0 w':=by
 refine gQ func134 I ntmps134 I fun σ=>?_
 replace σ:=σ.nG hD
 refine eE I<|ll σ I fun _ de σ=>eE I<|ll σ I fun _ eQ σ=>eE I<|iR bm σ I fun _ jh σ=>lE 1 σ I<|gj I<|wQ (fun rP=>?_) fun rP=>?_
 ·exact iT I I<|vE I (fun η=>eV (c:=#[aG 0,aG 0,aG 0,aG 0,aG 0]) dg η I I)<|eE I<|fB 0 σ I fun _ σ=>oR (fun e=>lk results134 (RV.cell e aF I σ.gq I) (RV.tmp e I))<|⟨by rw [show jS (oa,ta,aa,ba,ca) (ob,tb,xb,yb,cb)=none by unfold jS; rw [au (by dsimp only; omega)]]; rfl,σ.below⟩
 ·refine lE 1 σ I<|gj I<|wQ (fun sI=>?_) fun sI=>?_
  ·exact iT I I<|vE I (fun η=>eV (c:=#[aG 0,aG 0,aG 0,aG 0,aG 0]) dg η I I)<|eE I<|fB 0 σ I fun _ σ=>oR (fun e=>lk results134 (RV.cell e aF I σ.gq I) (RV.tmp e I))<|⟨by rw [show jS (oa,ta,aa,ba,ca) (ob,tb,xb,yb,cb)=none by unfold jS; rw [au (by dsimp only; omega)]]; rfl,σ.below⟩
  ·refine lE 1 σ I<|lE 2 σ I<|lK I<|wN (fun wU=>?_) fun wU=>?_
   ·exact iT I I<|vE I (fun η=>eV (c:=#[aG 0,aG 0,aG 0,aG 0,aG 0]) dg η I I)<|eE I<|fB 0 σ I fun _ σ=>oR (fun e=>lk results134 (RV.cell e aF I σ.gq I) (RV.tmp e I))<|⟨by rw [show jS (oa,ta,aa,ba,ca) (ob,tb,xb,yb,cb)=none by unfold jS; rw [au (by dsimp only; omega)]]; rfl,σ.below⟩
   ·refine lE 1 σ I<|lE 2 σ I<|lK I<|wN (fun yM=>?_) fun yM=>?_
    ·exact iT I I<|vE I (fun η=>eV (c:=#[aG 0,aG 0,aG 0,aG 0,aG 0]) dg η I I)<|eE I<|fB 0 σ I fun _ σ=>oR (fun e=>lk results134 (RV.cell e aF I σ.gq I) (RV.tmp e I))<|⟨by rw [show jS (oa,ta,aa,ba,ca) (ob,tb,xb,yb,cb)=none by unfold jS; rw [au (by dsimp only; omega)]]; rfl,σ.below⟩
    ·refine iF I I<|lE 2 σ I<|lE 2 σ I<|lE 1 σ I<|lE 1 σ I<|eE I<|gV call182 (IY (f:=oa) (c:=ca) (s:=ob) (d:=cb) (NF hA) (NF hB) (ajw hA) (ajw hB)) σ I fun _ σ=>?_
     cases hm:qB oa ca ob cb
     ·exact iT I I<|vE I (fun η=>eV (c:=#[aG 0,aG 0,aG 0,aG 0,aG 0]) dg η I I)<|eE I<|fB 0 σ I fun _ σ=>oR (fun e=>lk results134 (RV.cell e aF I σ.gq I) (RV.tmp e I))<|⟨by rw [show jS (oa,ta,aa,ba,ca) (ob,tb,xb,yb,cb)=none by unfold jS; rw [ak (by dsimp only; omega)]; dsimp only; rw [hm]; rfl]; rfl,σ.below⟩
     ·rename_i q9
      obtain ⟨o9,k9⟩:=q9
      obtain ⟨t1,t2,-⟩:=pT hm
      have hcn:-512<=WG oa ca ob cb/\WG oa ca ob cb<=512:=by rw [t2]; exact ajy hA hB hm ae
      exact iF I I<|lE 1 σ I<|lE 2 σ I<|eE I<|gV call181 (pg (op:=(tgO oa ca ob cb)) (tr:=tb) (ra:=aa) (cn:=(WG oa ca ob cb))) σ I fun _ σ=>eE I<|gV call133 (IZ (op:=(tgO oa ca ob cb)) (tr:=tb) (ra:=aa) (rb:=(0:Int)) (cn:=(WG oa ca ob cb)) σ.bW ae ae) σ I fun _ σ=>eE I<|fB 0 σ I fun _ σ=>oR (fun e=>lk results134 (RV.cell e aF I σ.gq I) (RV.tmp e I))<|⟨by rw [show jS (oa,ta,aa,ba,ca) (ob,tb,xb,yb,cb)=some (dY (tgO oa ca ob cb,tb,aa,0,WG oa ca ob cb)) by unfold jS; rw [ak (by dsimp only; omega)]; dsimp only; rw [hm,t1,t2]; rfl]; rfl,σ.below⟩
def foF (st:List IE) (e:IE):List IE:=iW st (dY e)
theorem I0 {e:IE} (h:es[j]?=some e):(es.drop j).foldl foF st=(es.drop (j+1)).foldl foF (iW st (dY e)):=by
 obtain ⟨hi,rfl⟩:=aE.1 h
 rw [cA hi]
 rfl
theorem ae3 (h:op=1/\tr=ra):iW st (op,tr,ra,rb,cn)=st:=by
 have hn:qS (op,tr,ra,rb,cn)=true:=by unfold qS; exact a8 h
 cases st with
 | nil=>unfold iW; rw [hn]; rfl
 | cons a st=>unfold iW; rw [hn]; rfl
theorem UF (h:¬(op=1/\tr=ra)):iW [] (op,tr,ra,rb,cn)=[(op,tr,ra,rb,cn)]:=by
 have hn:qS (op,tr,ra,rb,cn)=false:=by unfold qS; exact aC h
 unfold iW; rw [hn]; rfl
theorem NH {a:IE} (h:¬(op=1/\tr=ra)) (hm:jS a (op,tr,ra,rb,cn)=none):iW (a::st) (op,tr,ra,rb,cn)=(op,tr,ra,rb,cn)::a::st:=by
 have hn:qS (op,tr,ra,rb,cn)=false:=by unfold qS; exact aC h
 rw [iW,hn,hm]; rfl
theorem I1 {a x:IE} (h:¬(op=1/\tr=ra)) (hm:jS a (op,tr,ra,rb,cn)=some x):iW (a::st) (op,tr,ra,rb,cn)=iW st x:=by
 have hn:qS (op,tr,ra,rb,cn)=false:=by unfold qS; exact aC h
 rw [iW,hn,hm]; rfl
theorem rev_last {a:IE}:((a::st).reverse)[st.length]?=some a:=by
 rw [gz,<- iL,List.getElem?_concat_length]
theorem I2 {a:IE}:((a::st).reverse).take st.length=st.reverse:=by
 rw [gz,<- iL,List.take_left]
theorem Y7 {i g:Int} {es0:List IE} (h0:(fC A0 n0 c0 es0).P w0) (h1:(fg A1 n1 c1 es1).P w0) (hD:me w0) (dy:mv i g n0 n1 es0 es1):
  Calls prog 89 #[.agg #[aG i,aG g,.slice A0 n0 c0,.slice A1 n1 c1]] w0 fun e w'=>∃A n c B d,e=.returned (.tuple #[.agg #[aG i,aG g,.slice A n c,.slice B n1 d],aG 0])/\St w0 w' [dQ A n c (oy es0),cI B n1 d es1] []/\(oy es0).length=n:=by
 have k1:=dy.i1
 have k2:=dy.ln
 refine gQ func89 I ntmps89 I fun σ=>?_
 replace σ:=σ.nG hD
 have cQ:=h0.2.1
 have lu:=h0.1.cap
 have eN:=h0.1.big
 unfold maxLen at eN
 have iI:=h1.2.1
 have oI:=h1.1.cap
 have jB:=h1.1.big
 unfold maxLen at jB
 replace σ:=σ.aY h0
 replace σ:=σ.aY h1
 refine eE I<|ll σ I fun _ de σ=>eE I<|iR cM σ I fun _ eQ σ=>Wu I<|gE 1 σ I<|eE I<|gV call41 (kR σ.dw σ.bW dy) σ I fun _ σ=>lK I<|kB (b':=false) I<|iF I I<|lE 1 σ I<|?_
 replace σ:=(σ.fp dD 116 5)
 refine ks (fun mz l w=>∃j:Nat,∃A2:Option Addr,∃c2:Nat,∃n2:Nat,∃st2:List IE,n0 - j=mz/\l=[(6,.slice A2 n2 c2),(24,aM j),(1,cY de),(2,cY eQ),(22,.slice A0 n0 c0),(23,aM n0)]/\St w0 w [dQ A2 n2 c2 st2.reverse,bk eQ #[aG 0,aG 0,bM,bM] 28,bk de #[aG i,aG g,.slice A0 n0 c0,.slice A1 n1 c1] 28] [fg A1 n1 c1 es1,fC A0 n0 c0 es0,oP]/\j<=n0/\(es0.drop j).foldl foF st2=es0.foldl foF []/\(∀e∈st2,gl e g)/\st2.length=n2/\n2<=j) ⟨0,none,0,0,([]:List IE),I,I,σ,(av _),I,(fun _ h=>by cases h),I,(ar _)⟩ aT ?_
 rintro _ _ _ ⟨j,A2,c2,n2,st2,rfl,rfl,σ,hj,hi,hms,mr,hb⟩
 refine il I<|wD (fun oL=>?_) fun oL=>?_
 ·have fh:j<n0:=ae
  obtain ⟨⟨op,tr,ra,rb,cn⟩,eG⟩:∃e,es0[j]?=some e:=⟨_,ag ae⟩
  have hMe:=dy.may _ (ah eG)
  refine iT I I<|vE I (fun η=>aX (i:=j) η underlying25 (aF.size) I I ae I σ.dw.1)<|cE I (fun η=>cX (v:=#[aG op,aG tr,aG ra,aG rb,aG cn]) (i:=j) (e:=(op,tr,ra,rb,cn)) η aF I I lL σ.dw.1 ae eG I)<|eE I<|iR bm σ I fun _ jY σ=>eE I<|fB 0 σ I fun _ σ=>Wu I<|gE 0 σ I<|eE I<|gV call133 (IZ (op:=op) (tr:=tr) (ra:=ra) (rb:=rb) (cn:=cn) σ.fX (NF hMe).1 (NF hMe).2) σ I fun _ σ=>eE I<|iR bm σ I fun _ sf σ=>eE I<|fB 0 σ I fun _ σ=>ks (fun mz l w=>∃A3:Option Addr,∃c3:Nat,∃n3:Nat,∃Qu:List IE,∃ob:Int,∃tb:Int,∃xb:Int,∃yb:Int,∃cb:Int,n3=mz/\l=[(6,.slice A3 n3 c3),(1,cY de),(2,cY eQ),(9,cY sf),(22,.slice A0 n0 c0),(23,aM n0),(24,aM j)]/\St w0 w [dQ A3 n3 c3 Qu.reverse,bk sf #[aG ob,aG tb,aG xb,aG yb,aG cb] 116,bk jY #[aG op,aG tr,aG ra,aG rb,aG cn] 116,bk eQ #[aG 0,aG 0,bM,bM] 28,bk de #[aG i,aG g,.slice A0 n0 c0,.slice A1 n1 c1] 28] [fg A1 n1 c1 es1,fC A0 n0 c0 es0,oP]/\iW Qu (ob,tb,xb,yb,cb)=iW st2 (dY (op,tr,ra,rb,cn))/\(∀e∈Qu,gl e g)/\Qu.length=n3/\gl (ob,tb,xb,yb,cb) g/\n3<=n2) ⟨A2,c2,n2,st2,(dY (op,tr,ra,rb,cn)).1,(dY (op,tr,ra,rb,cn)).2.1,(dY (op,tr,ra,rb,cn)).2.2.1,(dY (op,tr,ra,rb,cn)).2.2.2.1,(dY (op,tr,ra,rb,cn)).2.2.2.2,I,I,σ.pick [2,0,1,3,4] [0,1,2] aB,I,hms,mr,(sZ hMe),(ar _)⟩ aT ?_
  rintro _ _ _ ⟨A3,c3,n3,Qu,ob,tb,xb,yb,cb,rfl,rfl,σ,h3,FH,ua,hB,xk⟩
  refine lE 1 σ I<|gj I<|wQ (fun wU=>?_) fun wU=>?_
  ·refine lE 1 σ I<|lE 1 σ I<|gj I<|wQ (fun yM=>?_) fun yM=>?_
   ·exact iT I I<|can (j:=1) I ae<|gI ⟨j+1,A3,c3,n3,Qu,I,I,σ.pick [0,3,4] [0,1,2] aB,ae,(by rw [<- hi,I0 eG,<- h3,ae3 ⟨wU,yM⟩]),FH,ua,ae⟩ aT ae
   ·refine iF I I<|gj I<|wQ (fun tt=>?_) fun tt=>?_
    ·obtain rfl:Qu=[]:=dc ae
     refine iT I I<|gE 1 σ I<|eE I<|mi (z:=5) #[aG ob,aG tb,aG xb,aG yb,aG cb] σ (aF.size) bm I bI fun _ tU σ=>eE I<|oO (new:=[(ob,tb,xb,yb,cb)]) 1 0 σ dK I (by unfold maxLen; omega) ae fun _ C9 xv σ=>?_
     rw [<- gz] at σ
     exact can (j:=1) I ae<|gI ⟨j+1,(cS C9),xv,(n3+1),((ob,tb,xb,yb,cb)::[]),I,I,σ.pick [1,4,5] [0,1,2] aB,ae,(by rw [<- hi,I0 eG,<- h3,UF (fun q=>yM q.2)]),(fun e he=>(bf.1 he).elim (fun q=>q ▸ hB) (FH e)),(by simp<;>omega),ae⟩ aT ae
    ·obtain ⟨⟨oa,ta,aa,ba,ca⟩,vT,rfl⟩:∃a vT,Qu=a::vT:=by cases Qu with | nil=>exact absurd ua (by simp; omega) | cons a vT=>exact ⟨a,vT,rfl⟩
     have hA:=FH _ (aJ ..)
     have Hj:vT.length+1=n3:=ua
     obtain rfl:=Hj
     refine iF I I<|Wt 0 (fun l w=>∃g10:Nat,l=[(10,cY g10),(11,.bool ((jS (oa,ta,aa,ba,ca) (ob,tb,xb,yb,cb)).isSome)),(1,cY de),(2,cY eQ),(6,.slice A3 (vT.length+1) c3),(9,cY sf),(22,.slice A0 n0 c0),(23,aM n0),(24,aM j)]/\St w0 w [bk g10 #[aG (((jS (oa,ta,aa,ba,ca) (ob,tb,xb,yb,cb)).getD (0,0,0,0,0)).1),aG (((jS (oa,ta,aa,ba,ca) (ob,tb,xb,yb,cb)).getD (0,0,0,0,0)).2.1),aG (((jS (oa,ta,aa,ba,ca) (ob,tb,xb,yb,cb)).getD (0,0,0,0,0)).2.2.1),aG (((jS (oa,ta,aa,ba,ca) (ob,tb,xb,yb,cb)).getD (0,0,0,0,0)).2.2.2.1),aG (((jS (oa,ta,aa,ba,ca) (ob,tb,xb,yb,cb)).getD (0,0,0,0,0)).2.2.2.2)] 116,dQ A3 (vT.length+1) c3 (((oa,ta,aa,ba,ca)::vT).reverse),bk sf #[aG ob,aG tb,aG xb,aG yb,aG cb] 116,bk jY #[aG op,aG tr,aG ra,aG rb,aG cn] 116,bk eQ #[aG 0,aG 0,bM,bM] 28,bk de #[aG i,aG g,.slice A0 n0 c0,.slice A1 n1 c1] 28] [fg A1 n1 c1 es1,fC A0 n0 c0 es0,oP]) I ?_ ?_
     ·refine lj [12] [0,4,8,12,16,21,25,3,0,0,0,0,0,0] bI σ fun _ σ=>zN (j:=1) I ae<|vE I (fun η=>aX (i:=(vT.length+1) - 1) η underlying25 (aF.size) I I ae I (aZ σ.jr))<|sE I (fun η hg=>cX (v:=#[aG oa,aG ta,aG aa,aG ba,aG ca]) (i:=(vT.length+1) - 1) (e:=(oa,ta,aa,ba,ca)) η aF I I lL (aZ (hg.ow (j:=0) I)) ae rev_last I)<|gS 1 I<|Wv [(7,[32,36,40,46,50,52]),(11,[30,32,36,40,50,52])] bI fW ⟨⟨⟨_,_,_,_,_,I,?_⟩,by kernel_rfl,rfl⟩,⟨⟨_,_,_,_,_,I,?_⟩,by kernel_rfl,rfl⟩,trivial⟩
      ·exact gV call134 (AP σ.fX hA hB) σ I fun _ σ=>sk σ.kn<|eS I<|iR bm σ I fun _ WA σ=>sk (σ.kd 1 0)<|eS I<|fB 0 σ I fun _ σ=>sz I<|xu ⟨WA,I,σ⟩ aT
      ·exact iR bm σ I fun _ Qp σ=>sk (σ.kd 1 0)<|eS I<|gV call134 (AP σ.fX hA hB) σ I fun _ σ=>sk (σ.kd 1 0)<|eS I<|fB 0 σ I fun _ σ=>sz I<|xu ⟨Qp,I,σ⟩ aT
     rintro _ _ ⟨g10,rfl,σ⟩
     cases hm:jS (oa,ta,aa,ba,ca) (ob,tb,xb,yb,cb)
     ·rw [hm] at σ
      refine iT I I<|gE 2 σ I<|eE I<|mi (z:=5) #[aG ob,aG tb,aG xb,aG yb,aG cb] σ (aF.size) bm I bI fun _ K7 σ=>eE I<|oO (new:=[(ob,tb,xb,yb,cb)]) 2 0 σ dK I (by unfold maxLen; omega) ae fun _ Nj c66 σ=>?_
      rw [<- gz] at σ
      exact can (j:=1) I ae<|gI ⟨j+1,(cS Nj),c66,((vT.length+1)+1),((ob,tb,xb,yb,cb)::((oa,ta,aa,ba,ca)::vT)),I,I,σ.pick [2,5,6] [0,1,2] aB,ae,(by rw [<- hi,I0 eG,<- h3,NH (fun q=>yM q.2) hm]),(fun e he=>(bf.1 he).elim (fun q=>q ▸ hB) (FH e)),(by simp<;>omega),ae⟩ aT ae
     ·rw [hm] at σ
      rename_i x9
      obtain ⟨o9,t9,a9,b9,c9⟩:=x9
      refine iF I I<|zN (j:=1) I ae<|vE I (fun η=>mR (m:=vT.length) η underlying25 (aF.size) I I (aD (eK _) (aZ σ.l8).cap))<|?_
      replace σ:=σ.RR (k:=1) I fW vT.length lL (eK _)
      rw [I2] at σ
      exact gE 0 σ I<|eE I<|fB 2 σ I fun _ σ=>gI ⟨A3,c3,vT.length,vT,o9,t9,a9,b9,c9,I,I,σ.pick [1,2,3,4,5] [0,1,2] aB,(by rw [<- h3,I1 (fun q=>yM q.2) hm]),(fun e he=>FH e (aQ _ he)),I,(vn hm hA hB),(by simp at ua; omega)⟩ aT (by simp at ua; omega)
  ·refine iF I I<|gj I<|wQ (fun WH=>?_) fun WH=>?_
   ·obtain rfl:Qu=[]:=dc ae
    refine iT I I<|gE 1 σ I<|eE I<|mi (z:=5) #[aG ob,aG tb,aG xb,aG yb,aG cb] σ (aF.size) bm I bI fun _ g68 σ=>eE I<|oO (new:=[(ob,tb,xb,yb,cb)]) 1 0 σ dK I (by unfold maxLen; omega) ae fun _ g69 c70 σ=>?_
    rw [<- gz] at σ
    exact can (j:=1) I ae<|gI ⟨j+1,(cS g69),c70,(n3+1),((ob,tb,xb,yb,cb)::[]),I,I,σ.pick [1,4,5] [0,1,2] aB,ae,(by rw [<- hi,I0 eG,<- h3,UF (fun q=>wU q.1)]),(fun e he=>(bf.1 he).elim (fun q=>q ▸ hB) (FH e)),(by simp<;>omega),ae⟩ aT ae
   ·obtain ⟨⟨oa,ta,aa,ba,ca⟩,vT,rfl⟩:∃a vT,Qu=a::vT:=by cases Qu with | nil=>exact absurd ua (by simp; omega) | cons a vT=>exact ⟨a,vT,rfl⟩
    have hA:=FH _ (aJ ..)
    have Hj:vT.length+1=n3:=ua
    obtain rfl:=Hj
    refine iF I I<|Wt 0 (fun l w=>∃g10:Nat,l=[(10,cY g10),(11,.bool ((jS (oa,ta,aa,ba,ca) (ob,tb,xb,yb,cb)).isSome)),(1,cY de),(2,cY eQ),(6,.slice A3 (vT.length+1) c3),(9,cY sf),(22,.slice A0 n0 c0),(23,aM n0),(24,aM j)]/\St w0 w [bk g10 #[aG (((jS (oa,ta,aa,ba,ca) (ob,tb,xb,yb,cb)).getD (0,0,0,0,0)).1),aG (((jS (oa,ta,aa,ba,ca) (ob,tb,xb,yb,cb)).getD (0,0,0,0,0)).2.1),aG (((jS (oa,ta,aa,ba,ca) (ob,tb,xb,yb,cb)).getD (0,0,0,0,0)).2.2.1),aG (((jS (oa,ta,aa,ba,ca) (ob,tb,xb,yb,cb)).getD (0,0,0,0,0)).2.2.2.1),aG (((jS (oa,ta,aa,ba,ca) (ob,tb,xb,yb,cb)).getD (0,0,0,0,0)).2.2.2.2)] 116,dQ A3 (vT.length+1) c3 (((oa,ta,aa,ba,ca)::vT).reverse),bk sf #[aG ob,aG tb,aG xb,aG yb,aG cb] 116,bk jY #[aG op,aG tr,aG ra,aG rb,aG cn] 116,bk eQ #[aG 0,aG 0,bM,bM] 28,bk de #[aG i,aG g,.slice A0 n0 c0,.slice A1 n1 c1] 28] [fg A1 n1 c1 es1,fC A0 n0 c0 es0,oP]) I ?_ ?_
    ·refine lj [12] [0,4,8,12,16,21,25,3,0,0,0,0,0,0] bI σ fun _ σ=>zN (j:=1) I ae<|vE I (fun η=>aX (i:=(vT.length+1) - 1) η underlying25 (aF.size) I I ae I (aZ σ.jr))<|sE I (fun η hg=>cX (v:=#[aG oa,aG ta,aG aa,aG ba,aG ca]) (i:=(vT.length+1) - 1) (e:=(oa,ta,aa,ba,ca)) η aF I I lL (aZ (hg.ow (j:=0) I)) ae rev_last I)<|gS 1 I<|Wv [(7,[32,36,40,46,50,52]),(11,[30,32,36,40,50,52])] bI fW ⟨⟨⟨_,_,_,_,_,I,?_⟩,by kernel_rfl,rfl⟩,⟨⟨_,_,_,_,_,I,?_⟩,by kernel_rfl,rfl⟩,trivial⟩
     ·exact gV call134 (AP σ.fX hA hB) σ I fun _ σ=>sk σ.kn<|eS I<|iR bm σ I fun _ g71 σ=>sk (σ.kd 1 0)<|eS I<|fB 0 σ I fun _ σ=>sz I<|xu ⟨g71,I,σ⟩ aT
     ·exact iR bm σ I fun _ g72 σ=>sk (σ.kd 1 0)<|eS I<|gV call134 (AP σ.fX hA hB) σ I fun _ σ=>sk (σ.kd 1 0)<|eS I<|fB 0 σ I fun _ σ=>sz I<|xu ⟨g72,I,σ⟩ aT
    rintro _ _ ⟨g10,rfl,σ⟩
    cases hm:jS (oa,ta,aa,ba,ca) (ob,tb,xb,yb,cb)
    ·rw [hm] at σ
     refine iT I I<|gE 2 σ I<|eE I<|mi (z:=5) #[aG ob,aG tb,aG xb,aG yb,aG cb] σ (aF.size) bm I bI fun _ Y1 σ=>eE I<|oO (new:=[(ob,tb,xb,yb,cb)]) 2 0 σ dK I (by unfold maxLen; omega) ae fun _ g74 c75 σ=>?_
     rw [<- gz] at σ
     exact can (j:=1) I ae<|gI ⟨j+1,(cS g74),c75,((vT.length+1)+1),((ob,tb,xb,yb,cb)::((oa,ta,aa,ba,ca)::vT)),I,I,σ.pick [2,5,6] [0,1,2] aB,ae,(by rw [<- hi,I0 eG,<- h3,NH (fun q=>wU q.1) hm]),(fun e he=>(bf.1 he).elim (fun q=>q ▸ hB) (FH e)),(by simp<;>omega),ae⟩ aT ae
    ·rw [hm] at σ
     rename_i x9
     obtain ⟨o9,t9,a9,b9,c9⟩:=x9
     refine iF I I<|zN (j:=1) I ae<|vE I (fun η=>mR (m:=vT.length) η underlying25 (aF.size) I I (aD (eK _) (aZ σ.l8).cap))<|?_
     replace σ:=σ.RR (k:=1) I fW vT.length lL (eK _)
     rw [I2] at σ
     exact gE 0 σ I<|eE I<|fB 2 σ I fun _ σ=>gI ⟨A3,c3,vT.length,vT,o9,t9,a9,b9,c9,I,I,σ.pick [1,2,3,4,5] [0,1,2] aB,(by rw [<- h3,I1 (fun q=>wU q.1) hm]),(fun e he=>FH e (aQ _ he)),I,(vn hm hA hB),(by simp at ua; omega)⟩ aT (by simp at ua; omega)
 ·obtain rfl:n0=j:=ae
  have aeN:st2.reverse=oy es0:=by unfold oy; rw [show es0.foldl (fun st e=>iW st (dY e)) []=es0.foldl foF [] from rfl,<- hi,bo ae]; rfl
  refine iF I I<|lj [9] [0,5,8,13,16,20,25,30,32,38,40] bI σ fun _ σ=>lS 2 I<|lS 2 I<|lS 2 I<|eS I<|fk call94 (yP σ.bW ae) I ?_
  rintro _ _ ⟨A76,YF,rfl,KP⟩
  refine ⟨_,I,?_⟩
  replace σ:=σ.more KP
  exact sk (σ.kd 1 0)<|vE I (fun η=>eV (c:=#[aG i,aG g,.slice A2 n2 c2,.slice A76 n1 YF]) jq η I I)<|eS I<|fB 2 σ I fun _ σ=>sz I<|oR (fun e=>lk results89 (RV.cell e bC I σ.EC I) (RV.tmp e I))<|by rw [<- aeN]; exact ⟨_,_,_,_,_,rfl,σ.pick [1,0] [] aB,by rw [iL]; exact mr⟩
abbrev PQ:=Int×Int×(Option Addr×Nat×Nat)×(Option Addr×Nat×Nat)
def rS (i g:Nat) (p:List IE×List Int) (j:Nat):List IE×List Int:=
 if j=0 then p else if j=1 then (oy p.1,p.2) else if j=2 then (pY i g (oy p.1),oz i g (oy p.1) p.2) else EX i g p
theorem FK (hi:G.length=i) (h:oY i g n G p.1 p.2 O) (hc:mv i g n0 n1 p.1 p.2) (hl:p.1.length=n0) (j:Nat):mv i g (rS i g p j).1.length n1 (rS i g p j).1 (rS i g p j).2/\(rS i g p j).2.length=p.2.length:=by
 obtain ⟨R',h1,h2⟩:=h.run
 have q1:=hc.i1
 have q2:=hc.ln
 have hg:i<=g:=ae
 have f1:=Hm h.may (mC ae) h1
 have f2:=DR h.may
 have f3:=DS p.1
 obtain ⟨s1,s2,s3,s4⟩:=DU hi hg f2 f1
 have so:∀r∈oz i g (oy p.1) p.2,0<=r/\r<(g:Int):=fun r hr=>by
  obtain ⟨v,hv,rfl⟩:=bG.1 hr
  have:=s4 v (h.out v hv).1 (h.out v hv).2
  exact ⟨this.2.1,this.2.2⟩
 have sl:(oz i g (oy p.1) p.2).length=p.2.length:=by unfold oz; simp
 have hd:=yF (oz i g (oy p.1) p.2) (pY i g (oy p.1))
 unfold rS
 split
 ·exact ⟨⟨q1,⟨by omega,q2.2⟩,h.may,h.out⟩,I⟩
 ·split
  ·exact ⟨⟨q1,⟨by dsimp only; omega,q2.2⟩,f2,h.out⟩,rfl⟩
  ·split
   ·exact ⟨⟨q1,⟨by dsimp only; omega,q2.2⟩,s2,so⟩,sl⟩
   ·refine ⟨⟨q1,⟨?_,q2.2⟩,fun e he=>s2 e (sa _ _ e he),so⟩,sl⟩
    unfold EX
    dsimp only
    omega
theorem PG (hm:m<16) (h:lA i g (16 - m) p=q) (u5:¬EX i g p=p):lA i g (16 - (m+1)) (EX i g p)=q:=by
 rw [show 16 - m=(16 - (m+1))+1 by omega,lA,ak u5] at h
 exact h
theorem PH (hm:m<16) (h:lA i g (16 - m) p=q) (he:EX i g p=p):EX i g p=q:=by
 rw [show 16 - m=(16 - (m+1))+1 by omega,lA,au he] at h
 exact h
theorem I3 (hi:G.length=i) (h:oY i g n G p.1 p.2 O) (hc:mv i g n0 n1 p.1 p.2) (hl:p.1.length=n0):
  mv i g (lA i g 16 p).1.length n1 (lA i g 16 p).1 (lA i g 16 p).2/\(ly (lA i g 16 p).2 (lA i g 16 p).1).1=List.replicate (lA i g 16 p).1.length true/\(lA i g 16 p).2.length=p.2.length:=by
 have q1:=hc.i1
 have q2:=hc.ln
 obtain ⟨a,b,c,d⟩:=Ai hi (show i<=g by omega) 15 p h
 rw [show 15+1=16 from rfl] at a b c d
 exact ⟨⟨q1,⟨by omega,q2.2⟩,a.may,a.out⟩,d,c⟩
theorem NI (hi:G.length=i) (hg:i<=g) (h:oY i g n G es os O):(kW i g es os).length=(lA i g 16 (es,os)).1.length:=by
 obtain ⟨a,b,c,d⟩:=Ai hi hg 15 (es,os) h
 obtain ⟨R',h1,h2⟩:=a.run
 obtain ⟨P',p1,p2,p3,p4,p5,p6,p7⟩:=Hw hi hg a.may a.out d h1
 unfold kW
 exact p7
theorem Lf:
  Calls prog 49 #[.agg (lN i g A0 n0 c0 A1 n1 c1)] w0 fun e w'=>∃gp,e=.returned (.func (.func 88) #[] #[cY gp])/\St w0 w' [bk gp (lN i g A0 n0 c0 A1 n1 c1) 28] []:=by
 exact gQ func49 I ntmps49 I fun σ=>eE I<|ll σ I fun _ de σ=>vE I (fun η=>fi η I I)<|o1 results49 I<|⟨_,I,σ.pick [0] [] aB⟩
theorem PI {w1:World} {l0 gp:Nat} {J:PQ->PF} {s0:PQ} {es0:List IE} (dy:mv (i:Nat) (g:Nat) n0 n1 es0 es1) (GD:G.length=i) (FQ:oY i g nn G es0 es1 O)
 (hY:∀(x:Value×PQ) s Y,St w0 Y [J s] [dA Y (J s)]->YieldAt (WF none) 7 prog l0 #[x.1,.agg #[aG x.2.1,aG x.2.2.1,.slice x.2.2.2.1.1 x.2.2.2.1.2.1 x.2.2.2.1.2.2,.slice x.2.2.2.2.1 x.2.2.2.2.2.1 x.2.2.2.2.2.2]] Y fun e Z=>e=.returned (.bool true)/\St w0 Z [J x.2] [dA Y (J s)])
 (hS:St w0 w1 [J s0] [dA w1 (J s0),bk gp (lN i g A0 n0 c0 A1 n1 c1) 28,fC A0 n0 c0 es0,fg A1 n1 c1 es1,oP]):
  Calls prog 88 #[.func (.yield l0) #[] #[],cY gp] w1 fun e w'=>(∃v,e=.returned v)/\∃s' new,(∃A n c B d,n<=n0/\(kW i g es0 es1).length=n/\s'=(((i:Nat):Int),((pN i g es0 es1:Nat):Int),(A,n,c),(B,n1,d))/\new=[dQ A n c (kW i g es0 es1),cI B n1 d (oB i g es0 es1)])/\St w0 w' (J s'::new) [dA w1 (J s0)]:=by
 refine gQ func88 I ntmps88 I fun σ=>?_
 have q1:=dy.i1
 have q2:=dy.ln
 replace σ:=hS
 have cQ:=σ.fX.2.1
 have iI:=σ.kC.2.1
 refine cE I (fun η=>jz η bC I (ou σ.dw) I)<|eE I<|gV call41 (kR σ.fX σ.kC dy) σ I fun _ σ=>lK I<|kB (b':=false) I<|iF I I<|cE I (fun η=>jz η bC I (ou σ.dw) I)<|eE I<|fk call50 (rC σ.fX σ.kC ae ae) I ?_
 rintro _ _ ⟨A51,c52,B53,d54,rfl,CG⟩
 refine ⟨_,I,?_⟩
 replace σ:=σ.more CG
 refine eE I<|iR cM σ I fun _ qt σ=>eE I<|fB 0 σ I fun _ σ=>vE I (fun η=>eV (c:=#[.string ⟨#[102,111,108,100]⟩,.func (.func 89) #[] #[]]) nw η I I)<|vE I (fun η=>eV (c:=#[.string ⟨#[115,104,97,114,101]⟩,.func (.func 90) #[] #[]]) nw η I I)<|vE I (fun η=>eV (c:=#[.string ⟨#[100,101,97,100]⟩,.func (.func 91) #[] #[]]) nw η I I)<|eE I<|mi (z:=2) #[.string ⟨#[102,111,108,100]⟩,.func (.func 89) #[] #[],.string ⟨#[115,104,97,114,101]⟩,.func (.func 90) #[] #[],.string ⟨#[100,101,97,100]⟩,.func (.func 91) #[] #[]] σ (jg.size) ld I bI fun _ tU σ=>?_
 replace σ:=σ.jX (k:=2) I cQ
 replace σ:=σ.jX (k:=2) I iI
 refine ks (fun mz l w=>∃m:Nat,∃x5:PQ,∃ec:List IE,∃oc:List Int,∃nc:Nat,∃A5:Option Addr,∃c5:Nat,∃B5:Option Addr,∃d5:Nat,16 - m=mz/\l=[(23,aM m),(0,.func (.yield l0) #[] #[]),(5,cY qt),(6,.slice (cS tU) 3 3)]/\St w0 w [J x5,bk qt (lN i g A5 nc c5 B5 n1 d5) 28,bk tU #[.string ⟨#[102,111,108,100]⟩,.func (.func 89) #[] #[],.string ⟨#[115,104,97,114,101]⟩,.func (.func 90) #[] #[],.string ⟨#[100,101,97,100]⟩,.func (.func 91) #[] #[]] 168] [fC A5 nc c5 ec,fg B5 n1 d5 oc,dA w1 (J s0),bk gp (lN i g A0 n0 c0 A1 n1 c1) 28,fC A0 n0 c0 es0,fg A1 n1 c1 es1,oP]/\m<=16/\lA i g (16 - m) (ec,oc)=lA i g 16 (es0,es1)/\oY i g nn G ec oc O/\mv (i:Nat) (g:Nat) nc n1 ec oc/\ec.length=nc/\oc.length=n1) ⟨0,s0,es0,es1,n0,A51,c52,B53,d54,I,I,σ.pick [2,1,0] [1,0,2,3,4,5,6] aB,(av _),I,FQ,dy,cQ,iI⟩ aT ?_
 rintro _ _ _ ⟨m,x5,ec,oc,nc,A5,c5,B5,d5,rfl,rfl,σ,hm,hR,hPr,hCh,hlc,Y8⟩
 refine il I<|wD (fun wh=>?_) fun wh=>?_
 ·refine iT I I<|gE 1 σ I<|eE I<|iR cM σ I fun _ D8 σ=>eE I<|fB 0 σ I fun _ σ=>?_
  replace σ:St w0 _ [bk D8 (lN i g A5 nc c5 B5 n1 d5) 28,J x5,bk qt (lN i g A5 nc c5 B5 n1 d5) 28,bk tU #[.string ⟨#[102,111,108,100]⟩,.func (.func 89) #[] #[],.string ⟨#[115,104,97,114,101]⟩,.func (.func 90) #[] #[],.string ⟨#[100,101,97,100]⟩,.func (.func 91) #[] #[]] 168] [fC A5 nc c5 ((rS i g (ec,oc) 0).1),fg B5 n1 d5 ((rS i g (ec,oc) 0).2),fC A5 nc c5 ec,fg B5 n1 d5 oc,dA w1 (J s0),bk gp (lN i g A0 n0 c0 A1 n1 c1) 28,fC A0 n0 c0 es0,fg A1 n1 c1 es1,oP]:=σ.pick [0,1,2,3] [0,1,0,1,2,3,4,5,6] aB
  refine ks (fun mz l w=>∃j:Nat,∃x6:PQ,∃nT:Nat,∃A6:Option Addr,∃c6:Nat,∃B6:Option Addr,∃d6:Nat,3 - j=mz/\l=[(28,aM j),(0,.func (.yield l0) #[] #[]),(5,cY qt),(6,.slice (cS tU) 3 3),(7,cY D8),(23,aM m),(26,.slice (cS tU) 3 3),(27,aG 3)]/\St w0 w [J x6,bk qt (lN i g A6 nT c6 B6 n1 d6) 28,bk D8 (lN i g A5 nc c5 B5 n1 d5) 28,bk tU #[.string ⟨#[102,111,108,100]⟩,.func (.func 89) #[] #[],.string ⟨#[115,104,97,114,101]⟩,.func (.func 90) #[] #[],.string ⟨#[100,101,97,100]⟩,.func (.func 91) #[] #[]] 168] [fC A6 nT c6 ((rS i g (ec,oc) j).1),fg B6 n1 d6 ((rS i g (ec,oc) j).2),fC A5 nc c5 ec,fg B5 n1 d5 oc,dA w1 (J s0),bk gp (lN i g A0 n0 c0 A1 n1 c1) 28,fC A0 n0 c0 es0,fg A1 n1 c1 es1,oP]/\j<=3/\mv (i:Nat) (g:Nat) nT n1 (rS i g (ec,oc) j).1 (rS i g (ec,oc) j).2/\(rS i g (ec,oc) j).1.length=nT) ⟨0,x5,nc,A5,c5,B5,d5,I,I,σ.pick [1,2,0,3] [0,1,2,3,4,5,6,7,8] aB,(av _),hCh,hlc⟩ aT ?_
  rintro _ _ _ ⟨j,x6,nT,A6,c6,B6,d6,rfl,rfl,σ,hj,hcT,hlT⟩
  rcases (show j=0∨j=1∨j=2∨j=3 by omega) with rfl|rfl|rfl|rfl
  ·refine il I<|kB (b':=true) aB<|iT I I<|vE I (fun η=>oq (i:=0) (p:=0) η underlying169 (jg.size) I I ae ae)<|cE I (fun η=>fT (cs:=[.string ⟨#[102,111,108,100]⟩,.func (.func 89) #[] #[]]) η jg I σ.G1 I I)<|eE I<|iR ld σ I fun _ WA σ=>eE I<|fB 0 σ I fun _ σ=>lE 0 σ I<|gE 2 σ I<|eE I<|sH call89 I (Y7 σ.bW σ.dw (σ.pat (k:=8) I) hcT) I ?_
   rintro _ _ ⟨Y9,n64,TO,B66,d67,rfl,aef,CB⟩
   refine ⟨_,I,?_⟩
   replace σ:=σ.more aef
   have yx:=FK (p:=(ec,oc)) GD hPr hCh hlc 1
   replace CB:(rS i g (ec,oc) 1).1.length=n64:=CB
   rw [CB] at yx
   have axh:=yx.1.ln
   replace σ:=σ.jX (k:=0) I CB
   replace σ:=σ.jX (k:=0) I (yx.2.trans Y8)
   refine eE I<|fB 2 σ I fun _ σ=>drY 5 [] [0,4,9,13,18] (fun l w=>∃A9:Option Addr,∃c9:Nat,∃B9:Option Addr,∃d9:Nat,l=[(39,.func (.yield l0) #[] #[]),(41,.string ⟨#[102,111,108,100]⟩),(43,.agg (lN i g A9 n64 c9 B9 n1 d9)),(0,.func (.yield l0) #[] #[]),(5,cY qt),(6,.slice (cS tU) 3 3),(7,cY D8),(23,aM m),(26,.slice (cS tU) 3 3),(27,aG 3),(28,aM 0)]/\St w0 w [dQ A9 n64 c9 ((rS i g (ec,oc) 1).1),cI B9 n1 d9 ((rS i g (ec,oc) 1).2),bk WA #[.string ⟨#[102,111,108,100]⟩,.func (.func 89) #[] #[]] 168,J x6,bk qt (lN i g Y9 n64 TO B66 n1 d67) 28,bk D8 (lN i g A5 nc c5 B5 n1 d5) 28,bk tU #[.string ⟨#[102,111,108,100]⟩,.func (.func 89) #[] #[],.string ⟨#[115,104,97,114,101]⟩,.func (.func 90) #[] #[],.string ⟨#[100,101,97,100]⟩,.func (.func 91) #[] #[]] 168] [fg B66 n1 d67 ((rS i g (ec,oc) 1).2),fC Y9 n64 TO ((rS i g (ec,oc) 1).1),fC A6 nT c6 ((rS i g (ec,oc) 0).1),fg B6 n1 d6 ((rS i g (ec,oc) 0).2),fC A5 nc c5 ec,fg B5 n1 d5 oc,dA w1 (J s0),bk gp (lN i g A0 n0 c0 A1 n1 c1) 28,fC A0 n0 c0 es0,fg A1 n1 c1 es1,oP]) bI σ ?_ ?_
   ·intro _ σ
    refine lS 0 I<|gS 2 I<|eS I<|fk call50 (rC σ.dw σ.bW ae ae) I ?_
    rintro _ _ ⟨Wy,Wz,B74,d75,rfl,TM⟩
    refine ⟨_,I,?_⟩
    replace σ:=σ.more TM
    exact sk (σ.kd 2 0)<|xu ⟨Wy,Wz,B74,d75,I,σ⟩ aT
   rintro _ _ ⟨A9,c9,B9,d9,rfl,σ⟩
   refine yE I I I (hY (.string ⟨#[102,111,108,100]⟩,(((i:Nat):Int),((g:Nat):Int),(A9,n64,c9),(B9,n1,d9))) _ _ (σ.cF (k:=3) I [])) ?_
   rintro _ w79 ⟨rfl,TT⟩
   refine ⟨_,I,?_⟩
   replace σ:=σ.kL (k:=3) I TT
   replace σ:=σ.pick [2,3,4,5,6] [0,1,2,3,4,5,6,7,8,9,10] aB
   exact iF I I<|can (j:=1) I ae<|gI ⟨1,(((i:Nat):Int),((g:Nat):Int),(A9,n64,c9),(B9,n1,d9)),n64,Y9,TO,B66,d67,I,I,σ.pick [1,2,3,4] [1,0,4,5,6,7,8,9,10] aB,ae,yx.1,CB⟩ aT ae
  ·refine il I<|kB (b':=true) aB<|iT I I<|vE I (fun η=>oq (i:=1) (p:=2) η underlying169 (jg.size) I I ae ae)<|cE I (fun η=>fT (cs:=[.string ⟨#[115,104,97,114,101]⟩,.func (.func 90) #[] #[]]) η jg I σ.G1 I I)<|eE I<|iR ld σ I fun _ g81 σ=>eE I<|fB 0 σ I fun _ σ=>lE 0 σ I<|gE 2 σ I<|eE I<|sH call90 I (YU σ.bW σ.dw hcT) I ?_
   rintro _ _ ⟨A82,Ut,c84,B85,d86,rfl,TN,Fi⟩
   refine ⟨_,I,?_⟩
   replace σ:=σ.more TN
   have Dv:=FK (p:=(ec,oc)) GD hPr hCh hlc 2
   replace Fi:(rS i g (ec,oc) 2).1.length=Ut:=Fi
   rw [Fi] at Dv
   have axj:=Dv.1.ln
   replace σ:=σ.jX (k:=0) I Fi
   replace σ:=σ.jX (k:=0) I (Dv.2.trans Y8)
   refine eE I<|fB 2 σ I fun _ σ=>drY 5 [] [0,4,9,13,18] (fun l w=>∃A9:Option Addr,∃c9:Nat,∃B9:Option Addr,∃d9:Nat,l=[(39,.func (.yield l0) #[] #[]),(41,.string ⟨#[115,104,97,114,101]⟩),(43,.agg (lN i g A9 Ut c9 B9 n1 d9)),(0,.func (.yield l0) #[] #[]),(5,cY qt),(6,.slice (cS tU) 3 3),(7,cY D8),(23,aM m),(26,.slice (cS tU) 3 3),(27,aG 3),(28,aM 1)]/\St w0 w [dQ A9 Ut c9 ((rS i g (ec,oc) 2).1),cI B9 n1 d9 ((rS i g (ec,oc) 2).2),bk g81 #[.string ⟨#[115,104,97,114,101]⟩,.func (.func 90) #[] #[]] 168,J x6,bk qt (lN i g A82 Ut c84 B85 n1 d86) 28,bk D8 (lN i g A5 nc c5 B5 n1 d5) 28,bk tU #[.string ⟨#[102,111,108,100]⟩,.func (.func 89) #[] #[],.string ⟨#[115,104,97,114,101]⟩,.func (.func 90) #[] #[],.string ⟨#[100,101,97,100]⟩,.func (.func 91) #[] #[]] 168] [fg B85 n1 d86 ((rS i g (ec,oc) 2).2),fC A82 Ut c84 ((rS i g (ec,oc) 2).1),fC A6 nT c6 ((rS i g (ec,oc) 1).1),fg B6 n1 d6 ((rS i g (ec,oc) 1).2),fC A5 nc c5 ec,fg B5 n1 d5 oc,dA w1 (J s0),bk gp (lN i g A0 n0 c0 A1 n1 c1) 28,fC A0 n0 c0 es0,fg A1 n1 c1 es1,oP]) bI σ ?_ ?_
   ·intro _ σ
    refine lS 0 I<|gS 2 I<|eS I<|fk call50 (rC σ.dw σ.bW ae ae) I ?_
    rintro _ _ ⟨A91,c92,B93,d94,rfl,ae4⟩
    refine ⟨_,I,?_⟩
    replace σ:=σ.more ae4
    exact sk (σ.kd 2 0)<|xu ⟨A91,c92,B93,d94,I,σ⟩ aT
   rintro _ _ ⟨A9,c9,B9,d9,rfl,σ⟩
   refine yE I I I (hY (.string ⟨#[115,104,97,114,101]⟩,(((i:Nat):Int),((g:Nat):Int),(A9,Ut,c9),(B9,n1,d9))) _ _ (σ.cF (k:=3) I [])) ?_
   rintro _ w98 ⟨rfl,apr⟩
   refine ⟨_,I,?_⟩
   replace σ:=σ.kL (k:=3) I apr
   replace σ:=σ.pick [2,3,4,5,6] [0,1,2,3,4,5,6,7,8,9,10] aB
   exact iF I I<|can (j:=1) I ae<|gI ⟨2,(((i:Nat):Int),((g:Nat):Int),(A9,Ut,c9),(B9,n1,d9)),Ut,A82,c84,B85,d86,I,I,σ.pick [1,2,3,4] [1,0,4,5,6,7,8,9,10] aB,ae,Dv.1,Fi⟩ aT ae
  ·refine il I<|kB (b':=true) aB<|iT I I<|vE I (fun η=>oq (i:=2) (p:=4) η underlying169 (jg.size) I I ae ae)<|cE I (fun η=>fT (cs:=[.string ⟨#[100,101,97,100]⟩,.func (.func 91) #[] #[]]) η jg I σ.G1 I I)<|eE I<|iR ld σ I fun _ ajD σ=>eE I<|fB 0 σ I fun _ σ=>lE 0 σ I<|gE 2 σ I<|eE I<|sH call91 I (YN σ.bW σ.dw hcT) I ?_
   rintro _ _ ⟨ae5,n102,Pe,ae6,d105,rfl,Iv,I4⟩
   refine ⟨_,I,?_⟩
   replace σ:=σ.more Iv
   have PJ:=FK (p:=(ec,oc)) GD hPr hCh hlc 3
   replace I4:(rS i g (ec,oc) 3).1.length=n102:=I4
   rw [I4] at PJ
   have axm:=PJ.1.ln
   replace σ:=σ.jX (k:=0) I I4
   replace σ:=σ.jX (k:=0) I (PJ.2.trans Y8)
   refine eE I<|fB 2 σ I fun _ σ=>drY 5 [] [0,4,9,13,18] (fun l w=>∃A9:Option Addr,∃c9:Nat,∃B9:Option Addr,∃d9:Nat,l=[(39,.func (.yield l0) #[] #[]),(41,.string ⟨#[100,101,97,100]⟩),(43,.agg (lN i g A9 n102 c9 B9 n1 d9)),(0,.func (.yield l0) #[] #[]),(5,cY qt),(6,.slice (cS tU) 3 3),(7,cY D8),(23,aM m),(26,.slice (cS tU) 3 3),(27,aG 3),(28,aM 2)]/\St w0 w [dQ A9 n102 c9 ((rS i g (ec,oc) 3).1),cI B9 n1 d9 ((rS i g (ec,oc) 3).2),bk ajD #[.string ⟨#[100,101,97,100]⟩,.func (.func 91) #[] #[]] 168,J x6,bk qt (lN i g ae5 n102 Pe ae6 n1 d105) 28,bk D8 (lN i g A5 nc c5 B5 n1 d5) 28,bk tU #[.string ⟨#[102,111,108,100]⟩,.func (.func 89) #[] #[],.string ⟨#[115,104,97,114,101]⟩,.func (.func 90) #[] #[],.string ⟨#[100,101,97,100]⟩,.func (.func 91) #[] #[]] 168] [fg ae6 n1 d105 ((rS i g (ec,oc) 3).2),fC ae5 n102 Pe ((rS i g (ec,oc) 3).1),fC A6 nT c6 ((rS i g (ec,oc) 2).1),fg B6 n1 d6 ((rS i g (ec,oc) 2).2),fC A5 nc c5 ec,fg B5 n1 d5 oc,dA w1 (J s0),bk gp (lN i g A0 n0 c0 A1 n1 c1) 28,fC A0 n0 c0 es0,fg A1 n1 c1 es1,oP]) bI σ ?_ ?_
   ·intro _ σ
    refine lS 0 I<|gS 2 I<|eS I<|fk call50 (rC σ.dw σ.bW ae ae) I ?_
    rintro _ _ ⟨aps,apt,apu,d113,rfl,ajE⟩
    refine ⟨_,I,?_⟩
    replace σ:=σ.more ajE
    exact sk (σ.kd 2 0)<|xu ⟨aps,apt,apu,d113,I,σ⟩ aT
   rintro _ _ ⟨A9,c9,B9,d9,rfl,σ⟩
   refine yE I I I (hY (.string ⟨#[100,101,97,100]⟩,(((i:Nat):Int),((g:Nat):Int),(A9,n102,c9),(B9,n1,d9))) _ _ (σ.cF (k:=3) I [])) ?_
   rintro _ axn ⟨rfl,ajF⟩
   refine ⟨_,I,?_⟩
   replace σ:=σ.kL (k:=3) I ajF
   replace σ:=σ.pick [2,3,4,5,6] [0,1,2,3,4,5,6,7,8,9,10] aB
   exact iF I I<|can (j:=1) I ae<|gI ⟨3,(((i:Nat):Int),((g:Nat):Int),(A9,n102,c9),(B9,n1,d9)),n102,ae5,Pe,ae6,d105,I,I,σ.pick [1,2,3,4] [1,0,4,5,6,7,8,9,10] aB,ae,PJ.1,I4⟩ aT ae
  ·have PJ:=FK (p:=(ec,oc)) GD hPr hCh hlc 3
   have ajG:=hlT
   rw [hlT] at PJ
   refine il I<|kB (b':=false) aB<|iF I I<|gE 2 σ I<|gE 1 σ I<|eE I<|gV call38 (Nk σ.fX σ.kC σ.bW σ.dw) σ I fun _ σ=>wB (fun PK=>?_) fun PK=>?_
   ·simp only [bL,iA] at PK
    have hR9:(rS i g (ec,oc) 3)=lA i g 16 (es0,es1):=PH ae hR (Prod.ext PK.1.symm PK.2.symm)
    have kf:(rS i g (ec,oc) 3).1=(lA i g 16 (es0,es1)).1:=aq Prod.fst hR9
    have vQ:(rS i g (ec,oc) 3).2=(lA i g 16 (es0,es1)).2:=aq Prod.snd hR9
    replace σ:St w0 _ [J x6,bk qt (lN i g A6 nT c6 B6 n1 d6) 28,bk D8 (lN i g A5 nc c5 B5 n1 d5) 28,bk tU #[.string ⟨#[102,111,108,100]⟩,.func (.func 89) #[] #[],.string ⟨#[115,104,97,114,101]⟩,.func (.func 90) #[] #[],.string ⟨#[100,101,97,100]⟩,.func (.func 91) #[] #[]] 168] [fC A6 nT c6 ((rS i g (ec,oc) 3).1),fg B6 n1 d6 ((rS i g (ec,oc) 3).2),dA w1 (J s0)]:=σ.pick [0,1,2,3] [0,1,4] aB
    rw [kf,vQ] at σ
    obtain ⟨UG,UH,apv⟩:=I3 (p:=(es0,es1)) GD FQ dy cQ
    have qw:(lA i g 16 (es0,es1)).1.length=nT:=by rw [<- kf]; exact ajG
    rw [qw] at UG UH
    refine iT I I<|gE 1 σ I<|eE I<|fk call92 (ND (i:=i) (g:=g) (es0:=(lA i g 16 (es0,es1)).1) (es1:=(lA i g 16 (es0,es1)).2) σ.bW σ.dw UG UH) I ?_
    rintro _ _ ⟨apw,apx,apy,d123,rfl,ajH⟩
    refine ⟨_,I,?_⟩
    replace σ:=σ.more ajH
    refine eE I<|fB 3 σ I fun _ σ=>gE 3 σ I<|?_
    refine yE I I I (hY (.string ⟨#[112,97,99,107]⟩,(((i:Nat):Int),(((pN i g es0 es1):Nat):Int),(apw,nT,apx),(apy,n1,d123))) _ _ (σ.cF (k:=2) I [])) ?_
    rintro _ axo ⟨rfl,UI⟩
    refine ⟨_,I,?_⟩
    replace σ:=σ.kL (k:=2) I UI
    refine Dp results88<|?_
    have hlP:(kW i g es0 es1).length=nT:=(NI GD ae FQ).trans qw
    have hlq:=(BS GD ae FQ).2.1
    exact ⟨⟨_,I⟩,_,_,⟨_,_,_,_,_,by omega,hlP,rfl,rfl⟩,σ.pick [2,0,1] [2] aB⟩
   ·simp only [Bool.and_eq_false_iff,decide_eq_false_iff_not] at PK
    have Y':¬(ec=(rS i g (ec,oc) 3).1/\oc=(rS i g (ec,oc) 3).2):=fun q=>by rcases PK with h8|h8; exact h8 q.1; exact h8 q.2
    exact iF I I<|can (j:=1) I ae<|gI ⟨m+1,x6,(rS i g (ec,oc) 3).1,(rS i g (ec,oc) 3).2,nT,A6,c6,B6,d6,I,I,σ.pick [0,1,3] [0,1,4,5,6,7,8] aB,ae,(PG ae hR (fun q=>Y' ⟨aq (·.1) q.symm,aq (·.2) q.symm⟩)),(Kh GD ae hPr).1,PJ.1,ajG,(PJ.2.trans Y8)⟩ aT ae
 ·obtain rfl:m=16:=ae
  replace hR:(ec,oc)=lA i g 16 (es0,es1):=hR
  have kf:ec=(lA i g 16 (es0,es1)).1:=aq Prod.fst hR
  have vQ:oc=(lA i g 16 (es0,es1)).2:=aq Prod.snd hR
  rw [kf,vQ] at σ
  obtain ⟨UG,UH,apv⟩:=I3 (p:=(es0,es1)) GD FQ dy cQ
  have qw:(lA i g 16 (es0,es1)).1.length=nc:=by rw [<- kf]; exact hlc
  rw [qw] at UG UH
  refine iF I I<|gE 1 σ I<|eE I<|fk call92 (ND (i:=i) (g:=g) (es0:=(lA i g 16 (es0,es1)).1) (es1:=(lA i g 16 (es0,es1)).2) σ.bW σ.dw UG UH) I ?_
  rintro _ _ ⟨apA,apB,apC,d130,rfl,ajI⟩
  refine ⟨_,I,?_⟩
  replace σ:=σ.more ajI
  refine eE I<|fB 3 σ I fun _ σ=>gE 3 σ I<|?_
  refine yE I I I (hY (.string ⟨#[112,97,99,107]⟩,(((i:Nat):Int),(((pN i g es0 es1):Nat):Int),(apA,nc,apB),(apC,n1,d130))) _ _ (σ.cF (k:=2) I [])) ?_
  rintro _ axq ⟨rfl,ajJ⟩
  refine ⟨_,I,?_⟩
  replace σ:=σ.kL (k:=2) I ajJ
  refine Dp results88<|?_
  have hlP:(kW i g es0 es1).length=nc:=(NI GD ae FQ).trans qw
  have hlq:=(BS GD ae FQ).2.1
  exact ⟨⟨_,I⟩,_,_,⟨_,_,_,_,_,by omega,hlP,rfl,rfl⟩,σ.pick [2,0,1] [2] aB⟩
theorem Lg {es0:List IE} (h0:(fC A0 n0 c0 es0).P w0) (h1:(fg A1 n1 c1 es1).P w0) (hD:me w0) (dy:mv (i:Nat) (g:Nat) n0 n1 es0 es1) (GD:G.length=i) (FQ:oY i g nn G es0 es1 O):
  Calls prog 29 #[.agg (lN i g A0 n0 c0 A1 n1 c1)] w0 fun e w'=>∃A n c B d,e=.returned (.tuple #[.agg #[aM i,aM (pN i g es0 es1),.slice A n c,.slice B n1 d],aG 0])/\St w0 w' [dQ A n c (kW i g es0 es1),cI B n1 d (oB i g es0 es1)] []/\(kW i g es0 es1).length=n:=by
 refine enM tb mixed func29 I ntmps29 I fun qY=>?_
 replace qY:=qY.nG hD
 have cQ:=h0.2.1
 have lu:=h0.1.cap
 have eN:=h0.1.big
 unfold maxLen at eN
 have iI:=h1.2.1
 have oI:=h1.1.cap
 have jB:=h1.1.big
 unfold maxLen at jB
 replace qY:=qY.aY h0
 replace qY:=qY.aY h1
 refine eE I<|ll qY I fun _ de qY=>eE I<|iR cM qY I fun _ eQ qY=>gE 1 qY I<|eE I<|gV call41 (kR qY.dw qY.bW dy) qY I fun _ qY=>lK I<|kB (b':=false) I<|iF I I<|eE I<|iR cM qY I fun _ jh qY=>gE 2 qY I<|eE I<|fk call49 (Lf (i:=i) (g:=g) (n0:=n0) (c0:=c0) (n1:=n1) (c1:=c1) (A0:=A0) (A1:=A1)) I ?_
 rintro _ _ ⟨axr,rfl,CG⟩
 refine ⟨_,I,?_⟩
 replace qY:=qY.more CG
 replace qY:=qY.Md (k:=0) I
 refine rgS (k:=0) (α:=Value×PQ) (σ:=PQ) (encs:=fun x=>#[x.1,.agg #[aG x.2.1,aG x.2.2.1,.slice x.2.2.2.1.1 x.2.2.2.1.2.1 x.2.2.2.1.2.2,.slice x.2.2.2.2.1 x.2.2.2.2.2.1 x.2.2.2.2.2.2]]) (R:=fun q=>bk jh #[aG q.1,aG q.2.1,.slice q.2.2.1.1 q.2.2.1.2.1 q.2.2.1.2.2,.slice q.2.2.2.1 q.2.2.2.2.1 q.2.2.2.2.2] 28) (s0:=((0:Int),(0:Int),(none,0,0),(none,0,0))) (V:=fun _=>True) (G:=fun s' new=>∃A n c B d,n<=n0/\(kW i g es0 es1).length=n/\s'=(((i:Nat):Int),((pN i g es0 es1:Nat):Int),(A,n,c),(B,n1,d))/\new=[dQ A n c (kW i g es0 es1),cI B n1 d (oB i g es0 es1)]) I call88 (fun _=>I) (by exact Cp rfl) (fun _ x=>x.2) qY I ?_ (fun x q nu l'=>∃g8,nu=[bk g8 #[aG x.2.1,aG x.2.2.1,.slice x.2.2.2.1.1 x.2.2.2.1.2.1 x.2.2.2.1.2.2,.slice x.2.2.2.2.1 x.2.2.2.2.2.1 x.2.2.2.2.2.2] 28,bk jh #[aG q.1,aG q.2.1,.slice q.2.2.1.1 q.2.2.1.2.1 q.2.2.1.2.2,.slice q.2.2.2.1 q.2.2.2.2.1 q.2.2.2.2.2] 28]/\l'=[(8,cY g8),(6,cY jh)]) ?_ ?_ ?_
 ·exact fun J l0 w1 hY hS=>PI dy GD FQ (fun x s Y h=>hY x s Y trivial h) (hS.pick [0] [0,1,3,2,4] aB)
 ·rintro i9 D r F x q W K _ qY hK
  exact eE I<|iR cM qY I fun _ zo qY=>eE I<|fB 0 qY I fun _ qY=>qaE fun a ea=>hK a [(8,cY zo),(6,cY jh)] _ _ (ea.sub aT) ⟨zo,I,I⟩ (qY.pick [1,0,2] [0] aB)
 ·rintro i9 D r F x q nu l' W _ ⟨g8,rfl,rfl⟩ qY
  exact gE 1 qY I<|eE I<|fB 2 qY I fun _ qY=>⟨fun _ _=>qY.pick [0,2] [0] aB⟩
 ·rintro D r s' new W ⟨A9,n9,c9,B9,d9,hn9,hl9,rfl,rfl⟩ hD qY
  refine gE 1 qY I<|eE I<|fB 4 qY I fun _ qY=>?_
  exact oMR qY fun w' qY=>⟨fun a e=>lk results29 (RV.cell e bC I qY.G1 I) (RV.tmp e I),⟨_,_,_,_,_,I,qY.pick [1,2] [] aB,hl9⟩⟩
theorem xZ (f:Nat->Int) (a:Nat):∀b,sg f (a+b)=sg f a+sg (fun u=>f (a+u)) b
 | 0=>(gN _).symm
 | b+1=>by rw [<- eu,sg,xZ f a b,sg,Int.add_assoc]
theorem AQ (F:Nat->Nat->Int) (n:Nat):∀m,sg (fun s=>sg (fun i=>F s i) n) m=sg (fun i=>sg (fun s=>F s i) m) n
 | 0=>(nh fun _ _=>rfl).symm
 | m+1=>by rw [sg,AQ F n m,<- Ew]; rfl
theorem Ec {G:Nat->Int} {K T:Nat} (h:i+K<=T):sg (fun s=>if i<=s/\s<i+K then G s else 0) T=sg (fun j=>G (i+j)) K:=by
 obtain ⟨r,rfl⟩:∃r,T=i+(K+r):=⟨T - i - K,by omega⟩
 rw [xZ,nh fun s hs=>ak ae,Int.zero_add,xZ,nh (n:=r) fun u _=>ak ae,gN]
 exact lB fun j hj=>au ae
def sh (a:Nat) (f:Nat->Int) (t:Nat):Int:=if a<=t then f (t - a) else 0
theorem ajO (a b:Nat) (f:Nat->Int) (t:Nat):sh a (sh b f) t=sh (a+b) f t:=by
 unfold sh
 by_cases h:a<=t
 ·rw [au h]
  by_cases h2:b<=t - a
  ·rw [au h2,au ae,Nat.sub_sub]
  ·rw [ak h2,ak ae]
 ·rw [ak h,ak ae]
theorem FT {g:Nat->Int} (h:∀t,f t=g t) (t:Nat):sh a f t=sh a g t:=by unfold sh; rw [h]
theorem ajP (a:Nat) (F:Nat->Nat->Int) (n t:Nat):sh a (fun c=>sg (fun i=>F i c) n) t=sg (fun i=>sh a (F i) t) n:=by
 unfold sh
 by_cases h:a<=t
 ·rw [au h]; exact lB fun i _=>(au h).symm
 ·rw [ak h]; exact (nh fun i _=>ak h).symm
theorem abB (a:Nat) (f g:Nat->Int) (t:Nat):cv (sh a f) g t=sh a (cv f g) t:=by
 unfold cv
 by_cases h:a<=t
 ·rw [show t+1=a+(t - a+1) by omega,xZ,nh fun i hi=>by unfold sh; rw [ak ae,dh],Int.zero_add,sh,au h]
  exact lB fun u hu=>by rw [sh,au ae,show a+u - a=u by omega,show t - (a+u)=t - a - u by omega]
 ·rw [sh,ak h]
  exact nh fun i hi=>by rw [sh,ak ae,dh]
theorem ae' (a:Nat) (f g:Nat->Int) (t:Nat):cv f (sh a g) t=sh a (cv f g) t:=by
 rw [vw,abB]
 exact FT (fun t=>vw g f t) t
theorem UT (F:Nat->Nat->Int) (g:Nat->Int) (n t:Nat):cv (fun c=>sg (fun i=>F i c) n) g t=sg (fun i=>cv (F i) g t) n:=by
 unfold cv
 rw [<- AQ]
 exact lB fun i _=>(X8 _ _ _).symm
theorem UU (F:Nat->Nat->Int) (f:Nat->Int) (n t:Nat):cv f (fun c=>sg (fun i=>F i c) n) t=sg (fun i=>cv f (F i) t) n:=by
 rw [vw,UT]
 exact lB fun i _=>vw _ _ _
def xw (xs:List Int) (m k:Nat):List (List Int):=(List.range k).map (lr xs m)
theorem Lj (h:i<k):(xw xs m k).getD i []=lr xs m i:=by
 rw [xw,aj,ay,bN h]; rfl
theorem AR (xs:List Int) (m k:Nat):(xw xs m k).length=k:=by rw [xw,aw,ee]
theorem pj (xs:List Int) (m j:Nat):(lr xs m j).length=m:=by
 rw [lr,ai,bJ,df]
 omega
theorem FW (xs:List Int) (m j u:Nat):co (lr xs m j) u=if u<m then co xs (j*m+u) else 0:=by
 by_cases h:u<m
 ·rw [au h,lr]
  unfold co
  rw [aj,aj,gn]
  by_cases h2:u<((xs.drop (j*m)).take m).length
  ·rw [au h2,jZ,au h,List.getElem?_drop]
  ·rw [ak h2,cK]
   rw [bJ,dp] at h2
   rw [bg (show xs.length<=j*m+u by omega)]
   split<;>rfl
 ·rw [ak h]
  exact kP (by rw [pj]; omega)
theorem I6 (hm:1<=m) (hx:xs.length<=k*m) (t:Nat):sg (fun i=>sh (i*m) (co (lr xs m i)) t) k=co xs t:=by
 have hd:=Nat.div_add_mod t m
 have hr:t%m<m:=dF _ ae
 rw [cO] at hd
 have ajQ:∀i,i≠t / m->sh (i*m) (co (lr xs m i)) t=0:=fun i hi=>by
  unfold sh
  by_cases h:i*m<=t
  ·rw [au h,FW,ak]
   intro h2
   rcases Nat.lt_or_gt_of_ne hi with q | q
   ·have:=bB m (show i+1<=t / m from q)
    rw [cG] at this
    omega
   ·have:=bB m (show t / m+1<=i from q)
    rw [cG] at this
    omega
  ·rw [ak h]
 by_cases hk:t / m<k
 ·rw [Kt hk fun i _ hi=>ajQ i hi]
  unfold sh
  rw [au ae,FW,au ae,show t / m*m+(t - t / m*m)=t by omega]
 ·rw [nh fun i hi=>ajQ i ae,kP]
  have:=bB m (show k<=t / m by omega)
  omega
theorem abC {qp:List (List Int)} {k T t:Nat}:∀{n:Nat},(∀i,i<n->i*k+(qp.getD i []).length<=T)->co (H' qp k T n) t=sg (fun i=>sh (i*k) (co (qp.getD i [])) t) n
 | 0,_=>by
  show co (List.replicate T 0) t=0
  unfold co
  rw [aj,cK]
  split<;>rfl
 | n+1,h=>by
  rw [H',M1,abC fun i hi=>h i ae,sg,xP]
  congr 1
  have:=h n ae
  unfold sh
  by_cases h1:n*k<=t
  ·rw [au h1]
   by_cases h2:t<n*k+(qp.getD n []).length
   ·rw [au ⟨h1,h2,by omega⟩]
   ·rw [ak (fun q=>h2 q.2.1),kP ae]
  ·rw [ak h1,ak (fun q=>h1 q.1)]
theorem Zj {qp:List (List Int)} (h:∀t,sg (fun i=>sh (i*k) (co (qp.getD i [])) t) n=co zs t) (hl:zs.length=N):qq (H' qp k (MY qp k N n) n)<=N/\(H' qp k (MY qp k N n) n).take N=zs:=by
 have hc:∀t,co (H' qp k (MY qp k N n) n) t=co zs t:=fun t=>(abC fun i hi=>S3 qp k N hi).trans (h t)
 refine ⟨(vA _ _).2 fun t ht=>by rw [hc,kP ae],E8 ?_ fun t=>?_⟩
 ·have:=Kr qp k N n
  rw [bJ,xP,hl]
  omega
 ·by_cases ht:t<N
  ·rw [<- hc]
   unfold co
   rw [aj,jZ,au ht,<- aj]
  ·rw [kP (by rw [bJ]; omega),kP ae]
def acJ (X:List Int) (yss:List (List Int)) (p:Nat) (l:List (List Int)):Nat->List (List Int)
 | 0=>l
 | j+1=>(acJ X yss p l j).set (p+j) (anz ((acJ X yss p l j).getD (p+j) []) (ni X (yss.getD j [])))
def acI (xss yss:List (List Int)) (K T:Nat):Nat->List (List Int)
 | 0=>List.replicate T []
 | i+1=>acJ (xss.getD i []) yss i (acI xss yss K T i) K
def Zc (k:Nat) (xs:List Int):Prop:=∀i,zl (co xs i)<=k
theorem Zk.zc (h:Zk k xs):Zc k xs:=fun i=>by
 unfold co
 rw [aj]
 cases e:xs[i]? with
 | none=>show zl 0<=k; rw [qk]; omega
 | some x=>exact h x (ah e)
open Go.RowKit Anv
def tx (P:List (List Int)) (m:Nat):List (List Int):=(List.range m).map fun t=>P.map fun x=>co x t
theorem abD:∀(x y:List Int),x.length=y.length->dt x y=sg (fun j=>co x j*co y j) x.length
 | [],[],_=>rfl
 | a::x,b::y,h=>by
  rw [dt,abD x y (by simpa using h),aR,Cg]
  rfl
theorem abE (h:j<n):co (rf n f) j=f j:=S6 h
theorem Zl {f:List Int->Int} (h:j<P.length):co (P.map f) j=f (P.getD j []):=by
 unfold co
 rw [aj,aj,ay,ag h]; rfl
theorem Lk {t:Nat} (hP:P.length=k) (ht:t<m):co (tF (tx P m) (rf k f)) t=sg (fun j=>f j*co (P.getD j []) t) k:=by
 unfold tF tx
 rw [eT]
 rw [show co ((List.range m).map (dt (rf k f) ∘ fun t=>P.map fun x=>co x t)) t=dt (rf k f) (P.map fun x=>co x t) from S6 ht]
 rw [abD _ _ (by rw [td,aw,hP]),td]
 exact lB fun j hj=>by rw [abE hj,Zl ae]
theorem kJ (P:List (List Int)) (m:Nat) (x:Rw):(tF (tx P m) x).length=m:=by rw [XB]; unfold tx; simp
theorem UW (hP:P.length=k) (hj:j<k) (hl:(P.getD j []).length=m):tF (tx P m) (rf k (C7 j))=P.getD j []:=
 E8 (by rw [kJ,hl]) fun t=>by
  by_cases ht:t<m
  ·rw [Lk hP ht,Kt hj (fun i _ u5=>by unfold C7; rw [ak u5,dh])]
   unfold C7
   rw [au rfl,eZ]
  ·rw [kP (by rw [kJ]; omega),kP ae]
theorem Ll (X:List (List Int)) (k:Nat):tF X (List.replicate k 0)=List.replicate X.length 0:=by
 unfold tF
 apply dG
 intro i
 rw [ay,cK]
 have hz:∀(k:Nat) (c:List Int),dt (List.replicate k 0) c=0:=fun k=>by
  induction k with
  | zero=>intro c; exact BH c
  | succ k ih=>
   intro c
   rw [fG]
   cases c with
   | nil=>rfl
   | cons b c=>rw [dt,ih c,dh]; rfl
 by_cases h:i<X.length
 ·rw [ag h,au h,fQ,hz]
 ·rw [bg ae,ak h]; rfl
theorem NM {G:List (List Int)} (f:Nat->List Int) (hGP:G.map (tF (tx P m))=(List.range G.length).map f):(lT g k G).map (tF (tx P m))=lT g m ((List.range G.length).map f):=by
 unfold lT
 rw [cD,hGP,en,Ll,aw,ee]
 congr 3
 unfold tx
 simp
theorem NN (h:oY i g n G es os O) (hg:G.length<=g) (hn:∀r∈G,r.length=n):∃R',exe ((lT g n G).map (tF (tx P m))) es=some R'/\os.map (kh R')=O.map (tF (tx P m)):=by
 obtain ⟨R',h1,h2⟩:=h.run
 have hl:=z' es h1 h.may (mC hg) (Hq hn)
 refine ⟨_,Mo _ es h1 h.may (mC hg) (Hq hn),?_⟩
 rw [<- h2,eT]
 exact cZ fun r hr=>Ka hl.1 (h.out r hr).1 (h.out r hr).2
def qx (k:Nat) (l:List Pt) (m:Nat) (xs:List Int):List (List Int):=l.map fun p=>tF (tx (xw xs m k) m) (rf k (p8 k p))
theorem I7 (h:oY k g k (zf k) es os (l.map fun q=>rf k (p8 k q))) (hg:k<=g):∃R',exe (lT g m (xw xs m k)) es=some R'/\os.map (kh R')=qx k l m xs:=by
 obtain ⟨R',h1,h2⟩:=NN h (by rw [oC]; exact hg) (Hz k)
 refine ⟨R',?_,by rw [h2,eT]; rfl⟩
 rw [NM (lr xs m) ?_] at h1
 ·rw [oC] at h1; exact h1
 ·rw [oC]
  unfold zf
  rw [eT]
  refine cZ fun j hj=>?_
  have hj:=eR.1 hj
  show tF (tx (xw xs m k) m) (rf k (C7 j))=_
  rw [UW (AR xs m k) hj (by rw [Lj hj,pj]),Lj hj]
def blF (xs ys:List Int) (m k1 k2 s c:Nat):Int:=sg (fun i=>if i<=s/\s<i+k2 then cv (co (lr xs m i)) (co (lr ys m (s - i))) c else 0) k1
def AU (xs ys:List Int) (m k1 k2:Nat):List (List Int):=(List.range (k1+k2 - 1)).map fun s=>rf (2*m - 1) (blF xs ys m k1 k2 s)
theorem afb {s c:Nat} (h:2*m - 1<=c):blF xs ys m k1 k2 s c=0:=nh fun i _=>by
 split
 ·exact Ku (by rw [pj,pj]; omega)
 ·rfl
theorem abF {s c:Nat} (hs:s<k1+k2 - 1):co ((AU xs ys m k1 k2).getD s []) c=blF xs ys m k1 k2 s c:=by
 unfold AU
 rw [aj,ay,bN hs]
 show co (rf _ _) c=_
 by_cases h:c<2*m - 1
 ·exact abE h
 ·rw [afb ae,kP (by rw [td]; omega)]
theorem FX:(AU xs ys m k1 k2).length=k1+k2 - 1:=by unfold AU; simp
theorem Zm (hm:1<=m) (zL:1<=k1) (MN:1<=k2) (hx:xs.length<=k1*m) (hy:ys.length<=k2*m) (hN:(ni xs ys).length=N):
  qq (H' (AU xs ys m k1 k2) m (MY (AU xs ys m k1 k2) m N (k1+k2 - 1)) (k1+k2 - 1))<=N/\(H' (AU xs ys m k1 k2) m (MY (AU xs ys m k1 k2) m N (k1+k2 - 1)) (k1+k2 - 1)).take N=ni xs ys:=by
 refine Zj (fun t=>?_) hN
 have e1:∀s,s<k1+k2 - 1->sh (s*m) (co ((AU xs ys m k1 k2).getD s [])) t=sg (fun i=>if i<=s/\s<i+k2 then sh (s*m) (cv (co (lr xs m i)) (co (lr ys m (s - i)))) t else 0) k1:=fun s hs=>by
  rw [FT (fun c=>abF hs) t]
  unfold blF
  rw [ajP]
  refine lB fun i hi=>?_
  by_cases q:i<=s/\s<i+k2
  ·rw [au q]
   exact FT (fun c=>au q) t
  ·rw [ak q]
   unfold sh
   split
   ·simp only
   ·rfl
 rw [lB e1,AQ,Ci]
 rw [S7 (fun c=>(I6 hm hx c).symm) (fun c=>(I6 hm hy c).symm),UT]
 refine lB fun i hi=>?_
 rw [Ec ae,UU]
 refine lB fun j hj=>?_
 rw [abB,FT (fun c=>ae' (j*m) _ _ c) t,ajO,show i+j - i=j by omega,j9]
theorem afc (hi:i<k1) (hj:j<k2) (p:Pt):p8 k1 p i*p8 k2 p j=p8 (k1+k2 - 1) p (i+j):=by
 unfold p8
 have e1:p.1 ^ (i+j)=p.1 ^ i*p.1 ^ j:=Int.pow_add ..
 have e2:p.2 ^ (k1+k2 - 1 - 1 - (i+j))=p.2 ^ (k1 - 1 - i)*p.2 ^ (k2 - 1 - j):=by rw [<- Int.pow_add]; congr 1; omega
 rw [e1,e2]
 ac_rfl
theorem UX (a:Int) (f g:Nat->Int) (k:Nat):cv (fun i=>a*f i) g k=a*cv f g k:=by
 unfold cv
 rw [<- yv]
 exact lB fun i _=>bO ..
theorem Zn (a:Int) (f g:Nat->Int) (k:Nat):cv f (fun i=>a*g i) k=a*cv f g k:=by
 rw [vw,UX,vw]
theorem Lm {t:Nat} (p:Pt):co (tF (tx (xw xs m k) m) (rf k (p8 k p))) t=sg (fun j=>p8 k p j*co (lr xs m j) t) k:=by
 by_cases ht:t<m
 ·rw [Lk (AR xs m k) ht]
  exact lB fun j hj=>by rw [Lj hj]
 ·rw [kP (by rw [kJ]; omega),nh fun j _=>by rw [kP (by rw [pj]; omega),ef]]
theorem UY (p:Pt) (hm:1<=m):ni (tF (tx (xw xs m k1) m) (rf k1 (p8 k1 p))) (tF (tx (xw ys m k2) m) (rf k2 (p8 k2 p)))=tF (tx (AU xs ys m k1 k2) (2*m - 1)) (rf (k1+k2 - 1) (p8 (k1+k2 - 1) p)):=
 E8 (by rw [kJ,Ch (by rw [kJ]; omega) (by rw [kJ]; omega),kJ,kJ]; omega) fun c=>by
  by_cases hc:c<2*m - 1
  ·rw [Lk FX hc,Ci,S7 (fun t=>Lm p) (fun t=>Lm p),UT]
   have e2:∀s,s<k1+k2 - 1->p8 (k1+k2 - 1) p s*co ((AU xs ys m k1 k2).getD s []) c=sg (fun i=>if i<=s/\s<i+k2 then p8 (k1+k2 - 1) p s*cv (co (lr xs m i)) (co (lr ys m (s - i))) c else 0) k1:=fun s hs=>by
    rw [abF hs]
    unfold blF
    rw [<- yv]
    refine lB fun i _=>?_
    split
    ·rfl
    ·exact ef _
   rw [lB e2,AQ]
   refine lB fun i hi=>?_
   rw [Ec ae,UU]
   refine lB fun j hj=>?_
   rw [UX,Zn,<- bO,afc hi hj,show i+j - i=j by omega]
  ·rw [Ci,Ku (by rw [kJ,kJ]; omega),kP (by rw [kJ]; omega)]
theorem UZ (hm:1<=m) (hl:l.length=k1+k2 - 1) (h:oY (k1+k2 - 1) g (k1+k2 - 1) (C8 l) es os (zf (k1+k2 - 1))) (hg:k1+k2 - 1<=g):
  ∃R',exe (lT g (2*m - 1) ((List.range (k1+k2 - 1)).map fun i=>ni ((qx k1 l m xs).getD i []) ((qx k2 l m ys).getD i []))) es=some R'/\os.map (kh R')=AU xs ys m k1 k2:=by
 have Gz:(C8 l).length=k1+k2 - 1:=by unfold C8; rw [aw,hl]
 obtain ⟨R',h1,h2⟩:=NN (P:=AU xs ys m k1 k2) h (by rw [Gz]; exact hg) (fun r hr=>by
  obtain ⟨p,_,rfl⟩:=bG.1 hr; rw [td,hl])
 refine ⟨R',?_,?_⟩
 ·rw [NM (fun i=>ni ((qx k1 l m xs).getD i []) ((qx k2 l m ys).getD i [])) ?_] at h1
  ·rw [Gz] at h1; exact h1
  ·unfold C8
   rw [eT,aw]
   apply dG
   intro i
   rw [ay,ay]
   by_cases c:i<l.length
   ·rw [ag c,bN c]
    unfold qx
    simp only [fQ,aj,ay,ag c,Option.getD_some]
    rw [UY _ hm,hl]
    rfl
   ·rw [bg ae,bg (by simpa using c)]; rfl
 ·rw [h2]
  unfold zf
  rw [eT]
  apply dG
  intro s
  rw [ay]
  by_cases c:s<k1+k2 - 1
  ·rw [bN c]
   show some (tF (tx (AU xs ys m k1 k2) (2*m - 1)) (rf (k1+k2 - 1) (C7 s)))=_
   have hs:(AU xs ys m k1 k2)[s]?=some (rf (2*m - 1) (blF xs ys m k1 k2 s)):=by unfold AU; rw [ay,bN c]; rfl
   rw [UW FX c (by rw [aj,hs]; exact td _ _),aj,hs]; rfl
  ·rw [bg (by simpa using c),bg (by rw [FX]; omega)]; rfl
abbrev Tl:=Nat×Nat×Nat×Nat
def Ln (k1 k2 n st:Nat) (t:Int):Nat->Nat->Nat->Tl
 | 0,a,b=>(0,0,a*b,0)
 | f+1,a,b=>if EP a b k1 k2 t then
   (1+n*(Ln k1 k2 n st t f (mU a b k1 k2) (mU a b k1 k2)).1,n+n*(Ln k1 k2 n st t f (mU a b k1 k2) (mU a b k1 k2)).2.1,n*(Ln k1 k2 n st t f (mU a b k1 k2) (mU a b k1 k2)).2.2.1,st+n*(Ln k1 k2 n st t f (mU a b k1 k2) (mU a b k1 k2)).2.2.2)
  else (0,0,a*b,0)
theorem NP {k1 k2 n st:Nat} {t:Int}:∀(f f' a b:Nat),max a b<=f->max a b<=f'->Ln k1 k2 n st t f a b=Ln k1 k2 n st t f' a b
 | 0,0,_,_,_,_=>rfl
 | 0,f'+1,a,b,h,_=>by
  rw [Ln,Ln,ak]
  intro hE
  have:=hE.1
  omega
 | f+1,0,a,b,_,h=>by
  rw [Ln,Ln,ak]
  intro hE
  have:=hE.1
  omega
 | f+1,f'+1,a,b,h,h'=>by
  rw [Ln,Ln]
  by_cases hE:EP a b k1 k2 t
  ·have:=hE.2
   rw [au hE,au hE,NP f f' _ _ ae ae]
  ·rw [ak hE,ak hE]
def mY (k1 k2 n st:Nat) (t:Int) (a b:Nat):Tl:=Ln k1 k2 n st t (max a b) a b
theorem I8 {st:Nat} (hE:EP a b k1 k2 t):mY k1 k2 n st t a b=(1+n*(mY k1 k2 n st t (mU a b k1 k2) (mU a b k1 k2)).1,n+n*(mY k1 k2 n st t (mU a b k1 k2) (mU a b k1 k2)).2.1,n*(mY k1 k2 n st t (mU a b k1 k2) (mU a b k1 k2)).2.2.1,st+n*(mY k1 k2 n st t (mU a b k1 k2) (mU a b k1 k2)).2.2.2):=by
 have h1:=hE.1
 have h2:=hE.2
 unfold mY
 obtain ⟨f,hf⟩:∃f,max a b=f+1:=⟨max a b - 1,by omega⟩
 rw [hf,Ln,au hE,NP f (max (mU a b k1 k2) (mU a b k1 k2)) _ _ ae ae]
theorem FZ {st:Nat} (hE:¬EP a b k1 k2 t):mY k1 k2 n st t a b=(0,0,a*b,0):=by
 unfold mY
 cases max a b with
 | zero=>rfl
 | succ f=>rw [Ln,ak hE]
def tlM (q:Nat) (x:Tl):Tl:=(q*x.1,q*x.2.1,q*x.2.2.1,q*x.2.2.2)
def tlA (x y:Tl):Tl:=(x.1+y.1,x.2.1+y.2.1,x.2.2.1+y.2.2.1,x.2.2.2+y.2.2.2)
def x0 (b:Nat) (xs:List Int):Prop:=∀i,(co xs i).natAbs<2 ^ b
theorem x0.mono {c:Nat} (h:x0 b xs) (Bn:b<=c):x0 c xs:=fun i=>cl (h i) (bS aB Bn)
theorem x7:x0 b xs↔∀x∈xs,x.natAbs<2 ^ b:=by
 constructor
 ·intro h x hx
  obtain ⟨i,hi⟩:=dO hx
  have:=h i
  unfold co at this
  rw [aj,hi] at this
  exact this
 ·intro h i
  unfold co
  rw [aj]
  cases hi:xs[i]? with
  | none=>exact eL aB
  | some x=>exact h x (ah hi)
theorem uT (h:x0 b xs) (m j:Nat):x0 b (lr xs m j):=fun u=>by
 rw [FW]
 split
 ·exact h _
 ·exact eL aB
theorem F4 {f:Nat->Int} {c:Nat} (hc:0<c):∀n,(∀i,i<n->(f i).natAbs<c)->(sg f n).natAbs<n*c+1
 | 0,_=>by simp [sg]
 | n+1,h=>by
  rw [sg]
  have h1:=F4 hc n fun i hi=>h i ae
  have h2:=h n ae
  rw [cG]
  omega
theorem U0 {t:Nat} {p:Pt} (h:pU p) (ht:t<k) (hk:k<=8):(p8 k p t).natAbs<=2 ^ 28:=by
 unfold p8 pU at*
 rw [dL,kx,kx]
 have h1:p.1.natAbs ^ t<=16 ^ t:=Nat.pow_le_pow_left ae t
 have h2:p.2.natAbs ^ (k - 1 - t)<=16 ^ (k - 1 - t):=Nat.pow_le_pow_left ae _
 have h3:16 ^ t*16 ^ (k - 1 - t)<=16 ^ 7:=by rw [<- eh]; exact bS aB ae
 exact aD (bR h1 h2) h3
theorem F5 {p:Pt} (h:x0 b xs) (hp:pU p) (hk:k<=8):x0 (b+31) (tF (tx (xw xs m k) m) (rf k (p8 k p))):=fun t=>by
 rw [Lm]
 have hb:0<2 ^ b:=eL aB
 have h1:(sg (fun j=>p8 k p j*co (lr xs m j) t) k).natAbs<k*(2 ^ 28*2 ^ b)+1:=F4 (jE aB hb) k fun j hj=>by
  rw [dL]
  have a1:=U0 hp hj hk
  have a2:=uT h m j t
  exact fa (bB _ a1) (Nat.mul_lt_mul_of_pos_left a2 aB)
 have h2:k*(2 ^ 28*2 ^ b)<=8*(2 ^ 28*2 ^ b):=bB _ hk
 rcases bu k with q | q
 ·subst q; rw [sg]; exact eL aB
 have h3:(sg (fun j=>p8 k p j*co (lr xs m j) t) k).natAbs<8*(2 ^ 28*2 ^ b):=by
  have:∀n,(∀i,i<n->(p8 k p i*co (lr xs m i) t).natAbs<2 ^ 28*2 ^ b)->0<n->(sg (fun j=>p8 k p j*co (lr xs m j) t) n).natAbs<n*(2 ^ 28*2 ^ b):=fun n=>by
   induction n with
   | zero=>intro _ h; omega
   | succ n ih=>
    intro hi _
    rw [sg,cG]
    have a2:=hi n ae
    rcases bu n with w | w
    ·subst w; rw [sg]; omega
    ·have a1:=ih (fun i h=>hi i ae) w
     omega
  have:=this k (fun j hj=>by
   rw [dL]
   have a1:=U0 hp hj hk
   have a2:=uT h m j t
   exact fa (bB _ a1) (Nat.mul_lt_mul_of_pos_left a2 aB)) q
  omega
 have h4:2 ^ (b+31)=8*(2 ^ 28*2 ^ b):=by rw [eh,<- cN,cO]
 omega
theorem NQ (hx:x0 b xs) (hy:x0 b ys) (hl:xs.length<=2 ^ n):x0 (2*b+n+1) (ni xs ys):=fun k=>by
 rw [Ci]
 unfold cv
 have hb:0<2 ^ b*2 ^ b:=jE (eL aB) (eL aB)
 have hcut:sg (fun i=>co xs i*co ys (k - i)) (k+1)=sg (fun i=>co xs i*co ys (k - i)) (min (k+1) xs.length):=by
  rcases Nat.le_total (k+1) xs.length with q | q
  ·rw [cW q]
  ·rw [Nat.min_eq_right q]
   exact Av q fun i hi _=>by rw [kP hi,dh]
 rw [hcut]
 have h1:=F4 hb (min (k+1) xs.length) fun i _=>by
  rw [dL]
  exact Nat.mul_lt_mul'' (hx i) (hy (k - i))
 have h2:min (k+1) xs.length*(2 ^ b*2 ^ b)<=2 ^ n*(2 ^ b*2 ^ b):=bB _ ae
 have h3:2 ^ (2*b+n+1)=2*(2 ^ n*(2 ^ b*2 ^ b)):=by rw [cT,eh,Nat.two_mul,eh]; ac_rfl
 have h4:0<2 ^ n*(2 ^ b*2 ^ b):=jE (eL aB) hb
 omega
theorem Lp {z:Int} (h:z.natAbs<2 ^ b) (hk:b<=32*k):zl z<=k:=by
 refine gC ?_
 refine cl h ?_
 rw [show (4294967296:Nat)=2 ^ 32 from rfl,<- Nat.pow_mul]
 exact bS aB hk
theorem Vp (l:List Pt):(fl Tp l).all (·.oneCell')=true/\(fl Tp l).all dD=true:=by
 induction l with
 | nil=>exact ⟨rfl,rfl⟩
 | cons x l ih=>exact ⟨ih.1,ih.2⟩
def rp (k1 k2:Int) (l:List Pt):Prop:=(1<=k1/\k1<=8)/\(1<=k2/\k2<=8)/\∀p∈l,pU p
def Jf (l:List Pt):Prop:=∃p∈l,p.1=0/\p.2=0
theorem Vq {es:List Pt} {p:Pt} (h:∀x,x<j->∀p,es[x]?=some p->¬(p.1=0/\p.2=0)) (he:es[j]?=some p) (hp:¬(p.1=0/\p.2=0)):∀x,x<j+1->∀p,es[x]?=some p->¬(p.1=0/\p.2=0):=fun x hx q hq=>by
 rcases aV x j with c | c
 ·exact h x c q hq
 ·obtain rfl:x=j:=ae
  rw [he] at hq
  cases hq
  exact hp
theorem Gc (h0:(jD none 0 c0 es0).P w0):
  Calls prog 20 #[.slice none 0 c0] w0 fun e w'=>∃A c,e=.returned (.slice A 0 c)/\St w0 w' [lp A 0 c es0] []:=by
 refine gQ func20 I ntmps20 I fun σ=>?_
 have cQ:=h0.2.1
 replace σ:=σ.aY h0
 refine vE I (fun η=>pq η underlying22 I)<|iT I I<|o1 results20 I<|?_
 obtain rfl:es0=[]:=dc cQ
 replace σ:=(σ.fp dD 61 2)
 exact ⟨_,_,I,σ.pick [0] [] aB⟩
theorem Gd (h0:(jD (some a0) 0 c0 es0).P w0):
  Calls prog 20 #[.slice (some a0) 0 c0] w0 fun e w'=>∃A c,e=.returned (.slice A 0 c)/\St w0 w' [lp A 0 c es0] []:=by
 refine gQ func20 I ntmps20 I fun σ=>?_
 have cQ:=h0.2.1
 replace σ:=σ.aY h0
 refine vE I (fun η=>pq η underlying22 I)<|iF I I<|eE I<|b0E 2 σ (aO.size) I fun _ de σ=>?_
 refine eE I<|aZE 0 σ (aO.size) I<|o1 results20 I<|?_
 obtain rfl:es0=[]:=dc cQ
 exact ⟨_,_,I,σ.pick [0] [] aB⟩
theorem Ge (h0:(jD (some a0) n0 c0 es0).P w0) (hp:0<n0) (hn:n0<=100000):
  Calls prog 20 #[.slice (some a0) n0 c0] w0 fun e w'=>∃A c,e=.returned (.slice A n0 c)/\St w0 w' [lp A n0 c es0] []:=by
 refine gQ func20 I ntmps20 I fun σ=>?_
 have cQ:=h0.2.1
 replace σ:=σ.aY h0
 refine vE I (fun η=>pq η underlying22 I)<|iF I I<|eE I<|b0E 2 σ (aO.size) I fun _ de σ=>?_
 replace σ:St w0 _ [lp (cS de) 0 0 ([]:List Pt)] [jD (some a0) n0 c0 es0]:=σ
 refine eE I<|aRE 0 σ lW σ.bW.1 (Vp _).1 (Vp _).2 I ae (by unfold maxLen; omega) ae fun _ eQ wW σ=>o1 results20 rfl<|?_
 rw [bD,cJ] at σ
 exact by rw [bD]; exact ⟨_,_,rfl,σ.pick [0] [] aB⟩
theorem tB (h0:(jD A0 n0 c0 es0).P w0) (hn:n0<=100000):
  Calls prog 20 #[.slice A0 n0 c0] w0 fun e w'=>∃A c,e=.returned (.slice A n0 c)/\St w0 w' [lp A n0 c es0] []:=by
 cases A0 with
 | none=>
  obtain rfl:n0=0:=xL h0 rfl
  exact Gc h0
 | some a0=>
  rcases bu n0 with rfl | hp
  ·exact Gd h0
  ·exact Ge h0 hp hn
theorem Jg {k:Int}:
  Calls prog 68 #[aG k] w0 fun e w'=>e=.returned (.bool (decide (1<=k/\k<=8)))/\Below w0.heap.size w0 w':=by
 refine gQ func68 I ntmps68 I fun σ=>xo I<|wD (fun lC=>?_) fun lC=>?_
 ·exact Dn I<|o1 results68 I<|⟨aq (fun b=>Ending.returned (Value.bool b)) (eI.2 (by simp; try omega)),σ.below⟩
 ·exact o1 results68 I<|⟨aq (fun b=>Ending.returned (Value.bool b)) (eI.2 (by simp; try omega)),σ.below⟩
theorem Vr (h0:(jD A0 n0 c0 es0).P w0):
  Calls prog 110 #[.slice A0 n0 c0,.func (.func 71) #[] #[]] w0 fun e w'=>∃r:Int,e=.returned (aG r)/\(0<=r↔Jf es0)/\Below w0.heap.size w0 w':=by
 refine gQ func110 I ntmps110 I fun σ=>?_
 have cQ:=h0.2.1
 have lu:=h0.1.cap
 have eN:=h0.1.big
 unfold maxLen at eN
 replace σ:=σ.aY h0
 refine ks (fun mz l w=>∃j:Nat,n0 - j=mz/\l=[(8,aM j),(0,.slice A0 n0 c0),(1,.func (.func 71) #[] #[]),(7,aM n0)]/\St w0 w [] [jD A0 n0 c0 es0]/\j<=n0/\(∀x,x<j->∀p,es0[x]?=some p->¬(p.1=0/\p.2=0))) ⟨0,I,I,σ,(av _),(fun _ h=>absurd h (dB _))⟩ aT ?_
 rintro _ _ _ ⟨j,rfl,rfl,σ,hj,v7⟩
 refine il I<|wD (fun lC=>?_) fun lC=>?_
 ·have fh:j<n0:=ae
  obtain ⟨⟨pa,pb⟩,eG⟩:∃e,es0[j]?=some e:=⟨_,ag ae⟩
  refine iT I I<|vE I (fun η=>aX (i:=j) η underlying22 (aO.size) I I ae I σ.bW.1)<|cE I (fun η=>cX (v:=#[aG pa,aG pb]) (i:=j) (e:=(pa,pb)) η aO I I iX σ.bW.1 ae eG I)<|eE I<|sH call71 I (M9 (pa:=pa) (pb:=pb)) I ?_
  rintro _ _ ⟨rfl,hb⟩
  refine ⟨_,I,?_⟩
  replace σ:=σ.call hb
  refine wD (fun mX=>?_) fun mX=>?_
  ·exact iT I I<|o1 results110 I<|⟨_,I,⟨fun _=>⟨_,ah eG,by simpa using mX⟩,fun _=>ae⟩,σ.below⟩
  ·exact iF I I<|can (j:=1) I ae<|gI ⟨j+1,I,I,σ,ae,(Vq v7 eG (by simpa using mX))⟩ aT ae
 ·exact iF I I<|o1 results110 I<|⟨_,I,⟨fun q=>ae,fun ⟨p,hp,hz⟩=>by obtain ⟨x,hx⟩:=dO hp; exact absurd hz (v7 x (by have:=(aE.1 hx).1; omega) p hx)⟩,σ.below⟩
theorem Jh (h0:(jD A0 n0 c0 es0).P w0):
  Calls prog 70 #[.slice A0 n0 c0,.func (.func 71) #[] #[]] w0 fun e w'=>∃b:Bool,e=.returned (.bool b)/\(b=true↔Jf es0)/\Below w0.heap.size w0 w':=by
 refine gQ func70 I ntmps70 I fun σ=>?_
 have cQ:=h0.2.1
 have lu:=h0.1.cap
 have eN:=h0.1.big
 unfold maxLen at eN
 replace σ:=σ.aY h0
 refine eE I<|fk call110 (Vr σ.bW) I ?_
 rintro _ _ ⟨r9,rfl,hr9,hb⟩
 refine ⟨_,I,?_⟩
 replace σ:=σ.call hb
 exact xo I<|o1 results70 I<|⟨_,I,by rw [<- hr9]; simp,σ.below⟩
theorem Vs {k1 k2:Int} (h0:(jD A0 n0 c0 es0).P w0) (hn:n0<=9223372036854775807):
  Calls prog 39 #[aG k1,aG k2,.slice A0 n0 c0] w0 fun e w'=>∃(v:Value) (er:Int),e=.returned (.tuple #[v,aG er])/\((er=70/\¬rp k1 k2 es0)∨(er=71/\rp k1 k2 es0/\(¬((n0:Nat):Int)=k1+k2 - 1∨Jf es0∨wa es0))∨(er=0/\rp k1 k2 es0/\((n0:Nat):Int)=k1+k2 - 1/\lI es0))/\Below w0.heap.size w0 w':=by
 refine gQ func39 I ntmps39 I fun σ=>?_
 have cQ:=h0.2.1
 have lu:=h0.1.cap
 have eN:=h0.1.big
 unfold maxLen at eN
 replace σ:=σ.aY h0
 refine eE I<|gV call68 (Jg (k:=k1)) σ I fun _ σ=>wD (fun lC=>?_) fun lC=>?_
 ·refine eE I<|gV call68 (Jg (k:=k2)) σ I fun _ σ=>wD (fun mX=>?_) fun mX=>?_
  ·refine iF I I<|ks (fun mz l w=>∃j:Nat,n0 - j=mz/\l=[(23,aM j),(0,aG k1),(1,aG k2),(2,.slice A0 n0 c0),(21,.slice A0 n0 c0),(22,aM n0)]/\St w0 w [] [jD A0 n0 c0 es0]/\j<=n0/\(∀(x:Nat) (p:Pt),x<j->es0[x]?=some p->pU p)) ⟨0,I,I,σ,(av _),(fun _ _ h=>absurd h (dB _))⟩ aT ?_
   rintro _ _ _ ⟨j,rfl,rfl,σ,hj,rH⟩
   refine il I<|wD (fun oL=>?_) fun oL=>?_
   ·have fh:j<n0:=ae
    obtain ⟨⟨pa,pb⟩,eG⟩:∃e,es0[j]?=some e:=⟨_,ag ae⟩
    refine iT I I<|vE I (fun η=>aX (i:=j) η underlying22 (aO.size) I I ae I σ.bW.1)<|cE I (fun η=>cX (v:=#[aG pa,aG pb]) (i:=j) (e:=(pa,pb)) η aO I I iX σ.bW.1 ae eG I)<|eE I<|iR b6 σ I fun _ jY σ=>eE I<|fB 0 σ I fun _ σ=>gE 0 σ I<|eE I<|gV call69 (wb (pa:=pa) (pb:=pb)) σ I fun _ σ=>wD (fun sI=>?_) fun sI=>?_
    ·exact iF I I<|can (j:=1) I ae<|gI ⟨j+1,I,I,σ.pick [] [0] aB,ae,(Ir rH eG sI)⟩ aT ae
    ·exact iT I I<|o2 results39 I<|⟨_,_,I,.inl ⟨I,(fun q=>sI (q.2.2 _ (ah eG)))⟩,σ.below⟩
   ·have nz:∀p∈es0,pU p:=fun p hp=>by obtain ⟨x,hx⟩:=dO hp; exact rH x p (by have:=(aE.1 hx).1; omega) hx
    have hL:rp k1 k2 es0:=⟨by omega,by omega,nz⟩
    refine iF I I<|Tg I ae<|xq I ae<|lK I<|wN (fun wU=>?_) fun wU=>?_
    ·exact iT I I<|o2 results39 I<|⟨_,_,I,.inr (.inl ⟨I,hL,.inl ae⟩),σ.below⟩
    ·refine eE I<|fk call70 (Jh σ.bW) I ?_
     rintro _ _ ⟨b9,rfl,hb9,hb⟩
     refine ⟨_,I,?_⟩
     replace σ:=σ.call hb
     cases b9
     ·refine iF I I<|eE I<|fk call72 (Iq σ.bW nz) I ?_
      rintro _ _ ⟨x9,y9,t9,rfl,ht9,hb⟩
      refine ⟨_,I,?_⟩
      replace σ:=σ.call hb
      cases t9
      ·refine iF I I<|eE I<|fk call20 (tB σ.bW ae) I ?_
       rintro _ _ ⟨A57,KD,rfl,CD⟩
       refine ⟨_,I,?_⟩
       replace σ:=σ.more CD
       exact vE I (fun η=>eV (c:=#[aG k1,aG k2,.slice A57 n0 KD]) tm η I I)<|eE I<|ll σ I fun _ C9 σ=>o2 results39 I<|⟨_,_,I,.inr (.inr ⟨I,hL,by omega,aeu ⟨by omega,by omega⟩ (fun p hp=>⟨nz p hp,fun q=>by have:=hb9.2 ⟨p,hp,q⟩; cases this⟩) (fun q=>by have:=ht9.2 q; cases this)⟩),σ.below⟩
      ·exact iT I I<|o2 results39 I<|⟨_,_,I,.inr (.inl ⟨I,hL,.inr (.inr (ht9.1 I))⟩),σ.below⟩
     ·exact iT I I<|o2 results39 I<|⟨_,_,I,.inr (.inl ⟨I,hL,.inr (.inl (hb9.1 I))⟩),σ.below⟩
  ·exact iT I I<|o2 results39 I<|⟨_,_,I,.inl ⟨I,(fun q=>by have:=q.2.1; omega)⟩,σ.below⟩
 ·exact iT I I<|o2 results39 I<|⟨_,_,I,.inl ⟨I,(fun q=>by have:=q.1; omega)⟩,σ.below⟩
theorem LD (h00:n0=0):
  Calls prog 53 #[.slice A0 n0 c0,.slice A1 n1 c1] w0 fun e w'=>e=.returned (.tuple #[bM,aG 0])/\Below w0.heap.size w0 w':=by
 refine enter func53 I ntmps53 I ?_
 intro a η σ
 refine wp_seq (aI ?_)
 revert a
 refine aA I I ?_
 refine aA I I ?_
 intro a η
 refine wpList_nil (b5 (wp_seq (wp_seq (aI ?_))))
 revert a
 refine mA I I ?_
 refine sA I (fun _ η=>ky η underlying43 I) ?_
 refine sA I (fun _ η=>cV η I I I) ?_
 intro a η
 rw [show (((n0:Nat):Int)==(0:Int))=true from (eA.2 ae)] at η
 revert a
 refine mA I I ?_
 refine kA I I I I I ?_
 refine kA I I I I I ?_
 refine kA I I I I I ?_
 refine sA I (fun _ η=>lU η I I) ?_
 intro a η
 refine wpList_nil (b5 ?_)
 refine GY η I (I) ?_
 refine wp_seq (aI ?_)
 revert a
 refine aA I I ?_
 refine aA I I ?_
 intro a η
 refine wpList_nil (b5 (wp_ret (nN ?_)))
 refine leave η (lk results53 (RV.tmp η I) (RV.tmp η I)) ?_
 exact ⟨I,σ.below⟩
theorem LG (h00:0<n0) (h01:n1=0):
  Calls prog 53 #[.slice A0 n0 c0,.slice A1 n1 c1] w0 fun e w'=>e=.returned (.tuple #[bM,aG 0])/\Below w0.heap.size w0 w':=by
 refine enter func53 I ntmps53 I ?_
 intro a η σ
 refine wp_seq (aI ?_)
 revert a
 refine aA I I ?_
 refine aA I I ?_
 intro a η
 refine wpList_nil (b5 (wp_seq (wp_seq (aI ?_))))
 revert a
 refine mA I I ?_
 refine sA I (fun _ η=>ky η underlying43 I) ?_
 refine sA I (fun _ η=>cV η I I I) ?_
 intro a η
 rw [show (((n0:Nat):Int)==(0:Int))=false from (du.2 ae)] at η
 revert a
 refine mA I I ?_
 refine gA I I I I (fun _ η=>ff η I) ?_
 refine gA I I I I (fun _ η=>ky η underlying43 I) ?_
 refine gA I I I I (fun _ η=>cV η I I I) ?_
 intro a η
 rw [show (((n1:Nat):Int)==(0:Int))=true from (eA.2 ae)] at η
 refine sv η I (lU η I I) ?_
 clear η a; intro a η
 refine wpList_nil (b5 ?_)
 refine GY η I (I) ?_
 refine wp_seq (aI ?_)
 revert a
 refine aA I I ?_
 refine aA I I ?_
 intro a η
 refine wpList_nil (b5 (wp_ret (nN ?_)))
 refine leave η (lk results53 (RV.tmp η I) (RV.tmp η I)) ?_
 exact ⟨I,σ.below⟩
theorem PY {B:Nat} {w:World} (hn:n=0) (hz:zs=[]):tP B w bM n zs:=by
 subst hn hz
 exact ⟨none,0,[],I,⟨⟨World.ownsRow_nil w 0 _ 2,fun g hg=>by simp [Value.ownBlock] at hg⟩,J3 FN w,fun a h=>by cases h⟩,rfl,rfl⟩
theorem afV {es0 es1:List NE} (h0:(bH fN FN 2 A0 n0 c0 es0).P w0) (mZ:es0.map zz=xs) (h1:(bH fN FN 2 A1 n1 c1 es1).P w0) (po:es1.map zz=ys) (JY:Zk 1000 xs) (zL:Zk 1000 ys) (pJ:n0<=300) (Wp:n1<=300):
  Calls prog 53 #[.slice A0 n0 c0,.slice A1 n1 c1] w0 fun e w'=>∃v,e=.returned (.tuple #[v,aM (n0*n1)])/\tP w0.heap.size w' v (ni xs ys).length (ni xs ys)/\Below w0.heap.size w0 w':=by
 have WU:xs.length=n0:=by rw [<- mZ,aw]; exact h0.2.1
 have Wa:ys.length=n1:=by rw [<- po,aw]; exact h1.2.1
 by_cases h:n0=0∨n1=0
 ·have hc:Calls prog 53 #[.slice A0 n0 c0,.slice A1 n1 c1] w0 fun e w'=>e=.returned (.tuple #[bM,aG 0])/\Below w0.heap.size w0 w':=by
   rcases bu n0 with q | q
   ·exact LD q
   ·exact LG q ae
  refine hc.mono fun e w' ⟨he,hb⟩=>⟨bM,?_,?_,hb⟩
  ·rw [he,show n0*n1=0 from Nat.mul_eq_zero.2 h]; rfl
  ·rw [show ni xs ys=[] by rw [ni,WU,Wa,au h]]
   exact PY I I
 ·refine (aii h0 mZ h1 po JY zL ae ae pJ Wp).mono fun e w' ⟨v,he,⟨A,c,es,hv,hr,hl,hz⟩,hb⟩=>⟨v,he,?_,hb⟩
  have heq:Qk xs ys (n0+n1 - 1) n0=ni xs ys:=by rw [ni,WU,Wa,ak h]
  have hle:n0+n1 - 1=(ni xs ys).length:=by rw [<- heq,tk]
  exact ⟨A,c,es,hle ▸ hv,hle ▸ hr,hl.trans hle,hz.trans heq⟩
theorem Jn (hk:2<=k):SV a k<=(a+1) / 2:=by
 unfold SV
 have h1:a<=2*((a+1) / 2):=ae
 have h2:2*((a+1) / 2)<=k*((a+1) / 2):=bB _ hk
 have h3:(a+k - 1) / k<(a+1) / 2+1:=by
  rw [ia ae,cG,cO]
  omega
 omega
theorem VL (h1:1<=k1) (h2:1<=k2) (hE:EP a a k1 k2 t):mU a a k1 k2<=(a+1) / 2:=by
 have h:=hE.2
 unfold mU at*
 have a1:2<=k1:=by
  refine jl fun q=>?_
  obtain rfl:k1=1:=ae
  rw [MV] at h; omega
 have a2:2<=k2:=by
  refine jl fun q=>?_
  obtain rfl:k2=1:=ae
  rw [MV] at h; omega
 have b1:=Jn (a:=a) a1
 have b2:=Jn (a:=a) a2
 omega
theorem afX (hE:EP a b k1 k2 t):2<=a/\2<=b:=by
 have:=hE.1
 omega
theorem Z9 {st:Nat} (h1:1<=k1) (h2:1<=k2) (hn:n<=15):∀j a,a<=2 ^ j->(mY k1 k2 n st t a a).1<=16 ^ j/\(mY k1 k2 n st t a a).2.1+1<=16 ^ j/\(mY k1 k2 n st t a a).2.2.1<=16 ^ j/\(mY k1 k2 n st t a a).2.2.2<=st*16 ^ j:=by
 intro j
 have Bs:∀j a,a<=2 ^ j->¬EP a a k1 k2 t->(mY k1 k2 n st t a a).1<=16 ^ j/\(mY k1 k2 n st t a a).2.1+1<=16 ^ j/\(mY k1 k2 n st t a a).2.2.1<=16 ^ j/\(mY k1 k2 n st t a a).2.2.2<=st*16 ^ j:=fun j a ha hE=>by
  rw [FZ hE]
  refine ⟨av _,eL aB,?_,av _⟩
  refine aD (bR ha ha) ?_
  rw [<- Nat.mul_pow]
  exact Nat.pow_le_pow_left aB j
 induction j with
 | zero=>exact fun a ha=>Bs 0 a ha fun hE=>by have:=(afX hE).1; omega
 | succ j ih=>
  intro a ha
  by_cases hE:EP a a k1 k2 t
  ·have hb:=VL h1 h2 hE
   have hm:mU a a k1 k2<=2 ^ j:=by rw [cT] at ha; omega
   obtain ⟨q1,q2,q3,q4⟩:=ih _ hm
   rw [I8 hE]
   have hp:1<=16 ^ j:=eL aB
   have r1:=bR hn q1
   have r2:=bR hn q2
   have r3:=bR hn q3
   have r4:=bR hn q4
   rw [bK,gH] at r2
   have e4:15*(st*16 ^ j)+st<=st*16 ^ (j+1):=by
    have h8:=bT st hp
    have h9:=cN st (16 ^ j) 16
    rw [cT]
    omega
   rw [cT] at*
   dsimp only
   refine ⟨by omega,by omega,by omega,by omega⟩
  ·exact Bs _ a ha hE
theorem VM {st:Nat} (h1:1<=k1) (h2:1<=k2) (hn:n<=15) (hs:st<=65536) (ha:a<=64) (hb:b<=64):(mY k1 k2 n st t a b).1<=2 ^ 28/\(mY k1 k2 n st t a b).2.1<=2 ^ 28/\(mY k1 k2 n st t a b).2.2.1<=2 ^ 28/\(mY k1 k2 n st t a b).2.2.2<=2 ^ 44:=by
 by_cases hE:EP a b k1 k2 t
 ·have hm:mU a b k1 k2<=2 ^ 6:=by have:=hE.2; omega
  obtain ⟨q1,q2,q3,q4⟩:=Z9 (t:=t) h1 h2 hn 6 _ hm
  rw [I8 hE]
  have r1:=bR hn q1
  have r2:=bR hn q2
  have r3:=bR hn q3
  have r4:=bR hn (aD q4 (bB _ hs))
  rw [bK,gH] at r2
  dsimp only
  refine ⟨by omega,by omega,by omega,by omega⟩
 ·rw [FZ hE]
  have:=bR ha hb
  dsimp only
  refine ⟨by omega,by omega,by omega,by omega⟩
def lvD (k1 k2 n1 n2:Nat):Nat->Nat×Nat
 | 0=>(n1,n2)
 | i+1=>(mU (lvD k1 k2 n1 n2 i).1 (lvD k1 k2 n1 n2 i).2 k1 k2,mU (lvD k1 k2 n1 n2 i).1 (lvD k1 k2 n1 n2 i).2 k1 k2)
def lvG (k1 k2 n1 n2:Nat) (t:Int) (i:Nat):Prop:=EP (lvD k1 k2 n1 n2 i).1 (lvD k1 k2 n1 n2 i).2 k1 k2 t
end Go.Proofs.YtgopcdagnicekaaGreatDoor.W
