/- Operations over naturals and strings, one rule each. Over any program. No condition. -/
import Derived.Test.YtgopcdagnicekaaGreatDoorM1
import Derived.Test.YtgopcdagnicekaaGreatDoorM12
import Derived.Test.YtgopcdagnicekaaGreatDoorM25
import Derived.Test.YtgopcdagnicekaaGreatDoorM26
import Derived.Test.YtgopcdagnicekaaGreatDoorM28
import Derived.Laws.Strings2
import Derived.Laws.Cover3
import Derived.Laws.StructEq
import Derived.RangeFuncNested
import Derived.RangeFuncBound
import Derived.RangeFuncCalls
import Derived.RangeFuncLeaves
import Derived.Deep.LoopGhost
import Derived.Test.YtgopcdagnicekaaGreatDoorM20

set_option linter.unusedVariables false
set_option linter.unusedSimpArgs false
set_option linter.all false
namespace Go.Proofs.YtgopcdagnicekaaGreatDoor.W
open Go.RowKit Anv Go.Lib
theorem Fe (t c:Nat):((t:Nat):Int).tdiv ((c:Nat):Int)=((t / c:Nat):Int):=rfl
theorem U8 {t c:Nat} (h:t<9223372036854775808):IntKind.i64.wrap (((t:Nat):Int).tdiv ((c:Nat):Int))=((t / c:Nat):Int):=by
 rw [Fe]
 have:=yI t c
 generalize t / c=q at*
 exact IntWalk.i64_in _ ae
theorem Km {s:Nat} (h:s<=64):s<=IntKind.u64.bits:=h
section
variable {P:Program} {N:Nat} {dq:List Deferred} {a:Act} {l:List (Nat×Value)} {w:World} {d:Nat} {ty:TypeId} {pos:String} {af:Array Edge} {gd:Option (Nat×Bool)}
end
def ints (l:List Int):Array Value:=(l.map (Value.int .i64)).toArray
def Ko (P:Program):List Field->Nat->Bool
 | [],_=>true
 | f::fs,o=>f.name != "_" && f.offset==o && (match P.underlying f.type with | some (.int .i64)=>true | _=>false) && ((P.info? f.type).map (·.size)==some 1) && Ko P fs (o+1)
theorem Fj {P:Program} {w:World} {t o:Nat} {A:List Int} {z:Int} (h:jx P t) (ho:A[o]?=some z):(part t (ints A) o).run P w=.ok (.int .i64 z) w:=by
 have:(ints A)[o]?=some (.int .i64 z):=by simp [ints,ho]
 simp [part,Sem.run_bind,h.agg,this]
theorem nO {P:Program} (w:World) (d:Nat) (A B:List Int) (hAB:A.length=B.length):∀(fs:List Field) (o:Nat),A.length=o+fs.length->Ko P fs o=true->
  (Op.eqFields (d+1) (ints A) (ints B) fs).run P w=.ok (decide (A.drop o=B.drop o)) w
 | [],o,hl,_=>by
  have h1:A.drop o=[]:=dM (by simp at hl; omega)
  have h2:B.drop o=[]:=dM (by simp at hl; omega)
  simp [Op.eqFields,h1,h2]
 | f::fs,o,hl,hf=>by
  simp only [dy] at hl
  have Df:=hf
  unfold Ko at Df
  simp only [fB,bne_iff_ne,uh] at Df
  obtain ⟨⟨⟨⟨h1,h2⟩,h3⟩,h4⟩,h5⟩:=Df
  have hu:P.underlying f.type=some (.int .i64):=by
   revert h3
   split
   ·intro _; assumption
   ·intro h; cases h
  have ht:jx P f.type:=⟨⟨_,hu,rfl⟩,h4⟩
  have Dl:o<A.length:=ae
  have hoB:o<B.length:=ae
  have ih:=nO w d A B hAB fs (o+1) ae h5
  simp only [Op.eqFields,aR h1,Sem.run_bind,h2,Fj ht (aw Dl),Fj ht (aw hoB),Result.andThen_ok,run_equalIn_int w d f.type .i64 .i64 _ _ hu]
  rw [gW Dl,gW hoB]
  by_cases e:A[o]=B[o]
  ·simp only [e,beq_self_eq_true,Bool.not_true,Bool.false_eq_true,if_false,ih,pf,true_and]
  ·have e':(A[o]==B[o])=false:=by simpa using e
   simp only [e',Bool.not_false,if_true,Sem.run_pure]
   rw [bR (fun h=>e (List.cons.inj h).1)]
section
variable {P:Program} {N:Nat} {dq:List Deferred} {a:Act} {l:List (Nat×Value)} {w:World} {d:Nat} {ty:TypeId} {pos:String} {af:Array Edge} {gd:Option (Nat×Bool)}
structure Fk (P:Program) (T n:Nat):Prop where
 hg:P.eqGuardType P.depth T=false
 hT:P.underlying T=some (.struct (P.fieldsOf T))
 hp:P.stoodInHeld T=false
 hF:Ko P (P.fieldsOf T).toList 0=true
 hn:(P.fieldsOf T).toList.length=n
theorem re {T n:Nat} (hI:Fk P T n) (w:World) (A B:List Int) (hA:A.length=n) (hB:B.length=n):(Op.equalIn 10000 T (.agg (ints A)) (.agg (ints B))).run P w=.ok (decide (A=B)) w:=by
 rw [run_equalIn_agg w 9999 T _ _ hI.hT hI.hp,nO w 9998 A B ae _ 0 (by rw [hA,hI.hn]; omega) hI.hF]
 rfl
theorem Dm {x y:Operand} {T yt n:Nat} (A B:List Int) (h:aW dq N a l) (hI:Fk P T n) (hx:bV l x=some (.agg (ints A))) (hy:bV l y=some (.agg (ints B))) (hA:A.length=n) (hB:B.length=n):
  (execOp a.eval ⟨some d,.binOp .eql T x y yt,ty,pos,af,gd⟩).run P w=.ok (.value (.bool (decide (A=B)))) w:=by
 refine bg h hx hy ?_
 simp only [Sem.run_bind,run_eqGuard_agg w .eql T x y _ _ hI.hg,Result.andThen_ok,run_eql_struct,re hI w A B hA hB]
theorem U9 {x y:Operand} {T yt n:Nat} (A B:List Int) (h:aW dq N a l) (hI:Fk P T n) (hx:bV l x=some (.agg (ints A))) (hy:bV l y=some (.agg (ints B))) (hA:A.length=n) (hB:B.length=n):
  (execOp a.eval ⟨some d,.binOp .neq T x y yt,ty,pos,af,gd⟩).run P w=.ok (.value (.bool (!decide (A=B)))) w:=by
 refine bg h hx hy ?_
 simp only [Sem.run_bind,run_eqGuard_agg w .neq T x y _ _ hI.hg,Result.andThen_ok,run_neq_struct,re hI w A B hA hB]
end
def WF (ro:Option Nat):Fence:={ Fence.wide with round:=ro }
section
variable {P:Program} {ro:Option Nat} {m:Nat} {K:Act->World->Prop} {Q:Exit->Act->World->Prop} {R:Ending->World->Prop} {N:Nat} {dq:List Deferred} {a:Act} {l:List (Nat×Value)} {w w0:World} {own ps:List PF}
variable {d:Nat} {ty:TypeId} {pos:String} {af:Array Edge} {gd:Option (Nat×Bool)} {ops:Array Oper} {rest:List Oper} {o:Oper} {fn:Func} {c x y:Code}
theorem pE {f:FuncId} {args:Array Value} (h:Calls P f args w R):CallsIn (WF ro) m P f args w R:=(callsIn_wide).2 h
theorem MU {row:String} {args:Array Value} {R:Value->World->Prop} (h:Rows P row args w R):RowsIn (WF ro) m P row args w R:=fun c cs _=>
 let ⟨v,w',r,s⟩:=h c cs
 ⟨v,w',r,stepsIn_wide.2 s⟩
theorem xQ (rR:∀c,o.op≠.defer c) (h:Oper.wp P o a w K Q):Oper.wpIn (WF ro) m P o a w K Q:=by
 refine ⟨fun _ _=>trivial,?_⟩
 rw [Oper.semAt_eq _ _ _ rR]
 unfold Oper.wp at h
 revert h
 generalize (execOp a.eval o).run P w=r
 intro h
 match r,h with
 | .ok (.value v) w',h=>exact h
 | .ok .skip w',h=>exact h
 | .ok (.defer d) w',h=>exact h
 | .ok (.enter f args) w',h=>exact ⟨fun hd=>(by cases hd),pE h⟩
 | .ok (.row row args) w',h=>exact ⟨fun hd=>(by cases hd),MU h⟩
 | .halt (.panic v) w',h=>exact h
theorem gh (hg:o.guard=none) (rR:∀c,o.op≠.defer c) (h:o.wp P a w (wpListIn (WF ro) m P ops Q rest) Q):wpListIn (WF ro) m P ops Q (o::rest) a w:=by
 unfold wpListIn
 rw [aR (by simp [Region.wanted,hg])]
 exact xQ rR h
theorem za (hg:o.guard=none) (h:o.wpIn (WF ro) m P a w (wpListIn (WF ro) m P ops Q rest) Q):wpListIn (WF ro) m P ops Q (o::rest) a w:=by
 unfold wpListIn
 rw [aR (by simp [Region.wanted,hg])]
 exact h
theorem U' {g t:Nat} {b:Bool} {u:Value} {op:Op} {og:Oper} (hg:ops[g]?=some og) (h:aW dq N a l) (xu:og.dst=some t) (xN:look l t=some u) (hd:Nat.blt d N=true) (yY:Yz u b=false)
  (hK:∀a',aW dq N a' ((d,undef)::l)->wpListIn (WF ro) m P ops Q rest a' w):wpListIn (WF ro) m P ops Q (⟨some d,op,ty,pos,af,some (g,b)⟩::rest) a w:=by
 unfold wpListIn
 rw [aQ (by rw [po hg h xu xN yY]; decide)]
 exact ⟨fun _ _=>trivial,hK _ (h.put hd undef)⟩
theorem afw {g t:Nat} {b:Bool} {op:Op} {og:Oper} {dd:Option Nat} (hg:ops[g]?=some og) (h:aW dq N a l) (xu:og.dst=some t) (xN:look l t=some (.bool b)) (rR:∀c,op≠.defer c)
  (hK:Oper.wp P ⟨dd,op,ty,pos,af,some (g,b)⟩ a w (wpListIn (WF ro) m P ops Q rest) Q):wpListIn (WF ro) m P ops Q (⟨dd,op,ty,pos,af,some (g,b)⟩::rest) a w:=by
 have hy:yielded ops a.tmps g=some b:=by
  have he:=h.at xN
  simp only [yielded,hg,CW,xu]
  rw [jf] at he
  cases ht:a.tmps[t]? with
  | none=>rw [ht] at he; simp [undef] at he
  | some x=>rw [ht] at he; simp at he; subst he; rfl
 unfold wpListIn
 rw [aR (by simp [Region.wanted,hy])]
 exact xQ rR hK
theorem vS (h:Q .normal a w):wpListIn (WF ro) m P ops Q [] a w:=h
theorem rS {id:Nat} {ops:List Oper} (h:wpListIn (WF ro) m P ops.toArray Q ops a w):(Code.region id ops.toArray false).wpIn (WF ro) m P Q a w:=wpIn_region_lit h
theorem Pz {id:Nat} {ops:List Oper} (m:Nat) (h:wpListIn (WF none) m P ops.toArray Q ops a w):(Code.region id ops.toArray false).wp P Q a w:=(wpIn_wide).1 (wpIn_region_lit h)
theorem Ik {z:Operand} {b:Bool} (h:aW dq N a l) (hz:bV l z=some (.bool b)) (ht:b=true->x.wpIn (WF ro) m P Q a w) (hf:b=false->y.wpIn (WF ro) m P Q a w):(Code.cond z x y).wpIn (WF ro) m P Q a w:=wpIn_cond_split (h.ev hz) ht hf
theorem PA {z:Operand} {b:Bool} (h:aW dq N a l) (hz:bV l z=some (.bool b)) (hb:b=true) (ht:x.wpIn (WF ro) m P Q a w):(Code.cond z x y).wpIn (WF ro) m P Q a w:=wpIn_cond_true (hb ▸ h.ev hz) ht
theorem PB {z:Operand} {b:Bool} (h:aW dq N a l) (hz:bV l z=some (.bool b)) (hb:b=false) (ht:y.wpIn (WF ro) m P Q a w):(Code.cond z x y).wpIn (WF ro) m P Q a w:=wpIn_cond_false (hb ▸ h.ev hz) ht
theorem Dn (I:Nat->Act->World->Prop) (n₀:Nat) (h₀:I n₀ a w)
  (round:∀n a w,I n a w->c.wpIn (WF ro) m P (Exit.then (fun a' w'=>∃n',n'<n/\I n' a' w') Q) a w):(Code.loop c).wpIn (WF ro) m P Q a w:=by
 refine wpIn_loop (fun a w=>∃n,I n a w) (fun a w=>leastOf (fun n=>I n a w)) ⟨n₀,h₀⟩ ?_
 intro a w hI
 refine wpIn_mono (round _ a w (leastOf_spec hI).1) ?_
 intro e a' w' hq
 cases e with
 | normal=>
  obtain ⟨n',cD,hI'⟩:=hq
  exact show (∃n,I n a' w')/\leastOf (fun n=>I n a' w')<leastOf (fun n=>I n a w) from ⟨⟨n',hI'⟩,qf ((leastOf_spec ⟨n',hI'⟩).2 n' hI') cD⟩
 | exit id=>exact hq
 | goto l=>exact hq
 | ret=>exact hq
 | panic ch=>exact hq
 | outgrown=>exact hq
theorem uF (h:aW dq N a l) {p:Nat} (v:Value) (hp:Nat.blt p N=true):aW [] N { tmps:=a.tmps.setIfInBounds p v,defers:=[] } ((p,v)::l):=by
 have:=h.put hp v
 exact ⟨this.size,rfl,this.get⟩
theorem rh (h:aW dq N a l) (d:Deferred):aW (d::dq) N { a with defers:=d::a.defers } l:=⟨h.size,by rw [<- h.defers],h.get⟩
def tD (e:PF):Prop:=∀(w:World) (b:Nat),e.P w->e.di b->∃o,w.heap[b]?=some o/\o.isCells=true
def lC:List PF->Prop
 | []=>True
 | e::l=>tD e/\lC l
theorem lC.at:∀{l:List PF},lC l->∀e∈l,tD e
 | e::l,h,f,hf=>by
  rcases dW.1 hf with rfl | hf
  ·exact h.1
  ·exact lC.at h.2 f hf
theorem bI {g:Nat} {c:Array Value} {t:TypeId}:tD (bk g c t):=fun w b h hf=>by
 obtain rfl:b=g:=hf
 exact ⟨_,h,rfl⟩
theorem aam {E z n:Nat} {v:Value} {vs:List Value}:tD (afh E z v n vs):=fun w b h hf=>by
 have Df:v.ownBlock=some b:=hf
 rcases h.2 with hn | ⟨g,cap,cur,rfl,h0,hg,rest⟩
 ·rw [hn.1] at Df; simp [Value.ownBlock] at Df
 ·obtain rfl:g=b:=by simpa [Value.ownBlock] using Df
  exact ⟨_,hg,rfl⟩
theorem dC {B:Nat} {e:PF} (he:tD e) {W W':World} {row:Option Nat} (hs:e.P W) (hg:W.grownBy W' row) (hr:∀r,row=some r->B<=r/\∃o:Obj,W.heap[r]?=some o/\o.isCells=false):e.P W':=
 e.oC hs hg.size fun b hb=>hg.block b (e.lt hs hb) fun h=>by
  obtain ⟨_,o,ho,hc⟩:=hr b h.symm
  obtain ⟨o',MV,hc'⟩:=he W b hs hb
  rw [ho] at MV
  cases MV
  rw [hc] at hc'
  cases hc'
theorem St.grown {B:Nat} {W W':World} {row:Option Nat} (h:St w0 W own ps) (hB:w0.heap.size<=B) (hc:lC own) (hp:lC ps) (hg:W.grownBy W' row) (hr:∀r,row=some r->B<=r/\∃o:Obj,W.heap[r]?=some o/\o.isCells=false):St w0 W' own ps:=
 ⟨⟨hg.os.trans h.below.os,hg.tape.trans h.below.tape,hg.output.trans h.below.output,bq h.below.size hg.size,fun i hi=>(hg.block i (gw hi h.below.size) fun e=>by
   have:=(hr i e.symm).1
   omega).trans (h.below.block i hi)⟩,
  fun e he=>dC (hc.at e he) (h.mine e he) hg hr,h.new,h.nd,fun p hp'=>dC (hp.at p hp') (h.pers p hp') hg hr,h.apart⟩
def koF (W:World):PF:=
 ⟨fun w=>W.heap.size<=w.heap.size/\∀(b:Nat) (o:Obj),W.heap[b]?=some o->o.isCells=false->w.heap[b]?=some o,fun b=>∃o:Obj,W.heap[b]?=some o/\o.isCells=false,
  fun h hb=>by
   obtain ⟨o,ho,hc⟩:=hb
   exact lt_of_block (h.2 _ o ho hc),
  fun h hs hk=>⟨bq h.1 hs,fun b o hb ho=>(hk b ⟨o,hb,ho⟩).trans (h.2 b o hb ho)⟩⟩
theorem St.YI (h:St w0 w own ps) (hc:lC own):St w0 w own (koF w::ps):=
 h.iB (koF w) ⟨aY _,fun _ _ h _=>h⟩ fun e he b hb hk=>by
  obtain ⟨o,ho,Of⟩:=hk
  obtain ⟨o',MV,hc'⟩:=hc.at e he w b (h.mine e he) hb
  rw [ho] at MV
  cases MV
  rw [Of] at hc'
  cases hc'
theorem St.ko {W:World} {k:Nat} (h:St w0 w own ps) (hk:ps[k]?=some (koF W)) (B:Nat):KeepsFrom B W w:=
 have h1:(koF W).P w:=h.pat hk
 ⟨h1.1,fun b o _ hb ho=>h1.2 b o hb ho⟩
def aao (D:Nat):PF:=
 ⟨fun w=>w.heap[D]?=some (.deferred (some [])),fun b=>b=D,fun h e=>e ▸ lt_of_block h,fun h _ hk=>(hk D rfl).trans h⟩
theorem St.Va {D:Nat} (h:St w0 w own ps) (hc:lC own) (hD:w.heap[D]?=some (.deferred (some []))):St w0 w own (aao D::ps):=
 h.iB (aao D) hD fun e he b hb hk=>by
  obtain rfl:b=D:=hk
  obtain ⟨o',MV,hc'⟩:=hc.at e he w b (h.mine e he) hb
  rw [hD] at MV
  cases MV
  cases hc'
theorem St.Vb {D k:Nat} (h:St w0 w own ps) (hk:ps[k]?=some (aao D)) (hD:w0.heap.size<=D) (hc:lC own) (hp:lC (ps.eraseIdx k)):St w0 (w.putObj D (.deferred none)) own (ps.eraseIdx k):=by
 have hd:w.heap[D]?=some (.deferred (some [])):=h.pat hk
 have h':St w0 w own (ps.eraseIdx k):=⟨h.below,h.mine,h.new,h.nd,fun p hp=>h.pers p ((yG ps k).subset hp),fun p hp=>h.apart p ((yG ps k).subset hp)⟩
 exact h'.grown hD hc hp (grownBy_putObj' w D _) fun r e=>by
  cases e
  exact ⟨aY _,_,hd,rfl⟩
theorem PC {f:FuncId} {args:Array Value} (hf:P.funcs[f]?=some fn) (hb:fn.body=some c) (hn:fn.ntmps=N) (hz:Nat.ble args.size N=true)
  (h:∀a,Env N a (T4 0 args.toList)->St w w [] []->c.wp P (bodyPostM Fence.wide 9 P fn R) a w):Calls P f args w R:=by
 refine (callsIn_wide).1 (callsIn_of_wp_marks hf hb trivial ((wpIn_wide).2 (h _ ⟨?_,rfl,fun t v hv=>?_⟩ (St.start w))))
 ·have:=kZ hz
  simp; omega
 ·have:=(y5 _ _ _ _ hv).2
  have cD:t<args.size:=by
   rcases dr t args.size with h | h
   ·exact h
   ·rw [Nat.sub_zero,dz (by simpa using h)] at this; cases this
  rw [jf,Array.getElem?_append_left cD]
  simp at this
  simp [this]
theorem rT {v:Value} {D:Nat} (h:aW [{ target:=.collected D,args:=#[] }] N a l) (hD:w.heap[D]?=some (.deferred (some []))) (hr:(results fn a.tmps).run P (w.putObj D (.deferred none))=.ok v (w.putObj D (.deferred none)))
  (hR:R (.returned v) (w.putObj D (.deferred none))):bodyPostM Fence.wide 9 P fn R .ret a w:=by
 show LeavesInM _ _ _ _ _ _ a.defers _ _
 rw [h.defers]
 exact ⟨by simp,.inl ⟨_,_,rfl,run_takeDeferred hD,v,hr,hR⟩⟩
end
def zd (q:Value->Bool) (w:World) (E:TypeId) (v:Value):Prop:=∀g,v.ownBlock=some g->∃cur,w.heap[g]?=some (.cells cur E (0,0))/\cur.toList.all q=true
def tE (q:Value->Bool) (E z:Nat) (v:Value) (n:Nat) (vs:List Value):PF:=
 ⟨fun w=>w.ownsRow 0 E z v n vs/\zd q w E v,fun b=>v.ownBlock=some b,fun h hb=>(h.1.lt _ hb).2,fun {w w'} h hs hk=>by
  refine ⟨(afh E z v n vs).oC h.1 hs hk,fun g hg=>?_⟩
  obtain ⟨cur,hc,hq⟩:=h.2 g hg
  exact ⟨cur,(hk g hg).trans hc,hq⟩⟩
theorem fc {q:Value->Bool} {E z n:Nat} {v:Value} {vs:List Value}:tD (tE q E z v n vs):=fun w b h hf=>aam w b h.1 hf
theorem PD {E z n:Nat} {v:Value} {vs:List Value}:YD (tE ar E z v n vs):=by
 intro w b o i hP hf hc
 obtain ⟨cur,hg,hq⟩:=hP.2 b hf
 rw [cell_of_row w _ _ _ _ _ hg] at hc
 have h2:=dP.1 hq _ (Array.mem_toList_iff.2 (yF hc))
 simp [ar] at h2
section
variable {P:Program} {K:Act->World->Prop} {Q:Exit->Act->World->Prop} {N:Nat} {dq:List Deferred} {a:Act} {l:List (Nat×Value)} {w w0:World} {own ps:List PF}
variable {d:Nat} {ty:TypeId} {pos:String} {af:Array Edge} {gd:Option (Nat×Bool)}
theorem St.Vc (h:St w0 w own ps) (q:Value->Bool) (E z:Nat):St w0 w (tE q E z bA 0 []::own) ps:=
 h.UU _ ⟨World.ownsRow_nil w 0 E z,fun g hg=>by simp [Value.ownBlock] at hg⟩ fun b hb=>by simp [tE,Value.ownBlock] at hb
theorem sR {q:Value->Bool} {c:Array Value} (h:c.toList.all q=true) (k:Nat):(Builtin.zeroCells c k).toList.all q=true:=by
 refine dP.2 fun u hu=>?_
 unfold Builtin.zeroCells at hu
 rw [qg] at hu
 obtain ⟨i,hi,rfl⟩:=ff.1 hu
 have hi:i<k*c.size:=by simpa using hi
 have hc:i%c.size<c.size:=kx _ (Nat.pos_of_ne_zero fun h=>by rw [h] at hi; omega)
 rw [getElem!_pos c _ hc]
 exact dP.1 h _ (Array.mem_toList_iff.2 (Array.getElem_mem hc))
theorem uG (q:Value->Bool) {t ty e:TypeId} {i:TypeInfo} {z:Value} (ht:P.underlying t=some (.slice e)) (hi:P.info? e=some i) (hz:i.zero=some z)
  {v:Value} {n:Nat} {xs:List Value} (Fg:w.ownsRow 0 e i.size v n xs) (hq:zd q w e v) {ad:Addr} {m c:Nat} {news:List Value} (hl:news.length=m*i.size) (PG:∀j u,news[j]?=some u->w.cell? (ad.add j)=some u) (h1:∀u∈news,u.oneCell'=true)
  (Vd:news.all q=true) (Ve:z.cells.toList.all q=true) (hm:0<m) (C9:n+m<=maxLen) (vH:(n+m)*i.bytes<=140737488355328):
  ∃v' w',(Builtin.append_ #[t,t] ty #[v,.slice (some ad) m c]).run P w=.ok v' w'/\zd q w' e v':=by
 have akN:n+m<=9223372036854775807:=by simp only [maxLen] at C9; omega
 rcases Fg.2 with ⟨rfl,rfl⟩ | ⟨g,cap,cur,rfl,_,hg,EF,_,ia,afy⟩
 ·refine ⟨_,_,run_append_nil w t ty e i z ht hi hz ad m c news hl PG hm ae (by simp only [fz] at vH; omega),fun g hg=>?_⟩
  obtain rfl:w.heap.size=g:=by simpa [Value.ownBlock] using hg
  exact ⟨_,heap_alloc_new w.drew _,by rw [Array.toList_append,ET,Vd,Bool.true_and]; exact sR Ve _⟩
 ·obtain ⟨Vf,sS,Bo⟩:=hq g rfl
  rw [hg] at sS
  cases sS
  have hxq:xs.all q=true:=by
   rw [<- afy]
   exact dP.2 fun u hu=>dP.1 Bo u (lI hu)
  by_cases YJ:n+m<=cap
  ·have akO:n*i.size+news.length<=cur.size:=by rw [hl,ia,<- EV]; exact eh _ YJ
   refine ⟨_,_,run_append_room w t ty e i ht hi g n cap cur hg ad m c news hl PG h1 YJ akO,fun g' sS=>?_⟩
   obtain rfl:g=g':=by simpa [Value.ownBlock] using sS
   refine ⟨_,setRow_heap w g cur _ e _ hg,dP.2 fun u hu=>?_⟩
   simp only [b6] at hu
   rcases hu with (hu | hu) | hu
   ·exact dP.1 Bo u (lI hu)
   ·exact dP.1 Vd u hu
   ·exact dP.1 Bo u (kj hu)
  ·have holds:∀j u,xs[j]?=some u->w.cell? ((⟨g,0,none⟩:Addr).add j)=some u:=Fg.cells rfl
   refine ⟨_,_,run_append_grow w t ty e i z ht hi hz ⟨g,0,none⟩ n cap xs Fg.1 holds ad m c news hl PG ae ae (growslice_fits ae vH),fun g' sS=>?_⟩
   obtain rfl:w.heap.size=g':=by simpa [Value.ownBlock] using sS
   refine ⟨_,heap_alloc_new w.drew _,?_⟩
   simp only [Array.toList_append,ET,Vd,hxq,Bool.true_and]
   exact sR Ve _
theorem Il {q:Value->Bool} {t E n z bytes k j g m c:Nat} {x y:Operand} {v zv:Value} {vs:List Value} {cs:Array Value} {E':TypeId} (h:aW dq N a l) (hs:St w0 w own ps) (hd:Nat.blt d N=true) (hT:P.underlying t=some (.slice E))
  (hi:(P.info? E).map (fun i=>(i.zero,i.size,i.bytes))=some (some zv,z,bytes)) (Vg:zv.cells.size=z) (jF:Nat.blt 0 z=true) (hx:bV l x=some v) (hy:bV l y=some (.slice (bh g) m c))
  (hk:own[k]?=some (tE q E z v n vs)) (hj:own[j]?=some (bk g cs E')) (hm:cs.size=m*z) (h1:cs.toList.all (·.oneCell')=true) (Bo:cs.toList.all q=true) (Ve:zv.cells.toList.all q=true) (Bn:Nat.blt 0 m=true) (hn:n+m<=maxLen) (hb:(n+m)*bytes<=140737488355328)
  (hK:∀a' w' v',aW dq N a' ((d,v')::l)->St w0 w' (own.set k (tE q E z v' (n+m) (vs++cs.toList))) ps->K a' w'):
  Oper.wp P ⟨some d,.call ⟨.builtin .append,#[x,y],#[t,t]⟩,ty,pos,af,gd⟩ a w K Q:=by
 obtain ⟨i,J7,vI⟩:=yA.1 hi
 simp only [ji] at vI
 obtain ⟨hz,mn,Ih⟩:=vI
 have ri:=hs.owns hk
 have hl:cs.toList.length=m*z:=by simpa using hm
 have PH:∀(j:Nat) u,cs.toList[j]?=some u->w.cell? ((⟨g,0,none⟩:Addr).add j)=some u:=by
  intro i u hu
  have e1:(⟨g,0,none⟩:Addr).add i=⟨g,i,none⟩:=by unfold Addr.add; split<;>simp_all
  rw [e1,cell_of_row w g i cs E' (0,0) (hs.nA hj)]
  simpa using hu
 have h1':∀u∈cs.toList,u.oneCell'=true:=fun u hu=>dP.1 h1 u hu
 obtain ⟨v',w',mr,Kq,oE,_,Kr⟩:=run_append_own_at w 0 t ty E i zv z bytes hT J7 hz mn Ih Vg (kZ jF) v n vs ri.1 ⟨g,0,none⟩ m c cs.toList hl PH h1' hn hb (bm _)
 have hq:zd q w' E v':=by
  subst mn Ih
  obtain ⟨v2,w2,Fl,hq⟩:=uG q hT J7 hz ri.1 ri.2 hl PH h1' Bo Ve (kZ Bn) hn hb
  rw [mr] at Fl
  cases Fl
  exact hq
 have hvx:=h.ev hx
 have hvy:=h.ev hy
 have hr:(execOp a.eval ⟨some d,.call ⟨.builtin .append,#[x,y],#[t,t]⟩,ty,pos,af,gd⟩).run P w=.ok (.value v') w':=by
  simp [execOp,resolve,invoke,builtin,hvx,hvy,mr]
 unfold Oper.wp
 rw [hr]
 refine hK _ _ v' (h.put hd _) (hs.mf hk (e':=tE q E z v' (n+m) (vs++cs.toList)) ⟨Kq,hq⟩ (fun b hb=>?_) oE.os oE.tape oE.output oE.size fun b hb hnf=>oE.block b hb fun e=>hnf e.symm)
 have Dc:v'.ownBlock=some b:=hb
 rcases Kr with h2 | h2
 ·exact .inl (h2.symm.trans Dc)
 ·rw [h2] at Dc
  exact .inr (nY (dw Dc))
end
end Go.Proofs.YtgopcdagnicekaaGreatDoor.W

/- integer.Over. No condition. -/
namespace Go.Proofs.YtgopcdagnicekaaGreatDoor
open Go.RowKit Anv
theorem XN {A:Option Addr} {c:Nat} {x n:Int} {w:World} (hx:dK w A c x) (hn:zl x<=90000) (h1:-9223372036854775808<=n) (h2:n<=9223372036854775807) (h0:n≠0) (hd:x%n=0):
  Calls Tryz.prog 219 #[.agg #[.bool (neg x),.slice A (zl x) c],.int .i64 n] w fun e w'=>∃v,e=.returned (.tuple #[v,.int .i64 0])/\pj w' v (x / n)/\Below w.heap.size w w':=by
 have hr0:x.natAbs%n.natAbs=0:=by
  have h3:n∣x:=wF hd
  exact Nat.mod_eq_zero_of_dvd (Int.natAbs_dvd_natAbs.2 h3)
 have hE:=Fu h0 (by rw [hr0]; unfold neg sg; simp)
 have HE:=Lib.hid hE.1
 have HR:=Lib.hid hr0
 have hr:(L (x.natAbs%n.natAbs)).length=0:=by rw [hr0]; exact pk
 clear hd hE hr0
 go_enter Tryz.func219,Tryz.ntmps219
 have H0:=Lib.hid h0
 clear h0
 go_wp2_with fail
 refine (yU h1 h2).mono ?_
 rintro e w1 ⟨v,rfl,⟨A1,c1,rfl,z1⟩,hb⟩
 obtain ⟨q0,q1,nB,hs⟩:=OT hb
 replace q0:=q0.alloc (.cells #[.bool (neg n),.slice A1 (zl n) c1] 52)
 replace q1:=q1.alloc (.cells #[.bool (neg n),.slice A1 (zl n) c1] 52)
 have q2:=dO.new w1 52 (.bool (neg n)) (.slice A1 (zl n) c1)
 replace z1:=z1.below (qU w1 (.cells #[.bool (neg n),.slice A1 (zl n) c1] 52))
 replace nB:=nB.alloc nB.size (.cells #[.bool (neg n),.slice A1 (zl n) c1] 52)
 have wY:=hx.below nB
 have a0:=q0.c0
 have a1:=q0.c1
 have b0:=q2.c0
 have b1:=q2.c1
 clear hb hx
 go_wp2_with fail
 refine (Px (dK.num wY) (dK.num z1) ae (by have:=H0.out; omega)).mono ?_
 rintro e w2 ⟨v,u,rfl,⟨A3,c3,rfl,hU3,hf3⟩,⟨A4,c4,rfl,hU4,hf4⟩,gx⟩
 have r0:=q0.below gx q0.lt
 have r1:=q1.below gx q1.lt
 have r2:=q2.below gx q2.lt
 have tW:=ja nB gx
 rw [hr]
 have HU3:=Lib.hid hU3
 have a0:=r0.c0
 have b0:=r2.c0
 generalize hbx:neg x=bx at*
 generalize Ih:neg n=bY at*
 have HB:=Lib.hid (And.intro hbx Ih)
 go_wp2_with fail
 refine (jT HU3.out).mono ?_
 rintro e w3 ⟨rfl,z3,nD⟩
 rw [<- HE.out] at z3 ⊢
 have s1:=r1.below nD r1.lt
 have MS:=ja tW nD
 have d0:=s1.c0
 have d1:=s1.c1
 have d2:=s1.f 0
 have d3:=s1.f 1
 go_wp2
 exact bodyPost_ret (by simp [results,Tryz.results219,go_sem,d0,d1]) rfl ⟨_,rfl,⟨_,_,rfl,eT.kD z3 d0 d1 _ _⟩,cI MS ae _ _⟩
end Go.Proofs.YtgopcdagnicekaaGreatDoor
