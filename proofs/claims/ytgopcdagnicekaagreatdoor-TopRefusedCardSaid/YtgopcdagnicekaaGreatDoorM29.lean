/- Operations over naturals and strings, one rule each. Over any program. No condition. -/
import Derived.Test.YtgopcdagnicekaaGreatDoorM26
import Derived.Test.YtgopcdagnicekaaGreatDoorM28
import Derived.RangeFuncNested
import Derived.RangeFuncBound
set_option linter.all false
open Go.Proofs.Tryz
namespace Go.Proofs.YtgopcdagnicekaaGreatDoor.W
open Go.RowKit Anv Go.Lib
theorem GZ (t c:Nat):((t:Nat):Int).tdiv ((c:Nat):Int)=((t / c:Nat):Int):=rfl
variable {t c z T n yt g E B k m:Nat} {x y:Operand} {f:FuncId} {args:Array Value} {row:Option Nat} {b:Bool} {op:Op} {og:Oper} {ops:List Oper} {v:Value} {vs:List Value} {W W':World} {q:Value->Bool}
theorem Xg (h:t<9223372036854775808):IntKind.i64.wrap (((t:Nat):Int).tdiv ((c:Nat):Int))=((t / c:Nat):Int):=by
 rw [GZ]
 have:=jc t c
 generalize t / c=q at*
 exact IntWalk.i64_in _ ae
theorem L5 {s:Nat} (h:s<=64):s<=IntKind.u64.bits:=h
section
variable {P:Program} {N:Nat} {dq:List Deferred} {a:Act} {l:List (Nat×Value)} {w:World} {d:Nat} {ty:TypeId} {pos:String} {af:Array Edge} {gd:Option (Nat×Bool)}
end
def ints (l:List Int):Array Value:=(l.map (Value.int .i64)).toArray
def L6 (P:Program):List Field->Nat->Bool
 | [],_=>true
 | f::fs,o=>f.name != "_" && f.offset==o && (match P.underlying f.type with | some (.int .i64)=>true | _=>false) && ((P.info? f.type).map (·.size)==some 1) && L6 P fs (o+1)
theorem G4 {P:Program} {w:World} {o:Nat} {A:List Int} {z:Int} (h:mM P t) (ho:A[o]?=some z):(part t (ints A) o).run P w=.ok (.int .i64 z) w:=by
 have:(ints A)[o]?=some (.int .i64 z):=by simp [ints,ho]
 simp [part,Sem.run_bind,h.agg,this]
theorem rz {P:Program} (w:World) (d:Nat) (A B:List Int) (hAB:A.length=B.length):∀(fs:List Field) (o:Nat),A.length=o+fs.length->L6 P fs o=true->
  (Op.eqFields (d+1) (ints A) (ints B) fs).run P w=.ok (decide (A.drop o=B.drop o)) w
 | [],o,hl,_=>by
  have h1:A.drop o=[]:=bo (by simp at hl; omega)
  have h2:B.drop o=[]:=bo (by simp at hl; omega)
  simp [Op.eqFields,h1,h2]
 | f::fs,o,hl,hf=>by
  simp only [aR] at hl
  have EB:=hf
  unfold L6 at EB
  simp only [bL,bne_iff_ne,eA] at EB
  obtain ⟨⟨⟨⟨h1,h2⟩,h3⟩,h4⟩,h5⟩:=EB
  have hu:P.underlying f.type=some (.int .i64):=by
   revert h3
   split
   ·intro _; assumption
   ·intro h; cases h
  have ht:mM P f.type:=⟨⟨_,hu,rfl⟩,h4⟩
  have EG:o<A.length:=ae
  have hoB:o<B.length:=ae
  have ih:=rz w d A B hAB fs (o+1) ae h5
  simp only [Op.eqFields,au h1,Sem.run_bind,h2,G4 ht (ag EG),G4 ht (ag hoB),Result.andThen_ok,run_equalIn_int w d f.type .i64 .i64 _ _ hu]
  rw [cA EG,cA hoB]
  by_cases e:A[o]=B[o]
  ·simp only [e,jO,Bool.not_true,Bool.false_eq_true,if_false,ih,eY,true_and]
  ·have e':(A[o]==B[o])=false:=by simpa using e
   simp only [e',Bool.not_false,if_true,Sem.run_pure]
   rw [aC (fun h=>e (List.cons.inj h).1)]
section
variable {P:Program} {N:Nat} {dq:List Deferred} {a:Act} {l:List (Nat×Value)} {w:World} {d:Nat} {ty:TypeId} {pos:String} {af:Array Edge} {gd:Option (Nat×Bool)}
structure G5 (P:Program) (T n:Nat):Prop where
 hg:P.eqGuardType P.depth T=false
 hT:P.underlying T=some (.struct (P.fieldsOf T))
 hp:P.stoodInHeld T=false
 hF:L6 P (P.fieldsOf T).toList 0=true
 hn:(P.fieldsOf T).toList.length=n
theorem ux (hI:G5 P T n) (w:World) (A B:List Int) (hA:A.length=n) (hB:B.length=n):(Op.equalIn 10000 T (.agg (ints A)) (.agg (ints B))).run P w=.ok (decide (A=B)) w:=by
 rw [run_equalIn_agg w 9999 T _ _ hI.hT hI.hp,rz w 9998 A B ae _ 0 (by rw [hA,hI.hn]; omega) hI.hF]
 rfl
theorem EH (A B:List Int) (h:b7 dq N a l) (hI:G5 P T n) (hx:eB l x=some (.agg (ints A))) (hy:eB l y=some (.agg (ints B))) (hA:A.length=n) (hB:B.length=n):
  (execOp a.eval ⟨some d,.binOp .eql T x y yt,ty,pos,af,gd⟩).run P w=.ok (.value (.bool (decide (A=B)))) w:=by
 refine cV h hx hy ?_
 simp only [Sem.run_bind,run_eqGuard_agg w .eql T x y _ _ hI.hg,Result.andThen_ok,run_eql_struct,ux hI w A B hA hB]
theorem L7 (A B:List Int) (h:b7 dq N a l) (hI:G5 P T n) (hx:eB l x=some (.agg (ints A))) (hy:eB l y=some (.agg (ints B))) (hA:A.length=n) (hB:B.length=n):
  (execOp a.eval ⟨some d,.binOp .neq T x y yt,ty,pos,af,gd⟩).run P w=.ok (.value (.bool (!decide (A=B)))) w:=by
 refine cV h hx hy ?_
 simp only [Sem.run_bind,run_eqGuard_agg w .neq T x y _ _ hI.hg,Result.andThen_ok,run_neq_struct,ux hI w A B hA hB]
end
def WF (ro:Option Nat):Fence:={ Fence.wide with round:=ro }
section
variable {P:Program} {ro:Option Nat} {m:Nat} {K:Act->World->Prop} {Q:Exit->Act->World->Prop} {R:Ending->World->Prop} {N:Nat} {dq:List Deferred} {a:Act} {l:List (Nat×Value)} {w w0:World} {own ps:List PF}
variable {d:Nat} {ty:TypeId} {pos:String} {af:Array Edge} {gd:Option (Nat×Bool)} {ops:Array Oper} {rest:List Oper} {o:Oper} {fn:Func} {c x y:Code}
theorem sV (h:Calls P f args w R):CallsIn (WF ro) m P f args w R:=(callsIn_wide).2 h
theorem OJ {row:String} {R:Value->World->Prop} (h:Rows P row args w R):RowsIn (WF ro) m P row args w R:=fun c cs _=>
 let ⟨v,w',r,s⟩:=h c cs
 ⟨v,w',r,stepsIn_wide.2 s⟩
theorem zZ (ve:∀c,o.op≠.defer c) (h:Oper.wp P o a w K Q):Oper.wpIn (WF ro) m P o a w K Q:=by
 refine ⟨fun _ _=>trivial,?_⟩
 rw [Oper.semAt_eq _ _ _ ve]
 unfold Oper.wp at h
 revert h
 generalize (execOp a.eval o).run P w=r
 intro h
 match r,h with
 | .ok (.value v) w',h=>exact h
 | .ok .skip w',h=>exact h
 | .ok (.defer d) w',h=>exact h
 | .ok (.enter f args) w',h=>exact ⟨fun hd=>(by cases hd),sV h⟩
 | .ok (.row row args) w',h=>exact ⟨fun hd=>(by cases hd),OJ h⟩
 | .halt (.panic v) w',h=>exact h
theorem lg (hg:o.guard=none) (ve:∀c,o.op≠.defer c) (h:o.wp P a w (wpListIn (WF ro) m P ops Q rest) Q):wpListIn (WF ro) m P ops Q (o::rest) a w:=by
 unfold wpListIn
 rw [au (by simp [Region.wanted,hg])]
 exact zZ ve h
theorem Bw (hg:o.guard=none) (h:o.wpIn (WF ro) m P a w (wpListIn (WF ro) m P ops Q rest) Q):wpListIn (WF ro) m P ops Q (o::rest) a w:=by
 unfold wpListIn
 rw [au (by simp [Region.wanted,hg])]
 exact h
theorem Xh {u:Value} (hg:ops[g]?=some og) (h:b7 dq N a l) (zD:og.dst=some t) (zW:look l t=some u) (hd:Nat.blt d N=true) (Bn:isB u b=false)
 (hK:∀a',b7 dq N a' ((d,undef)::l)->wpListIn (WF ro) m P ops Q rest a' w):wpListIn (WF ro) m P ops Q (⟨some d,op,ty,pos,af,some (g,b)⟩::rest) a w:=by
 unfold wpListIn
 rw [ak (by rw [sO hg h zD zW Bn]; decide)]
 exact ⟨fun _ _=>trivial,hK _ (h.put hd undef)⟩
theorem ahB {dd:Option Nat} (hg:ops[g]?=some og) (h:b7 dq N a l) (zD:og.dst=some t) (zW:look l t=some (.bool b)) (ve:∀c,op≠.defer c)
 (hK:Oper.wp P ⟨dd,op,ty,pos,af,some (g,b)⟩ a w (wpListIn (WF ro) m P ops Q rest) Q):wpListIn (WF ro) m P ops Q (⟨dd,op,ty,pos,af,some (g,b)⟩::rest) a w:=by
 have hy:yielded ops a.tmps g=some b:=by
  have he:=h.at zW
  simp only [yielded,hg,jN,zD]
  rw [cU] at he
  cases ht:a.tmps[t]? with
  | none=>rw [ht] at he; simp [undef] at he
  | some x=>rw [ht] at he; simp at he; subst he; rfl
 unfold wpListIn
 rw [au (by simp [Region.wanted,hy])]
 exact zZ ve hK
theorem yy (h:Q .normal a w):wpListIn (WF ro) m P ops Q [] a w:=h
theorem vf {id:Nat} {ops:List Oper} (h:wpListIn (WF ro) m P ops.toArray Q ops a w):(Code.region id ops.toArray false).wpIn (WF ro) m P Q a w:=wpIn_region_lit h
theorem Ru {id:Nat} {ops:List Oper} (m:Nat) (h:wpListIn (WF none) m P ops.toArray Q ops a w):(Code.region id ops.toArray false).wp P Q a w:=(wpIn_wide).1 (wpIn_region_lit h)
theorem J0 {z:Operand} (h:b7 dq N a l) (hz:eB l z=some (.bool b)) (ht:b=true->x.wpIn (WF ro) m P Q a w) (hf:b=false->y.wpIn (WF ro) m P Q a w):(Code.cond z x y).wpIn (WF ro) m P Q a w:=wpIn_cond_split (h.ev hz) ht hf
theorem Rv {z:Operand} (h:b7 dq N a l) (hz:eB l z=some (.bool b)) (hb:b=true) (ht:x.wpIn (WF ro) m P Q a w):(Code.cond z x y).wpIn (WF ro) m P Q a w:=wpIn_cond_true (hb ▸ h.ev hz) ht
theorem Rx {z:Operand} (h:b7 dq N a l) (hz:eB l z=some (.bool b)) (hb:b=false) (ht:y.wpIn (WF ro) m P Q a w):(Code.cond z x y).wpIn (WF ro) m P Q a w:=wpIn_cond_false (hb ▸ h.ev hz) ht
theorem EI (kK:Nat->Act->World->Prop) (n₀:Nat) (h₀:kK n₀ a w)
  (round:∀n a w,kK n a w->c.wpIn (WF ro) m P (Exit.then (fun a' w'=>∃n',n'<n/\kK n' a' w') Q) a w):(Code.loop c).wpIn (WF ro) m P Q a w:=by
 refine wpIn_loop (fun a w=>∃n,kK n a w) (fun a w=>leastOf (fun n=>kK n a w)) ⟨n₀,h₀⟩ ?_
 intro a w hI
 refine wpIn_mono (round _ a w (leastOf_spec hI).1) ?_
 intro e a' w' hq
 cases e with
 | normal=>
  obtain ⟨n',fh,hI'⟩:=hq
  exact show (∃n,kK n a' w')/\leastOf (fun n=>kK n a' w')<leastOf (fun n=>kK n a w) from ⟨⟨n',hI'⟩,fa ((leastOf_spec ⟨n',hI'⟩).2 n' hI') fh⟩
 | exit id=>exact hq
 | goto l=>exact hq
 | ret=>exact hq
 | panic ch=>exact hq
 | outgrown=>exact hq
theorem xF (h:b7 dq N a l) {p:Nat} (v:Value) (hp:Nat.blt p N=true):b7 [] N { tmps:=a.tmps.setIfInBounds p v,defers:=[] } ((p,v)::l):=by
 have:=h.put hp v
 exact ⟨this.size,I,this.get⟩
theorem uy (h:b7 dq N a l) (d:Deferred):b7 (d::dq) N { a with defers:=d::a.defers } l:=⟨h.size,by rw [<- h.defers],h.get⟩
def wI (e:PF):Prop:=∀(w:World) (b:Nat),e.P w->e.gO b->∃o,w.heap[b]?=some o/\o.isCells=true
def pw:List PF->Prop
 | []=>True
 | e::l=>wI e/\pw l
theorem pw.at:∀{l:List PF},pw l->∀e∈l,wI e
 | e::l,h,f,hf=>by
  rcases bf.1 hf with rfl | hf
  ·exact h.1
  ·exact pw.at h.2 f hf
theorem iH {c:Array Value} {t:TypeId}:wI (bk g c t):=fun w b h hf=>by
 obtain rfl:b=g:=hf
 exact ⟨_,h,I⟩
theorem ack:wI (ahm E z v n vs):=fun w b h hf=>by
 have EB:v.ownBlock=some b:=hf
 rcases h.2 with hn | ⟨g,cap,cur,rfl,h0,hg,rest⟩
 ·rw [hn.1] at EB; simp [Value.ownBlock] at EB
 ·obtain rfl:g=b:=by simpa [Value.ownBlock] using EB
  exact ⟨_,hg,I⟩
theorem kr {e:PF} (he:wI e) (hs:e.P W) (hg:W.grownBy W' row) (hr:∀r,row=some r->B<=r/\∃o:Obj,W.heap[r]?=some o/\o.isCells=false):e.P W':=
 e.keep hs hg.size fun b hb=>hg.block b (e.lt hs hb) fun h=>by
  obtain ⟨_,o,ho,hc⟩:=hr b h.symm
  obtain ⟨o',OK,hc'⟩:=he W b hs hb
  rw [ho] at OK
  cases OK
  rw [hc] at hc'
  cases hc'
theorem St.grown (h:St w0 W own ps) (hB:w0.heap.size<=B) (hc:pw own) (hp:pw ps) (hg:W.grownBy W' row) (hr:∀r,row=some r->B<=r/\∃o:Obj,W.heap[r]?=some o/\o.isCells=false):St w0 W' own ps:=
 ⟨⟨hg.os.trans h.below.os,hg.tape.trans h.below.tape,hg.output.trans h.below.output,aD h.below.size hg.size,fun i hi=>(hg.block i (cl hi h.below.size) fun e=>by
   have:=(hr i e.symm).1
   omega).trans (h.below.block i hi)⟩,
  fun e he=>kr (hc.at e he) (h.mine e he) hg hr,h.new,h.nd,fun p hp'=>kr (hp.at p hp') (h.pers p hp') hg hr,h.apart⟩
def koF (W:World):PF:=
 ⟨fun w=>W.heap.size<=w.heap.size/\∀(b:Nat) (o:Obj),W.heap[b]?=some o->o.isCells=false->w.heap[b]?=some o,fun b=>∃o:Obj,W.heap[b]?=some o/\o.isCells=false,
  fun h hb=>by
   obtain ⟨o,ho,hc⟩:=hb
   exact lt_of_block (h.2 _ o ho hc),
  fun h hs hk=>⟨aD h.1 hs,fun b o hb ho=>(hk b ⟨o,hb,ho⟩).trans (h.2 b o hb ho)⟩⟩
theorem St.ahD (h:St w0 w own ps) (hc:pw own):St w0 w own (koF w::ps):=
 h.l9 (koF w) ⟨ar _,fun _ _ h _=>h⟩ fun e he b hb hk=>by
  obtain ⟨o,ho,Qc⟩:=hk
  obtain ⟨o',OK,hc'⟩:=hc.at e he w b (h.mine e he) hb
  rw [ho] at OK
  cases OK
  rw [Qc] at hc'
  cases hc'
theorem St.ko (h:St w0 w own ps) (hk:ps[k]?=some (koF W)) (B:Nat):KeepsFrom B W w:=
 have h1:(koF W).P w:=h.pat hk
 ⟨h1.1,fun b o _ hb ho=>h1.2 b o hb ho⟩
def acn (D:Nat):PF:=
 ⟨fun w=>w.heap[D]?=some (.deferred (some [])),fun b=>b=D,fun h e=>e ▸ lt_of_block h,fun h _ hk=>(hk D rfl).trans h⟩
theorem St.aco {D:Nat} (h:St w0 w own ps) (hc:pw own) (hD:w.heap[D]?=some (.deferred (some []))):St w0 w own (acn D::ps):=
 h.l9 (acn D) hD fun e he b hb hk=>by
  obtain rfl:b=D:=hk
  obtain ⟨o',OK,hc'⟩:=hc.at e he w b (h.mine e he) hb
  rw [hD] at OK
  cases OK
  cases hc'
theorem St.acp {D:Nat} (h:St w0 w own ps) (hk:ps[k]?=some (acn D)) (hD:w0.heap.size<=D) (hc:pw own) (hp:pw (ps.eraseIdx k)):St w0 (w.putObj D (.deferred none)) own (ps.eraseIdx k):=by
 have hd:w.heap[D]?=some (.deferred (some [])):=h.pat hk
 have h':St w0 w own (ps.eraseIdx k):=⟨h.below,h.mine,h.new,h.nd,fun p hp=>h.pers p ((i' ps k).subset hp),fun p hp=>h.apart p ((i' ps k).subset hp)⟩
 exact h'.grown hD hc hp (grownBy_putObj' w D _) fun r e=>by
  cases e
  exact ⟨ar _,_,hd,I⟩
theorem Ry (hf:P.funcs[f]?=some fn) (hb:fn.body=some c) (hn:fn.ntmps=N) (hz:Nat.ble args.size N=true)
 (h:∀a,Env N a (Wc 0 args.toList)->St w w [] []->c.wp P (bodyPostM Fence.wide 9 P fn R) a w):Calls P f args w R:=by
 refine (callsIn_wide).1 (callsIn_of_wp_marks hf hb trivial ((wpIn_wide).2 (h _ ⟨?_,I,fun t v hv=>?_⟩ (St.start w))))
 ·have:=dH hz
  simp; omega
 ·have:=(Bp _ _ _ _ hv).2
  have fh:t<args.size:=by
   rcases aV t args.size with h | h
   ·exact h
   ·rw [Nat.sub_zero,bg (by simpa using h)] at this; cases this
  rw [cU,Array.getElem?_append_left fh]
  simp at this
  simp [this]
theorem xG {D:Nat} (h:b7 [{ target:=.collected D,args:=#[] }] N a l) (hD:w.heap[D]?=some (.deferred (some []))) (hr:(results fn a.tmps).run P (w.putObj D (.deferred none))=.ok v (w.putObj D (.deferred none)))
 (hR:R (.returned v) (w.putObj D (.deferred none))):bodyPostM Fence.wide 9 P fn R .ret a w:=by
 show LeavesInM _ _ _ _ _ _ a.defers _ _
 rw [h.defers]
 exact ⟨by simp,.inl ⟨_,_,rfl,run_takeDeferred hD,v,hr,hR⟩⟩
end
def Bx (q:Value->Bool) (w:World) (E:TypeId) (v:Value):Prop:=∀g,v.ownBlock=some g->∃cur,w.heap[g]?=some (.cells cur E (0,0))/\cur.toList.all q=true
def wJ (q:Value->Bool) (E z:Nat) (v:Value) (n:Nat) (vs:List Value):PF:=
 ⟨fun w=>w.ownsRow 0 E z v n vs/\Bx q w E v,fun b=>v.ownBlock=some b,fun h hb=>(h.1.lt _ hb).2,fun {w w'} h hs hk=>by
  refine ⟨(ahm E z v n vs).keep h.1 hs hk,fun g hg=>?_⟩
  obtain ⟨cur,hc,hq⟩:=h.2 g hg
  exact ⟨cur,(hk g hg).trans hc,hq⟩⟩
theorem kE:wI (wJ q E z v n vs):=fun w b h hf=>ack w b h.1 hf
theorem RA:NoU (wJ dD E z v n vs):=by
 intro w b o i hP hf hc
 obtain ⟨cur,hg,hq⟩:=hP.2 b hf
 rw [cell_of_row w _ _ _ _ _ hg] at hc
 have h2:=bp.1 hq _ (Array.mem_toList_iff.2 (iZ hc))
 simp [dD] at h2
section
variable {P:Program} {K:Act->World->Prop} {Q:Exit->Act->World->Prop} {N:Nat} {dq:List Deferred} {a:Act} {l:List (Nat×Value)} {w w0:World} {own ps:List PF}
variable {d:Nat} {ty:TypeId} {pos:String} {af:Array Edge} {gd:Option (Nat×Bool)}
theorem St.Xi (h:St w0 w own ps) (q:Value->Bool) (E z:Nat):St w0 w (wJ q E z bM 0 []::own) ps:=
 h.JV _ ⟨World.ownsRow_nil w 0 E z,fun g hg=>by simp [Value.ownBlock] at hg⟩ fun b hb=>by simp [wJ,Value.ownBlock] at hb
theorem rL {c:Array Value} (h:c.toList.all q=true) (k:Nat):(Builtin.zeroCells c k).toList.all q=true:=by
 refine bp.2 fun u hu=>?_
 unfold Builtin.zeroCells at hu
 rw [fe] at hu
 obtain ⟨i,hi,rfl⟩:=bG.1 hu
 have hi:i<k*c.size:=by simpa using hi
 have hc:i%c.size<c.size:=dF _ (Nat.pos_of_ne_zero fun h=>by rw [h] at hi; omega)
 rw [getElem!_pos c _ hc]
 exact bp.1 h _ (Array.mem_toList_iff.2 (Array.getElem_mem hc))
theorem xH (q:Value->Bool) {t ty e:TypeId} {i:TypeInfo} {z:Value} (ht:P.underlying t=some (.slice e)) (hi:P.info? e=some i) (hz:i.zero=some z)
 {xs:List Value} (G0:w.ownsRow 0 e i.size v n xs) (hq:Bx q w e v) {ad:Addr} {news:List Value} (hl:news.length=m*i.size) (RC:∀j u,news[j]?=some u->w.cell? (ad.add j)=some u) (h1:∀u∈news,u.oneCell'=true)
 (Xj:news.all q=true) (RD:z.cells.toList.all q=true) (hm:0<m) (Eu:n+m<=maxLen) (yp:(n+m)*i.bytes<=140737488355328):
  ∃v' w',(Builtin.append_ #[t,t] ty #[v,.slice (some ad) m c]).run P w=.ok v' w'/\Bx q w' e v':=by
 have acq:n+m<=9223372036854775807:=by simp only [maxLen] at Eu; omega
 rcases G0.2 with ⟨rfl,rfl⟩ | ⟨g,cap,cur,rfl,_,hg,Gu,_,mx,ahE⟩
 ·refine ⟨_,_,run_append_nil w t ty e i z ht hi hz ad m c news hl RC hm ae (by simp only [bD] at yp; omega),fun g hg=>?_⟩
  obtain rfl:w.heap.size=g:=by simpa [Value.ownBlock] using hg
  exact ⟨_,heap_alloc_new w.drew _,by rw [Array.toList_append,jd,Xj,Bool.true_and]; exact rL RD _⟩
 ·obtain ⟨Xk,vg,Di⟩:=hq g rfl
  rw [hg] at vg
  cases vg
  have hxq:xs.all q=true:=by
   rw [<- ahE]
   exact bp.2 fun u hu=>bp.1 Di u (dM hu)
  by_cases aaF:n+m<=cap
  ·have am5:n*i.size+news.length<=cur.size:=by rw [hl,mx,<- j9]; exact bB _ aaF
   refine ⟨_,_,run_append_room w t ty e i ht hi g n cap cur hg ad m c news hl RC h1 aaF am5,fun g' vg=>?_⟩
   obtain rfl:g=g':=by simpa [Value.ownBlock] using vg
   refine ⟨_,setRow_heap w g cur _ e _ hg,bp.2 fun u hu=>?_⟩
   simp only [aK] at hu
   rcases hu with (hu | hu) | hu
   ·exact bp.1 Di u (dM hu)
   ·exact bp.1 Xj u hu
   ·exact bp.1 Di u (dx hu)
  ·have holds:∀j u,xs[j]?=some u->w.cell? ((⟨g,0,none⟩:Addr).add j)=some u:=G0.cells rfl
   refine ⟨_,_,run_append_grow w t ty e i z ht hi hz ⟨g,0,none⟩ n cap xs G0.1 holds ad m c news hl RC ae ae (growslice_fits ae yp),fun g' vg=>?_⟩
   obtain rfl:w.heap.size=g':=by simpa [Value.ownBlock] using vg
   refine ⟨_,heap_alloc_new w.drew _,?_⟩
   simp only [Array.toList_append,jd,Xj,hxq,Bool.true_and]
   exact rL RD _
theorem J1 {bytes j:Nat} {zv:Value} {cs:Array Value} {E':TypeId} (h:b7 dq N a l) (hs:St w0 w own ps) (hd:Nat.blt d N=true) (hT:P.underlying t=some (.slice E))
 (hi:(P.info? E).map (fun i=>(i.zero,i.size,i.bytes))=some (some zv,z,bytes)) (RE:zv.cells.size=z) (mZ:Nat.blt 0 z=true) (hx:eB l x=some v) (hy:eB l y=some (.slice (cS g) m c))
 (hk:own[k]?=some (wJ q E z v n vs)) (hj:own[j]?=some (bk g cs E')) (hm:cs.size=m*z) (h1:cs.toList.all (·.oneCell')=true) (Di:cs.toList.all q=true) (RD:zv.cells.toList.all q=true) (Bt:Nat.blt 0 m=true) (hn:n+m<=maxLen) (hb:(n+m)*bytes<=140737488355328)
 (hK:∀a' w' v',b7 dq N a' ((d,v')::l)->St w0 w' (own.set k (wJ q E z v' (n+m) (vs++cs.toList))) ps->K a' w'):
  Oper.wp P ⟨some d,.call ⟨.builtin .append,#[x,y],#[t,t]⟩,ty,pos,af,gd⟩ a w K Q:=by
 obtain ⟨i,Jw,xi⟩:=gJ.1 hi
 simp only [cP] at xi
 obtain ⟨hz,qZ,Jy⟩:=xi
 have nD:=hs.owns hk
 have hl:cs.toList.length=m*z:=by simpa using hm
 have RG:∀(j:Nat) u,cs.toList[j]?=some u->w.cell? ((⟨g,0,none⟩:Addr).add j)=some u:=by
  intro i u hu
  have e1:(⟨g,0,none⟩:Addr).add i=⟨g,i,none⟩:=by unfold Addr.add; split<;>simp_all
  rw [e1,cell_of_row w g i cs E' (0,0) (hs.pV hj)]
  simpa using hu
 have h1':∀u∈cs.toList,u.oneCell'=true:=fun u hu=>bp.1 h1 u hu
 obtain ⟨v',w',pK,L8,rY,_,G6⟩:=run_append_own_at w 0 t ty E i zv z bytes hT Jw hz qZ Jy RE (dH mZ) v n vs nD.1 ⟨g,0,none⟩ m c cs.toList hl RG h1' hn hb (av _)
 have hq:Bx q w' E v':=by
  subst qZ Jy
  obtain ⟨v2,w2,G7,hq⟩:=xH q hT Jw hz nD.1 nD.2 hl RG h1' Di RD (dH Bt) hn hb
  rw [pK] at G7
  cases G7
  exact hq
 have hvx:=h.ev hx
 have hvy:=h.ev hy
 have hr:(execOp a.eval ⟨some d,.call ⟨.builtin .append,#[x,y],#[t,t]⟩,ty,pos,af,gd⟩).run P w=.ok (.value v') w':=by
  simp [execOp,resolve,invoke,builtin,hvx,hvy,pK]
 unfold Oper.wp
 rw [hr]
 refine hK _ _ v' (h.put hd _) (hs.pH hk (e':=wJ q E z v' (n+m) (vs++cs.toList)) ⟨L8,hq⟩ (fun b hb=>?_) rY.os rY.tape rY.output rY.size fun b hb hnf=>rY.block b hb fun e=>hnf e.symm)
 have Df:v'.ownBlock=some b:=hb
 rcases G6 with h2 | h2
 ·exact .inl (h2.symm.trans Df)
 ·rw [h2] at Df
  exact .inr (ew (aW Df))
end
end Go.Proofs.YtgopcdagnicekaaGreatDoor.W

/- integer.Over. No condition. -/
namespace Go.Proofs.YtgopcdagnicekaaGreatDoor
open Go.RowKit Anv
theorem ZL {A:Option Addr} {c:Nat} {x n:Int} {w:World} (hx:iY w A c x) (hn:zl x<=90000) (h1:-9223372036854775808<=n) (h2:n<=9223372036854775807) (h0:n≠0) (hd:x%n=0):
  Calls prog 219 #[.agg #[.bool (neg x),.slice A (zl x) c],.int .i64 n] w fun e w'=>∃v,e=.returned (.tuple #[v,.int .i64 0])/\sL w' v (x / n)/\Below w.heap.size w w':=by
 have hr0:x.natAbs%n.natAbs=0:=by
  have h3:n∣x:=iC hd
  exact Nat.mod_eq_zero_of_dvd (Int.natAbs_dvd_natAbs.2 h3)
 have hE:=Hd h0 (by rw [hr0]; unfold neg sg; simp)
 have HE:=Lib.hid hE.1
 have HR:=Lib.hid hr0
 have hr:(L (x.natAbs%n.natAbs)).length=0:=by rw [hr0]; exact sM
 clear hd hE hr0
 go_enter func219,ntmps219
 have H0:=Lib.hid h0
 clear h0
 go_wp2_with fail
 refine (Bi h1 h2).mono ?_
 rintro e w1 ⟨v,rfl,⟨A1,c1,rfl,z1⟩,hb⟩
 obtain ⟨q0,q1,rh,hs⟩:=QK hb
 replace q0:=q0.alloc (.cells #[.bool (neg n),.slice A1 (zl n) c1] 52)
 replace q1:=q1.alloc (.cells #[.bool (neg n),.slice A1 (zl n) c1] 52)
 have q2:=jb.new w1 52 (.bool (neg n)) (.slice A1 (zl n) c1)
 replace z1:=z1.below (ue w1 (.cells #[.bool (neg n),.slice A1 (zl n) c1] 52))
 replace rh:=rh.alloc rh.size (.cells #[.bool (neg n),.slice A1 (zl n) c1] 52)
 have Cf:=hx.below rh
 have a0:=q0.c0
 have a1:=q0.c1
 have b0:=q2.c0
 have b1:=q2.c1
 clear hb hx
 go_wp2_with fail
 refine (Rs (iY.num Cf) (iY.num z1) ae (by have:=H0.out; omega)).mono ?_
 rintro e w2 ⟨v,u,rfl,⟨A3,c3,rfl,hU3,hf3⟩,⟨A4,c4,rfl,hU4,hf4⟩,kY⟩
 have r0:=q0.below kY q0.lt
 have r1:=q1.below kY q1.lt
 have r2:=q2.below kY q2.lt
 have xk:=mH rh kY
 rw [hr]
 have HU3:=Lib.hid hU3
 have a0:=r0.c0
 have b0:=r2.c0
 generalize hbx:neg x=bx at*
 generalize Jy:neg n=bY at*
 have HB:=Lib.hid (And.intro hbx Jy)
 go_wp2_with fail
 refine (nA HU3.out).mono ?_
 rintro e w3 ⟨rfl,z3,ru⟩
 rw [<- HE.out] at z3 ⊢
 have s1:=r1.below ru r1.lt
 have OH:=mH xk ru
 have d0:=s1.c0
 have d1:=s1.c1
 have d2:=s1.f 0
 have d3:=s1.f 1
 go_wp2
 exact bodyPost_ret (by simp [results,results219,go_sem,d0,d1]) I ⟨_,I,⟨_,_,I,kp.od z3 d0 d1 _ _⟩,fE OH ae _ _⟩
end Go.Proofs.YtgopcdagnicekaaGreatDoor
