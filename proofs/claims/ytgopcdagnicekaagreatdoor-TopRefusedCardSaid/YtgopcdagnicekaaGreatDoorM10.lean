/- What is known of a frame and of a world: slots, blocks of the call's own, facts that last. No program in sight. No condition. -/
import Derived.Test.YtgopcdagnicekaaGreatDoorM6
import Derived.Shelf.Sort.Plain
import Derived.Shelf.Slices.In.SortNone
set_option linter.all false
open Go.Proofs.Tryz
namespace Go.Proofs.YtgopcdagnicekaaGreatDoor
open Go.RowKit Anv
def look:List (Nat×Value)->Nat->Option Value
 | [],_=>none
 | (k,v)::l,t=>bif Nat.beq k t then some v else look l t
def eB (l:List (Nat×Value)):Operand->Option Value
 | .tmp t=>look l t
 | .const v=>some v
 | .global g=>some (cY g)
 | .func f=>some (.func (.func f) #[] #[])
structure b7 (dq:List Deferred) (N:Nat) (a:Act) (l:List (Nat×Value)):Prop where
 size:a.tmps.size=N
 defers:a.defers=dq
 get:∀t v,look l t=some v->a.tmps.getD t undef=v
abbrev Env (N:Nat) (a:Act) (l:List (Nat×Value)):Prop:=b7 [] N a l
variable {x y z:Operand} {v vx u v':Value} {d t g o j f T n i S off yt E N fuel:Nat} {w:World} {c vs cs c':Array Value} {b:Bool} {op:Op} {k:IntKind} {m:Int} {og oi:Oper} {dd:Option Nat} {listed:Array Bool} {dq:List Deferred} {a:Act} {l:List (Nat×Value)} {ty:TypeId} {pos:String} {af:Array Edge} {r r':ResultVar}
section
variable {dq:List Deferred} {N:Nat} {a:Act} {l:List (Nat×Value)}
theorem b7.ev (h:b7 dq N a l) (hx:eB l x=some v):a.eval x=v:=by
 cases x with
 | tmp t=>exact h.get t v hx
 | const c=>exact aW hx
 | global g=>exact aW hx
 | func f=>exact aW hx
theorem b7.put (h:b7 dq N a l) (hd:Nat.blt d N=true) (v:Value):b7 dq N (a.put (some d) v) ((d,v)::l):=by
 have hd':d<N:=dH hd
 refine ⟨by simp [Act.put,h.size],h.defers,fun t u hu=>?_⟩
 unfold look at hu
 by_cases e:d=t
 ·subst e
  have:Nat.beq d d=true:=Nat.beq_refl d
  rw [this] at hu
  simp at hu
  subst hu
  simp [Act.put,Array.getD,h.size,hd']
 ·have:Nat.beq d t=false:=by
   cases hb:Nat.beq d t with
   | false=>rfl
   | true=>exact absurd (dI hb) e
  rw [this] at hu
  have:=h.get t u (by simpa using hu)
  rw [<- this]
  simp [Act.put,cU,Array.getElem?_setIfInBounds_ne e]
theorem b7.GU (h:b7 dq N a l) (v:Value):b7 dq N (a.put none v) l:=h
theorem b7.nil (h:b7 dq N a l):b7 dq N a []:=⟨h.size,h.defers,fun t v hv=>by simp [look] at hv⟩
theorem b7.add (h:b7 dq N a l) (hv:a.tmps.getD t undef=v):b7 dq N a ((t,v)::l):=by
 refine ⟨h.size,h.defers,fun u x hx=>?_⟩
 unfold look at hx
 cases hb:Nat.beq t u with
 | true=>rw [hb] at hx; simp at hx; subst hx; rw [<- dI hb]; exact hv
 | false=>rw [hb] at hx; exact h.get u x (by simpa using hx)
def Bl (l:List (Nat×Value)):List (Nat×Value)->Prop
 | []=>True
 | (t,v)::r=>look l t=some v/\Bl l r
theorem b7.sub (h:b7 dq N a l) {l2:List (Nat×Value)} (hs:Bl l l2):b7 dq N a l2:=by
 induction l2 with
 | nil=>exact h.nil
 | cons p l2 ih=>exact (ih hs.2).add (h.get _ _ hs.1)
theorem b7.at (h:b7 dq N a l) (hv:look l t=some v):a.tmps.getD t undef=v:=h.get t v hv
end
structure Bk where
 g:Nat
 c:Array Value
 t:TypeId
structure PF where
 P:World->Prop
 gO:Nat->Prop
 lt:∀{w b},P w->gO b->b<w.heap.size
 keep:∀{w w':World},P w->w.heap.size<=w'.heap.size->(∀b,gO b->w'.heap[b]?=w.heap[b]?)->P w'
structure St (w0 w:World) (own:List Bk) (ps:List PF):Prop where
 below:Below w0.heap.size w0 w
 mine:∀e∈own,w0.heap.size<=e.g/\w.heap[e.g]?=some (.cells e.c e.t (0,0))
 nd:(own.map Bk.g).Nodup
 pers:∀p∈ps,p.P w
 apart:∀p∈ps,∀e∈own,¬p.gO e.g
theorem lt_of_block {o:Obj} (h:w.heap[g]?=some o):g<w.heap.size:=by
 rcases aV g w.heap.size with fh | yo
 ·exact fh
 ·rw [eF yo] at h; cases h
section
variable {w0 w w':World} {own:List Bk} {ps:List PF} {e:Bk} {p:PF} {k:Nat}
theorem St.start (w:World):St w w [] []:=
 ⟨Below.refl _ _,fun e h=>by simp at h,by simp,fun p h=>by simp at h,fun p h=>by simp at h⟩
theorem St.pV (h:St w0 w own ps) (hk:own[k]?=some e):w.heap[e.g]?=some (.cells e.c e.t (0,0)):=(h.mine e (ah hk)).2
theorem St.oge (h:St w0 w own ps) (hk:own[k]?=some e):w0.heap.size<=e.g:=(h.mine e (ah hk)).1
theorem St.pat (h:St w0 w own ps) (hk:ps[k]?=some p):p.P w:=h.pers p (ah hk)
theorem St.one (h:St w0 w own ps) {f:Bk} (hk:own[k]?=some e) (hj:own[j]?=some f) (hn:Nat.beq k j=false):e.g≠f.g:=by
 intro he
 have hkj:k≠j:=fun h=>by subst h; rw [show Nat.beq k k=true from Nat.beq_refl k] at hn; cases hn
 have h1:(own.map Bk.g)[k]?=some e.g:=by simp [hk]
 have h2:(own.map Bk.g)[j]?=some e.g:=by simp [hj,he]
 have hl:k<(own.map Bk.g).length:=by
  rcases aV k (own.map Bk.g).length with h | h
  ·exact h
  ·rw [bg h] at h1; cases h1
 exact hkj ((List.getElem?_inj hl h.nd).1 (h1.trans h2.symm))
theorem St.l9 (h:St w0 w own ps) (p:PF) (hp:p.P w) (ha:∀e∈own,¬p.gO e.g):St w0 w own (p::ps):=
 ⟨h.below,h.mine,h.nd,fun q hq=>by
  rcases bf.1 hq with rfl | hq
  ·exact hp
  ·exact h.pers q hq,fun q hq=>by
  rcases bf.1 hq with rfl | hq
  ·exact ha
  ·exact h.apart q hq⟩
theorem St.call (h:St w0 w own ps) (hb:Below w.heap.size w w'):St w0 w' own ps:=
 ⟨h.below.trans (hb.mono h.below.size),fun e he=>⟨(h.mine e he).1,(hb.block _ (lt_of_block (h.mine e he).2)).trans (h.mine e he).2⟩,h.nd,
  fun p hp=>p.keep (h.pers p hp) hb.size fun b Df=>hb.block b (p.lt (h.pers p hp) Df),h.apart⟩
theorem St.drew (h:St w0 w own ps):St w0 w.drew own ps:=h.call (Below.refl _ _).drew
theorem St.push (h:St w0 w own ps) (c:Array Value) (t:TypeId):St w0 (w.alloc (.cells c t)) (⟨w.heap.size,c,t⟩::own) ps:=by
 have h':=h.call (ue w (.cells c t))
 refine ⟨h'.below,fun e he=>?_,?_,h'.pers,fun p hp e he hf=>?_⟩
 ·rcases bf.1 he with rfl | he
  ·exact ⟨h.below.size,heap_alloc_new w _⟩
  ·exact h'.mine e he
 ·simp only [dk,List.nodup_cons]
  refine ⟨fun hm=>?_,h.nd⟩
  obtain ⟨e,he,hg⟩:=bG.1 hm
  have:=lt_of_block (h.mine e he).2
  omega
 ·rcases bf.1 he with rfl | he
  ·exact absurd (p.lt (h.pers p hp) hf) (Nat.lt_irrefl _)
  ·exact h.apart p hp e he hf
structure Qg (w w':World) (g:Nat) (c:Array Value) (t:TypeId):Prop where
 os:w'.os=w.os
 tape:w'.tape=w.tape
 output:w'.output=w.output
 size:w'.heap.size=w.heap.size
 new:w'.heap[g]?=some (.cells c t (0,0))
 old:∀k,k≠g->w'.heap[k]?=w.heap[k]?
theorem St.JQ (h:St w0 w own ps) (hk:own[k]?=some e) (hu:Qg w w' e.g c e.t):St w0 w' (own.set k ⟨e.g,c,e.t⟩) ps:=by
 have yo:=h.oge hk
 have hlen:k<own.length:=by
  rcases aV k own.length with h | h
  ·exact h
  ·rw [bg h] at hk; cases hk
 have hek:own[k]=e:=by
  have:=ag hlen
  rw [hk] at this
  exact (aW this).symm
 have amF:(own.set k ⟨e.g,c,e.t⟩).map Bk.g=own.map Bk.g:=by
  rw [fz]
  apply dG
  intro i
  rw [gy]
  split
  ·rename_i hi
   subst hi
   simp [hlen,hek]
  ·rfl
 have hgs:∀f∈own.set k ⟨e.g,c,e.t⟩,f=⟨e.g,c,e.t⟩∨(f∈own/\f.g≠e.g):=by
  intro f hf
  obtain ⟨i,hi,rfl⟩:=List.getElem_of_mem hf
  rw [List.getElem_set]
  split
  ·exact .inl I
  ·rename_i u5
   have LO:i<own.length:=by simpa using hi
   refine .inr ⟨eJ LO,?_⟩
   have hb:Nat.beq i k=false:=by
    cases hb:Nat.beq i k with
    | false=>rfl
    | true=>exact absurd (dI hb).symm u5
   exact h.one (ag LO) hk hb
 refine ⟨⟨hu.os.trans h.below.os,hu.tape.trans h.below.tape,hu.output.trans h.below.output,by rw [hu.size]; exact h.below.size,fun i hi=>?_⟩,fun f hf=>?_,by rw [amF]; exact h.nd,fun p hp=>?_,fun p hp f hf=>?_⟩
 ·exact (hu.old i ae).trans (h.below.block i hi)
 ·rcases hgs f hf with rfl | ⟨hf,hn⟩
  ·exact ⟨yo,hu.new⟩
  ·exact ⟨(h.mine f hf).1,(hu.old _ hn).trans (h.mine f hf).2⟩
 ·exact p.keep (h.pers p hp) (ew hu.size.symm) fun b hb=>hu.old b fun hbe=>h.apart p hp e (ah hk) (hbe ▸ hb)
 ·rcases hgs f hf with rfl | ⟨hf,_⟩
  ·exact h.apart p hp e (ah hk)
  ·exact h.apart p hp f hf
theorem St.pick (h:St w0 w own ps) (is js:List Nat) (hn:is.Nodup):St w0 w (is.filterMap (own[·]?)) (js.filterMap (ps[·]?)):=by
 refine ⟨h.below,fun e he=>?_,?_,fun p hp=>?_,fun p hp e he=>?_⟩
 ·obtain ⟨i,_,hi⟩:=dC.1 he
  exact h.mine e (ah hi)
 ·clear js
  induction is with
  | nil=>simp
  | cons i is ih=>
   have hn':=List.nodup_cons.1 hn
   cases hi:own[i]? with
   | none=>simp [hi]; simpa using ih hn'.2
   | some e=>
    simp only [List.filterMap_cons,hi,dk,List.nodup_cons]
    refine ⟨fun hm=>?_,ih hn'.2⟩
    obtain ⟨f,hf,hg⟩:=bG.1 hm
    obtain ⟨j,hj,Oo⟩:=dC.1 hf
    have hb:Nat.beq j i=false:=by
     cases hb:Nat.beq j i with
     | false=>rfl
     | true=>rw [dI hb] at hj; exact absurd hj hn'.1
    exact h.one Oo hi hb hg
 ·obtain ⟨j,_,hj⟩:=dC.1 hp
  exact h.pat hj
 ·obtain ⟨j,_,hj⟩:=dC.1 hp
  obtain ⟨i,_,hi⟩:=dC.1 he
  exact h.apart p (ah hj) e (ah hi)
theorem St.aaw (h:St w0 w own ps) (p:PF) (hf:∀b,p.gO b->w.heap.size<=b):∀e∈own,¬p.gO e.g:=fun e he hfe=>by
 have:=lt_of_block (h.mine e he).2
 have:=hf _ hfe
 omega
theorem St.aax (h:St w0 w own ps) (p:PF) (hf:∀b,p.gO b->b<w0.heap.size):∀e∈own,¬p.gO e.g:=fun e he hfe=>by
 have:=(h.mine e he).1
 have:=hf _ hfe
 omega
end
def oh (P:Program) (T:TypeId) (n:Nat):Prop:=(∃d,P.underlying T=some d/\d.isRow=true)/\(P.info? T).map (·.size)=some n
def mM (P:Program) (T:TypeId):Prop:=(∃d,P.underlying T=some d/\d.isRow=false)/\(P.info? T).map (·.size)=some 1
variable {e:Bk} {ps:List PF}
section
variable {P:Program} {K:Act->World->Prop} {Q:Exit->Act->World->Prop} {N:Nat} {dq:List Deferred} {a:Act} {l:List (Nat×Value)} {w w0:World} {own:List Bk} {ps:List PF}
variable {d:Nat} {ds:Option Nat} {ty:TypeId} {pos:String} {af:Array Edge} {gd:Option (Nat×Bool)} {ops:Array Oper} {rest:List Oper} {o:Oper}
theorem oh.size (h:oh P T n):∃i,P.info? T=some i/\i.size=n:=by
 obtain ⟨_,h⟩:=h
 cases hq:P.info? T with
 | none=>simp [hq] at h
 | some i=>exact ⟨i,rfl,by simpa [hq] using h⟩
theorem mM.size (h:mM P T):∃i,P.info? T=some i/\i.size=1:=by
 obtain ⟨_,h⟩:=h
 cases hq:P.info? T with
 | none=>simp [hq] at h
 | some i=>exact ⟨i,rfl,by simpa [hq] using h⟩
theorem oh.agg (h:oh P T n):(isAgg T).run P w=.ok true w:=by
 obtain ⟨⟨d,hu,hd⟩,_⟩:=h
 unfold isAgg
 rw [Sem.run_bind,run_underlying hu w]
 cases d<;>simp_all
theorem mM.agg (h:mM P T):(isAgg T).run P w=.ok false w:=by
 obtain ⟨⟨d,hu,hd⟩,_⟩:=h
 unfold isAgg
 rw [Sem.run_bind,run_underlying hu w]
 cases d<;>simp_all
theorem run_sizeOf (h:∃i,P.info? T=some i/\i.size=n):(sizeOf T).run P w=.ok n w:=by
 obtain ⟨i,hi,hn⟩:=h
 simp [sizeOf,typeInfo,hi,hn]
theorem ff (h:b7 dq N a l) (hx:eB l x=some v):(execOp a.eval ⟨some d,.move x,ty,pos,af,gd⟩).run P w=.ok (.value v) w:=by
 simp only [execOp,h.ev hx]; rfl
theorem cf (h:b7 dq N a l) (hx:eB l x=some v):(execOp a.eval ⟨some d,.assign x,ty,pos,af,gd⟩).run P w=.ok (.value v) w:=by
 simp only [execOp,h.ev hx]; rfl
theorem lU {c:Operand} (h:b7 dq N a l) (hc:eB l c=some (.bool b)) (hv:eB l (if b then x else y)=some v):
  (execOp a.eval ⟨some d,.pick c x y,ty,pos,af,gd⟩).run P w=.ok (.value v) w:=by
 have:=h.ev hv
 cases b<;>simp_all [execOp,h.ev hc,asBool]
theorem je (h:b7 dq N a l) (hx:eB l x=some (.tuple vs)) (hv:vs[i]?=some v):
  (execOp a.eval ⟨some d,.extract x i,ty,pos,af,gd⟩).run P w=.ok (.value v) w:=by
 simp [execOp,h.ev hx,Instr.extract,hv]
theorem fT {o:Nat} {t:TypeId} {cs:List Value} (h:b7 dq N a l) (ht:oh P T n) (hx:eB l x=some (.pointer (some ⟨g,o,none⟩)))
 (hg:w.heap[g]?=some (.cells c t (0,0))) (hc:(c.toList.drop o).take n=cs) (hn:cs.length=n):
  (execOp a.eval ⟨some d,.load T x,ty,pos,af,gd⟩).run P w=.ok (.value (.agg cs.toArray)) w:=by
 obtain ⟨⟨dd,hu,hd⟩,hi⟩:=ht
 have hr:w.rangeAt g o cs:=by
  intro j v hv
  rw [cell_of_row w g _ c t (0,0) hg]
  subst hc
  rw [jZ] at hv
  split at hv
  ·rw [List.getElem?_drop] at hv; simpa using hv
  ·cases hv
 simp only [execOp,h.ev hx]
 rw [Sem.run_bind,run_loadAt_mid w g o T cs dd hr hu hd (by rw [hi,hn])]
 rfl
theorem jz {t:TypeId} (h:b7 dq N a l) (ht:oh P T n) (hx:eB l x=some (cY g))
 (hg:w.heap[g]?=some (.cells c t (0,0))) (hn:c.size=n):
  (execOp a.eval ⟨some d,.load T x,ty,pos,af,gd⟩).run P w=.ok (.value (.agg c)) w:=by
 have:=fT (d:=d) (ty:=ty) (pos:=pos) (af:=af) (gd:=gd) (cs:=c.toList) h ht hx hg (by rw [ie,ax (by simp; omega)]) (by simpa using hn)
 simpa using this
theorem cC {o:Nat} {t:TypeId} (h:b7 dq N a l) (ht:mM P T) (hx:eB l x=some (.pointer (some ⟨g,o,none⟩)))
 (hg:w.heap[g]?=some (.cells c t (0,0))) (hv:c[o]?=some v):
  (execOp a.eval ⟨some d,.load T x,ty,pos,af,gd⟩).run P w=.ok (.value v) w:=by
 have hc:w.cell? ⟨g,o,none⟩=some v:=by rw [cell_of_row w g _ c t (0,0) hg,hv]
 simp only [execOp,h.ev hx,Instr.loadAt,Instr.sureAddr,Sem.run_bind,Sem.run_pure,Result.andThen_ok,loadVar,ht.agg]
 simp [load,Sem.run,hc]
theorem mN {p:Addr} (h:b7 dq N a l) (ht:mM P T) (hx:eB l x=some (.pointer (some p)))
 (hc:w.cell? p=some v):
  (execOp a.eval ⟨some d,.load T x,ty,pos,af,gd⟩).run P w=.ok (.value v) w:=by
 simp only [execOp,h.ev hx,Instr.loadAt,Instr.sureAddr,Sem.run_bind,Sem.run_pure,Result.andThen_ok,loadVar,ht.agg]
 simp [load,Sem.run,hc]
theorem QX {o:Nat} {cs:List Value} (h:b7 dq N a l) (ht:oh P T n) (hx:eB l x=some (.pointer (some ⟨g,o,none⟩)))
 (hr:w.rangeAt g o cs) (hn:cs.length=n):
  (execOp a.eval ⟨some d,.load T x,ty,pos,af,gd⟩).run P w=.ok (.value (.agg cs.toArray)) w:=by
 obtain ⟨⟨dd,hu,hd⟩,hi⟩:=ht
 simp only [execOp,h.ev hx]
 rw [Sem.run_bind,run_loadAt_mid w g o T cs dd hr hu hd (by rw [hi,hn])]
 rfl
def rG (P:Program) (S f:Nat) (off T:Nat):Prop:=∃fs fd,P.underlying S=some (.struct fs)/\fs[f]?=some fd/\fd.offset=off/\fd.type=T
theorem gF {o:Nat} (h:b7 dq N a l) (hf:rG P S f off T) (hs:∃i,P.info? T=some i/\i.size=n) (hn:n≠0) (hx:eB l x=some (.pointer (some ⟨g,o,none⟩))):
  (execOp a.eval ⟨some d,.fieldAddr S x f,ty,pos,af,gd⟩).run P w=.ok (.value (.pointer (some ⟨g,o+off,none⟩))) w:=by
 obtain ⟨fs,fd,hu,hfd,rfl,rfl⟩:=hf
 simp only [execOp,h.ev hx,Instr.fieldAt,Sem.run_bind,run_underlying hu w,Result.andThen_ok,hfd,Instr.sureAddr,Sem.run_pure,fieldPlace,run_sizeOf hs,ak hn,Addr.add_mid]
theorem DG (h:b7 dq N a l) (hf:rG P S f off T) (ht:mM P T) (hx:eB l x=some (.agg cs)) (hv:cs[off]?=some v):
  (execOp a.eval ⟨some d,.field S x f,ty,pos,af,gd⟩).run P w=.ok (.value v) w:=by
 obtain ⟨fs,fd,hu,hfd,rfl,rfl⟩:=hf
 simp [execOp,h.ev hx,Instr.field,Sem.run_bind,run_underlying hu w,hfd,asAgg,part,ht.agg,hv]
theorem Oq (h:b7 dq N a l) (hf:rG P S f off T) (ht:oh P T n) (hx:eB l x=some (.agg cs)):
  (execOp a.eval ⟨some d,.field S x f,ty,pos,af,gd⟩).run P w=.ok (.value (.agg (cs.extract off (off+n)))) w:=by
 have hs:=run_sizeOf (w:=w) ht.size
 obtain ⟨fs,fd,hu,hfd,rfl,rfl⟩:=hf
 simp [execOp,h.ev hx,Instr.field,Sem.run_bind,run_underlying hu w,hfd,asAgg,part,ht.agg,hs]
theorem cV {op:BinOp} {vy:Value} (h:b7 dq N a l) (hx:eB l x=some vx) (hy:eB l y=some vy)
 (hr:(do eqGuard op T x y vx vy; binOp op T vx vy:Sem Value).run P w=.ok v w):
  (execOp a.eval ⟨some d,.binOp op T x y yt,ty,pos,af,gd⟩).run P w=.ok (.value v) w:=by
 simp only [execOp,h.ev hx,h.ev hy]
 rw [Sem.run_bind,hr]
 rfl
theorem om {op:UnOp} (h:b7 dq N a l) (hx:eB l x=some vx) (hr:(Op.unary op vx).run P w=.ok v w):
  (execOp a.eval ⟨some d,.unOp op T x,ty,pos,af,gd⟩).run P w=.ok (.value v) w:=by
 simp only [execOp,h.ev hx]
 rw [Sem.run_bind,hr]
 rfl
theorem lY {n z:Int} (h:b7 dq N a l) (hx:eB l x=some (.int k m)) (hy:eB l y=some (.int k n)) (hw:k.wrap (m+n)=z):
  (execOp a.eval ⟨some d,.binOp .add T x y yt,ty,pos,af,gd⟩).run P w=.ok (.value (.int k z)) w:=by
 subst hw
 exact cV h hx hy (by simp [eqGuard,binOp,Op.intArith])
theorem uh {n z:Int} (h:b7 dq N a l) (hx:eB l x=some (.int k m)) (hy:eB l y=some (.int k n)) (hw:k.wrap (m - n)=z):
  (execOp a.eval ⟨some d,.binOp .sub T x y yt,ty,pos,af,gd⟩).run P w=.ok (.value (.int k z)) w:=by
 subst hw
 exact cV h hx hy (by simp [eqGuard,binOp,Op.intArith])
theorem Bm {n z:Int} (h:b7 dq N a l) (hx:eB l x=some (.int k m)) (hy:eB l y=some (.int k n)) (hw:k.wrap (m*n)=z):
  (execOp a.eval ⟨some d,.binOp .mul T x y yt,ty,pos,af,gd⟩).run P w=.ok (.value (.int k z)) w:=by
 subst hw
 exact cV h hx hy (by simp [eqGuard,binOp,Op.intArith])
theorem Ot {fs:Array Field} (hu:P.underlying T=some (.struct fs)) (hz:∃i,P.info? T=some i/\i.zero=some v) (ha:∃c,v=.agg c) (hs:∀f∈fs,∃i,P.info? f.type=some i):
  (execOp a.eval ⟨some d,.build T #[],ty,pos,af,gd⟩).run P w=.ok (.value v) w:=by
 obtain ⟨i,hi,hv⟩:=hz
 obtain ⟨c,rfl⟩:=ha
 have hz:(zeroValue T).run P w=.ok (.agg c) w:=by simp [zeroValue,typeInfo,hi,hv]
 have hm:∀(l:List Field),(∀f∈l,∃i,P.info? f.type=some i)->∃r,(l.mapM fun f=>do pure (f.offset,<- sizeOf f.type):Sem (List (Nat×Nat))).run P w=.ok r w:=by
  intro l
  induction l with
  | nil=>exact fun _=>⟨[],by simp⟩
  | cons f l ih=>
   intro h
   obtain ⟨j,hj⟩:=h f fW
   obtain ⟨r,hr⟩:=ih fun g hg=>h g (by simp [hg])
   have hz:=run_sizeOf (w:=w) ⟨j,hj,rfl⟩
   exact ⟨(f.offset,j.size)::r,by simp only [ku,Sem.run_bind,hz,Result.andThen_ok,Sem.run_pure,hr]⟩
 obtain ⟨r,hr⟩:=hm fs.toList fun f hf=>hs f (by simpa using hf)
 have hr':(fs.mapM fun f=>do pure (f.offset,<- sizeOf f.type):Sem (Array (Nat×Nat))).run P w=.ok r.toArray w:=by
  obtain ⟨fl⟩:=fs
  simp only [ju,map_eq_pure_bind,Sem.run_bind]
  rw [hr]
  rfl
 simp only [execOp,Instr.build,Sem.run_bind,hz,Result.andThen_ok,run_underlying hu w,hr']
 simp [Instr.fill,Value.cells]
theorem dS {n:Int} {ik jk:IntKind} {ds:TypeDesc} (h:b7 dq N a l) (hx:eB l x=some (.int ik n)) (hS:P.underlying S=some ds) (hT:P.underlying T=some (.int jk)) (hm:jk.wrap n=m):
  (execOp a.eval ⟨some d,.convert S T x,ty,pos,af,gd⟩).run P w=.ok (.value (.int jk m)) w:=by
 subst hm
 simp [execOp,h.ev hx,convert,Sem.run_bind,run_underlying hS w,run_underlying hT w,Conv.intToInt]
theorem ky {c:Nat} {A:Option Addr} (h:b7 dq N a l) (hT:P.underlying T=some (.slice E)) (hx:eB l x=some (.slice A n c)):
  (execOp a.eval ⟨some d,.call ⟨.builtin .len,#[x],#[T]⟩,ty,pos,af,gd⟩).run P w=.ok (.value (.int .i64 n)) w:=by
 have hv:=h.ev hx
 generalize a.eval=ρ at hv ⊢
 simp only [execOp,resolve]
 simp [hv,go_sem,Builtin.len_,run_underlying hT,goInt]
theorem oo {c b o z:Nat} (h:b7 dq N a l) (hT:P.underlying T=some (.slice E)) (hE:∃j,P.info? E=some j/\j.size=z) (hx:eB l x=some (.slice (some ⟨b,o,none⟩) n c)) (hy:eB l y=some (.int k (i:Nat))) (hi:i<n):
  (execOp a.eval ⟨some d,.indexAddr T x y,ty,pos,af,gd⟩).run P w=.ok (.value (.pointer (some ⟨b,o+i*z,none⟩))) w:=by
 simp [execOp,h.ev hx,h.ev hy,Instr.indexAt,Sem.run_bind,asIntOf,run_underlying hT w,hi,run_sizeOf hE,Addr.add_mid]
theorem cH (h:b7 dq N a l) (hd:Nat.blt d N=true) (hr:(execOp a.eval ⟨some d,op,ty,pos,af,gd⟩).run P w=.ok (.value v) w)
 (hK:∀a',b7 dq N a' ((d,v)::l)->K a' w):Oper.wp P ⟨some d,op,ty,pos,af,gd⟩ a w K Q:=by
 unfold Oper.wp
 rw [hr]
 exact hK _ (h.put hd v)
theorem aS (hg:o.guard=none) (h:o.wp P a w (wpList P ops Q rest) Q):wpList P ops Q (o::rest) a w:=
 wpList_plain hg fun _ hK=>Oper.wp_mono hK h
def isB:Value->Bool->Bool
 | .bool c,b=>c==b
 | _,_=>false
theorem sO (hg:ops[g]?=some og) (h:b7 dq N a l) (zD:og.dst=some t) (zW:look l t=some u) (Bn:isB u b=false):
  Region.wanted ⟨dd,op,ty,pos,af,some (g,b)⟩ (yielded ops a.tmps)=false:=by
 have he:=h.at zW
 rw [cU] at he
 have hy:yielded ops a.tmps g≠some b:=by
  simp only [yielded,hg,jN,zD]
  cases ht:a.tmps[t]? with
  | none=>simp
  | some x=>
   rw [ht] at he
   simp at he
   subst he
   cases x<;>simp_all [isB]
 simp only [Region.wanted]
 simpa using hy
theorem QY (hg:ops[g]?=some og) (h:b7 dq N a l) (zD:og.dst=some t) (zW:look l t=some u) (hd:Nat.blt d N=true) (Bn:isB u b=false)
 (hK:∀a',b7 dq N a' ((d,undef)::l)->wpList P ops Q rest a' w):wpList P ops Q (⟨some d,op,ty,pos,af,some (g,b)⟩::rest) a w:=by
 unfold wpList
 rw [ak (by rw [sO hg h zD zW Bn]; decide)]
 exact hK _ (h.put hd undef)
theorem ahg (hg:ops[g]?=some og) (h:b7 dq N a l) (zD:og.dst=some t) (zW:look l t=some (.bool b))
 (hK:Oper.wp P ⟨dd,op,ty,pos,af,some (g,b)⟩ a w (wpList P ops Q rest) Q):wpList P ops Q (⟨dd,op,ty,pos,af,some (g,b)⟩::rest) a w:=by
 have hy:yielded ops a.tmps g=some b:=by
  have he:=h.at zW
  simp only [yielded,hg,jN,zD]
  rw [cU] at he
  cases ht:a.tmps[t]? with
  | none=>rw [ht] at he; simp [undef] at he
  | some x=>rw [ht] at he; simp at he; subst he; rfl
 unfold wpList
 rw [au (by simp [Region.wanted,hy])]
 exact .inl hK
theorem sv (h:b7 dq N a l) (hd:Nat.blt d N=true) (hr:(execOp a.eval ⟨some d,op,ty,pos,af,none⟩).run P w=.ok (.value v) w)
 (hK:∀a',b7 dq N a' ((d,v)::l)->wpList P ops Q rest a' w):wpList P ops Q (⟨some d,op,ty,pos,af,none⟩::rest) a w:=
 aS rfl (cH h hd hr hK)
theorem ns (h:b7 dq N a l) (hs:St w0 w own ps) (hd:Nat.blt d N=true) (hx:eB l x=some v) (hc:v.cells=c)
 (hK:∀a' w' g,b7 dq N a' ((d,cY g)::l)->St w0 w' (⟨g,c,T⟩::own) ps->K a' w'):
  Oper.wp P ⟨some d,.box T x,ty,pos,af,gd⟩ a w K Q:=by
 have hr:(execOp a.eval ⟨some d,.box T x,ty,pos,af,gd⟩).run P w=.ok (.value (cY w.heap.size)) (w.alloc (.cells v.cells T)):=by
  simp only [execOp,h.ev hx]
  rfl
 subst hc
 unfold Oper.wp
 rw [hr]
 exact hK _ _ _ (h.put hd _) (hs.push _ _)
theorem kQ (h:b7 dq N a l) (hs:St w0 w own ps) (hd:Nat.blt d N=true) (hz:∃i,P.info? T=some i/\i.zero=some v) (hc:v.cells=c)
 (hK:∀a' w' g,b7 dq N a' ((d,cY g)::l)->St w0 w' (⟨g,c,T⟩::own) ps->K a' w'):
  Oper.wp P ⟨some d,.alloc T,ty,pos,af,gd⟩ a w K Q:=by
 obtain ⟨i,hi,hv⟩:=hz
 have hr:(execOp a.eval ⟨some d,.alloc T,ty,pos,af,gd⟩).run P w=.ok (.value (cY w.heap.size)) (w.alloc (.cells v.cells T)):=by
  have hz:(zeroValue T).run P w=.ok v w:=by simp [zeroValue,typeInfo,hi,hv]
  simp only [execOp,Instr.alloc,Sem.run_bind,hz,Result.andThen_ok]
  rfl
 subst hc
 unfold Oper.wp
 rw [hr]
 exact hK _ _ _ (h.put hd _) (hs.push _ _)
def wr (o:Nat):List Value->Array Value->Array Value
 | [],c=>c
 | v::vs,c=>wr (o+1) vs (c.setIfInBounds o v)
theorem Qg.refl {t:TypeId} (h:w.heap[g]?=some (.cells c t (0,0))):Qg w w g c t:=⟨rfl,rfl,rfl,rfl,h,fun _ _=>rfl⟩
theorem Qg.trans {w1 w2:World} {t:TypeId} (h:Qg w w1 g c t) (k:Qg w1 w2 g c' t):Qg w w2 g c' t:=
 ⟨k.os.trans h.os,k.tape.trans h.tape,k.output.trans h.output,k.size.trans h.size,k.new,fun i hi=>(k.old i hi).trans (h.old i hi)⟩
theorem pE {o:Nat} {t:TypeId} (v:Value) (h:w.heap[g]?=some (.cells c t (0,0))):Qg w (w.setCell ⟨g,o,none⟩ v) g (c.setIfInBounds o v) t:=
 ⟨rfl,rfl,rfl,by simp,by simp [World.setCell,eO,h],fun i hi=>Below.heap_setCell _ _ _ _ hi⟩
theorem sP (vs:List Value):∀(o:Nat) (w:World) (g:Nat) (c:Array Value) (t:TypeId),w.heap[g]?=some (.cells c t (0,0))->Qg w (w.setCells g o vs) g (wr o vs c) t:=by
 induction vs with
 | nil=>exact fun o w g c t h=>Qg.refl h
 | cons v vs ih=>exact fun o w g c t h=>(pE v h).trans (ih (o+1) _ g _ t (pE v h).new)
theorem W2 (vs:List Value):∀(o:Nat) (c:Array Value),(wr o vs c).size=c.size:=by
 induction vs with
 | nil=>exact fun _ _=>rfl
 | cons v vs ih=>intro o c; show (wr (o+1) vs _).size=_; rw [ih]; simp
theorem ahh (vs:List Value):∀(o:Nat) (c:Array Value) (i:Nat),o+vs.length<=c.size->(wr o vs c)[i]?=if o<=i/\i<o+vs.length then vs[i - o]? else c[i]?:=by
 induction vs with
 | nil=>intro o c i _; simp [wr]; omega
 | cons v vs ih=>
  intro o c i h
  simp only [aR] at h
  show (wr (o+1) vs (c.setIfInBounds o v))[i]?=_
  rw [ih _ _ _ (by simp; omega)]
  simp only [aR]
  by_cases h1:i=o
  ·subst h1
   rw [ak ae,au ae,gT ae]
   simp
  ·by_cases h2:o+1<=i/\i<o+1+vs.length
   ·rw [au h2,au ae,show i - o=(i - (o+1))+1 by omega]; rfl
   ·rw [ak h2,ak ae,Array.getElem?_setIfInBounds_ne ae]
theorem kZ {o k:Nat} (h:b7 dq N a l) (hs:St w0 w own ps) (hi:∃i,P.info? T=some i/\i.size=n) (hx:eB l x=some (.pointer (some ⟨e.g,o,none⟩))) (hy:eB l y=some (.agg cs))
 (hk:own[k]?=some e) (hn:cs.size=n) (ho:o+cs.size<=e.c.size) (h1:cs.toList.all (·.oneCell')=true) (hc:wr o cs.toList e.c=c')
 (hK:∀a' w',b7 dq N a' l->St w0 w' (own.set k ⟨e.g,c',e.t⟩) ps->K a' w'):
  Oper.wp P ⟨none,.store T x y,ty,pos,af,gd⟩ a w K Q:=by
 have hg:=hs.pV hk
 have ht:w.there e.g o cs.size:=fun j hj=>⟨by rw [cell_of_row w _ _ _ _ _ hg]; simp; omega,by simp [World.frozen?,hg]⟩
 obtain ⟨i,hi,nz⟩:=hi
 have hr:(execOp a.eval ⟨none,.store T x y,ty,pos,af,gd⟩).run P w=.ok .skip (w.setCells e.g o cs.toList):=by
  simp only [execOp,h.ev hx,h.ev hy]
  rw [Sem.run_bind,run_storeAt_mid w e.g o T cs ht (by rw [hi,hn]; simp [nz]) (by rw [Array.all_toList] at h1; exact h1)]
  rfl
 unfold Oper.wp
 rw [hr]
 subst hc
 exact hK _ _ (h.GU _) (hs.JQ hk (sP _ _ _ _ _ _ hg))
theorem u6 {o k:Nat} (h:b7 dq N a l) (hs:St w0 w own ps) (hi:∃i,P.info? T=some i/\i.size=1) (hx:eB l x=some (.pointer (some ⟨e.g,o,none⟩))) (hy:eB l y=some v)
 (hk:own[k]?=some e) (ho:o<e.c.size) (h1:v.oneCell'=true) (hc:e.c.setIfInBounds o v=c')
 (hK:∀a' w',b7 dq N a' l->St w0 w' (own.set k ⟨e.g,c',e.t⟩) ps->K a' w'):
  Oper.wp P ⟨none,.store T x y,ty,pos,af,gd⟩ a w K Q:=by
 have hg:=hs.pV hk
 obtain ⟨i,hi,nz⟩:=hi
 have Ou:w.cell? ⟨e.g,o,none⟩=some e.c[o]:=by rw [cell_of_row w _ _ _ _ _ hg]; simp [ho]
 have hf:w.frozen? ⟨e.g,o,none⟩=false:=by simp [World.frozen?,hg]
 have hv:v.cells=#[v]:=by cases v<;>simp_all [Value.cells,Value.oneCell']
 have hr:(execOp a.eval ⟨none,.store T x y,ty,pos,af,gd⟩).run P w=.ok .skip (w.setCell ⟨e.g,o,none⟩ v):=by
  simp only [execOp,h.ev hx,h.ev hy,Instr.storeAt,Instr.sureAddr,Sem.run_bind,Sem.run_pure,Result.andThen_ok,storeVar,run_sizeOf ⟨i,hi,nz⟩,hv]
  have h0:(⟨e.g,o,none⟩:Addr).add 0=⟨e.g,o,none⟩:=by rw [Addr.add_mid]; rfl
  have σ:((store (⟨e.g,o,none⟩:Addr) v).run P w)=.ok () (w.setCell ⟨e.g,o,none⟩ v):=by
   cases v<;>simp_all [store,Sem.run,Value.oneCell']
  simp [storeCells,h0,σ]
 unfold Oper.wp
 rw [hr]
 subst hc
 exact hK _ _ (h.GU _) (hs.JQ hk (pE _ hg))
theorem gG {f:FuncId} {xs:Array Operand} {Ts:Array TypeId} {R:Ending->World->Prop} (h:b7 dq N a l) (hd:Nat.blt d N=true)
 (hb:∀args w,(callFunc f args).run P w=.ok (.enter f args) w) (hx:xs.toList.map (eB l)=vs.toList.map some) (hc:Calls P f vs w R)
 (hK:∀e w',R e w'->∃v,e=.returned v/\∀a',b7 dq N a' ((d,v)::l)->K a' w'):
  Oper.wp P ⟨some d,.call ⟨.value (.func f),xs,Ts⟩,ty,pos,af,gd⟩ a w K Q:=by
 have he:xs.map a.eval=vs:=by
  apply jx
  rw [fe]
  generalize xs.toList=xl at hx ⊢
  generalize vs.toList=vl at hx ⊢
  induction xl generalizing vl with
  | nil=>cases vl with
   | nil=>rfl
   | cons=>simp at hx
  | cons x xl ih=>cases vl with
   | nil=>simp at hx
   | cons v vl=>
    simp only [dk,eY] at hx ⊢
    exact ⟨h.ev hx.1,ih vl hx.2⟩
 have hr:(execOp a.eval ⟨some d,.call ⟨.value (.func f),xs,Ts⟩,ty,pos,af,gd⟩).run P w=.ok (.enter f vs) w:=by
  have hf:a.eval (.func f)=.func (.func f) #[] #[]:=rfl
  simp only [execOp,resolve,he,hf,Sem.run_bind]
  simp [Deferred.ofValue,invoke,hb]
 unfold Oper.wp
 rw [hr]
 show Calls P f vs w _
 refine hc.mono fun e w' hR=>?_
 obtain ⟨v,rfl,hk⟩:=hK e w' hR
 exact hk _ (h.put hd v)
end
section
variable {P:Program} {ops:Array Oper} {Q:Exit->Act->World->Prop} {S:Nat->World->Prop} {G:World->Prop}
def nB (P:Program) (ops:Array Oper) (Q:Exit->Act->World->Prop) (S:Nat->World->Prop):Nat->Array Bool->Act->World->Prop
 | 0,listed,a,w=>Region.ready .any ops listed=[]/\Q .normal a w
 | fuel+1,listed,a,w=>
  (Region.ready .any ops listed=[]->Q .normal a w)/\
  ∀i∈Region.ready .any ops listed,wpOp P ops Q i (fun a' w'=>(w'=w∨S i w')/\nB P ops Q S fuel (listed.setIfInBounds i true) a' w') a w
theorem zX:∀(fuel:Nat) (listed:Array Bool) (a:Act) (w:World),nB P ops Q S fuel listed a w->wpAny P .any ops Q fuel listed a w
 | 0,_,_,_,h=>h
 | fuel+1,_,_,_,h=>⟨h.1,fun i hi=>wpOp_mono (fun a' w' h'=>zX fuel _ a' w' h'.2) (h.2 i hi)⟩
def Cl (ops:Array Oper) (listed:Array Bool):Prop:=∀j oj,listed.getD j false=true->ops[j]?=some oj->∀e∈oj.after,Region.binds .any e=true->listed.getD e.on false=true
theorem LZ (h:listed.getD i true=false):listed.getD i false=false:=by
 rcases aV i listed.size with h' | h'
 ·simp [h'] at h ⊢; exact h
 ·simp [eF h'] at h
theorem Cl.add (h:Cl ops listed) (hi:i∈Region.ready .any ops listed):Cl ops (listed.setIfInBounds i true):=by
 intro j oj hj GV e he hb
 by_cases QZ:i=j
 ·subst QZ
  obtain ⟨_,o,ho,rH⟩:=mem_ready.1 hi
  rw [ho] at GV
  cases GV
  exact getD_set_true (rH e he hb)
 ·rw [getD_set_ne false QZ] at hj
  exact getD_set_true (h j oj hj GV e he hb)
def Behind (ops:Array Oper) (i:Nat) (T:List Nat):Prop:=∀j∈T,∃oj,ops[j]?=some oj/\∃e∈oj.after,Region.binds .any e=true/\e.on<j/\(e.on=i∨e.on∈T)
theorem Behind.no {T:List Nat} (h:Behind ops i T) (hc:Cl ops listed) (hi:listed.getD i false=false):∀n j,j<n->j∈T->listed.getD j false=false/\j ∉ Region.ready .any ops listed:=by
 intro n
 induction n with
 | zero=>intro j hj; omega
 | succ n ih=>
  intro j hj hT
  obtain ⟨oj,GV,e,he,hb,fh,hor⟩:=h j hT
  have Es:listed.getD e.on false=false:=by
   rcases hor with hor | hor
   ·rw [hor]; exact hi
   ·exact (ih e.on ae hor).1
  refine ⟨?_,fun hr=>?_⟩
  ·cases hl:listed.getD j false with
   | false=>rfl
   | true=>rw [hc j oj hl GV e he hb] at Es; cases Es
  ·obtain ⟨_,o,ho,rH⟩:=mem_ready.1 hr
   rw [ho] at GV
   cases GV
   rw [rH e he hb] at Es; cases Es
theorem wy {T:List Nat} (hi:ops[i]?=some oi) (ahi:∀(j:Nat) (o:Oper) cs b,ops[j]?=some o->o.op≠.select cs b)
 (hQ:∀c a w,Q (.panic c) (a.put oi.dst v) w->Q (.panic c) a w) (hT:Behind ops i T) (hG:∀j w',j ∉ T->S j w'->G w'):
  ∀(fuel:Nat) (listed:Array Bool) (a:Act) (w:World),Cl ops listed->
   (∀j oj,ops[j]?=some oj->j≠i->j ∉ T->listed.getD j true=false->oi.apart ops oj=true)->
   i∈Region.ready .any ops listed->YieldsIf P ops G oi v a->G w->
   nB P ops Q S fuel (listed.setIfInBounds i true) (a.put oi.dst v) w->nB P ops Q S (fuel+1) listed a w:=by
 intro fuel
 induction fuel with
 | zero=>
  intro listed a w _ _ hr hy hS H
  refine ⟨fun h=>(by rw [h] at hr; cases hr),fun j hj=>?_⟩
  by_cases Wb:j=i
  ·subst Wb; exact hy.wpOp hi hS ⟨.inl rfl,H⟩
  ·have:=ready_mono hj Wb
   rw [H.1] at this
   cases this
 | succ fuel ih=>
  intro listed a w Ou DH hr hy hS H
  refine ⟨fun h=>(by rw [h] at hr; cases hr),fun j hj=>?_⟩
  by_cases Wb:j=i
  ·subst Wb; exact hy.wpOp hi hS ⟨.inl rfl,H⟩
  ·have h1:=H.2 j (ready_mono hj Wb)
   obtain ⟨ahj,oj,GV,_⟩:=mem_ready.1 hj
   have hjT:j ∉ T:=fun hm=>(hT.no Ou (LZ (mem_ready.1 hr).1) (j+1) j ae hm).2 hj
   have h2:=wpOp_putIf GV (DH j oj GV Wb hjT ahj) (fun cs b=>ahi i oi cs b hi) (fun cs b=>ahi j oj cs b GV) hQ hy h1
   have ab5:∀k ok,ops[k]?=some ok->k≠i->k ∉ T->(listed.setIfInBounds j true).getD k true=false->oi.apart ops ok=true:=fun k ok hk hki hkT Es=>by
    refine DH k ok hk hki hkT ?_
    by_cases GX:j=k
    ·subst GX; exact ahj
    ·rw [getD_set_ne true GX] at Es; exact Es
   refine wpOp_mono (fun a' w' h3=>⟨h3.2.1,ih (listed.setIfInBounds j true) a' w' (Ou.add hj) ab5 (ready_mono hr (fw Wb)) h3.1 (h3.2.1.elim (fun e=>e ▸ hS) (hG j w' hjT)) ?_⟩) h2
   rw [Array.setIfInBounds_comm _ _ Wb]
   exact h3.2.2
def L0 (ops:Array Oper) (i:Nat) (T:List Nat):Bool:=T.all fun j=>match ops[j]? with
 | none=>false
 | some oj=>oj.after.any fun e=>Region.binds .any e && Nat.blt e.on j && (Nat.beq e.on i || T.contains e.on)
def clB (ops:Array Oper) (listed:Array Bool):Bool:=(List.range ops.size).all fun j=>!listed.getD j false || match ops[j]? with
 | none=>true
 | some oj=>oj.after.all fun e=>!Region.binds .any e || listed.getD e.on false
def JR (ops:Array Oper) (listed:Array Bool) (i:Nat) (T:List Nat):Bool:=match ops[i]? with
 | none=>false
 | some oi=>(List.range ops.size).all fun j=>Nat.beq j i || listed.getD j true || T.contains j || match ops[j]? with
   | some oj=>oi.apart ops oj
   | none=>true
def p' (ops:Array Oper) (listed:Array Bool) (i:Nat) (T:List Nat):Bool:=
 Region.noSelect ops && L0 ops i T && clB ops listed && JR ops listed i T && (Region.ready .any ops listed).contains i
theorem qm {T:List Nat} (h:L0 ops i T=true):Behind ops i T:=by
 intro j hj
 have h1:=bp.1 h j hj
 cases ho:ops[j]? with
 | none=>simp [ho] at h1
 | some oj=>
  simp only [ho] at h1
  obtain ⟨e,he,h2⟩:=Array.any_eq_true'.1 h1
  simp only [bL,Bool.or_eq_true] at h2
  refine ⟨oj,I,e,he,h2.1.1,dH h2.1.2,?_⟩
  rcases h2.2 with h3 | h3
  ·exact .inl (dI h3)
  ·exact .inr (by simpa using h3)
theorem xA (h:clB ops listed=true):Cl ops listed:=by
 intro j oj hl GV e he hb
 have fh:j<ops.size:=(gK.1 GV).1
 have h1:=bp.1 h j (eR.2 fh)
 simp only [hl,GV,Bool.not_true,Bool.false_or] at h1
 have h2:=Array.all_eq_true_iff_forall_mem.1 h1 e he
 simpa [hb] using h2
theorem uj {T:List Nat} (hi:ops[i]?=some oi) (h:JR ops listed i T=true) (j:Nat) (oj:Oper) (GV:ops[j]?=some oj) (u5:j≠i) (hT:j ∉ T) (Es:listed.getD j true=false):oi.apart ops oj=true:=by
 unfold JR at h
 simp only [hi] at h
 have fh:j<ops.size:=(gK.1 GV).1
 have h1:=bp.1 h j (eR.2 fh)
 simp only [GV,Es,Bool.or_eq_true,Bool.or_false] at h1
 rcases h1 with (h1 | h1) | h1
 ·exact absurd (dI h1) u5
 ·exact absurd (by simpa using h1) hT
 ·exact h1
theorem kV (T:List Nat) (G:World->Prop)
 (hi:ops[i]?=some ⟨some d,op,ty,pos,af,none⟩) (hb:p' ops listed i T=true) (hQ:∀c (a:Act) w,Q (.panic c) (a.put (some d) v) w->Q (.panic c) a w)
 (hG:∀j w',j ∉ T->S j w'->G w') (h:b7 dq N a l) (hd:Nat.blt d N=true) (hGw:G w)
 (hr:∀w',G w'->(execOp a.eval ⟨some d,op,ty,pos,af,none⟩).run P w'=.ok (.value v) w')
 (hK:∀a',b7 dq N a' ((d,v)::l)->nB P ops Q S fuel (listed.setIfInBounds i true) a' w):nB P ops Q S (fuel+1) listed a w:=by
 unfold p' at hb
 simp only [bL] at hb
 obtain ⟨⟨⟨⟨h1,h2⟩,h3⟩,h4⟩,h5⟩:=hb
 exact wy hi (Region.noSelect_spec h1) hQ (qm h2) hG fuel listed a w (xA h3) (uj hi h4) (by simpa using h5) (.inl ⟨I,hr⟩) hGw (hK _ (h.put hd v))
theorem JS (T:List Nat) (G:World->Prop)
 (hi:ops[i]?=some ⟨some d,op,ty,pos,af,some (g,b)⟩) (hb:p' ops listed i T=true) (hQ:∀c (a:Act) w,Q (.panic c) (a.put (some d) v) w->Q (.panic c) a w)
 (hG:∀j w',j ∉ T->S j w'->G w') (h:b7 dq N a l) (hd:Nat.blt d N=true) (hg:ops[g]?=some og) (zD:og.dst=some t) (zW:look l t=some (.bool b)) (hGw:G w)
 (hr:∀w',G w'->(execOp a.eval ⟨some d,op,ty,pos,af,some (g,b)⟩).run P w'=.ok (.value v) w')
 (hK:∀a',b7 dq N a' ((d,v)::l)->nB P ops Q S fuel (listed.setIfInBounds i true) a' w):nB P ops Q S (fuel+1) listed a w:=by
 unfold p' at hb
 simp only [bL] at hb
 obtain ⟨⟨⟨⟨h1,h2⟩,h3⟩,h4⟩,h5⟩:=hb
 have hw:Region.wanted ⟨some d,op,ty,pos,af,some (g,b)⟩ (yielded ops a.tmps)=true:=by
  have hy:yielded ops a.tmps g=some b:=by
   have he:=h.at zW
   simp only [yielded,hg,jN,zD]
   rw [cU] at he
   cases ht:a.tmps[t]? with
   | none=>rw [ht] at he; simp [undef] at he
   | some x=>rw [ht] at he; simp at he; subst he; rfl
  simp [Region.wanted,hy]
 exact wy hi (Region.noSelect_spec h1) hQ (qm h2) hG fuel listed a w (xA h3) (uj hi h4) (by simpa using h5) (.inl ⟨hw,hr⟩) hGw (hK _ (h.put hd v))
theorem Bo (T:List Nat)
 (hi:ops[i]?=some ⟨some d,op,ty,pos,af,some (g,b)⟩) (hb:p' ops listed i T=true) (hQ:∀c (a:Act) w,Q (.panic c) (a.put (some d) undef) w->Q (.panic c) a w)
 (h:b7 dq N a l) (hd:Nat.blt d N=true) (hg:ops[g]?=some og) (zD:og.dst=some t) (zW:look l t=some u) (Bn:isB u b=false)
 (hK:∀a',b7 dq N a' ((d,undef)::l)->nB P ops Q S fuel (listed.setIfInBounds i true) a' w):nB P ops Q S (fuel+1) listed a w:=by
 unfold p' at hb
 simp only [bL] at hb
 obtain ⟨⟨⟨⟨h1,h2⟩,h3⟩,h4⟩,h5⟩:=hb
 exact wy hi (Region.noSelect_spec h1) hQ (qm h2) (fun _ _ _ _=>trivial) fuel listed a w (xA h3) (uj hi h4) (by simpa using h5) (.inr ⟨sO hg h zD zW Bn,I⟩) trivial (hK _ (h.put hd undef))
theorem qL {o:Oper} (hr:Region.ready .any ops listed=[i]) (hi:ops[i]?=some o) (hg:o.guard=none)
 (h:o.wp P a w (fun a' w'=>(w'=w∨S i w')/\nB P ops Q S fuel (listed.setIfInBounds i true) a' w') Q):nB P ops Q S (fuel+1) listed a w:=by
 refine ⟨fun h0=>(by rw [hr] at h0; cases h0),fun j hj=>?_⟩
 rw [hr] at hj
 obtain rfl:j=i:=by simpa using hj
 unfold wpOp
 simp only [hi,Region.wanted,hg,if_true]
 exact .inl h
theorem Ov {o:Oper} (hr:Region.ready .any ops listed=[i]) (hi:ops[i]?=some o) (hgu:o.guard=some (g,b))
 (he:b7 dq N a l) (hg:ops[g]?=some og) (zD:og.dst=some t) (zW:look l t=some (.bool b))
 (h:o.wp P a w (fun a' w'=>(w'=w∨S i w')/\nB P ops Q S fuel (listed.setIfInBounds i true) a' w') Q):nB P ops Q S (fuel+1) listed a w:=by
 refine ⟨fun h0=>(by rw [hr] at h0; cases h0),fun j hj=>?_⟩
 rw [hr] at hj
 obtain rfl:j=i:=by simpa using hj
 have hy:yielded ops a.tmps g=some b:=by
  have he:=he.at zW
  simp only [yielded,hg,jN,zD]
  rw [cU] at he
  cases ht:a.tmps[t]? with
  | none=>rw [ht] at he; simp [undef] at he
  | some x=>rw [ht] at he; simp at he; subst he; rfl
 unfold wpOp
 simp only [hi,Region.wanted,hgu,hy,jO,if_true]
 exact .inl h
theorem u7 {a:Act} {w:World} {listed:Array Bool} (hr:Region.ready .any ops listed=[]) (h:Q .normal a w):∀fuel,nB P ops Q S fuel listed a w
 | 0=>⟨hr,h⟩
 | _+1=>⟨fun _=>h,by rw [hr]; simp⟩
def Kn (w:World) (l:List Bk) (ps:List PF):Prop:=(∀e∈l,w.heap[e.g]?=some (.cells e.c e.t (0,0)))/\∀p∈ps,p.P w
section
variable {w w0:World} {own:List Bk} {ps:List PF} {k:Nat} {e:Bk} {p:PF}
theorem St.kn (h:St w0 w own ps):Kn w own ps:=⟨fun e he=>(h.mine e he).2,h.pers⟩
theorem Kn.pV (h:Kn w own ps) (hk:own[k]?=some e):w.heap[e.g]?=some (.cells e.c e.t (0,0)):=h.1 e (ah hk)
theorem Kn.pat (h:Kn w own ps) (hk:ps[k]?=some p):p.P w:=h.2 p (ah hk)
theorem Kn.pick (h:Kn w own ps) (is js:List Nat):Kn w (is.filterMap (own[·]?)) (js.filterMap (ps[·]?)):=
 ⟨fun e he=>by obtain ⟨i,_,hi⟩:=dC.1 he; exact h.pV hi,fun p hp=>by obtain ⟨i,_,hi⟩:=dC.1 hp; exact h.pat hi⟩
end
def Sk (l1:List Bk) (ps:List PF) (Z:List Nat) (l2:List Bk) (j:Nat) (w:World):Prop:=Kn w l1 ps/\(Z.contains j=true∨Kn w l2 [])
theorem Sk.two {l1:List Bk} {Z:List Nat} {l2:List Bk} {T:List Nat} (h:Sk l1 ps Z l2 j w) (hz:(Z.all fun j=>T.contains j)=true) (hj:j ∉ T):Kn w l2 []:=by
 rcases h.2 with h | h
 ·have h1:j∈Z:=by simpa using h
  exact absurd (by simpa using bp.1 hz j h1) hj
 ·exact h
theorem sQ {id:Nat} {w0:World} {own:List Bk} (S:Nat->World->Prop) (hm:P.follows .mixedOrders=true) (hn:ops.size=n) (he:b7 dq N a l) (hs:St w0 w own ps)
 (h:∀w',b7 dq N a l->St w0 w' own ps->nB P ops Q S n (Array.replicate n false) a w'):(Code.region id ops true).wp P Q a w:=by
 subst hn
 exact wp_region_any hm (zX _ _ _ _ (h _ he hs.drew))
end
def Wc:Nat->List Value->List (Nat×Value)
 | _,[]=>[]
 | k,v::l=>(k,v)::Wc (k+1) l
theorem Bp:∀(l:List Value) (k t:Nat) (v:Value),look (Wc k l) t=some v->k<=t/\l[t - k]?=some v
 | [],_,_,_,h=>by simp [Wc,look] at h
 | u::l,k,t,v,h=>by
  unfold Wc look at h
  cases hb:Nat.beq k t with
  | true=>
   rw [hb] at h
   have:=dI hb
   subst this
   simpa using h
  | false=>
   rw [hb] at h
   have u5:k≠t:=fun e=>by subst e; rw [show Nat.beq k k=true from Nat.beq_refl k] at hb; cases hb
   have:=Bp l (k+1) t v (by simpa using h)
   refine ⟨by omega,?_⟩
   rw [show t - k=(t - (k+1))+1 by omega]
   simpa using this.2
def RV (P:Program) (a:Act) (w:World):ResultVar->Value->Prop
 | .tmp t,v=>a.tmps.getD t undef=v
 | .cell t T,v=>∃p,a.tmps.getD t undef=.pointer (some p)/\(loadVar T p).run P w=.ok v w
section
variable {P:Program} {K:Act->World->Prop} {Q:Exit->Act->World->Prop} {R:Ending->World->Prop} {N:Nat} {dq:List Deferred} {a:Act} {l:List (Nat×Value)} {w w0:World} {own:List Bk} {ps:List PF} {fn:Func} {c x y:Code}
theorem enter {f:FuncId} {args:Array Value} (hf:P.funcs[f]?=some fn) (hb:fn.body=some c) (hn:fn.ntmps=N) (hz:Nat.ble args.size N=true)
 (h:∀a,Env N a (Wc 0 args.toList)->St w w [] []->c.wp P (bodyPost P fn R) a w):Calls P f args w R:=by
 refine calls_of_wp hf hb (h _ ⟨?_,I,fun t v hv=>?_⟩ (St.start w))
 ·have:=dH hz
  simp; omega
 ·have:=(Bp _ _ _ _ hv).2
  have fh:t<args.size:=by
   rcases aV t args.size with h | h
   ·exact h
   ·rw [Nat.sub_zero,bg (by simpa using h)] at this; cases this
  rw [cU,Array.getElem?_append_left fh]
  simp at this
  simp [this]
theorem RV.tmp (h:b7 dq N a l) (hv:look l t=some v):RV P a w (.tmp t) v:=h.at hv
theorem RV.cell (h:b7 dq N a l) {c:Array Value} {u:TypeId} (ht:oh P T n) (hv:look l t=some (cY g)) (hg:w.heap[g]?=some (.cells c u (0,0))) (hn:c.size=n):RV P a w (.cell t T) (.agg c):=by
 obtain ⟨⟨d,hu,hd⟩,hi⟩:=ht
 exact ⟨_,h.at hv,run_loadVar_row w g u T c (0,0) d hg hu (by cases d<;>simp_all) (by rw [hi,hn])⟩
def L1 (ts:Array Value):ResultVar->Sem Value
 | .tmp t=>pure (ts.getD t undef)
 | .cell t T=>do loadVar T (<- asAddr (ts.getD t undef))
theorem sR (fn:Func) (ts:Array Value):results fn ts=(do let vs <- fn.results.mapM (L1 ts); pure (if h:vs.size=1 then vs[0] else .tuple vs)):=rfl
theorem rI (h:RV P a w r v):(L1 a.tmps r).run P w=.ok v w:=by
 cases r with
 | tmp t=>simp only [RV] at h; simp only [L1,h]; rfl
 | cell t T=>
  obtain ⟨p,hp,hr⟩:=h
  simp only [L1,hp]
  simp [asAddr,hr]
theorem iJ (h:fn.results=#[r]) (h1:RV P a w r v):(results fn a.tmps).run P w=.ok v w:=by
 have h1:=rI h1
 simp only [sR,h,ju,ku,List.mapM_nil]
 simp [h1]
theorem lk (h:fn.results=#[r,r']) (h1:RV P a w r v) (h2:RV P a w r' v'):(results fn a.tmps).run P w=.ok (.tuple #[v,v']) w:=by
 have h1:=rI h1
 have h2:=rI h2
 simp only [sR,h,ju,ku,List.mapM_nil]
 simp [h1,h2]
theorem ahk {r'':ResultVar} {v'':Value} (h:fn.results=#[r,r',r'']) (h1:RV P a w r v) (h2:RV P a w r' v') (h3:RV P a w r'' v''):(results fn a.tmps).run P w=.ok (.tuple #[v,v',v'']) w:=by
 have h1:=rI h1
 have h2:=rI h2
 have h3:=rI h3
 simp only [sR,h,ju,ku,List.mapM_nil]
 simp [h1,h2,h3]
theorem Ow (h:fn.results=#[]):(results fn a.tmps).run P w=.ok (.tuple #[]) w:=by simp [results,h]
theorem leave (h:Env N a l) (hr:(results fn a.tmps).run P w=.ok v w) (hR:R (.returned v) w):bodyPost P fn R .ret a w:=⟨h.defers,v,hr,hR⟩
theorem Ox (h:Env N a l) (hr:(results fn a.tmps).run P w=.ok v w) (hR:R (.returned v) w):bodyPost P fn R .normal a w:=⟨h.defers,v,hr,hR⟩
theorem b5 (h:K a w):Exit.then K Q .normal a w:=h
theorem oM (h:Q (.exit i) a w):Exit.then K Q (.exit i) a w:=h
theorem nN (h:Q .ret a w):Exit.then K Q .ret a w:=h
theorem tK (h:Q .normal a w):Exit.inBlock i Q .normal a w:=h
theorem qM (h:Q .ret a w):Exit.inBlock i Q .ret a w:=h
theorem wz (h:Q .normal a w):Exit.inBlock i Q (.exit i) a w:=by simpa [Exit.inBlock] using h
theorem ahl (hn:Nat.beq j i=false) (h:Q (.exit j) a w):Exit.inBlock i Q (.exit j) a w:=by
 have:j≠i:=fun e=>by subst e; rw [show Nat.beq j j=true from Nat.beq_refl j] at hn; cases hn
 simpa [Exit.inBlock,this] using h
theorem amH (h:Q .ret a w):Exit.noGoto Q .ret a w:=h
theorem jA (h:b7 dq N a l) (hz:eB l z=some (.bool b)) (ht:b=true->x.wp P Q a w) (hf:b=false->y.wp P Q a w):(Code.cond z x y).wp P Q a w:=wp_cond_split (h.ev hz) ht hf
theorem GY (h:b7 dq N a l) (hz:eB l z=some (.bool b)) (hb:b=true) (ht:x.wp P Q a w):(Code.cond z x y).wp P Q a w:=wp_cond_true (hb ▸ h.ev hz) ht
theorem rV (h:b7 dq N a l) (hz:eB l z=some (.bool b)) (hb:b=false) (ht:y.wp P Q a w):(Code.cond z x y).wp P Q a w:=wp_cond_false (hb ▸ h.ev hz) ht
theorem cut (M:Act->World->Prop) (h:c.wp P (Exit.then M Q) a w) (hK:∀a w,M a w->K a w):c.wp P (Exit.then K Q) a w:=
 wp_mono h fun e a w hq=>by cases e<;>first | exact hK _ _ hq | exact hq
theorem aI {id:Nat} {ops:List Oper} (h:wpList P ops.toArray Q ops a w):(Code.region id ops.toArray false).wp P Q a w:=wp_region_lit h
end
section
variable {P:Program} {K:Act->World->Prop} {Q:Exit->Act->World->Prop} {N:Nat} {dq:List Deferred} {a:Act} {l:List (Nat×Value)} {w w0:World} {own:List Bk} {ps:List PF}
variable {d:Nat} {ty:TypeId} {pos:String} {af:Array Edge} {gd:Option (Nat×Bool)}
theorem nC {z:Nat} {parts:Array (Nat×Operand)} {pv:Array (Nat×Value)} {zv:Value} (h:b7 dq N a l) (hs:St w0 w own ps) (hd:Nat.blt d N=true)
 (hT:P.underlying T=some (.slice E)) (hE:∃i,P.info? E=some i/\i.size=z) (hz:∃i,P.info? E=some i/\i.zero=some zv) (hn:n*z<=1000000) (pJ:n*z≠0)
 (hp:parts.toList.map (fun p=>(p.1,eB l p.2))=pv.toList.map (fun p=>(p.1,some p.2)))
 (hf:Instr.fill (fun i=>some (i*z,z)) ((Array.range (n*z)).map (zv.cells[·%zv.cells.size]!)) pv.toList=some c)
 (hK:∀a' w' g,b7 dq N a' ((d,.slice (cS g) n n)::l)->St w0 w' (⟨g,c,E⟩::own) ps->K a' w'):
  Oper.wp P ⟨some d,.buildSlice T n parts,ty,pos,af,gd⟩ a w K Q:=by
 have he:parts.map (fun (i,x)=>(i,a.eval x))=pv:=by
  apply jx
  rw [fe]
  generalize parts.toList=xl at hp ⊢
  generalize pv.toList=vl at hp ⊢
  induction xl generalizing vl with
  | nil=>cases vl with
   | nil=>rfl
   | cons=>simp at hp
  | cons x xl ih=>cases vl with
   | nil=>simp at hp
   | cons v vl=>
    simp only [dk,eY,cP] at hp ⊢
    refine ⟨?_,ih vl hp.2⟩
    obtain ⟨i,x⟩:=x
    obtain ⟨j,v⟩:=v
    have h1:i=j:=hp.1.1
    have h2:=h.ev hp.1.2
    subst h1
    exact Prod.ext I h2
 obtain ⟨i,hi,hv⟩:=hz
 have Q5:(zeroValue E).run P w=.ok zv w:=by simp [zeroValue,typeInfo,hi,hv]
 have hr:(execOp a.eval ⟨some d,.buildSlice T n parts,ty,pos,af,gd⟩).run P w=.ok (.value (.slice (cS w.heap.size) n n)) (w.alloc (.cells c E)):=by
  simp only [execOp,he,Instr.buildSlice,Sem.run_bind,run_underlying hT w,Result.andThen_ok,run_sizeOf hE,ak (show ¬n*z>2 ^ 24 by omega),ak pJ,Q5,Sem.run_pure,hf]
  rfl
 unfold Oper.wp
 rw [hr]
 exact hK _ _ _ (h.put hd _) (hs.push _ _)
end
open Go.RowKit Anv Go.Lib
structure Hb (w:World) (a:Option Addr) (k:Nat) (l:List (Int×Option Addr×Nat)):Prop where
 len:l.length=k
 cells:0<k->∃G o,a=some ⟨G,o,none⟩/\G<w.heap.size/\∀i (h:i<l.length),w.cell? ⟨G,o+i*2,none⟩=some (.bool (neg l[i].1))/\w.cell? ⟨G,o+i*2+1,none⟩=some (.slice l[i].2.1 (zl l[i].1) l[i].2.2)
 qJ:∀x∈l,iY w x.2.1 x.2.2 x.1
theorem Hb.below {w':World} {a:Option Addr} {k:Nat} {l:List (Int×Option Addr×Nat)} (h:Hb w a k l) (hb:Below w.heap.size w w'):Hb w' a k l:=
  ⟨h.len,fun hp=>by
    obtain ⟨G,o,ha,hG,hc⟩:=h.cells hp
    exact ⟨G,o,ha,cl hG hb.size,fun i hi=>⟨(hb.cell hG).trans (hc i hi).1,(hb.cell hG).trans (hc i hi).2⟩⟩,
   fun x hx=>(h.qJ x hx).below hb⟩
theorem Hb.nil (w:World):Hb w none 0 []:=⟨rfl,fun h=>ae,fun x hx=>by cases hx⟩
def ave (l:List (Int×Option Addr×Nat)):Int:=l.foldl (fun s x=>s+x.1) 0
def ash (l:List (Int×Option Addr×Nat)):Int:=l.foldl (fun s x=>s*x.1) 1
open Go.Shelf Go.Proofs
def aar:Go.Shelf.Ren:=⟨fun | 189=>172 | 125=>203 | 257=>202 | 128=>151 | 129=>237 | 294=>228 | 295=>229 | 296=>230 | 297=>231 | 298=>232 | 299=>233 | 216=>234 | 300=>235 | 301=>236 | 328=>241 | 329=>242 | 330=>243 | 331=>244 | 332=>245 | 215=>246 | 343=>248 | n=>n,fun | 28=>26 | 3=>3 | 46=>99 | 0=>0 | 51=>98 | 53=>96 | 4=>4 | 183=>306 | 182=>305 | 131=>124 | 5=>5 | 9=>9 | 218=>311 | 222=>315 | 228=>317 | 229=>214 | n=>n,fun | n=>n⟩
theorem aat:Go.Proofs.Lays.n189 prog aar:={
 mixed:=by kernel_rfl
 f125:=func203.trans (aq some bI)
 f128:=func151.trans (aq some bI)
 f129:=func237.trans (aq some bI)
 f189:=func172.trans (aq some bI)
 f215:=func246.trans (aq some bI)
 f216:=func234.trans (aq some bI)
 f257:=func202.trans (aq some bI)
 f294:=func228.trans (aq some bI)
 f295:=func229.trans (aq some bI)
 f296:=func230.trans (aq some bI)
 f297:=func231.trans (aq some bI)
 f298:=func232.trans (aq some bI)
 f299:=func233.trans (aq some bI)
 f300:=func235.trans (aq some bI)
 f301:=func236.trans (aq some bI)
 f328:=func241.trans (aq some bI)
 f329:=func242.trans (aq some bI)
 f330:=func243.trans (aq some bI)
 f331:=func244.trans (aq some bI)
 f332:=func245.trans (aq some bI)
 f343:=func248.trans (aq some bI)
 t0:=underlying0
 a0:=isAgg0
 z0:=sizeOf0
 v0:=zeroValue0
 t3:=underlying3
 a3:=isAgg3
 z3:=sizeOf3
 v3:=zeroValue3
 t4:=underlying4
 a4:=isAgg4
 z4:=sizeOf4
 v4:=zeroValue4
 t5:=underlying5
 a5:=isAgg5
 z5:=sizeOf5
 v5:=zeroValue5
 t9:=underlying9
 a9:=isAgg9
 z9:=sizeOf9
 v9:=zeroValue9
 t28:=underlying26
 a28:=isAgg26
 z28:=sizeOf26
 v28:=zeroValue26
 t46:=underlying99
 a46:=isAgg99
 z46:=sizeOf99
 v46:=zeroValue99
 t51:=underlying98
 a51:=isAgg98
 z51:=sizeOf98
 v51:=zeroValue98
 t53:=underlying96
 a53:=isAgg96
 z53:=sizeOf96
 v53:=zeroValue96
 t131:=underlying124
 a131:=isAgg124
 z131:=sizeOf124
 v131:=zeroValue124
 t182:=underlying305
 a182:=isAgg305
 z182:=sizeOf305
 v182:=zeroValue305
 t183:=underlying306
 a183:=isAgg306
 z183:=sizeOf306
 v183:=zeroValue306
 t218:=underlying311
 a218:=isAgg311
 z218:=sizeOf311
 v218:=zeroValue311
 t222:=underlying315
 a222:=isAgg315
 z222:=sizeOf315
 v222:=zeroValue315
 t228:=underlying317
 a228:=isAgg317
 z228:=sizeOf317
 v228:=zeroValue317
 t229:=underlying214
 a229:=isAgg214
 z229:=sizeOf214
 v229:=zeroValue214 }
open Go.Sort Go.RowKit in
theorem aaq (blk off cap:Nat) (zs:List Int) (w:World) (hH:Holds (Value.int .i64) w blk off zs.toArray) (aoQ:blk<w.heap.size) (qZ:zs.length<4611686018427387904):
  Calls prog 172 #[.slice (some ⟨blk,off,none⟩) zs.length cap] w fun e w'=>
   e=.returned (.tuple #[])/\∃n os,w'=grow (putRow (Value.int .i64) (Sort.ahead w n) blk off (zs.mergeSort fun x y=>decide (x<=y)).toArray) os:=Any.slices_Sort_int aat blk off cap zs w hH aoQ qZ
open Go.RowKit Go.Sort in
theorem aap (p:Option Addr) (cap:Nat) (w:World):
  Calls prog 172 #[.slice p 0 cap] w fun e w'=>e=.returned (.tuple #[])/\w'=w:=Any.slices_Sort_int_none aat p cap w
end Go.Proofs.YtgopcdagnicekaaGreatDoor
