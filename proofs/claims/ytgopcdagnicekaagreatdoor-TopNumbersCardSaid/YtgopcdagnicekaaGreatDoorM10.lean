/- What is known of a frame and of a world: slots, blocks of the call's own, facts that last. No program in sight. No condition. -/
import Derived.Test.YtgopcdagnicekaaGreatDoorM1
import Derived.Test.YtgopcdagnicekaaGreatDoorM2
import Derived.Deep.MidRow
import Derived.OrdersHeld
import Derived.Deep.QuietTactic
import Derived.Deep.LoopGhost
import Derived.Scope
import Derived.Test.YtgopcdagnicekaaGreatDoorM6
import Derived.Shelf.Sort.Plain
import Derived.Shelf.Slices.In.SortNone
import Derived.Test.YtgopcdagnicekaaGreatDoorRows

set_option linter.unusedVariables false
set_option linter.unusedSimpArgs false
set_option linter.all false
namespace Go.Proofs.YtgopcdagnicekaaGreatDoor
open Go.RowKit Anv
def look:List (Nat×Value)->Nat->Option Value
 | [],_=>none
 | (k,v)::l,t=>bif Nat.beq k t then some v else look l t
def bV (l:List (Nat×Value)):Operand->Option Value
 | .tmp t=>look l t
 | .const v=>some v
 | .global g=>some (bB g)
 | .func f=>some (.func (.func f) #[] #[])
structure aW (dq:List Deferred) (N:Nat) (a:Act) (l:List (Nat×Value)):Prop where
 size:a.tmps.size=N
 defers:a.defers=dq
 get:∀t v,look l t=some v->a.tmps.getD t undef=v
abbrev Env (N:Nat) (a:Act) (l:List (Nat×Value)):Prop:=aW [] N a l
section
variable {dq:List Deferred} {N:Nat} {a:Act} {l:List (Nat×Value)}
theorem aW.ev (h:aW dq N a l) {x:Operand} {v:Value} (hx:bV l x=some v):a.eval x=v:=by
 cases x with
 | tmp t=>exact h.get t v hx
 | const c=>exact dw hx
 | global g=>exact dw hx
 | func f=>exact dw hx
theorem aW.put (h:aW dq N a l) {d:Nat} (hd:Nat.blt d N=true) (v:Value):aW dq N (a.put (some d) v) ((d,v)::l):=by
 have hd':d<N:=kZ hd
 refine ⟨by simp [Act.put,h.size],h.defers,fun t u hu=>?_⟩
 unfold look at hu
 by_cases e:d=t
 ·subst e
  have:Nat.beq d d=true:=Nat.beq_refl d
  rw [this] at hu
  simp at hu
  subst hu
  simp [Act.put,Array.getD,h.size,hd']
 ·have:Nat.beq d t=false:=by
   cases hb:Nat.beq d t with
   | false=>rfl
   | true=>exact absurd (k5 hb) e
  rw [this] at hu
  have:=h.get t u (by simpa using hu)
  rw [<- this]
  simp [Act.put,jf,Array.getElem?_setIfInBounds_ne e]
theorem aW.E7 (h:aW dq N a l) (v:Value):aW dq N (a.put none v) l:=h
theorem aW.nil (h:aW dq N a l):aW dq N a []:=⟨h.size,h.defers,fun t v hv=>by simp [look] at hv⟩
theorem aW.add (h:aW dq N a l) {t:Nat} {v:Value} (hv:a.tmps.getD t undef=v):aW dq N a ((t,v)::l):=by
 refine ⟨h.size,h.defers,fun u x hx=>?_⟩
 unfold look at hx
 cases hb:Nat.beq t u with
 | true=>rw [hb] at hx; simp at hx; subst hx; rw [<- k5 hb]; exact hv
 | false=>rw [hb] at hx; exact h.get u x (by simpa using hx)
def yW (l:List (Nat×Value)):List (Nat×Value)->Prop
 | []=>True
 | (t,v)::r=>look l t=some v/\yW l r
theorem aW.sub (h:aW dq N a l) {l2:List (Nat×Value)} (hs:yW l l2):aW dq N a l2:=by
 induction l2 with
 | nil=>exact h.nil
 | cons p l2 ih=>exact (ih hs.2).add (h.get _ _ hs.1)
theorem aW.at (h:aW dq N a l) {t:Nat} {v:Value} (hv:look l t=some v):a.tmps.getD t undef=v:=h.get t v hv
end
structure Bk where
 g:Nat
 c:Array Value
 t:TypeId
structure PF where
 P:World->Prop
 di:Nat->Prop
 lt:∀{w b},P w->di b->b<w.heap.size
 oC:∀{w w':World},P w->w.heap.size<=w'.heap.size->(∀b,di b->w'.heap[b]?=w.heap[b]?)->P w'
structure St (w0 w:World) (own:List Bk) (ps:List PF):Prop where
 below:Below w0.heap.size w0 w
 mine:∀e∈own,w0.heap.size<=e.g/\w.heap[e.g]?=some (.cells e.c e.t (0,0))
 nd:(own.map Bk.g).Nodup
 pers:∀p∈ps,p.P w
 apart:∀p∈ps,∀e∈own,¬p.di e.g
theorem lt_of_block {w:World} {g:Nat} {o:Obj} (h:w.heap[g]?=some o):g<w.heap.size:=by
 rcases dr g w.heap.size with cD | vG
 ·exact cD
 ·rw [mQ vG] at h; cases h
section
variable {w0 w w':World} {own:List Bk} {ps:List PF} {e:Bk} {p:PF} {k:Nat}
theorem St.start (w:World):St w w [] []:=
 ⟨Below.refl _ _,fun e h=>by simp at h,by simp,fun p h=>by simp at h,fun p h=>by simp at h⟩
theorem St.nA (h:St w0 w own ps) (hk:own[k]?=some e):w.heap[e.g]?=some (.cells e.c e.t (0,0)):=(h.mine e (aB hk)).2
theorem St.oge (h:St w0 w own ps) (hk:own[k]?=some e):w0.heap.size<=e.g:=(h.mine e (aB hk)).1
theorem St.pat (h:St w0 w own ps) (hk:ps[k]?=some p):p.P w:=h.pers p (aB hk)
theorem St.one (h:St w0 w own ps) {j:Nat} {f:Bk} (hk:own[k]?=some e) (hj:own[j]?=some f) (hn:Nat.beq k j=false):e.g≠f.g:=by
 intro he
 have hkj:k≠j:=fun h=>by subst h; rw [show Nat.beq k k=true from Nat.beq_refl k] at hn; cases hn
 have h1:(own.map Bk.g)[k]?=some e.g:=by simp [hk]
 have h2:(own.map Bk.g)[j]?=some e.g:=by simp [hj,he]
 have hl:k<(own.map Bk.g).length:=by
  rcases dr k (own.map Bk.g).length with h | h
  ·exact h
  ·rw [dz h] at h1; cases h1
 exact hkj ((List.getElem?_inj hl h.nd).1 (h1.trans h2.symm))
theorem St.iB (h:St w0 w own ps) (p:PF) (hp:p.P w) (ha:∀e∈own,¬p.di e.g):St w0 w own (p::ps):=
 ⟨h.below,h.mine,h.nd,fun q hq=>by
  rcases dW.1 hq with rfl | hq
  ·exact hp
  ·exact h.pers q hq,fun q hq=>by
  rcases dW.1 hq with rfl | hq
  ·exact ha
  ·exact h.apart q hq⟩
theorem St.call (h:St w0 w own ps) (hb:Below w.heap.size w w'):St w0 w' own ps:=
 ⟨h.below.trans (hb.mono h.below.size),fun e he=>⟨(h.mine e he).1,(hb.block _ (lt_of_block (h.mine e he).2)).trans (h.mine e he).2⟩,h.nd,
  fun p hp=>p.oC (h.pers p hp) hb.size fun b Dc=>hb.block b (p.lt (h.pers p hp) Dc),h.apart⟩
theorem St.drew (h:St w0 w own ps):St w0 w.drew own ps:=h.call (Below.refl _ _).drew
theorem St.push (h:St w0 w own ps) (c:Array Value) (t:TypeId):St w0 (w.alloc (.cells c t)) (⟨w.heap.size,c,t⟩::own) ps:=by
 have h':=h.call (qU w (.cells c t))
 refine ⟨h'.below,fun e he=>?_,?_,h'.pers,fun p hp e he hf=>?_⟩
 ·rcases dW.1 he with rfl | he
  ·exact ⟨h.below.size,heap_alloc_new w _⟩
  ·exact h'.mine e he
 ·simp only [jJ,List.nodup_cons]
  refine ⟨fun hm=>?_,h.nd⟩
  obtain ⟨e,he,hg⟩:=ff.1 hm
  have:=lt_of_block (h.mine e he).2
  omega
 ·rcases dW.1 he with rfl | he
  ·exact absurd (p.lt (h.pers p hp) hf) (Nat.lt_irrefl _)
  ·exact h.apart p hp e he hf
structure Oi (w w':World) (g:Nat) (c:Array Value) (t:TypeId):Prop where
 os:w'.os=w.os
 tape:w'.tape=w.tape
 output:w'.output=w.output
 size:w'.heap.size=w.heap.size
 new:w'.heap[g]?=some (.cells c t (0,0))
 old:∀k,k≠g->w'.heap[k]?=w.heap[k]?
theorem St.Ib (h:St w0 w own ps) (hk:own[k]?=some e) {c:Array Value} (hu:Oi w w' e.g c e.t):St w0 w' (own.set k ⟨e.g,c,e.t⟩) ps:=by
 have vG:=h.oge hk
 have hlen:k<own.length:=by
  rcases dr k own.length with h | h
  ·exact h
  ·rw [dz h] at hk; cases hk
 have hek:own[k]=e:=by
  have:=aw hlen
  rw [hk] at this
  exact (dw this).symm
 have akp:(own.set k ⟨e.g,c,e.t⟩).map Bk.g=own.map Bk.g:=by
  rw [qK]
  apply kV
  intro i
  rw [td]
  split
  ·rename_i hi
   subst hi
   simp [hlen,hek]
  ·rfl
 have hgs:∀f∈own.set k ⟨e.g,c,e.t⟩,f=⟨e.g,c,e.t⟩∨(f∈own/\f.g≠e.g):=by
  intro f hf
  obtain ⟨i,hi,rfl⟩:=List.getElem_of_mem hf
  rw [List.getElem_set]
  split
  ·exact .inl rfl
  ·rename_i sQ
   have E3:i<own.length:=by simpa using hi
   refine .inr ⟨mS E3,?_⟩
   have hb:Nat.beq i k=false:=by
    cases hb:Nat.beq i k with
    | false=>rfl
    | true=>exact absurd (k5 hb).symm sQ
   exact h.one (aw E3) hk hb
 refine ⟨⟨hu.os.trans h.below.os,hu.tape.trans h.below.tape,hu.output.trans h.below.output,by rw [hu.size]; exact h.below.size,fun i hi=>?_⟩,fun f hf=>?_,by rw [akp]; exact h.nd,fun p hp=>?_,fun p hp f hf=>?_⟩
 ·exact (hu.old i ae).trans (h.below.block i hi)
 ·rcases hgs f hf with rfl | ⟨hf,hn⟩
  ·exact ⟨vG,hu.new⟩
  ·exact ⟨(h.mine f hf).1,(hu.old _ hn).trans (h.mine f hf).2⟩
 ·exact p.oC (h.pers p hp) (nY hu.size.symm) fun b hb=>hu.old b fun hbe=>h.apart p hp e (aB hk) (hbe ▸ hb)
 ·rcases hgs f hf with rfl | ⟨hf,_⟩
  ·exact h.apart p hp e (aB hk)
  ·exact h.apart p hp f hf
theorem St.pick (h:St w0 w own ps) (is js:List Nat) (hn:is.Nodup):St w0 w (is.filterMap (own[·]?)) (js.filterMap (ps[·]?)):=by
 refine ⟨h.below,fun e he=>?_,?_,fun p hp=>?_,fun p hp e he=>?_⟩
 ·obtain ⟨i,_,hi⟩:=ku.1 he
  exact h.mine e (aB hi)
 ·clear js
  induction is with
  | nil=>simp
  | cons i is ih=>
   have Yr:=List.nodup_cons.1 hn
   cases hi:own[i]? with
   | none=>simp [hi]; simpa using ih Yr.2
   | some e=>
    simp only [List.filterMap_cons,hi,jJ,List.nodup_cons]
    refine ⟨fun hm=>?_,ih Yr.2⟩
    obtain ⟨f,hf,hg⟩:=ff.1 hm
    obtain ⟨j,hj,MG⟩:=ku.1 hf
    have hb:Nat.beq j i=false:=by
     cases hb:Nat.beq j i with
     | false=>rfl
     | true=>rw [k5 hb] at hj; exact absurd hj Yr.1
    exact h.one MG hi hb hg
 ·obtain ⟨j,_,hj⟩:=ku.1 hp
  exact h.pat hj
 ·obtain ⟨j,_,hj⟩:=ku.1 hp
  obtain ⟨i,_,hi⟩:=ku.1 he
  exact h.apart p (aB hj) e (aB hi)
theorem St.Yx (h:St w0 w own ps) (p:PF) (hf:∀b,p.di b->w.heap.size<=b):∀e∈own,¬p.di e.g:=fun e he hfe=>by
 have:=lt_of_block (h.mine e he).2
 have:=hf _ hfe
 omega
theorem St.Yy (h:St w0 w own ps) (p:PF) (hf:∀b,p.di b->b<w0.heap.size):∀e∈own,¬p.di e.g:=fun e he hfe=>by
 have:=(h.mine e he).1
 have:=hf _ hfe
 omega
end
def lg (P:Program) (T:TypeId) (n:Nat):Prop:=(∃d,P.underlying T=some d/\d.isRow=true)/\(P.info? T).map (·.size)=some n
def jx (P:Program) (T:TypeId):Prop:=(∃d,P.underlying T=some d/\d.isRow=false)/\(P.info? T).map (·.size)=some 1
section
variable {P:Program} {K:Act->World->Prop} {Q:Exit->Act->World->Prop} {N:Nat} {dq:List Deferred} {a:Act} {l:List (Nat×Value)} {w w0:World} {own:List Bk} {ps:List PF}
variable {d:Nat} {ds:Option Nat} {ty:TypeId} {pos:String} {af:Array Edge} {gd:Option (Nat×Bool)} {ops:Array Oper} {rest:List Oper} {o:Oper}
theorem lg.size {T n:Nat} (h:lg P T n):∃i,P.info? T=some i/\i.size=n:=by
 obtain ⟨_,h⟩:=h
 cases hq:P.info? T with
 | none=>simp [hq] at h
 | some i=>exact ⟨i,rfl,by simpa [hq] using h⟩
theorem jx.size {T:Nat} (h:jx P T):∃i,P.info? T=some i/\i.size=1:=by
 obtain ⟨_,h⟩:=h
 cases hq:P.info? T with
 | none=>simp [hq] at h
 | some i=>exact ⟨i,rfl,by simpa [hq] using h⟩
theorem lg.agg {T n:Nat} (h:lg P T n):(isAgg T).run P w=.ok true w:=by
 obtain ⟨⟨d,hu,hd⟩,_⟩:=h
 unfold isAgg
 rw [Sem.run_bind,run_underlying hu w]
 cases d<;>simp_all
theorem jx.agg {T:Nat} (h:jx P T):(isAgg T).run P w=.ok false w:=by
 obtain ⟨⟨d,hu,hd⟩,_⟩:=h
 unfold isAgg
 rw [Sem.run_bind,run_underlying hu w]
 cases d<;>simp_all
theorem run_sizeOf {T n:Nat} (h:∃i,P.info? T=some i/\i.size=n):(sizeOf T).run P w=.ok n w:=by
 obtain ⟨i,hi,hn⟩:=h
 simp [sizeOf,typeInfo,hi,hn]
theorem b7 {x:Operand} {v:Value} (h:aW dq N a l) (hx:bV l x=some v):(execOp a.eval ⟨some d,.move x,ty,pos,af,gd⟩).run P w=.ok (.value v) w:=by
 simp only [execOp,h.ev hx]; rfl
theorem aV {x:Operand} {v:Value} (h:aW dq N a l) (hx:bV l x=some v):(execOp a.eval ⟨some d,.assign x,ty,pos,af,gd⟩).run P w=.ok (.value v) w:=by
 simp only [execOp,h.ev hx]; rfl
theorem ij {c x y:Operand} {b:Bool} {v:Value} (h:aW dq N a l) (hc:bV l c=some (.bool b)) (hv:bV l (if b then x else y)=some v):
  (execOp a.eval ⟨some d,.pick c x y,ty,pos,af,gd⟩).run P w=.ok (.value v) w:=by
 have:=h.ev hv
 cases b<;>simp_all [execOp,h.ev hc,asBool]
theorem dQ {x:Operand} {i:Nat} {vs:Array Value} {v:Value} (h:aW dq N a l) (hx:bV l x=some (.tuple vs)) (hv:vs[i]?=some v):
  (execOp a.eval ⟨some d,.extract x i,ty,pos,af,gd⟩).run P w=.ok (.value v) w:=by
 simp [execOp,h.ev hx,Instr.extract,hv]
theorem dH {x:Operand} {T g o:Nat} {c:Array Value} {t:TypeId} {n:Nat} {cs:List Value} (h:aW dq N a l) (ht:lg P T n) (hx:bV l x=some (.pointer (some ⟨g,o,none⟩)))
  (hg:w.heap[g]?=some (.cells c t (0,0))) (hc:(c.toList.drop o).take n=cs) (hn:cs.length=n):
  (execOp a.eval ⟨some d,.load T x,ty,pos,af,gd⟩).run P w=.ok (.value (.agg cs.toArray)) w:=by
 obtain ⟨⟨dd,hu,hd⟩,hi⟩:=ht
 have hr:w.rangeAt g o cs:=by
  intro j v hv
  rw [cell_of_row w g _ c t (0,0) hg]
  subst hc
  rw [yC] at hv
  split at hv
  ·rw [List.getElem?_drop] at hv; simpa using hv
  ·cases hv
 simp only [execOp,h.ev hx]
 rw [Sem.run_bind,run_loadAt_mid w g o T cs dd hr hu hd (by rw [hi,hn])]
 rfl
theorem dX {x:Operand} {T g:Nat} {c:Array Value} {t:TypeId} {n:Nat} (h:aW dq N a l) (ht:lg P T n) (hx:bV l x=some (bB g))
  (hg:w.heap[g]?=some (.cells c t (0,0))) (hn:c.size=n):
  (execOp a.eval ⟨some d,.load T x,ty,pos,af,gd⟩).run P w=.ok (.value (.agg c)) w:=by
 have:=dH (d:=d) (ty:=ty) (pos:=pos) (af:=af) (gd:=gd) (cs:=c.toList) h ht hx hg (by rw [vv,bD (by simp; omega)]) (by simpa using hn)
 simpa using this
theorem aS {x:Operand} {T g o:Nat} {c:Array Value} {t:TypeId} {v:Value} (h:aW dq N a l) (ht:jx P T) (hx:bV l x=some (.pointer (some ⟨g,o,none⟩)))
  (hg:w.heap[g]?=some (.cells c t (0,0))) (hv:c[o]?=some v):
  (execOp a.eval ⟨some d,.load T x,ty,pos,af,gd⟩).run P w=.ok (.value v) w:=by
 have hc:w.cell? ⟨g,o,none⟩=some v:=by rw [cell_of_row w g _ c t (0,0) hg,hv]
 simp only [execOp,h.ev hx,Instr.loadAt,Instr.sureAddr,Sem.run_bind,Sem.run_pure,Result.andThen_ok,loadVar,ht.agg]
 simp [load,Sem.run,hc]
theorem jl {x:Operand} {T:Nat} {p:Addr} {v:Value} (h:aW dq N a l) (ht:jx P T) (hx:bV l x=some (.pointer (some p)))
  (hc:w.cell? p=some v):
  (execOp a.eval ⟨some d,.load T x,ty,pos,af,gd⟩).run P w=.ok (.value v) w:=by
 simp only [execOp,h.ev hx,Instr.loadAt,Instr.sureAddr,Sem.run_bind,Sem.run_pure,Result.andThen_ok,loadVar,ht.agg]
 simp [load,Sem.run,hc]
theorem O4 {x:Operand} {T g o:Nat} {n:Nat} {cs:List Value} (h:aW dq N a l) (ht:lg P T n) (hx:bV l x=some (.pointer (some ⟨g,o,none⟩)))
  (hr:w.rangeAt g o cs) (hn:cs.length=n):
  (execOp a.eval ⟨some d,.load T x,ty,pos,af,gd⟩).run P w=.ok (.value (.agg cs.toArray)) w:=by
 obtain ⟨⟨dd,hu,hd⟩,hi⟩:=ht
 simp only [execOp,h.ev hx]
 rw [Sem.run_bind,run_loadAt_mid w g o T cs dd hr hu hd (by rw [hi,hn])]
 rfl
def n6 (P:Program) (S f:Nat) (off T:Nat):Prop:=∃fs fd,P.underlying S=some (.struct fs)/\fs[f]?=some fd/\fd.offset=off/\fd.type=T
theorem cU {x:Operand} {S f off T n g o:Nat} (h:aW dq N a l) (hf:n6 P S f off T) (hs:∃i,P.info? T=some i/\i.size=n) (hn:n≠0) (hx:bV l x=some (.pointer (some ⟨g,o,none⟩))):
  (execOp a.eval ⟨some d,.fieldAddr S x f,ty,pos,af,gd⟩).run P w=.ok (.value (.pointer (some ⟨g,o+off,none⟩))) w:=by
 obtain ⟨fs,fd,hu,hfd,rfl,rfl⟩:=hf
 simp only [execOp,h.ev hx,Instr.fieldAt,Sem.run_bind,run_underlying hu w,Result.andThen_ok,hfd,Instr.sureAddr,Sem.run_pure,fieldPlace,run_sizeOf hs,aQ hn,Addr.add_mid]
theorem BS {x:Operand} {S f off T:Nat} {cs:Array Value} {v:Value} (h:aW dq N a l) (hf:n6 P S f off T) (ht:jx P T) (hx:bV l x=some (.agg cs)) (hv:cs[off]?=some v):
  (execOp a.eval ⟨some d,.field S x f,ty,pos,af,gd⟩).run P w=.ok (.value v) w:=by
 obtain ⟨fs,fd,hu,hfd,rfl,rfl⟩:=hf
 simp [execOp,h.ev hx,Instr.field,Sem.run_bind,run_underlying hu w,hfd,asAgg,part,ht.agg,hv]
theorem MH {x:Operand} {S f off T n:Nat} {cs:Array Value} (h:aW dq N a l) (hf:n6 P S f off T) (ht:lg P T n) (hx:bV l x=some (.agg cs)):
  (execOp a.eval ⟨some d,.field S x f,ty,pos,af,gd⟩).run P w=.ok (.value (.agg (cs.extract off (off+n)))) w:=by
 have hs:=run_sizeOf (w:=w) ht.size
 obtain ⟨fs,fd,hu,hfd,rfl,rfl⟩:=hf
 simp [execOp,h.ev hx,Instr.field,Sem.run_bind,run_underlying hu w,hfd,asAgg,part,ht.agg,hs]
theorem bg {x y:Operand} {op:BinOp} {T yt:Nat} {vx vy v:Value} (h:aW dq N a l) (hx:bV l x=some vx) (hy:bV l y=some vy)
  (hr:(do eqGuard op T x y vx vy; binOp op T vx vy:Sem Value).run P w=.ok v w):
  (execOp a.eval ⟨some d,.binOp op T x y yt,ty,pos,af,gd⟩).run P w=.ok (.value v) w:=by
 simp only [execOp,h.ev hx,h.ev hy]
 rw [Sem.run_bind,hr]
 rfl
theorem kF {x:Operand} {op:UnOp} {T:Nat} {vx v:Value} (h:aW dq N a l) (hx:bV l x=some vx) (hr:(Op.unary op vx).run P w=.ok v w):
  (execOp a.eval ⟨some d,.unOp op T x,ty,pos,af,gd⟩).run P w=.ok (.value v) w:=by
 simp only [execOp,h.ev hx]
 rw [Sem.run_bind,hr]
 rfl
theorem im {x y:Operand} {T yt:Nat} {k:IntKind} {m n z:Int} (h:aW dq N a l) (hx:bV l x=some (.int k m)) (hy:bV l y=some (.int k n)) (hw:k.wrap (m+n)=z):
  (execOp a.eval ⟨some d,.binOp .add T x y yt,ty,pos,af,gd⟩).run P w=.ok (.value (.int k z)) w:=by
 subst hw
 exact bg h hx hy (by simp [eqGuard,binOp,Op.intArith])
theorem qW {x y:Operand} {T yt:Nat} {k:IntKind} {m n z:Int} (h:aW dq N a l) (hx:bV l x=some (.int k m)) (hy:bV l y=some (.int k n)) (hw:k.wrap (m - n)=z):
  (execOp a.eval ⟨some d,.binOp .sub T x y yt,ty,pos,af,gd⟩).run P w=.ok (.value (.int k z)) w:=by
 subst hw
 exact bg h hx hy (by simp [eqGuard,binOp,Op.intArith])
theorem yX {x y:Operand} {T yt:Nat} {k:IntKind} {m n z:Int} (h:aW dq N a l) (hx:bV l x=some (.int k m)) (hy:bV l y=some (.int k n)) (hw:k.wrap (m*n)=z):
  (execOp a.eval ⟨some d,.binOp .mul T x y yt,ty,pos,af,gd⟩).run P w=.ok (.value (.int k z)) w:=by
 subst hw
 exact bg h hx hy (by simp [eqGuard,binOp,Op.intArith])
theorem MI {T:Nat} {fs:Array Field} {v:Value} (hu:P.underlying T=some (.struct fs)) (hz:∃i,P.info? T=some i/\i.zero=some v) (ha:∃c,v=.agg c) (hs:∀f∈fs,∃i,P.info? f.type=some i):
  (execOp a.eval ⟨some d,.build T #[],ty,pos,af,gd⟩).run P w=.ok (.value v) w:=by
 obtain ⟨i,hi,hv⟩:=hz
 obtain ⟨c,rfl⟩:=ha
 have hz:(zeroValue T).run P w=.ok (.agg c) w:=by simp [zeroValue,typeInfo,hi,hv]
 have hm:∀(l:List Field),(∀f∈l,∃i,P.info? f.type=some i)->∃r,(l.mapM fun f=>do pure (f.offset,<- sizeOf f.type):Sem (List (Nat×Nat))).run P w=.ok r w:=by
  intro l
  induction l with
  | nil=>exact fun _=>⟨[],by simp⟩
  | cons f l ih=>
   intro h
   obtain ⟨j,hj⟩:=h f cT
   obtain ⟨r,hr⟩:=ih fun g hg=>h g (by simp [hg])
   have hz:=run_sizeOf (w:=w) ⟨j,hj,rfl⟩
   exact ⟨(f.offset,j.size)::r,by simp only [List.mapM_cons,Sem.run_bind,hz,Result.andThen_ok,Sem.run_pure,hr]⟩
 obtain ⟨r,hr⟩:=hm fs.toList fun f hf=>hs f (by simpa using hf)
 have Z5:(fs.mapM fun f=>do pure (f.offset,<- sizeOf f.type):Sem (Array (Nat×Nat))).run P w=.ok r.toArray w:=by
  obtain ⟨fl⟩:=fs
  simp only [BE,map_eq_pure_bind,Sem.run_bind]
  rw [hr]
  rfl
 simp only [execOp,Instr.build,Sem.run_bind,hz,Result.andThen_ok,run_underlying hu w,Z5]
 simp [Instr.fill,Value.cells]
theorem iC {x:Operand} {T:Nat} {n m:Int} {S:Nat} {ik jk:IntKind} {ds:TypeDesc} (h:aW dq N a l) (hx:bV l x=some (.int ik n)) (hS:P.underlying S=some ds) (hT:P.underlying T=some (.int jk)) (hm:jk.wrap n=m):
  (execOp a.eval ⟨some d,.convert S T x,ty,pos,af,gd⟩).run P w=.ok (.value (.int jk m)) w:=by
 subst hm
 simp [execOp,h.ev hx,convert,Sem.run_bind,run_underlying hS w,run_underlying hT w,Conv.intToInt]
theorem eW {x:Operand} {T E n c:Nat} {A:Option Addr} (h:aW dq N a l) (hT:P.underlying T=some (.slice E)) (hx:bV l x=some (.slice A n c)):
  (execOp a.eval ⟨some d,.call ⟨.builtin .len,#[x],#[T]⟩,ty,pos,af,gd⟩).run P w=.ok (.value (.int .i64 n)) w:=by
 have hv:=h.ev hx
 generalize a.eval=ρ at hv ⊢
 simp only [execOp,resolve]
 simp [hv,go_sem,Builtin.len_,run_underlying hT,goInt]
theorem kG {x y:Operand} {T E i n c b o z:Nat} {k:IntKind} (h:aW dq N a l) (hT:P.underlying T=some (.slice E)) (hE:∃j,P.info? E=some j/\j.size=z) (hx:bV l x=some (.slice (some ⟨b,o,none⟩) n c)) (hy:bV l y=some (.int k (i:Nat))) (hi:i<n):
  (execOp a.eval ⟨some d,.indexAddr T x y,ty,pos,af,gd⟩).run P w=.ok (.value (.pointer (some ⟨b,o+i*z,none⟩))) w:=by
 simp [execOp,h.ev hx,h.ev hy,Instr.indexAt,Sem.run_bind,asIntOf,run_underlying hT w,hi,run_sizeOf hE,Addr.add_mid]
theorem aX {op:Op} {v:Value} (h:aW dq N a l) (hd:Nat.blt d N=true) (hr:(execOp a.eval ⟨some d,op,ty,pos,af,gd⟩).run P w=.ok (.value v) w)
  (hK:∀a',aW dq N a' ((d,v)::l)->K a' w):Oper.wp P ⟨some d,op,ty,pos,af,gd⟩ a w K Q:=by
 unfold Oper.wp
 rw [hr]
 exact hK _ (h.put hd v)
theorem au (hg:o.guard=none) (h:o.wp P a w (wpList P ops Q rest) Q):wpList P ops Q (o::rest) a w:=
 wpList_plain hg fun _ hK=>Oper.wp_mono hK h
def Yz:Value->Bool->Bool
 | .bool c,b=>c==b
 | _,_=>false
theorem po {g t:Nat} {b:Bool} {u:Value} {og:Oper} {dd:Option Nat} {op:Op} (hg:ops[g]?=some og) (h:aW dq N a l) (xu:og.dst=some t) (xN:look l t=some u) (yY:Yz u b=false):
  Region.wanted ⟨dd,op,ty,pos,af,some (g,b)⟩ (yielded ops a.tmps)=false:=by
 have he:=h.at xN
 rw [jf] at he
 have hy:yielded ops a.tmps g≠some b:=by
  simp only [yielded,hg,CW,xu]
  cases ht:a.tmps[t]? with
  | none=>simp
  | some x=>
   rw [ht] at he
   simp at he
   subst he
   cases x<;>simp_all [Yz]
 simp only [Region.wanted]
 simpa using hy
theorem O5 {g t:Nat} {b:Bool} {u:Value} {op:Op} {og:Oper} (hg:ops[g]?=some og) (h:aW dq N a l) (xu:og.dst=some t) (xN:look l t=some u) (hd:Nat.blt d N=true) (yY:Yz u b=false)
  (hK:∀a',aW dq N a' ((d,undef)::l)->wpList P ops Q rest a' w):wpList P ops Q (⟨some d,op,ty,pos,af,some (g,b)⟩::rest) a w:=by
 unfold wpList
 rw [aQ (by rw [po hg h xu xN yY]; decide)]
 exact hK _ (h.put hd undef)
theorem afb {g t:Nat} {b:Bool} {op:Op} {og:Oper} {dd:Option Nat} (hg:ops[g]?=some og) (h:aW dq N a l) (xu:og.dst=some t) (xN:look l t=some (.bool b))
  (hK:Oper.wp P ⟨dd,op,ty,pos,af,some (g,b)⟩ a w (wpList P ops Q rest) Q):wpList P ops Q (⟨dd,op,ty,pos,af,some (g,b)⟩::rest) a w:=by
 have hy:yielded ops a.tmps g=some b:=by
  have he:=h.at xN
  simp only [yielded,hg,CW,xu]
  rw [jf] at he
  cases ht:a.tmps[t]? with
  | none=>rw [ht] at he; simp [undef] at he
  | some x=>rw [ht] at he; simp at he; subst he; rfl
 unfold wpList
 rw [aR (by simp [Region.wanted,hy])]
 exact .inl hK
theorem sv {op:Op} {v:Value} (h:aW dq N a l) (hd:Nat.blt d N=true) (hr:(execOp a.eval ⟨some d,op,ty,pos,af,none⟩).run P w=.ok (.value v) w)
  (hK:∀a',aW dq N a' ((d,v)::l)->wpList P ops Q rest a' w):wpList P ops Q (⟨some d,op,ty,pos,af,none⟩::rest) a w:=
 au rfl (aX h hd hr hK)
theorem jL {T:Nat} {x:Operand} {v:Value} {c:Array Value} (h:aW dq N a l) (hs:St w0 w own ps) (hd:Nat.blt d N=true) (hx:bV l x=some v) (hc:v.cells=c)
  (hK:∀a' w' g,aW dq N a' ((d,bB g)::l)->St w0 w' (⟨g,c,T⟩::own) ps->K a' w'):
  Oper.wp P ⟨some d,.box T x,ty,pos,af,gd⟩ a w K Q:=by
 have hr:(execOp a.eval ⟨some d,.box T x,ty,pos,af,gd⟩).run P w=.ok (.value (bB w.heap.size)) (w.alloc (.cells v.cells T)):=by
  simp only [execOp,h.ev hx]
  rfl
 subst hc
 unfold Oper.wp
 rw [hr]
 exact hK _ _ _ (h.put hd _) (hs.push _ _)
theorem fA {T:Nat} {v:Value} {c:Array Value} (h:aW dq N a l) (hs:St w0 w own ps) (hd:Nat.blt d N=true) (hz:∃i,P.info? T=some i/\i.zero=some v) (hc:v.cells=c)
  (hK:∀a' w' g,aW dq N a' ((d,bB g)::l)->St w0 w' (⟨g,c,T⟩::own) ps->K a' w'):
  Oper.wp P ⟨some d,.alloc T,ty,pos,af,gd⟩ a w K Q:=by
 obtain ⟨i,hi,hv⟩:=hz
 have hr:(execOp a.eval ⟨some d,.alloc T,ty,pos,af,gd⟩).run P w=.ok (.value (bB w.heap.size)) (w.alloc (.cells v.cells T)):=by
  have hz:(zeroValue T).run P w=.ok v w:=by simp [zeroValue,typeInfo,hi,hv]
  simp only [execOp,Instr.alloc,Sem.run_bind,hz,Result.andThen_ok]
  rfl
 subst hc
 unfold Oper.wp
 rw [hr]
 exact hK _ _ _ (h.put hd _) (hs.push _ _)
def wr (o:Nat):List Value->Array Value->Array Value
 | [],c=>c
 | v::vs,c=>wr (o+1) vs (c.setIfInBounds o v)
theorem Oi.refl {g:Nat} {c:Array Value} {t:TypeId} (h:w.heap[g]?=some (.cells c t (0,0))):Oi w w g c t:=⟨rfl,rfl,rfl,rfl,h,fun _ _=>rfl⟩
theorem Oi.trans {w1 w2:World} {g:Nat} {c c':Array Value} {t:TypeId} (h:Oi w w1 g c t) (k:Oi w1 w2 g c' t):Oi w w2 g c' t:=
 ⟨k.os.trans h.os,k.tape.trans h.tape,k.output.trans h.output,k.size.trans h.size,k.new,fun i hi=>(k.old i hi).trans (h.old i hi)⟩
theorem lK {g o:Nat} {c:Array Value} {t:TypeId} (v:Value) (h:w.heap[g]?=some (.cells c t (0,0))):Oi w (w.setCell ⟨g,o,none⟩ v) g (c.setIfInBounds o v) t:=
 ⟨rfl,rfl,rfl,by simp,by simp [World.setCell,sK,h],fun i hi=>Below.heap_setCell _ _ _ _ hi⟩
theorem pq (vs:List Value):∀(o:Nat) (w:World) (g:Nat) (c:Array Value) (t:TypeId),w.heap[g]?=some (.cells c t (0,0))->Oi w (w.setCells g o vs) g (wr o vs c) t:=by
 induction vs with
 | nil=>exact fun o w g c t h=>Oi.refl h
 | cons v vs ih=>exact fun o w g c t h=>(lK v h).trans (ih (o+1) _ g _ t (lK v h).new)
theorem US (vs:List Value):∀(o:Nat) (c:Array Value),(wr o vs c).size=c.size:=by
 induction vs with
 | nil=>exact fun _ _=>rfl
 | cons v vs ih=>intro o c; show (wr (o+1) vs _).size=_; rw [ih]; simp
theorem afc (vs:List Value):∀(o:Nat) (c:Array Value) (i:Nat),o+vs.length<=c.size->(wr o vs c)[i]?=if o<=i/\i<o+vs.length then vs[i - o]? else c[i]?:=by
 induction vs with
 | nil=>intro o c i _; simp [wr]; omega
 | cons v vs ih=>
  intro o c i h
  simp only [dy] at h
  show (wr (o+1) vs (c.setIfInBounds o v))[i]?=_
  rw [ih _ _ _ (by simp; omega)]
  simp only [dy]
  by_cases h1:i=o
  ·subst h1
   rw [aQ ae,aR ae,um ae]
   simp
  ·by_cases h2:o+1<=i/\i<o+1+vs.length
   ·rw [aR h2,aR ae,show i - o=(i - (o+1))+1 by omega]; rfl
   ·rw [aQ h2,aQ ae,Array.getElem?_setIfInBounds_ne ae]
theorem fW {T o n k:Nat} {x y:Operand} {e:Bk} {cs c':Array Value} (h:aW dq N a l) (hs:St w0 w own ps) (hi:∃i,P.info? T=some i/\i.size=n) (hx:bV l x=some (.pointer (some ⟨e.g,o,none⟩))) (hy:bV l y=some (.agg cs))
  (hk:own[k]?=some e) (hn:cs.size=n) (ho:o+cs.size<=e.c.size) (h1:cs.toList.all (·.oneCell')=true) (hc:wr o cs.toList e.c=c')
  (hK:∀a' w',aW dq N a' l->St w0 w' (own.set k ⟨e.g,c',e.t⟩) ps->K a' w'):
  Oper.wp P ⟨none,.store T x y,ty,pos,af,gd⟩ a w K Q:=by
 have hg:=hs.nA hk
 have ht:w.there e.g o cs.size:=fun j hj=>⟨by rw [cell_of_row w _ _ _ _ _ hg]; simp; omega,by simp [World.frozen?,hg]⟩
 obtain ⟨i,hi,km⟩:=hi
 have hr:(execOp a.eval ⟨none,.store T x y,ty,pos,af,gd⟩).run P w=.ok .skip (w.setCells e.g o cs.toList):=by
  simp only [execOp,h.ev hx,h.ev hy]
  rw [Sem.run_bind,run_storeAt_mid w e.g o T cs ht (by rw [hi,hn]; simp [km]) (by rw [Array.all_toList] at h1; exact h1)]
  rfl
 unfold Oper.wp
 rw [hr]
 subst hc
 exact hK _ _ (h.E7 _) (hs.Ib hk (pq _ _ _ _ _ _ hg))
theorem rM {T o k:Nat} {x y:Operand} {e:Bk} {v:Value} {c':Array Value} (h:aW dq N a l) (hs:St w0 w own ps) (hi:∃i,P.info? T=some i/\i.size=1) (hx:bV l x=some (.pointer (some ⟨e.g,o,none⟩))) (hy:bV l y=some v)
  (hk:own[k]?=some e) (ho:o<e.c.size) (h1:v.oneCell'=true) (hc:e.c.setIfInBounds o v=c')
  (hK:∀a' w',aW dq N a' l->St w0 w' (own.set k ⟨e.g,c',e.t⟩) ps->K a' w'):
  Oper.wp P ⟨none,.store T x y,ty,pos,af,gd⟩ a w K Q:=by
 have hg:=hs.nA hk
 obtain ⟨i,hi,km⟩:=hi
 have Oj:w.cell? ⟨e.g,o,none⟩=some e.c[o]:=by rw [cell_of_row w _ _ _ _ _ hg]; simp [ho]
 have hf:w.frozen? ⟨e.g,o,none⟩=false:=by simp [World.frozen?,hg]
 have hv:v.cells=#[v]:=by cases v<;>simp_all [Value.cells,Value.oneCell']
 have hr:(execOp a.eval ⟨none,.store T x y,ty,pos,af,gd⟩).run P w=.ok .skip (w.setCell ⟨e.g,o,none⟩ v):=by
  simp only [execOp,h.ev hx,h.ev hy,Instr.storeAt,Instr.sureAddr,Sem.run_bind,Sem.run_pure,Result.andThen_ok,storeVar,run_sizeOf ⟨i,hi,km⟩,hv]
  have h0:(⟨e.g,o,none⟩:Addr).add 0=⟨e.g,o,none⟩:=by rw [Addr.add_mid]; rfl
  have σ:((store (⟨e.g,o,none⟩:Addr) v).run P w)=.ok () (w.setCell ⟨e.g,o,none⟩ v):=by
   cases v<;>simp_all [store,Sem.run,Value.oneCell']
  simp [storeCells,h0,σ]
 unfold Oper.wp
 rw [hr]
 subst hc
 exact hK _ _ (h.E7 _) (hs.Ib hk (lK _ hg))
theorem cV {f:FuncId} {xs:Array Operand} {Ts:Array TypeId} {vs:Array Value} {R:Ending->World->Prop} (h:aW dq N a l) (hd:Nat.blt d N=true)
  (hb:∀args w,(callFunc f args).run P w=.ok (.enter f args) w) (hx:xs.toList.map (bV l)=vs.toList.map some) (hc:Calls P f vs w R)
  (hK:∀e w',R e w'->∃v,e=.returned v/\∀a',aW dq N a' ((d,v)::l)->K a' w'):
  Oper.wp P ⟨some d,.call ⟨.value (.func f),xs,Ts⟩,ty,pos,af,gd⟩ a w K Q:=by
 have he:xs.map a.eval=vs:=by
  apply BG
  rw [qg]
  generalize xs.toList=xl at hx ⊢
  generalize vs.toList=vl at hx ⊢
  induction xl generalizing vl with
  | nil=>cases vl with
   | nil=>rfl
   | cons=>simp at hx
  | cons x xl ih=>cases vl with
   | nil=>simp at hx
   | cons v vl=>
    simp only [jJ,pf] at hx ⊢
    exact ⟨h.ev hx.1,ih vl hx.2⟩
 have hr:(execOp a.eval ⟨some d,.call ⟨.value (.func f),xs,Ts⟩,ty,pos,af,gd⟩).run P w=.ok (.enter f vs) w:=by
  have hf:a.eval (.func f)=.func (.func f) #[] #[]:=rfl
  simp only [execOp,resolve,he,hf,Sem.run_bind]
  simp [Deferred.ofValue,invoke,hb]
 unfold Oper.wp
 rw [hr]
 show Calls P f vs w _
 refine hc.mono fun e w' hR=>?_
 obtain ⟨v,rfl,hk⟩:=hK e w' hR
 exact hk _ (h.put hd v)
end
section
variable {P:Program} {ops:Array Oper} {Q:Exit->Act->World->Prop} {S:Nat->World->Prop} {G:World->Prop}
def jU (P:Program) (ops:Array Oper) (Q:Exit->Act->World->Prop) (S:Nat->World->Prop):Nat->Array Bool->Act->World->Prop
 | 0,listed,a,w=>Region.ready .any ops listed=[]/\Q .normal a w
 | fuel+1,listed,a,w=>
  (Region.ready .any ops listed=[]->Q .normal a w)/\
  ∀i∈Region.ready .any ops listed,wpOp P ops Q i (fun a' w'=>(w'=w∨S i w')/\jU P ops Q S fuel (listed.setIfInBounds i true) a' w') a w
theorem xO:∀(fuel:Nat) (listed:Array Bool) (a:Act) (w:World),jU P ops Q S fuel listed a w->wpAny P .any ops Q fuel listed a w
 | 0,_,_,_,h=>h
 | fuel+1,_,_,_,h=>⟨h.1,fun i hi=>wpOp_mono (fun a' w' h'=>xO fuel _ a' w' h'.2) (h.2 i hi)⟩
def Cl (ops:Array Oper) (listed:Array Bool):Prop:=∀j oj,listed.getD j false=true->ops[j]?=some oj->∀e∈oj.after,Region.binds .any e=true->listed.getD e.on false=true
theorem Kf {listed:Array Bool} {i:Nat} (h:listed.getD i true=false):listed.getD i false=false:=by
 rcases dr i listed.size with h' | h'
 ·simp [h'] at h ⊢; exact h
 ·simp [mQ h'] at h
theorem Cl.add {listed:Array Bool} {i:Nat} (h:Cl ops listed) (hi:i∈Region.ready .any ops listed):Cl ops (listed.setIfInBounds i true):=by
 intro j oj hj E8 e he hb
 by_cases O6:i=j
 ·subst O6
  obtain ⟨_,o,ho,n8⟩:=mem_ready.1 hi
  rw [ho] at E8
  cases E8
  exact getD_set_true (n8 e he hb)
 ·rw [getD_set_ne false O6] at hj
  exact getD_set_true (h j oj hj E8 e he hb)
def Dd (ops:Array Oper) (i:Nat) (T:List Nat):Prop:=∀j∈T,∃oj,ops[j]?=some oj/\∃e∈oj.after,Region.binds .any e=true/\e.on<j/\(e.on=i∨e.on∈T)
theorem Dd.no {i:Nat} {T:List Nat} {listed:Array Bool} (h:Dd ops i T) (hc:Cl ops listed) (hi:listed.getD i false=false):∀n j,j<n->j∈T->listed.getD j false=false/\j ∉ Region.ready .any ops listed:=by
 intro n
 induction n with
 | zero=>intro j hj; omega
 | succ n ih=>
  intro j hj hT
  obtain ⟨oj,E8,e,he,hb,cD,YA⟩:=h j hT
  have C7:listed.getD e.on false=false:=by
   rcases YA with YA | YA
   ·rw [YA]; exact hi
   ·exact (ih e.on ae YA).1
  refine ⟨?_,fun hr=>?_⟩
  ·cases hl:listed.getD j false with
   | false=>rfl
   | true=>rw [hc j oj hl E8 e he hb] at C7; cases C7
  ·obtain ⟨_,o,ho,n8⟩:=mem_ready.1 hr
   rw [ho] at E8
   cases E8
   rw [n8 e he hb] at C7; cases C7
theorem tq {i:Nat} {oi:Oper} {v:Value} {T:List Nat} (hi:ops[i]?=some oi) (afd:∀(j:Nat) (o:Oper) cs b,ops[j]?=some o->o.op≠.select cs b)
  (hQ:∀c a w,Q (.panic c) (a.put oi.dst v) w->Q (.panic c) a w) (hT:Dd ops i T) (hG:∀j w',j ∉ T->S j w'->G w'):
  ∀(fuel:Nat) (listed:Array Bool) (a:Act) (w:World),Cl ops listed->
   (∀j oj,ops[j]?=some oj->j≠i->j ∉ T->listed.getD j true=false->oi.apart ops oj=true)->
   i∈Region.ready .any ops listed->YieldsIf P ops G oi v a->G w->
   jU P ops Q S fuel (listed.setIfInBounds i true) (a.put oi.dst v) w->jU P ops Q S (fuel+1) listed a w:=by
 intro fuel
 induction fuel with
 | zero=>
  intro listed a w _ _ hr hy hS H
  refine ⟨fun h=>(by rw [h] at hr; cases hr),fun j hj=>?_⟩
  by_cases YB:j=i
  ·subst YB; exact hy.wpOp hi hS ⟨.inl rfl,H⟩
  ·have:=ready_mono hj YB
   rw [H.1] at this
   cases this
 | succ fuel ih=>
  intro listed a w Oj BU hr hy hS H
  refine ⟨fun h=>(by rw [h] at hr; cases hr),fun j hj=>?_⟩
  by_cases YB:j=i
  ·subst YB; exact hy.wpOp hi hS ⟨.inl rfl,H⟩
  ·have h1:=H.2 j (ready_mono hj YB)
   obtain ⟨afe,oj,E8,_⟩:=mem_ready.1 hj
   have hjT:j ∉ T:=fun hm=>(hT.no Oj (Kf (mem_ready.1 hr).1) (j+1) j ae hm).2 hj
   have h2:=wpOp_putIf E8 (BU j oj E8 YB hjT afe) (fun cs b=>afd i oi cs b hi) (fun cs b=>afd j oj cs b E8) hQ hy h1
   have Z6:∀k ok,ops[k]?=some ok->k≠i->k ∉ T->(listed.setIfInBounds j true).getD k true=false->oi.apart ops ok=true:=fun k ok hk hki hkT C7=>by
    refine BU k ok hk hki hkT ?_
    by_cases Fa:j=k
    ·subst Fa; exact afe
    ·rw [getD_set_ne true Fa] at C7; exact C7
   refine wpOp_mono (fun a' w' h3=>⟨h3.2.1,ih (listed.setIfInBounds j true) a' w' (Oj.add hj) Z6 (ready_mono hr (qm YB)) h3.1 (h3.2.1.elim (fun e=>e ▸ hS) (hG j w' hjT)) ?_⟩) h2
   rw [Array.setIfInBounds_comm _ _ YB]
   exact h3.2.2
def Kg (ops:Array Oper) (i:Nat) (T:List Nat):Bool:=T.all fun j=>match ops[j]? with
 | none=>false
 | some oj=>oj.after.any fun e=>Region.binds .any e && Nat.blt e.on j && (Nat.beq e.on i || T.contains e.on)
def clB (ops:Array Oper) (listed:Array Bool):Bool:=(List.range ops.size).all fun j=>!listed.getD j false || match ops[j]? with
 | none=>true
 | some oj=>oj.after.all fun e=>!Region.binds .any e || listed.getD e.on false
def Ic (ops:Array Oper) (listed:Array Bool) (i:Nat) (T:List Nat):Bool:=match ops[i]? with
 | none=>false
 | some oi=>(List.range ops.size).all fun j=>Nat.beq j i || listed.getD j true || T.contains j || match ops[j]? with
   | some oj=>oi.apart ops oj
   | none=>true
def me (ops:Array Oper) (listed:Array Bool) (i:Nat) (T:List Nat):Bool:=
 Region.noSelect ops && Kg ops i T && clB ops listed && Ic ops listed i T && (Region.ready .any ops listed).contains i
theorem mq {i:Nat} {T:List Nat} (h:Kg ops i T=true):Dd ops i T:=by
 intro j hj
 have h1:=dP.1 h j hj
 cases ho:ops[j]? with
 | none=>simp [ho] at h1
 | some oj=>
  simp only [ho] at h1
  obtain ⟨e,he,h2⟩:=Array.any_eq_true'.1 h1
  simp only [fB,Bool.or_eq_true] at h2
  refine ⟨oj,rfl,e,he,h2.1.1,kZ h2.1.2,?_⟩
  rcases h2.2 with h3 | h3
  ·exact .inl (k5 h3)
  ·exact .inr (by simpa using h3)
theorem uB {listed:Array Bool} (h:clB ops listed=true):Cl ops listed:=by
 intro j oj hl E8 e he hb
 have cD:j<ops.size:=(uf.1 E8).1
 have h1:=dP.1 h j (nZ.2 cD)
 simp only [hl,E8,Bool.not_true,Bool.false_or] at h1
 have h2:=Array.all_eq_true_iff_forall_mem.1 h1 e he
 simpa [hb] using h2
theorem qX {listed:Array Bool} {i:Nat} {oi:Oper} {T:List Nat} (hi:ops[i]?=some oi) (h:Ic ops listed i T=true) (j:Nat) (oj:Oper) (E8:ops[j]?=some oj) (sQ:j≠i) (hT:j ∉ T) (C7:listed.getD j true=false):oi.apart ops oj=true:=by
 unfold Ic at h
 simp only [hi] at h
 have cD:j<ops.size:=(uf.1 E8).1
 have h1:=dP.1 h j (nZ.2 cD)
 simp only [E8,C7,Bool.or_eq_true,Bool.or_false] at h1
 rcases h1 with (h1 | h1) | h1
 ·exact absurd (k5 h1) sQ
 ·exact absurd (by simpa using h1) hT
 ·exact h1
theorem fH {N:Nat} {dq:List Deferred} {a:Act} {l:List (Nat×Value)} {w:World} {listed:Array Bool} {fuel i d:Nat} {op:Op} {ty:TypeId} {pos:String} {af:Array Edge} {v:Value} (T:List Nat) (G:World->Prop)
  (hi:ops[i]?=some ⟨some d,op,ty,pos,af,none⟩) (hb:me ops listed i T=true) (hQ:∀c (a:Act) w,Q (.panic c) (a.put (some d) v) w->Q (.panic c) a w)
  (hG:∀j w',j ∉ T->S j w'->G w') (h:aW dq N a l) (hd:Nat.blt d N=true) (hGw:G w)
  (hr:∀w',G w'->(execOp a.eval ⟨some d,op,ty,pos,af,none⟩).run P w'=.ok (.value v) w')
  (hK:∀a',aW dq N a' ((d,v)::l)->jU P ops Q S fuel (listed.setIfInBounds i true) a' w):jU P ops Q S (fuel+1) listed a w:=by
 unfold me at hb
 simp only [fB] at hb
 obtain ⟨⟨⟨⟨h1,h2⟩,h3⟩,h4⟩,h5⟩:=hb
 exact tq hi (Region.noSelect_spec h1) hQ (mq h2) hG fuel listed a w (uB h3) (qX hi h4) (by simpa using h5) (.inl ⟨rfl,hr⟩) hGw (hK _ (h.put hd v))
theorem Ie {N:Nat} {dq:List Deferred} {a:Act} {l:List (Nat×Value)} {w:World} {listed:Array Bool} {fuel i d g t:Nat} {b:Bool} {og:Oper} {op:Op} {ty:TypeId} {pos:String} {af:Array Edge} {v:Value} (T:List Nat) (G:World->Prop)
  (hi:ops[i]?=some ⟨some d,op,ty,pos,af,some (g,b)⟩) (hb:me ops listed i T=true) (hQ:∀c (a:Act) w,Q (.panic c) (a.put (some d) v) w->Q (.panic c) a w)
  (hG:∀j w',j ∉ T->S j w'->G w') (h:aW dq N a l) (hd:Nat.blt d N=true) (hg:ops[g]?=some og) (xu:og.dst=some t) (xN:look l t=some (.bool b)) (hGw:G w)
  (hr:∀w',G w'->(execOp a.eval ⟨some d,op,ty,pos,af,some (g,b)⟩).run P w'=.ok (.value v) w')
  (hK:∀a',aW dq N a' ((d,v)::l)->jU P ops Q S fuel (listed.setIfInBounds i true) a' w):jU P ops Q S (fuel+1) listed a w:=by
 unfold me at hb
 simp only [fB] at hb
 obtain ⟨⟨⟨⟨h1,h2⟩,h3⟩,h4⟩,h5⟩:=hb
 have hw:Region.wanted ⟨some d,op,ty,pos,af,some (g,b)⟩ (yielded ops a.tmps)=true:=by
  have hy:yielded ops a.tmps g=some b:=by
   have he:=h.at xN
   simp only [yielded,hg,CW,xu]
   rw [jf] at he
   cases ht:a.tmps[t]? with
   | none=>rw [ht] at he; simp [undef] at he
   | some x=>rw [ht] at he; simp at he; subst he; rfl
  simp [Region.wanted,hy]
 exact tq hi (Region.noSelect_spec h1) hQ (mq h2) hG fuel listed a w (uB h3) (qX hi h4) (by simpa using h5) (.inl ⟨hw,hr⟩) hGw (hK _ (h.put hd v))
theorem yZ {N:Nat} {dq:List Deferred} {a:Act} {l:List (Nat×Value)} {w:World} {listed:Array Bool} {fuel i d g t:Nat} {b:Bool} {u:Value} {og:Oper} {op:Op} {ty:TypeId} {pos:String} {af:Array Edge} (T:List Nat)
  (hi:ops[i]?=some ⟨some d,op,ty,pos,af,some (g,b)⟩) (hb:me ops listed i T=true) (hQ:∀c (a:Act) w,Q (.panic c) (a.put (some d) undef) w->Q (.panic c) a w)
  (h:aW dq N a l) (hd:Nat.blt d N=true) (hg:ops[g]?=some og) (xu:og.dst=some t) (xN:look l t=some u) (yY:Yz u b=false)
  (hK:∀a',aW dq N a' ((d,undef)::l)->jU P ops Q S fuel (listed.setIfInBounds i true) a' w):jU P ops Q S (fuel+1) listed a w:=by
 unfold me at hb
 simp only [fB] at hb
 obtain ⟨⟨⟨⟨h1,h2⟩,h3⟩,h4⟩,h5⟩:=hb
 exact tq hi (Region.noSelect_spec h1) hQ (mq h2) (fun _ _ _ _=>trivial) fuel listed a w (uB h3) (qX hi h4) (by simpa using h5) (.inr ⟨po hg h xu xN yY,rfl⟩) trivial (hK _ (h.put hd undef))
theorem mY {a:Act} {w:World} {listed:Array Bool} {fuel i:Nat} {o:Oper} (hr:Region.ready .any ops listed=[i]) (hi:ops[i]?=some o) (hg:o.guard=none)
  (h:o.wp P a w (fun a' w'=>(w'=w∨S i w')/\jU P ops Q S fuel (listed.setIfInBounds i true) a' w') Q):jU P ops Q S (fuel+1) listed a w:=by
 refine ⟨fun h0=>(by rw [hr] at h0; cases h0),fun j hj=>?_⟩
 rw [hr] at hj
 obtain rfl:j=i:=by simpa using hj
 unfold wpOp
 simp only [hi,Region.wanted,hg,if_true]
 exact .inl h
theorem MJ {N:Nat} {dq:List Deferred} {a:Act} {l:List (Nat×Value)} {w:World} {listed:Array Bool} {fuel i g t:Nat} {b:Bool} {o og:Oper} (hr:Region.ready .any ops listed=[i]) (hi:ops[i]?=some o) (hgu:o.guard=some (g,b))
  (he:aW dq N a l) (hg:ops[g]?=some og) (xu:og.dst=some t) (xN:look l t=some (.bool b))
  (h:o.wp P a w (fun a' w'=>(w'=w∨S i w')/\jU P ops Q S fuel (listed.setIfInBounds i true) a' w') Q):jU P ops Q S (fuel+1) listed a w:=by
 refine ⟨fun h0=>(by rw [hr] at h0; cases h0),fun j hj=>?_⟩
 rw [hr] at hj
 obtain rfl:j=i:=by simpa using hj
 have hy:yielded ops a.tmps g=some b:=by
  have he:=he.at xN
  simp only [yielded,hg,CW,xu]
  rw [jf] at he
  cases ht:a.tmps[t]? with
  | none=>rw [ht] at he; simp [undef] at he
  | some x=>rw [ht] at he; simp at he; subst he; rfl
 unfold wpOp
 simp only [hi,Region.wanted,hgu,hy,beq_self_eq_true,if_true]
 exact .inl h
theorem rN {a:Act} {w:World} {listed:Array Bool} (hr:Region.ready .any ops listed=[]) (h:Q .normal a w):∀fuel,jU P ops Q S fuel listed a w
 | 0=>⟨hr,h⟩
 | _+1=>⟨fun _=>h,by rw [hr]; simp⟩
def Kn (w:World) (l:List Bk) (ps:List PF):Prop:=(∀e∈l,w.heap[e.g]?=some (.cells e.c e.t (0,0)))/\∀p∈ps,p.P w
section
variable {w w0:World} {own:List Bk} {ps:List PF} {k:Nat} {e:Bk} {p:PF}
theorem St.kn (h:St w0 w own ps):Kn w own ps:=⟨fun e he=>(h.mine e he).2,h.pers⟩
theorem Kn.nA (h:Kn w own ps) (hk:own[k]?=some e):w.heap[e.g]?=some (.cells e.c e.t (0,0)):=h.1 e (aB hk)
theorem Kn.pat (h:Kn w own ps) (hk:ps[k]?=some p):p.P w:=h.2 p (aB hk)
theorem Kn.pick (h:Kn w own ps) (is js:List Nat):Kn w (is.filterMap (own[·]?)) (js.filterMap (ps[·]?)):=
 ⟨fun e he=>by obtain ⟨i,_,hi⟩:=ku.1 he; exact h.nA hi,fun p hp=>by obtain ⟨i,_,hi⟩:=ku.1 hp; exact h.pat hi⟩
end
def Sk (l1:List Bk) (ps:List PF) (Z:List Nat) (l2:List Bk) (j:Nat) (w:World):Prop:=Kn w l1 ps/\(Z.contains j=true∨Kn w l2 [])
theorem Sk.two {l1:List Bk} {ps:List PF} {Z:List Nat} {l2:List Bk} {j:Nat} {w:World} {T:List Nat} (h:Sk l1 ps Z l2 j w) (hz:(Z.all fun j=>T.contains j)=true) (hj:j ∉ T):Kn w l2 []:=by
 rcases h.2 with h | h
 ·have h1:j∈Z:=by simpa using h
  exact absurd (by simpa using dP.1 hz j h1) hj
 ·exact h
theorem pw {id n:Nat} {N:Nat} {dq:List Deferred} {a:Act} {w w0:World} {own:List Bk} {ps:List PF} {l:List (Nat×Value)} (S:Nat->World->Prop) (hm:P.follows .mixedOrders=true) (hn:ops.size=n) (he:aW dq N a l) (hs:St w0 w own ps)
  (h:∀w',aW dq N a l->St w0 w' own ps->jU P ops Q S n (Array.replicate n false) a w'):(Code.region id ops true).wp P Q a w:=by
 subst hn
 exact wp_region_any hm (xO _ _ _ _ (h _ he hs.drew))
end
def T4:Nat->List Value->List (Nat×Value)
 | _,[]=>[]
 | k,v::l=>(k,v)::T4 (k+1) l
theorem y5:∀(l:List Value) (k t:Nat) (v:Value),look (T4 k l) t=some v->k<=t/\l[t - k]?=some v
 | [],_,_,_,h=>by simp [T4,look] at h
 | u::l,k,t,v,h=>by
  unfold T4 look at h
  cases hb:Nat.beq k t with
  | true=>
   rw [hb] at h
   have:=k5 hb
   subst this
   simpa using h
  | false=>
   rw [hb] at h
   have sQ:k≠t:=fun e=>by subst e; rw [show Nat.beq k k=true from Nat.beq_refl k] at hb; cases hb
   have:=y5 l (k+1) t v (by simpa using h)
   refine ⟨by omega,?_⟩
   rw [show t - k=(t - (k+1))+1 by omega]
   simpa using this.2
def RV (P:Program) (a:Act) (w:World):ResultVar->Value->Prop
 | .tmp t,v=>a.tmps.getD t undef=v
 | .cell t T,v=>∃p,a.tmps.getD t undef=.pointer (some p)/\(loadVar T p).run P w=.ok v w
section
variable {P:Program} {K:Act->World->Prop} {Q:Exit->Act->World->Prop} {R:Ending->World->Prop} {N:Nat} {dq:List Deferred} {a:Act} {l:List (Nat×Value)} {w w0:World} {own:List Bk} {ps:List PF} {fn:Func} {c x y:Code}
theorem enter {f:FuncId} {args:Array Value} (hf:P.funcs[f]?=some fn) (hb:fn.body=some c) (hn:fn.ntmps=N) (hz:Nat.ble args.size N=true)
  (h:∀a,Env N a (T4 0 args.toList)->St w w [] []->c.wp P (bodyPost P fn R) a w):Calls P f args w R:=by
 refine calls_of_wp hf hb (h _ ⟨?_,rfl,fun t v hv=>?_⟩ (St.start w))
 ·have:=kZ hz
  simp; omega
 ·have:=(y5 _ _ _ _ hv).2
  have cD:t<args.size:=by
   rcases dr t args.size with h | h
   ·exact h
   ·rw [Nat.sub_zero,dz (by simpa using h)] at this; cases this
  rw [jf,Array.getElem?_append_left cD]
  simp at this
  simp [this]
theorem RV.tmp (h:aW dq N a l) {t:Nat} {v:Value} (hv:look l t=some v):RV P a w (.tmp t) v:=h.at hv
theorem RV.cell (h:aW dq N a l) {t T g n:Nat} {c:Array Value} {u:TypeId} (ht:lg P T n) (hv:look l t=some (bB g)) (hg:w.heap[g]?=some (.cells c u (0,0))) (hn:c.size=n):RV P a w (.cell t T) (.agg c):=by
 obtain ⟨⟨d,hu,hd⟩,hi⟩:=ht
 exact ⟨_,h.at hv,run_loadVar_row w g u T c (0,0) d hg hu (by cases d<;>simp_all) (by rw [hi,hn])⟩
def Kh (ts:Array Value):ResultVar->Sem Value
 | .tmp t=>pure (ts.getD t undef)
 | .cell t T=>do loadVar T (<- asAddr (ts.getD t undef))
theorem px (fn:Func) (ts:Array Value):results fn ts=(do let vs <- fn.results.mapM (Kh ts); pure (if h:vs.size=1 then vs[0] else .tuple vs)):=rfl
theorem od {r:ResultVar} {v:Value} (h:RV P a w r v):(Kh a.tmps r).run P w=.ok v w:=by
 cases r with
 | tmp t=>simp only [RV] at h; simp only [Kh,h]; rfl
 | cell t T=>
  obtain ⟨p,hp,hr⟩:=h
  simp only [Kh,hp]
  simp [asAddr,hr]
theorem dA {r:ResultVar} {v:Value} (h:fn.results=#[r]) (h1:RV P a w r v):(results fn a.tmps).run P w=.ok v w:=by
 have h1:=od h1
 simp only [px,h,BE,List.mapM_cons,List.mapM_nil]
 simp [h1]
theorem gC {r r':ResultVar} {v v':Value} (h:fn.results=#[r,r']) (h1:RV P a w r v) (h2:RV P a w r' v'):(results fn a.tmps).run P w=.ok (.tuple #[v,v']) w:=by
 have h1:=od h1
 have h2:=od h2
 simp only [px,h,BE,List.mapM_cons,List.mapM_nil]
 simp [h1,h2]
theorem aff {r r' r'':ResultVar} {v v' v'':Value} (h:fn.results=#[r,r',r'']) (h1:RV P a w r v) (h2:RV P a w r' v') (h3:RV P a w r'' v''):(results fn a.tmps).run P w=.ok (.tuple #[v,v',v'']) w:=by
 have h1:=od h1
 have h2:=od h2
 have h3:=od h3
 simp only [px,h,BE,List.mapM_cons,List.mapM_nil]
 simp [h1,h2,h3]
theorem MK (h:fn.results=#[]):(results fn a.tmps).run P w=.ok (.tuple #[]) w:=by simp [results,h]
theorem leave {v:Value} (h:Env N a l) (hr:(results fn a.tmps).run P w=.ok v w) (hR:R (.returned v) w):bodyPost P fn R .ret a w:=⟨h.defers,v,hr,hR⟩
theorem ML {v:Value} (h:Env N a l) (hr:(results fn a.tmps).run P w=.ok v w) (hR:R (.returned v) w):bodyPost P fn R .normal a w:=⟨h.defers,v,hr,hR⟩
theorem aT (h:K a w):Exit.then K Q .normal a w:=h
theorem kW {i:Nat} (h:Q (.exit i) a w):Exit.then K Q (.exit i) a w:=h
theorem j9 (h:Q .ret a w):Exit.then K Q .ret a w:=h
theorem qA {i:Nat} (h:Q .normal a w):Exit.inBlock i Q .normal a w:=h
theorem mZ {i:Nat} (h:Q .ret a w):Exit.inBlock i Q .ret a w:=h
theorem tt {i:Nat} (h:Q .normal a w):Exit.inBlock i Q (.exit i) a w:=by simpa [Exit.inBlock] using h
theorem afg {i j:Nat} (hn:Nat.beq j i=false) (h:Q (.exit j) a w):Exit.inBlock i Q (.exit j) a w:=by
 have:j≠i:=fun e=>by subst e; rw [show Nat.beq j j=true from Nat.beq_refl j] at hn; cases hn
 simpa [Exit.inBlock,this] using h
theorem akr (h:Q .ret a w):Exit.noGoto Q .ret a w:=h
theorem dY {z:Operand} {b:Bool} (h:aW dq N a l) (hz:bV l z=some (.bool b)) (ht:b=true->x.wp P Q a w) (hf:b=false->y.wp P Q a w):(Code.cond z x y).wp P Q a w:=wp_cond_split (h.ev hz) ht hf
theorem Fc {z:Operand} {b:Bool} (h:aW dq N a l) (hz:bV l z=some (.bool b)) (hb:b=true) (ht:x.wp P Q a w):(Code.cond z x y).wp P Q a w:=wp_cond_true (hb ▸ h.ev hz) ht
theorem oD {z:Operand} {b:Bool} (h:aW dq N a l) (hz:bV l z=some (.bool b)) (hb:b=false) (ht:y.wp P Q a w):(Code.cond z x y).wp P Q a w:=wp_cond_false (hb ▸ h.ev hz) ht
theorem cut (M:Act->World->Prop) (h:c.wp P (Exit.then M Q) a w) (hK:∀a w,M a w->K a w):c.wp P (Exit.then K Q) a w:=
 wp_mono h fun e a w hq=>by cases e<;>first | exact hK _ _ hq | exact hq
theorem aj {id:Nat} {ops:List Oper} (h:wpList P ops.toArray Q ops a w):(Code.region id ops.toArray false).wp P Q a w:=wp_region_lit h
end
section
variable {P:Program} {K:Act->World->Prop} {Q:Exit->Act->World->Prop} {N:Nat} {dq:List Deferred} {a:Act} {l:List (Nat×Value)} {w w0:World} {own:List Bk} {ps:List PF}
variable {d:Nat} {ty:TypeId} {pos:String} {af:Array Edge} {gd:Option (Nat×Bool)}
theorem jX {T E n z:Nat} {parts:Array (Nat×Operand)} {pv:Array (Nat×Value)} {zv:Value} {c:Array Value} (h:aW dq N a l) (hs:St w0 w own ps) (hd:Nat.blt d N=true)
  (hT:P.underlying T=some (.slice E)) (hE:∃i,P.info? E=some i/\i.size=z) (hz:∃i,P.info? E=some i/\i.zero=some zv) (hn:n*z<=1000000) (vk:n*z≠0)
  (hp:parts.toList.map (fun p=>(p.1,bV l p.2))=pv.toList.map (fun p=>(p.1,some p.2)))
  (hf:Instr.fill (fun i=>some (i*z,z)) ((Array.range (n*z)).map (zv.cells[·%zv.cells.size]!)) pv.toList=some c)
  (hK:∀a' w' g,aW dq N a' ((d,.slice (bh g) n n)::l)->St w0 w' (⟨g,c,E⟩::own) ps->K a' w'):
  Oper.wp P ⟨some d,.buildSlice T n parts,ty,pos,af,gd⟩ a w K Q:=by
 have he:parts.map (fun (i,x)=>(i,a.eval x))=pv:=by
  apply BG
  rw [qg]
  generalize parts.toList=xl at hp ⊢
  generalize pv.toList=vl at hp ⊢
  induction xl generalizing vl with
  | nil=>cases vl with
   | nil=>rfl
   | cons=>simp at hp
  | cons x xl ih=>cases vl with
   | nil=>simp at hp
   | cons v vl=>
    simp only [jJ,pf,ji] at hp ⊢
    refine ⟨?_,ih vl hp.2⟩
    obtain ⟨i,x⟩:=x
    obtain ⟨j,v⟩:=v
    have h1:i=j:=hp.1.1
    have h2:=h.ev hp.1.2
    subst h1
    exact Prod.ext rfl h2
 obtain ⟨i,hi,hv⟩:=hz
 have Pa:(zeroValue E).run P w=.ok zv w:=by simp [zeroValue,typeInfo,hi,hv]
 have hr:(execOp a.eval ⟨some d,.buildSlice T n parts,ty,pos,af,gd⟩).run P w=.ok (.value (.slice (bh w.heap.size) n n)) (w.alloc (.cells c E)):=by
  simp only [execOp,he,Instr.buildSlice,Sem.run_bind,run_underlying hT w,Result.andThen_ok,run_sizeOf hE,aQ (show ¬n*z>2 ^ 24 by omega),aQ vk,Pa,Sem.run_pure,hf]
  rfl
 unfold Oper.wp
 rw [hr]
 exact hK _ _ _ (h.put hd _) (hs.push _ _)
end
open Go.RowKit Anv Go.Lib
structure Fs (w:World) (a:Option Addr) (k:Nat) (l:List (Int×Option Addr×Nat)):Prop where
 len:l.length=k
 cells:0<k->∃G o,a=some ⟨G,o,none⟩/\G<w.heap.size/\∀i (h:i<l.length),w.cell? ⟨G,o+i*2,none⟩=some (.bool (neg l[i].1))/\w.cell? ⟨G,o+i*2+1,none⟩=some (.slice l[i].2.1 (zl l[i].1) l[i].2.2)
 mW:∀x∈l,dK w x.2.1 x.2.2 x.1
theorem Fs.below {w w':World} {a:Option Addr} {k:Nat} {l:List (Int×Option Addr×Nat)} (h:Fs w a k l) (hb:Below w.heap.size w w'):Fs w' a k l:=
  ⟨h.len,fun hp=>by
    obtain ⟨G,o,ha,hG,hc⟩:=h.cells hp
    exact ⟨G,o,ha,gw hG hb.size,fun i hi=>⟨(hb.cell hG).trans (hc i hi).1,(hb.cell hG).trans (hc i hi).2⟩⟩,
   fun x hx=>(h.mW x hx).below hb⟩
theorem Fs.nil (w:World):Fs w none 0 []:=⟨rfl,fun h=>ae,fun x hx=>by cases hx⟩
def asq (l:List (Int×Option Addr×Nat)):Int:=l.foldl (fun s x=>s+x.1) 0
def apO (l:List (Int×Option Addr×Nat)):Int:=l.foldl (fun s x=>s*x.1) 1
open Go.Shelf Go.Proofs
def AJ:Go.Shelf.Ren:=⟨fun | 189=>172 | 125=>203 | 257=>202 | 128=>151 | 129=>237 | 294=>228 | 295=>229 | 296=>230 | 297=>231 | 298=>232 | 299=>233 | 216=>234 | 300=>235 | 301=>236 | 328=>241 | 329=>242 | 330=>243 | 331=>244 | 332=>245 | 215=>246 | 343=>248 | n=>n,fun | 28=>26 | 3=>3 | 46=>99 | 0=>0 | 51=>98 | 53=>96 | 4=>4 | 183=>306 | 182=>305 | 131=>124 | 5=>5 | 9=>9 | 218=>311 | 222=>315 | 228=>317 | 229=>214 | n=>n,fun | n=>n⟩
theorem AK:Go.Proofs.Lays.n189 Tryz.prog AJ:={
 mixed:=by kernel_rfl
 f125:=Tryz.func203.trans (aM some aK)
 f128:=Tryz.func151.trans (aM some aK)
 f129:=Tryz.func237.trans (aM some aK)
 f189:=Tryz.func172.trans (aM some aK)
 f215:=Tryz.func246.trans (aM some aK)
 f216:=Tryz.func234.trans (aM some aK)
 f257:=Tryz.func202.trans (aM some aK)
 f294:=Tryz.func228.trans (aM some aK)
 f295:=Tryz.func229.trans (aM some aK)
 f296:=Tryz.func230.trans (aM some aK)
 f297:=Tryz.func231.trans (aM some aK)
 f298:=Tryz.func232.trans (aM some aK)
 f299:=Tryz.func233.trans (aM some aK)
 f300:=Tryz.func235.trans (aM some aK)
 f301:=Tryz.func236.trans (aM some aK)
 f328:=Tryz.func241.trans (aM some aK)
 f329:=Tryz.func242.trans (aM some aK)
 f330:=Tryz.func243.trans (aM some aK)
 f331:=Tryz.func244.trans (aM some aK)
 f332:=Tryz.func245.trans (aM some aK)
 f343:=Tryz.func248.trans (aM some aK)
 t0:=Tryz.underlying0
 a0:=Tryz.isAgg0
 z0:=Tryz.sizeOf0
 v0:=Tryz.zeroValue0
 t3:=Tryz.underlying3
 a3:=Tryz.isAgg3
 z3:=Tryz.sizeOf3
 v3:=Tryz.zeroValue3
 t4:=Tryz.underlying4
 a4:=Tryz.isAgg4
 z4:=Tryz.sizeOf4
 v4:=Tryz.zeroValue4
 t5:=Tryz.underlying5
 a5:=Tryz.isAgg5
 z5:=Tryz.sizeOf5
 v5:=Tryz.zeroValue5
 t9:=Tryz.underlying9
 a9:=Tryz.isAgg9
 z9:=Tryz.sizeOf9
 v9:=Tryz.zeroValue9
 t28:=Tryz.underlying26
 a28:=Tryz.isAgg26
 z28:=Tryz.sizeOf26
 v28:=Tryz.zeroValue26
 t46:=Tryz.underlying99
 a46:=Tryz.isAgg99
 z46:=Tryz.sizeOf99
 v46:=Tryz.zeroValue99
 t51:=Tryz.underlying98
 a51:=Tryz.isAgg98
 z51:=Tryz.sizeOf98
 v51:=Tryz.zeroValue98
 t53:=Tryz.underlying96
 a53:=Tryz.isAgg96
 z53:=Tryz.sizeOf96
 v53:=Tryz.zeroValue96
 t131:=Tryz.underlying124
 a131:=Tryz.isAgg124
 z131:=Tryz.sizeOf124
 v131:=Tryz.zeroValue124
 t182:=Tryz.underlying305
 a182:=Tryz.isAgg305
 z182:=Tryz.sizeOf305
 v182:=Tryz.zeroValue305
 t183:=Tryz.underlying306
 a183:=Tryz.isAgg306
 z183:=Tryz.sizeOf306
 v183:=Tryz.zeroValue306
 t218:=Tryz.underlying311
 a218:=Tryz.isAgg311
 z218:=Tryz.sizeOf311
 v218:=Tryz.zeroValue311
 t222:=Tryz.underlying315
 a222:=Tryz.isAgg315
 z222:=Tryz.sizeOf315
 v222:=Tryz.zeroValue315
 t228:=Tryz.underlying317
 a228:=Tryz.isAgg317
 z228:=Tryz.sizeOf317
 v228:=Tryz.zeroValue317
 t229:=Tryz.underlying214
 a229:=Tryz.isAgg214
 z229:=Tryz.sizeOf214
 v229:=Tryz.zeroValue214 }
open Go.Sort Go.RowKit in
theorem tT (blk off cap:Nat) (zs:List Int) (w:World) (hH:Holds (Value.int .i64) w blk off zs.toArray) (amv:blk<w.heap.size) (mn:zs.length<4611686018427387904):
  Calls Tryz.prog 172 #[.slice (some ⟨blk,off,none⟩) zs.length cap] w fun e w'=>
   e=.returned (.tuple #[])/\∃n os,w'=grow (putRow (Value.int .i64) (Sort.ahead w n) blk off (zs.mergeSort fun x y=>decide (x<=y)).toArray) os:=Any.slices_Sort_int AK blk off cap zs w hH amv mn
open Go.RowKit Go.Sort in
theorem oM (p:Option Addr) (cap:Nat) (w:World):
  Calls Tryz.prog 172 #[.slice p 0 cap] w fun e w'=>e=.returned (.tuple #[])/\w'=w:=Any.slices_Sort_int_none AK p cap w
end Go.Proofs.YtgopcdagnicekaaGreatDoor
