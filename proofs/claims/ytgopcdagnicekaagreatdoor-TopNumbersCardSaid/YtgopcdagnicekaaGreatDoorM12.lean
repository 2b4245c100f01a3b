/- Lasting facts on numbers. No condition. -/
import Derived.Test.YtgopcdagnicekaaGreatDoorM1
import Derived.Test.YtgopcdagnicekaaGreatDoorM11
import Derived.Test.YtgopcdagnicekaaGreatDoorM4
import Derived.Test.YtgopcdagnicekaaGreatDoorM3
import Derived.Laws.AppendOwn
import Derived.Maps.AppendAt
import Derived.Test.YtgopcdagnicekaaGreatDoorM10
import Derived.Test.YtgopcdagnicekaaGreatDoorM6

set_option linter.unusedVariables false
set_option linter.unusedSimpArgs false
set_option linter.all false
namespace Go.Proofs.YtgopcdagnicekaaGreatDoor
open Go.RowKit Anv
theorem O7 {w w':World} {A:Option Addr} {n c:Nat} {xs:List Nat} (h:eT w A n c xs) (hk:∀b,(0<n/\∃off,A=some ⟨b,off,none⟩)->w'.heap[b]?=w.heap[b]?):eT w' A n c xs:=
 ⟨h.len,h.cap,h.big,h.lt,fun hp=>by
  obtain ⟨b,off,rfl,cD,hc⟩:=h.cells hp
  have hb:=hk b ⟨hp,off,rfl⟩
  have MD:b<w'.heap.size:=by
   rcases dr b w'.heap.size with h1 | h1
   ·exact h1
   ·rw [mQ h1] at hb
    rw [yJ cD] at hb; cases hb
  exact ⟨b,off,rfl,MD,fun i hi=>(World.cell?_of_block hb).trans (hc i hi)⟩⟩
def UT (A:Option Addr) (n c:Nat) (xs:List Nat):PF:=
 ⟨fun w=>eT w A n c xs,fun b=>0<n/\∃off,A=some ⟨b,off,none⟩,fun h ⟨hp,off,e⟩=>by
  obtain ⟨b,o,e',cD,_⟩:=h.cells hp
  rw [e] at e'; cases e'; exact cD,fun h _ hk=>O7 h hk⟩
def BW (A:Option Addr) (c:Nat) (z:Int):PF:=UT A (zl z) c (L z.natAbs)
def ar:Value->Bool
 | .int .u32 _=>false
 | _=>true
def noU (own:List Bk):Bool:=own.all fun e=>e.c.toList.all ar
theorem St.MM {w0 w:World} {own:List Bk} {ps:List PF} {A:Option Addr} {n c:Nat} {xs:List Nat} (h:St w0 w own ps) (hu:eT w A n c xs) (hn:noU own=true):St w0 w own (UT A n c xs::ps):=
 h.iB (UT A n c xs) hu fun e he hf=>by
  obtain ⟨hp,off,rfl⟩:=hf
  obtain ⟨b,o,e',_,hc⟩:=hu.cells hp
  cases e'
  have h1:=hc 0 hp
  rw [cell_of_row w _ _ _ _ _ (h.mine e he).2] at h1
  have h2:=dP.1 (dP.1 hn e he) _ (Array.mem_toList_iff.2 (yF h1))
  simp [ar] at h2
theorem St.eO {w0 w:World} {own:List Bk} {ps:List PF} {A:Option Addr} {c:Nat} {z:Int} (h:St w0 w own ps) (hu:dK w A c z) (hn:noU own=true):St w0 w own (BW A c z::ps):=St.MM h hu hn
def ab (A:Option Addr):Nat:=match A with
 | some a=>a.block
 | none=>0
def ao (A:Option Addr):Nat:=match A with
 | some a=>a.off
 | none=>0
section
variable {P:Program} {K:Act->World->Prop} {Q:Exit->Act->World->Prop} {N:Nat} {dq:List Deferred} {a:Act} {l:List (Nat×Value)} {w w0:World} {own:List Bk} {ps:List PF}
variable {d:Nat} {ty:TypeId} {pos:String} {af:Array Edge} {gd:Option (Nat×Bool)}
theorem eT.ab {A:Option Addr} {n c:Nat} {xs:List Nat} (h:eT w A n c xs) (hp:0<n):A=some ⟨ab A,ao A,none⟩:=by
 obtain ⟨b,off,rfl,_,_⟩:=h.cells hp
 rfl
theorem eT.at {A:Option Addr} {n c:Nat} {xs:List Nat} (h:eT w A n c xs) {i:Nat} (hi:i<n):w.cell? ⟨Go.Proofs.YtgopcdagnicekaaGreatDoor.ab A,ao A+i,none⟩=some (.int .u32 (xs.getD i 0:Nat)):=by
 obtain ⟨b,off,rfl,_,hc⟩:=h.cells ae
 exact hc i hi
theorem De {x y:Operand} {T E i n c:Nat} {A:Option Addr} {xs:List Nat} {k:IntKind} (h:aW dq N a l) (hT:P.underlying T=some (.slice E)) (hE:∃j,P.info? E=some j/\j.size=1) (hx:bV l x=some (.slice A n c)) (hy:bV l y=some (.int k (i:Nat))) (hi:i<n) (hu:eT w A n c xs):
  (execOp a.eval ⟨some d,.indexAddr T x y,ty,pos,af,gd⟩).run P w=.ok (.value (.pointer (some ⟨Go.Proofs.YtgopcdagnicekaaGreatDoor.ab A,ao A+i,none⟩))) w:=by
 have hA:=hu.ab ae
 have:=kG (w:=w) (d:=d) (ty:=ty) (pos:=pos) (af:=af) (gd:=gd) h hT hE (hx.trans (by rw [<- hA])) hy hi
 rw [tg] at this
 exact this
theorem y6 {x:Operand} {T i n c:Nat} {A:Option Addr} {xs:List Nat} (h:aW dq N a l) (hT:jx P T) (hx:bV l x=some (.pointer (some ⟨Go.Proofs.YtgopcdagnicekaaGreatDoor.ab A,ao A+i,none⟩))) (hi:i<n) (hu:eT w A n c xs):
  (execOp a.eval ⟨some d,.load T x,ty,pos,af,gd⟩).run P w=.ok (.value (.int .u32 (xs.getD i 0:Nat))) w:=
 jl h hT hx (hu.at hi)
theorem kH {x y:Operand} {T E i n c z p g o:Nat} {k:IntKind} (h:aW dq N a l) (hT:P.underlying T=some (.slice E)) (hE:∃j,P.info? E=some j/\j.size=z) (hx:bV l x=some (.slice (some ⟨g,o,none⟩) n c)) (hy:bV l y=some (.int k (i:Nat))) (hi:i<n) (hp:o+i*z=p):
  (execOp a.eval ⟨some d,.indexAddr T x y,ty,pos,af,gd⟩).run P w=.ok (.value (.pointer (some ⟨g,p,none⟩))) w:=by
 subst hp
 exact kG h hT hE hx hy hi
end
section
variable {P:Program} {K:Act->World->Prop} {Q:Exit->Act->World->Prop} {N:Nat} {dq:List Deferred} {a:Act} {l:List (Nat×Value)} {w w0:World} {own:List Bk} {ps:List PF}
variable {d:Nat} {ty:TypeId} {pos:String} {af:Array Edge} {gd:Option (Nat×Bool)}
theorem kf {x y:Operand} {T yt:Nat} {k:IntKind} {m n:Int} {z:Int} (h:aW dq N a l) (hx:bV l x=some (.int k m)) (hy:bV l y=some (.int k n)) (h0:n≠0) (hw:k.wrap (m.tdiv n)=z):
  (execOp a.eval ⟨some d,.binOp .quo T x y yt,ty,pos,af,gd⟩).run P w=.ok (.value (.int k z)) w:=by
 subst hw
 exact bg h hx hy (by simp [eqGuard,binOp,Op.intDiv,h0])
theorem tu {x y:Operand} {T yt:Nat} {k:IntKind} {m n:Int} {z:Int} (h:aW dq N a l) (hx:bV l x=some (.int k m)) (hy:bV l y=some (.int k n)) (h0:n≠0) (hw:m.tmod n=z):
  (execOp a.eval ⟨some d,.binOp .rem T x y yt,ty,pos,af,gd⟩).run P w=.ok (.value (.int k z)) w:=by
 subst hw
 exact bg h hx hy (by simp [eqGuard,binOp,Op.intDiv,h0])
theorem O8 {x y:Operand} {T yt:Nat} {k k':IntKind} {m:Int} {s:Nat} {z:Int} (h:aW dq N a l) (hx:bV l x=some (.int k m)) (hy:bV l y=some (.int k' (s:Nat))) (hs:s<=k.bits) (hw:k.wrap (m*2 ^ s)=z):
  (execOp a.eval ⟨some d,.binOp .shl T x y yt,ty,pos,af,gd⟩).run P w=.ok (.value (.int k z)) w:=by
 subst hw
 refine bg h hx hy ?_
 have h1:¬((s:Int)<0):=ae
 simp [eqGuard,binOp,Op.shift,h1,jS hs]
theorem Fe (m n:Nat):(m:Int).tdiv (n:Int)=((m / n:Nat):Int):=rfl
theorem Ff (m n:Nat):(m:Int).tmod (n:Int)=((m%n:Nat):Int):=rfl
end
end Go.Proofs.YtgopcdagnicekaaGreatDoor

/- What is known of a world, second form: the call's own is a list of facts, each with its blocks (a block of cells, a row that grows, a builder ..). Over any program. No condition. -/
namespace Go.Proofs.YtgopcdagnicekaaGreatDoor.W
open Go.RowKit Anv
def bk (g:Nat) (c:Array Value) (t:TypeId):PF:=
 ⟨fun w=>w.heap[g]?=some (.cells c t (0,0)),fun b=>b=g,fun h e=>e ▸ lt_of_block h,fun h _ hk=>(hk g rfl).trans h⟩
structure St (w0 w:World) (own ps:List PF):Prop where
 below:Below w0.heap.size w0 w
 mine:∀e∈own,e.P w
 new:∀e∈own,∀b,e.di b->w0.heap.size<=b
 nd:own.Pairwise fun e f=>∀b,e.di b->¬f.di b
 pers:∀p∈ps,p.P w
 apart:∀p∈ps,∀e∈own,∀b,e.di b->¬p.di b
section
variable {w0 w w':World} {own ps:List PF} {e e' p:PF} {k:Nat}
theorem St.start (w:World):St w w [] []:=
 ⟨Below.refl _ _,fun e h=>by simp at h,fun e h=>by simp at h,List.Pairwise.nil,fun p h=>by simp at h,fun p h=>by simp at h⟩
theorem St.owns (h:St w0 w own ps) (hk:own[k]?=some e):e.P w:=h.mine e (aB hk)
theorem St.nA (h:St w0 w own ps) {g:Nat} {c:Array Value} {t:TypeId} (hk:own[k]?=some (bk g c t)):w.heap[g]?=some (.cells c t (0,0)):=h.mine _ (aB hk)
theorem St.oge (h:St w0 w own ps) {g:Nat} {c:Array Value} {t:TypeId} (hk:own[k]?=some (bk g c t)):w0.heap.size<=g:=h.new _ (aB hk) g rfl
theorem St.pat (h:St w0 w own ps) (hk:ps[k]?=some p):p.P w:=h.pers p (aB hk)
theorem St.one (h:St w0 w own ps) {j:Nat} {f:PF} (hk:own[k]?=some e) (hj:own[j]?=some f) (hn:k≠j):∀b,e.di b->¬f.di b:=by
 have hp:=yK.1 h.nd
 obtain ⟨YC,rfl⟩:=bU.1 hk
 obtain ⟨hjl,rfl⟩:=bU.1 hj
 intro b he hf
 rcases Nat.lt_or_gt_of_ne hn with h1 | h1
 ·exact hp k j YC hjl h1 b he hf
 ·exact hp j k hjl YC h1 b hf he
theorem St.iB (h:St w0 w own ps) (p:PF) (hp:p.P w) (ha:∀e∈own,∀b,e.di b->¬p.di b):St w0 w own (p::ps):=
 ⟨h.below,h.mine,h.new,h.nd,fun q hq=>by
  rcases dW.1 hq with rfl | hq
  ·exact hp
  ·exact h.pers q hq,fun q hq=>by
  rcases dW.1 hq with rfl | hq
  ·exact ha
  ·exact h.apart q hq⟩
theorem St.call (h:St w0 w own ps) (hb:Below w.heap.size w w'):St w0 w' own ps:=
 ⟨h.below.trans (hb.mono h.below.size),fun e he=>e.oC (h.mine e he) hb.size fun b hf=>hb.block b (e.lt (h.mine e he) hf),h.new,h.nd,
  fun p hp=>p.oC (h.pers p hp) hb.size fun b Dc=>hb.block b (p.lt (h.pers p hp) Dc),h.apart⟩
theorem St.drew (h:St w0 w own ps):St w0 w.drew own ps:=h.call (Below.refl _ _).drew
theorem St.add (h:St w0 w own ps) (hb:Below w.heap.size w w') (e:PF) (he:e.P w') (hn:∀b,e.di b->w.heap.size<=b):St w0 w' (e::own) ps:=by
 have h':=h.call hb
 refine ⟨h'.below,fun f hf=>?_,fun f hf b Bj=>?_,qe.2 ⟨fun f hf b h1 h2=>?_,h.nd⟩,h'.pers,fun p hp f hf b h1 h2=>?_⟩
 ·rcases dW.1 hf with rfl | hf
  ·exact he
  ·exact h'.mine f hf
 ·rcases dW.1 hf with rfl | hf
  ·exact bq h.below.size (hn b Bj)
  ·exact h.new f hf b Bj
 ·have:=f.lt (h.mine f hf) h2
  have:=hn b h1
  omega
 ·rcases dW.1 hf with rfl | hf
  ·have:=p.lt (h.pers p hp) h2
   have:=hn b h1
   omega
  ·exact h.apart p hp f hf b h1 h2
theorem St.push (h:St w0 w own ps) (c:Array Value) (t:TypeId):St w0 (w.alloc (.cells c t)) (bk w.heap.size c t::own) ps:=
 h.add (qU w (.cells c t)) _ (heap_alloc_new w _) fun _ hb=>nY hb.symm
theorem St.UU (h:St w0 w own ps) (e:PF) (he:e.P w) (hn:∀b,¬e.di b):St w0 w (e::own) ps:=
 h.add (Below.refl _ _) e he fun b hb=>absurd hb (hn b)
theorem St.step (h:St w0 w own ps) (hk:own[k]?=some e) (he:e'.P w') (hf:∀b,e'.di b->e.di b∨w.heap.size<=b) (hb:Below w0.heap.size w w') (mn:w.heap.size<=w'.heap.size)
  (Fg:∀(j:Nat) (f:PF),own[j]?=some f->j≠k->∀b,f.di b->w'.heap[b]?=w.heap[b]?) (Ki:∀p∈ps,∀b,p.di b->w'.heap[b]?=w.heap[b]?):St w0 w' (own.set k e') ps:=by
 obtain ⟨YC,hke⟩:=bU.1 hk
 have O9:∀(j:Nat) (f:PF),(own.set k e')[j]?=some f->(j=k/\f=e')∨(j≠k/\own[j]?=some f):=by
  intro j f hj
  rw [td] at hj
  split at hj
  ·rename_i Fa
   exact .inl ⟨Fa.symm,(dw hj).symm⟩
  ·rename_i Fa
   exact .inr ⟨fun e=>Fa e.symm,hj⟩
 refine ⟨h.below.trans hb,fun f Df=>?_,fun f Df b Bj=>?_,yK.2 fun i j hi hj O6 b h1 h2=>?_,fun p hp=>p.oC (h.pers p hp) mn (Ki p hp),fun p hp f Df b h1 h2=>?_⟩
 ·obtain ⟨j,hj⟩:=lV Df
  rcases O9 j f hj with ⟨_,rfl⟩ | ⟨Fa,hj⟩
  ·exact he
  ·exact f.oC (h.owns hj) mn (Fg j f hj Fa)
 ·obtain ⟨j,hj⟩:=lV Df
  rcases O9 j f hj with ⟨_,rfl⟩ | ⟨Fa,hj⟩
  ·rcases hf b Bj with h3 | h3
   ·exact h.new e (aB hk) b h3
   ·exact bq h.below.size h3
  ·exact h.new f (aB hj) b Bj
 ·have hgi:=aw hi
  have hgj:=aw hj
  rcases O9 i _ hgi with ⟨hik,Z7⟩ | ⟨hik,E3⟩<;>rcases O9 j _ hgj with ⟨Fa,hje⟩ | ⟨Fa,Od⟩
  ·omega
  ·rw [Z7] at h1
   rcases hf b h1 with h3 | h3
   ·exact h.one hk Od (fun e=>Fa e.symm) b h3 h2
   ·have:=(own.set k e')[j].lt (h.owns Od) h2
    omega
  ·rw [hje] at h2
   rcases hf b h2 with h3 | h3
   ·exact h.one E3 hk hik b h1 h3
   ·have:=(own.set k e')[i].lt (h.owns E3) h1
    omega
  ·exact h.one E3 Od ae b h1 h2
 ·obtain ⟨j,hj⟩:=lV Df
  rcases O9 j f hj with ⟨_,rfl⟩ | ⟨Fa,hj⟩
  ·rcases hf b h1 with h3 | h3
   ·exact h.apart p hp e (aB hk) b h3 h2
   ·have:=p.lt (h.pers p hp) h2
    omega
  ·exact h.apart p hp f (aB hj) b h1 h2
theorem St.mf (h:St w0 w own ps) (hk:own[k]?=some e) (he:e'.P w') (hf:∀b,e'.di b->e.di b∨w.heap.size<=b) (Bi:w'.os=w.os) (htp:w'.tape=w.tape) (y7:w'.output=w.output) (hs:w.heap.size<=w'.heap.size)
  (hg:∀b,b<w.heap.size->¬e.di b->w'.heap[b]?=w.heap[b]?):St w0 w' (own.set k e') ps:=
 h.step hk he hf ⟨Bi,htp,y7,hs,fun b hb=>hg b (gw hb h.below.size) fun Bj=>by
   have:=h.new e (aB hk) b Bj
   omega⟩ hs
  (fun j f hj Fa b Bj=>hg b (f.lt (h.owns hj) Bj) fun h1=>h.one hj hk Fa b Bj h1)
  (fun p hp b Kj=>hg b (p.lt (h.pers p hp) Kj) fun h1=>h.apart p hp e (aB hk) b h1 Kj)
theorem St.Ib (h:St w0 w own ps) {g:Nat} {c c':Array Value} {t:TypeId} (hk:own[k]?=some (bk g c t)) (hu:Oi w w' g c' t):St w0 w' (own.set k (bk g c' t)) ps:=
 h.mf hk hu.new (fun _ hb=>.inl hb) hu.os hu.tape hu.output (nY hu.size.symm) fun b _ hb=>hu.old b hb
theorem St.pick (h:St w0 w own ps) (is js:List Nat) (hn:is.Nodup):St w0 w (is.filterMap (own[·]?)) (js.filterMap (ps[·]?)):=by
 refine ⟨h.below,fun e he=>?_,fun e he=>?_,?_,fun p hp=>?_,fun p hp e he=>?_⟩
 ·obtain ⟨i,_,hi⟩:=ku.1 he
  exact h.owns hi
 ·obtain ⟨i,_,hi⟩:=ku.1 he
  exact h.new e (aB hi)
 ·clear js
  induction is with
  | nil=>simp
  | cons i is ih=>
   have Yr:=List.nodup_cons.1 hn
   cases hi:own[i]? with
   | none=>simp [hi]; simpa using ih Yr.2
   | some e=>
    simp only [List.filterMap_cons,hi]
    refine qe.2 ⟨fun f hf=>?_,ih Yr.2⟩
    obtain ⟨j,hj,MG⟩:=ku.1 hf
    exact h.one hi MG fun e=>Yr.1 (e ▸ hj)
 ·obtain ⟨j,_,hj⟩:=ku.1 hp
  exact h.pat hj
 ·obtain ⟨j,_,hj⟩:=ku.1 hp
  obtain ⟨i,_,hi⟩:=ku.1 he
  exact h.apart p (aB hj) e (aB hi)
theorem St.Yx (h:St w0 w own ps) (p:PF) (hf:∀b,p.di b->w.heap.size<=b):∀e∈own,∀b,e.di b->¬p.di b:=fun e he b h1 h2=>by
 have:=e.lt (h.mine e he) h1
 have:=hf _ h2
 omega
theorem St.Yy (h:St w0 w own ps) (p:PF) (hf:∀b,p.di b->b<w0.heap.size):∀e∈own,∀b,e.di b->¬p.di b:=fun e he b h1 h2=>by
 have:=h.new e he b h1
 have:=hf _ h2
 omega
theorem St.fresh (h:St w0 w own ps) (hb:Below w.heap.size w w') (p:PF) (hp:p.P w') (hf:∀b,p.di b->w.heap.size<=b):St w0 w' own (p::ps):=
 (h.call hb).iB p hp (h.Yx p hf)
theorem St.UW (h:St w0 w own ps) (hk:own[k]?=some e) (p:PF) (hp:p.P w) (hf:∀b,p.di b->e.di b):St w0 w (own.eraseIdx k) (p::ps):=by
 have Z8:∀f∈own.eraseIdx k,∃j:Nat,j≠k/\own[j]?=some f:=by
  intro f hf
  obtain ⟨j,hj⟩:=lV hf
  rw [List.getElem?_eraseIdx] at hj
  split at hj
  ·exact ⟨j,by omega,hj⟩
  ·exact ⟨j+1,by omega,hj⟩
 refine ⟨h.below,fun f Df=>?_,fun f Df=>?_,List.Pairwise.sublist (yG own k) h.nd,fun q hq=>?_,fun q hq f Df b h1 h2=>?_⟩
 ·obtain ⟨j,_,hj⟩:=Z8 f Df; exact h.owns hj
 ·obtain ⟨j,_,hj⟩:=Z8 f Df; exact h.new f (aB hj)
 ·rcases dW.1 hq with rfl | hq
  ·exact hp
  ·exact h.pers q hq
 ·obtain ⟨j,Fa,hj⟩:=Z8 f Df
  rcases dW.1 hq with rfl | hq
  ·exact h.one hj hk Fa b h1 (hf b h2)
  ·exact h.apart q hq f (aB hj) b h1 h2
end
def YD (e:PF):Prop:=∀(w:World) (b o:Nat) (i:Int),e.P w->e.di b->w.cell? ⟨b,o,none⟩≠some (.int .u32 i)
theorem aN {g:Nat} {c:Array Value} {t:TypeId} (h:c.toList.all ar=true):YD (bk g c t):=by
 intro w b o i hP hf hc
 obtain rfl:b=g:=hf
 rw [cell_of_row w _ _ _ _ _ hP] at hc
 have h2:=dP.1 h _ (Array.mem_toList_iff.2 (yF hc))
 simp [ar] at h2
def qB:List PF->Prop
 | []=>True
 | e::l=>YD e/\qB l
theorem qB.at:∀{l:List PF},qB l->∀e∈l,YD e
 | e::l,h,f,hf=>by
  rcases dW.1 hf with rfl | hf
  ·exact h.1
  ·exact qB.at h.2 f hf
theorem St.MM {w0 w:World} {own ps:List PF} {A:Option Addr} {n c:Nat} {xs:List Nat} (h:St w0 w own ps) (hu:eT w A n c xs) (hn:qB own):St w0 w own (UT A n c xs::ps):=
 h.iB (UT A n c xs) hu fun e he b1 h1 hf=>by
  obtain ⟨hp,off,rfl⟩:=hf
  obtain ⟨b,o,e',_,hc⟩:=hu.cells hp
  cases e'
  exact hn.at e he w _ _ _ (h.mine e he) h1 (hc 0 hp)
theorem St.eO {w0 w:World} {own ps:List PF} {A:Option Addr} {c:Nat} {z:Int} (h:St w0 w own ps) (hu:dK w A c z) (hn:qB own):St w0 w own (BW A c z::ps):=St.MM h hu hn
section
variable {P:Program} {K:Act->World->Prop} {Q:Exit->Act->World->Prop} {R:Ending->World->Prop} {N:Nat} {dq:List Deferred} {a:Act} {l:List (Nat×Value)} {w w0:World} {own ps:List PF}
variable {d:Nat} {ty:TypeId} {pos:String} {af:Array Edge} {gd:Option (Nat×Bool)} {ops:Array Oper} {fn:Func} {c:Code}
theorem enter {f:FuncId} {args:Array Value} (hf:P.funcs[f]?=some fn) (hb:fn.body=some c) (hn:fn.ntmps=N) (hz:Nat.ble args.size N=true)
  (h:∀a,Env N a (T4 0 args.toList)->St w w [] []->c.wp P (bodyPost P fn R) a w):Calls P f args w R:=
 Go.Proofs.YtgopcdagnicekaaGreatDoor.enter hf hb hn hz fun a he _=>h a he (St.start w)
theorem jL {T:Nat} {x:Operand} {v:Value} {c:Array Value} (h:aW dq N a l) (hs:St w0 w own ps) (hd:Nat.blt d N=true) (hx:bV l x=some v) (hc:v.cells=c)
  (hK:∀a' w' g,aW dq N a' ((d,bB g)::l)->St w0 w' (bk g c T::own) ps->K a' w'):
  Oper.wp P ⟨some d,.box T x,ty,pos,af,gd⟩ a w K Q:=by
 have hr:(execOp a.eval ⟨some d,.box T x,ty,pos,af,gd⟩).run P w=.ok (.value (bB w.heap.size)) (w.alloc (.cells v.cells T)):=by
  simp only [execOp,h.ev hx]
  rfl
 subst hc
 unfold Oper.wp
 rw [hr]
 exact hK _ _ _ (h.put hd _) (hs.push _ _)
theorem fA {T:Nat} {v:Value} {c:Array Value} (h:aW dq N a l) (hs:St w0 w own ps) (hd:Nat.blt d N=true) (hz:∃i,P.info? T=some i/\i.zero=some v) (hc:v.cells=c)
  (hK:∀a' w' g,aW dq N a' ((d,bB g)::l)->St w0 w' (bk g c T::own) ps->K a' w'):
  Oper.wp P ⟨some d,.alloc T,ty,pos,af,gd⟩ a w K Q:=by
 obtain ⟨i,hi,hv⟩:=hz
 have hr:(execOp a.eval ⟨some d,.alloc T,ty,pos,af,gd⟩).run P w=.ok (.value (bB w.heap.size)) (w.alloc (.cells v.cells T)):=by
  have hz:(zeroValue T).run P w=.ok v w:=by simp [zeroValue,typeInfo,hi,hv]
  simp only [execOp,Instr.alloc,Sem.run_bind,hz,Result.andThen_ok]
  rfl
 subst hc
 unfold Oper.wp
 rw [hr]
 exact hK _ _ _ (h.put hd _) (hs.push _ _)
theorem fW {T o n k g t:Nat} {x y:Operand} {c cs c':Array Value} (h:aW dq N a l) (hs:St w0 w own ps) (hi:∃i,P.info? T=some i/\i.size=n) (hx:bV l x=some (.pointer (some ⟨g,o,none⟩))) (hy:bV l y=some (.agg cs))
  (hk:own[k]?=some (bk g c t)) (hn:cs.size=n) (ho:o+cs.size<=c.size) (h1:cs.toList.all (·.oneCell')=true) (hc:wr o cs.toList c=c')
  (hK:∀a' w',aW dq N a' l->St w0 w' (own.set k (bk g c' t)) ps->K a' w'):
  Oper.wp P ⟨none,.store T x y,ty,pos,af,gd⟩ a w K Q:=by
 have hg:=hs.nA hk
 have ht:w.there g o cs.size:=fun j hj=>⟨by rw [cell_of_row w _ _ _ _ _ hg]; simp; omega,by simp [World.frozen?,hg]⟩
 obtain ⟨i,hi,km⟩:=hi
 have hr:(execOp a.eval ⟨none,.store T x y,ty,pos,af,gd⟩).run P w=.ok .skip (w.setCells g o cs.toList):=by
  simp only [execOp,h.ev hx,h.ev hy]
  rw [Sem.run_bind,run_storeAt_mid w g o T cs ht (by rw [hi,hn]; simp [km]) (by rw [Array.all_toList] at h1; exact h1)]
  rfl
 unfold Oper.wp
 rw [hr]
 subst hc
 exact hK _ _ (h.E7 _) (hs.Ib hk (pq _ _ _ _ _ _ hg))
end
theorem ay {l l':List (Nat×Value)} (h:yW l l':=by repeat' (first | exact trivial | refine ⟨rfl,?_⟩)):yW l l':=h
section
variable {w0 w:World} {a b c d e f g h i j p:PF} {own ps:List PF}
theorem St.aU (q:St w0 w own (p::ps)):p.P w:=q.pat (k:=0) rfl
theorem St.bC (q:St w0 w own (a::p::ps)):p.P w:=q.pat (k:=1) rfl
theorem St.cF (q:St w0 w own (a::b::p::ps)):p.P w:=q.pat (k:=2) rfl
theorem St.eY (q:St w0 w own (a::b::c::p::ps)):p.P w:=q.pat (k:=3) rfl
theorem St.jW (q:St w0 w own (a::b::c::d::p::ps)):p.P w:=q.pat (k:=4) rfl
theorem St.nF (q:St w0 w own (a::b::c::d::e::p::ps)):p.P w:=q.pat (k:=5) rfl
theorem St.uD (q:St w0 w own (a::b::c::d::e::f::p::ps)):p.P w:=q.pat (k:=6) rfl
theorem St.dm (q:St w0 w (p::own) ps):p.P w:=q.owns (k:=0) rfl
theorem St.fK (q:St w0 w (a::p::own) ps):p.P w:=q.owns (k:=1) rfl
theorem St.lY (q:St w0 w (a::b::p::own) ps):p.P w:=q.owns (k:=2) rfl
theorem St.tw (q:St w0 w (a::b::c::p::own) ps):p.P w:=q.owns (k:=3) rfl
theorem St.Bl (q:St w0 w (a::b::c::d::p::own) ps):p.P w:=q.owns (k:=4) rfl
theorem St.MN (q:St w0 w (a::b::c::d::e::p::own) ps):p.P w:=q.owns (k:=5) rfl
theorem St.O' (q:St w0 w (a::b::c::d::e::f::p::own) ps):p.P w:=q.owns (k:=6) rfl
theorem St.tx (q:St w0 w (a::b::c::d::e::f::g::p::own) ps):p.P w:=q.owns (k:=7) rfl
end
section
variable {w0 w:World} {a b c d e f:PF} {own ps:List PF} {x:Nat} {y:Array Value} {z:TypeId}
theorem St.dj (q:St w0 w (bk x y z::own) ps):w.heap[x]?=some (.cells y z (0,0)):=q.nA (k:=0) rfl
theorem St.vQ (q:St w0 w (a::bk x y z::own) ps):w.heap[x]?=some (.cells y z (0,0)):=q.nA (k:=1) rfl
theorem St.Bm (q:St w0 w (a::b::bk x y z::own) ps):w.heap[x]?=some (.cells y z (0,0)):=q.nA (k:=2) rfl
theorem St.Dg (q:St w0 w (a::b::c::bk x y z::own) ps):w.heap[x]?=some (.cells y z (0,0)):=q.nA (k:=3) rfl
end
section
variable {P:Program} {K:Act->World->Prop} {Q:Exit->Act->World->Prop} {N:Nat} {dq:List Deferred} {a:Act} {l:List (Nat×Value)} {w w0:World} {own ps:List PF}
variable {d:Nat} {ty:TypeId} {pos:String} {af:Array Edge} {gd:Option (Nat×Bool)}
theorem rM {T o k g t:Nat} {x y:Operand} {v:Value} {c c':Array Value} (h:aW dq N a l) (hs:St w0 w own ps) (hi:∃i,P.info? T=some i/\i.size=1) (hx:bV l x=some (.pointer (some ⟨g,o,none⟩))) (hy:bV l y=some v)
  (hk:own[k]?=some (bk g c t)) (ho:o<c.size) (h1:v.oneCell'=true) (hc:c.setIfInBounds o v=c')
  (hK:∀a' w',aW dq N a' l->St w0 w' (own.set k (bk g c' t)) ps->K a' w'):
  Oper.wp P ⟨none,.store T x y,ty,pos,af,gd⟩ a w K Q:=by
 have hg:=hs.nA hk
 obtain ⟨i,hi,km⟩:=hi
 have Oj:w.cell? ⟨g,o,none⟩=some c[o]:=by rw [cell_of_row w _ _ _ _ _ hg]; simp [ho]
 have hf:w.frozen? ⟨g,o,none⟩=false:=by simp [World.frozen?,hg]
 have hv:v.cells=#[v]:=by cases v<;>simp_all [Value.cells,Value.oneCell']
 have hr:(execOp a.eval ⟨none,.store T x y,ty,pos,af,gd⟩).run P w=.ok .skip (w.setCell ⟨g,o,none⟩ v):=by
  simp only [execOp,h.ev hx,h.ev hy,Instr.storeAt,Instr.sureAddr,Sem.run_bind,Sem.run_pure,Result.andThen_ok,storeVar,run_sizeOf ⟨i,hi,km⟩,hv]
  have h0:(⟨g,o,none⟩:Addr).add 0=⟨g,o,none⟩:=by rw [Addr.add_mid]; rfl
  have σ:((store (⟨g,o,none⟩:Addr) v).run P w)=.ok () (w.setCell ⟨g,o,none⟩ v):=by
   cases v<;>simp_all [store,Sem.run,Value.oneCell']
  simp [storeCells,h0,σ]
 unfold Oper.wp
 rw [hr]
 subst hc
 exact hK _ _ (h.E7 _) (hs.Ib hk (lK _ hg))
theorem jX {T E n z:Nat} {parts:Array (Nat×Operand)} {pv:Array (Nat×Value)} {zv:Value} {c:Array Value} (h:aW dq N a l) (hs:St w0 w own ps) (hd:Nat.blt d N=true)
  (hT:P.underlying T=some (.slice E)) (hE:∃i,P.info? E=some i/\i.size=z) (hz:∃i,P.info? E=some i/\i.zero=some zv) (hn:n*z<=1000000) (vk:n*z≠0)
  (hp:parts.toList.map (fun p=>(p.1,bV l p.2))=pv.toList.map (fun p=>(p.1,some p.2)))
  (hf:Instr.fill (fun i=>some (i*z,z)) ((Array.range (n*z)).map (zv.cells[·%zv.cells.size]!)) pv.toList=some c)
  (hK:∀a' w' g,aW dq N a' ((d,.slice (bh g) n n)::l)->St w0 w' (bk g c E::own) ps->K a' w'):
  Oper.wp P ⟨some d,.buildSlice T n parts,ty,pos,af,gd⟩ a w K Q:=by
 have he:parts.map (fun (i,x)=>(i,a.eval x))=pv:=by
  apply BG
  rw [qg]
  generalize parts.toList=xl at hp ⊢
  generalize pv.toList=vl at hp ⊢
  induction xl generalizing vl with
  | nil=>cases vl with
   | nil=>rfl
   | cons=>simp at hp
  | cons x xl ih=>cases vl with
   | nil=>simp at hp
   | cons v vl=>
    simp only [jJ,pf,ji] at hp ⊢
    refine ⟨?_,ih vl hp.2⟩
    obtain ⟨i,x⟩:=x
    obtain ⟨j,v⟩:=v
    have h1:i=j:=hp.1.1
    have h2:=h.ev hp.1.2
    subst h1
    exact Prod.ext rfl h2
 obtain ⟨i,hi,hv⟩:=hz
 have Pa:(zeroValue E).run P w=.ok zv w:=by simp [zeroValue,typeInfo,hi,hv]
 have hr:(execOp a.eval ⟨some d,.buildSlice T n parts,ty,pos,af,gd⟩).run P w=.ok (.value (.slice (bh w.heap.size) n n)) (w.alloc (.cells c E)):=by
  simp only [execOp,he,Instr.buildSlice,Sem.run_bind,run_underlying hT w,Result.andThen_ok,run_sizeOf hE,aQ (show ¬n*z>2 ^ 24 by omega),aQ vk,Pa,Sem.run_pure,hf]
  rfl
 unfold Oper.wp
 rw [hr]
 exact hK _ _ _ (h.put hd _) (hs.push _ _)
def afh (E z:Nat) (v:Value) (n:Nat) (vs:List Value):PF:=
 ⟨fun w=>w.ownsRow 0 E z v n vs,fun b=>v.ownBlock=some b,fun h hb=>(h.lt _ hb).2,fun {w w'} h _ hk=>by
  refine ⟨h.1,?_⟩
  rcases h.2 with hn | ⟨g,cap,cur,rfl,hb,hg,rest⟩
  ·exact .inl hn
  ·exact .inr ⟨g,cap,cur,rfl,hb,(hk g rfl).trans hg,rest⟩⟩
end
section
variable {P:Program} {ops:Array Oper} {Q:Exit->Act->World->Prop} {S:Nat->World->Prop}
def Kn (w:World) (l:List PF) (ps:List PF):Prop:=(∀e∈l,e.P w)/\∀p∈ps,p.P w
section
variable {w w0:World} {own:List PF} {ps:List PF} {k:Nat} {e:PF} {p:PF}
theorem St.kn (h:St w0 w own ps):Kn w own ps:=⟨h.mine,h.pers⟩
theorem Kn.owns (h:Kn w own ps) (hk:own[k]?=some e):e.P w:=h.1 e (aB hk)
theorem Kn.nA (h:Kn w own ps) {g:Nat} {c:Array Value} {t:TypeId} (hk:own[k]?=some (bk g c t)):w.heap[g]?=some (.cells c t (0,0)):=h.1 _ (aB hk)
theorem Kn.pat (h:Kn w own ps) (hk:ps[k]?=some p):p.P w:=h.2 p (aB hk)
theorem Kn.pick (h:Kn w own ps) (is js:List Nat):Kn w (is.filterMap (own[·]?)) (js.filterMap (ps[·]?)):=
 ⟨fun e he=>by obtain ⟨i,_,hi⟩:=ku.1 he; exact h.owns hi,fun p hp=>by obtain ⟨i,_,hi⟩:=ku.1 hp; exact h.pat hi⟩
end
def Sk (l1:List PF) (ps:List PF) (Z:List Nat) (l2:List PF) (j:Nat) (w:World):Prop:=Kn w l1 ps/\(Z.contains j=true∨Kn w l2 [])
theorem Sk.two {l1:List PF} {ps:List PF} {Z:List Nat} {l2:List PF} {j:Nat} {w:World} {T:List Nat} (h:Sk l1 ps Z l2 j w) (hz:(Z.all fun j=>T.contains j)=true) (hj:j ∉ T):Kn w l2 []:=by
 rcases h.2 with h | h
 ·have h1:j∈Z:=by simpa using h
  exact absurd (by simpa using dP.1 hz j h1) hj
 ·exact h
theorem pw {id n:Nat} {N:Nat} {dq:List Deferred} {a:Act} {w w0:World} {own:List PF} {ps:List PF} {l:List (Nat×Value)} (S:Nat->World->Prop) (hm:P.follows .mixedOrders=true) (hn:ops.size=n) (he:aW dq N a l) (hs:St w0 w own ps)
  (h:∀w',aW dq N a l->St w0 w' own ps->jU P ops Q S n (Array.replicate n false) a w'):(Code.region id ops true).wp P Q a w:=by
 subst hn
 exact wp_region_any hm (xO _ _ _ _ (h _ he hs.drew))
end
section
variable {P:Program} {ops:Array Oper} {Q:Exit->Act->World->Prop} {rest:List Oper} {N:Nat} {dq:List Deferred} {l:List (Nat×Value)} {w:World} {d:Nat} {ty:TypeId} {pos:String} {af:Array Edge} {op:Op} {v:Value} {x:Operand}
theorem sA (hd:Nat.blt d N=true) (hr:∀a,aW dq N a l->(execOp a.eval ⟨some d,op,ty,pos,af,none⟩).run P w=.ok (.value v) w) (hK:∀a,aW dq N a ((d,v)::l)->wpList P ops Q rest a w):∀a,aW dq N a l->wpList P ops Q (⟨some d,op,ty,pos,af,none⟩::rest) a w:=fun a h=>sv h hd (hr a h) hK
theorem mA (hd:Nat.blt d N=true) (hx:bV l x=some v) (hK:∀a,aW dq N a ((d,v)::l)->wpList P ops Q rest a w):∀a,aW dq N a l->wpList P ops Q (⟨some d,.move x,ty,pos,af,none⟩::rest) a w:=fun _ h=>sv h hd (b7 h hx) hK
theorem aA (hd:Nat.blt d N=true) (hx:bV l x=some v) (hK:∀a,aW dq N a ((d,v)::l)->wpList P ops Q rest a w):∀a,aW dq N a l->wpList P ops Q (⟨some d,.assign x,ty,pos,af,none⟩::rest) a w:=fun _ h=>sv h hd (aV h hx) hK
theorem gA {g t:Nat} {b:Bool} {og:Oper} (hg:ops[g]?=some og) (xu:og.dst=some t) (xN:look l t=some (.bool b)) (hd:Nat.blt d N=true) (hr:∀a,aW dq N a l->(execOp a.eval ⟨some d,op,ty,pos,af,some (g,b)⟩).run P w=.ok (.value v) w) (hK:∀a,aW dq N a ((d,v)::l)->wpList P ops Q rest a w):∀a,aW dq N a l->wpList P ops Q (⟨some d,op,ty,pos,af,some (g,b)⟩::rest) a w:=fun a h=>afb hg h xu xN (aX h hd (hr a h) hK)
theorem kA {g t:Nat} {b:Bool} {u:Value} {og:Oper} (hg:ops[g]?=some og) (xu:og.dst=some t) (xN:look l t=some u) (hd:Nat.blt d N=true) (yY:Yz u b=false) (hK:∀a,aW dq N a ((d,undef)::l)->wpList P ops Q rest a w):∀a,aW dq N a l->wpList P ops Q (⟨some d,op,ty,pos,af,some (g,b)⟩::rest) a w:=fun _ h=>O5 hg h xu xN hd yY hK
end
abbrev rg (a n:Nat):List Nat:=List.range' a n
section
variable {P:Program} {ops:Array Oper} {Q:Exit->Act->World->Prop} {S:Nat->World->Prop} {N:Nat} {dq:List Deferred} {a:Act} {l:List (Nat×Value)} {w:World} {listed:Array Bool} {fuel i d:Nat} {ty:TypeId} {pos:String} {af:Array Edge} {v:Value} {x:Operand}
theorem tA {op:Op} (T:List Nat) (hi:ops[i]?=some ⟨some d,op,ty,pos,af,none⟩) (hb:me ops listed i T=true) (hQ:∀c (a:Act) w,Q (.panic c) (a.put (some d) v) w->Q (.panic c) a w) (h:aW dq N a l) (hd:Nat.blt d N=true)
  (hr:∀w',(execOp a.eval ⟨some d,op,ty,pos,af,none⟩).run P w'=.ok (.value v) w') (hK:∀a',aW dq N a' ((d,v)::l)->jU P ops Q S fuel (listed.setIfInBounds i true) a' w):jU P ops Q S (fuel+1) listed a w:=
 fH T (fun _=>True) hi hb hQ (fun _ _ _ _=>trivial) h hd trivial (fun w' _=>hr w') hK
theorem tM (T:List Nat) (hi:ops[i]?=some ⟨some d,.move x,ty,pos,af,none⟩) (hb:me ops listed i T=true) (hQ:∀c (a:Act) w,Q (.panic c) (a.put (some d) v) w->Q (.panic c) a w) (h:aW dq N a l) (hd:Nat.blt d N=true)
  (hx:bV l x=some v) (hK:∀a',aW dq N a' ((d,v)::l)->jU P ops Q S fuel (listed.setIfInBounds i true) a' w):jU P ops Q S (fuel+1) listed a w:=tA T hi hb hQ h hd (fun _=>b7 h hx) hK
end
section
variable {P:Program} {ops:Array Oper} {Q:Exit->Act->World->Prop} {N:Nat} {dq:List Deferred} {a:Act} {l:List (Nat×Value)} {w w0:World} {listed:Array Bool} {fuel i d j k g n Ty:Nat} {ty t:TypeId} {pos:String} {af:Array Edge} {x:Operand} {c:Array Value} {l1 l2 own ps pt:List PF} {Z:List Nat}
theorem tL (j k:Nat) (T:List Nat) (hi:ops[i]?=some ⟨some d,.load Ty x,ty,pos,af,none⟩) (hb:me ops listed i T=true) (hQ:∀c' (a:Act) w,Q (.panic c') (a.put (some d) (.agg c)) w->Q (.panic c') a w) (h:aW dq N a l) (hd:Nat.blt d N=true) (ht:lg P Ty n) (hx:bV l x=some (bB g)) (hs:St w0 w own pt)
  (hj:l1[j]?=some (bk g c t)) (hk:own[k]?=some (bk g c t)) (hn:c.size=n) (hK:∀a',aW dq N a' ((d,.agg c)::l)->jU P ops Q (Sk l1 ps Z l2) fuel (listed.setIfInBounds i true) a' w):jU P ops Q (Sk l1 ps Z l2) (fuel+1) listed a w:=
 fH T (fun w'=>w'.heap[g]?=some (.cells c t (0,0))) hi hb hQ (fun _ _ _ hS=>hS.1.nA hj) h hd (hs.nA hk) (fun _ hg=>dX h ht hx hg hn) hK
end
section
variable {P:Program} {a:Act} {w:World} {fn:Func} {r1 r2 r3 r4 r5:ResultVar} {v1 v2 v3 v4 v5:Value}
theorem afv (h:fn.results=#[r1,r2,r3,r4]) (h1:RV P a w r1 v1) (h2:RV P a w r2 v2) (h3:RV P a w r3 v3) (h4:RV P a w r4 v4):(results fn a.tmps).run P w=.ok (.tuple #[v1,v2,v3,v4]) w:=by
 have h1:=od h1
 have h2:=od h2
 have h3:=od h3
 have h4:=od h4
 simp only [px,h,BE,List.mapM_cons,List.mapM_nil]
 simp [h1,h2,h3,h4]
end
end Go.Proofs.YtgopcdagnicekaaGreatDoor.W

/- The zero value of a number. No condition. -/
namespace Go.Proofs.YtgopcdagnicekaaGreatDoor
open Go.RowKit Anv
theorem rj (w:World):dK w none 0 0:=⟨by show (L 0).length=zl 0; rw [qT,mo]; rfl,by rw [mo]; exact aY _,by simp [maxLen],xq _,fun hp=>by rw [mo] at hp; omega⟩
theorem lZ:(Value.agg #[.bool false,bA]).cells=#[.bool (neg 0),.slice none (zl 0) 0]:=by rw [neg_zero,mo]; rfl
theorem akQ:Value.agg #[.bool (neg 0),.slice none (zl 0) 0]=Value.agg #[.bool false,bA]:=by rw [neg_zero,mo]
section
variable {P:Program} {N:Nat} {a:Act} {l:List (Nat×Value)} {w:World} {d:Nat} {ty:TypeId} {pos:String} {af:Array Edge} {gd:Option (Nat×Bool)}
theorem Vh {T:Nat} {fs:Array Field} (hu:P.underlying T=some (.struct fs)) (hz:∃i,P.info? T=some i/\i.zero=some (.agg #[.bool false,bA])) (hs:∀f∈fs,∃i,P.info? f.type=some i):
  (execOp a.eval ⟨some d,.build T #[],ty,pos,af,gd⟩).run P w=.ok (.value (.agg #[.bool (neg 0),.slice none (zl 0) 0])) w:=by
 rw [akQ]; exact MI hu hz ⟨_,rfl⟩ hs
end
end Go.Proofs.YtgopcdagnicekaaGreatDoor
