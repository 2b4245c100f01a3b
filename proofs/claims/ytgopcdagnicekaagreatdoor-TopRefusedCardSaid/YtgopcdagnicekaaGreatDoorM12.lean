/- Lasting facts on numbers. No condition. -/
import Derived.Test.YtgopcdagnicekaaGreatDoorM11
set_option linter.all false
namespace Go.Proofs.YtgopcdagnicekaaGreatDoor
open Go.RowKit Anv
variable {w w0:World} {A:Option Addr} {n c i T E yt s:Nat} {xs:List Nat} {ps:List PF} {z m:Int} {x y:Operand} {k k':IntKind}
theorem Q0 {w':World} (h:kp w A n c xs) (hk:∀b,(0<n/\∃off,A=some ⟨b,off,none⟩)->w'.heap[b]?=w.heap[b]?):kp w' A n c xs:=
 ⟨h.len,h.cap,h.big,h.lt,fun hp=>by
  obtain ⟨b,off,rfl,fh,hc⟩:=h.cells hp
  have hb:=hk b ⟨hp,off,rfl⟩
  have Om:b<w'.heap.size:=by
   rcases aV b w'.heap.size with h1 | h1
   ·exact h1
   ·rw [eF h1] at hb
    rw [gX fh] at hb; cases hb
  exact ⟨b,off,I,Om,fun i hi=>(World.cell?_of_block hb).trans (hc i hi)⟩⟩
def W4 (A:Option Addr) (n c:Nat) (xs:List Nat):PF:=
 ⟨fun w=>kp w A n c xs,fun b=>0<n/\∃off,A=some ⟨b,off,none⟩,fun h ⟨hp,off,e⟩=>by
  obtain ⟨b,o,e',fh,_⟩:=h.cells hp
  rw [e] at e'; cases e'; exact fh,fun h _ hk=>Q0 h hk⟩
def DJ (A:Option Addr) (c:Nat) (z:Int):PF:=W4 A (zl z) c (L z.natAbs)
def dD:Value->Bool
 | .int .u32 _=>false
 | _=>true
def noU (own:List Bk):Bool:=own.all fun e=>e.c.toList.all dD
theorem St.Oy {own:List Bk} (h:St w0 w own ps) (hu:kp w A n c xs) (hn:noU own=true):St w0 w own (W4 A n c xs::ps):=
 h.l9 (W4 A n c xs) hu fun e he hf=>by
  obtain ⟨hp,off,rfl⟩:=hf
  obtain ⟨b,o,e',_,hc⟩:=hu.cells hp
  cases e'
  have h1:=hc 0 hp
  rw [cell_of_row w _ _ _ _ _ (h.mine e he).2] at h1
  have h2:=bp.1 (bp.1 hn e he) _ (Array.mem_toList_iff.2 (iZ h1))
  simp [dD] at h2
theorem St.j8 {own:List Bk} (h:St w0 w own ps) (hu:iY w A c z) (hn:noU own=true):St w0 w own (DJ A c z::ps):=St.Oy h hu hn
def ab (A:Option Addr):Nat:=match A with
 | some a=>a.block
 | none=>0
def ao (A:Option Addr):Nat:=match A with
 | some a=>a.off
 | none=>0
section
variable {P:Program} {K:Act->World->Prop} {Q:Exit->Act->World->Prop} {N:Nat} {dq:List Deferred} {a:Act} {l:List (Nat×Value)} {w w0:World} {own:List Bk} {ps:List PF}
variable {d:Nat} {ty:TypeId} {pos:String} {af:Array Edge} {gd:Option (Nat×Bool)}
theorem kp.ab (h:kp w A n c xs) (hp:0<n):A=some ⟨ab A,ao A,none⟩:=by
 obtain ⟨b,off,rfl,_,_⟩:=h.cells hp
 rfl
theorem kp.at (h:kp w A n c xs) (hi:i<n):w.cell? ⟨Go.Proofs.YtgopcdagnicekaaGreatDoor.ab A,ao A+i,none⟩=some (.int .u32 (xs.getD i 0:Nat)):=by
 obtain ⟨b,off,rfl,_,hc⟩:=h.cells ae
 exact hc i hi
theorem EA (h:b7 dq N a l) (hT:P.underlying T=some (.slice E)) (hE:∃j,P.info? E=some j/\j.size=1) (hx:eB l x=some (.slice A n c)) (hy:eB l y=some (.int k (i:Nat))) (hi:i<n) (hu:kp w A n c xs):
  (execOp a.eval ⟨some d,.indexAddr T x y,ty,pos,af,gd⟩).run P w=.ok (.value (.pointer (some ⟨Go.Proofs.YtgopcdagnicekaaGreatDoor.ab A,ao A+i,none⟩))) w:=by
 have hA:=hu.ab ae
 have:=oo (w:=w) (d:=d) (ty:=ty) (pos:=pos) (af:=af) (gd:=gd) h hT hE (hx.trans (by rw [<- hA])) hy hi
 rw [gH] at this
 exact this
theorem Br (h:b7 dq N a l) (hT:mM P T) (hx:eB l x=some (.pointer (some ⟨Go.Proofs.YtgopcdagnicekaaGreatDoor.ab A,ao A+i,none⟩))) (hi:i<n) (hu:kp w A n c xs):
  (execOp a.eval ⟨some d,.load T x,ty,pos,af,gd⟩).run P w=.ok (.value (.int .u32 (xs.getD i 0:Nat))) w:=
 mN h hT hx (hu.at hi)
theorem oq {z p g o:Nat} (h:b7 dq N a l) (hT:P.underlying T=some (.slice E)) (hE:∃j,P.info? E=some j/\j.size=z) (hx:eB l x=some (.slice (some ⟨g,o,none⟩) n c)) (hy:eB l y=some (.int k (i:Nat))) (hi:i<n) (hp:o+i*z=p):
  (execOp a.eval ⟨some d,.indexAddr T x y,ty,pos,af,gd⟩).run P w=.ok (.value (.pointer (some ⟨g,p,none⟩))) w:=by
 subst hp
 exact oo h hT hE hx hy hi
end
section
variable {P:Program} {K:Act->World->Prop} {Q:Exit->Act->World->Prop} {N:Nat} {dq:List Deferred} {a:Act} {l:List (Nat×Value)} {w w0:World} {own:List Bk} {ps:List PF}
variable {d:Nat} {ty:TypeId} {pos:String} {af:Array Edge} {gd:Option (Nat×Bool)}
theorem nP {n:Int} (h:b7 dq N a l) (hx:eB l x=some (.int k m)) (hy:eB l y=some (.int k n)) (h0:n≠0) (hw:k.wrap (m.tdiv n)=z):
  (execOp a.eval ⟨some d,.binOp .quo T x y yt,ty,pos,af,gd⟩).run P w=.ok (.value (.int k z)) w:=by
 subst hw
 exact cV h hx hy (by simp [eqGuard,binOp,Op.intDiv,h0])
theorem uu {n:Int} (h:b7 dq N a l) (hx:eB l x=some (.int k m)) (hy:eB l y=some (.int k n)) (h0:n≠0) (hw:m.tmod n=z):
  (execOp a.eval ⟨some d,.binOp .rem T x y yt,ty,pos,af,gd⟩).run P w=.ok (.value (.int k z)) w:=by
 subst hw
 exact cV h hx hy (by simp [eqGuard,binOp,Op.intDiv,h0])
theorem JT (h:b7 dq N a l) (hx:eB l x=some (.int k m)) (hy:eB l y=some (.int k' (s:Nat))) (hs:s<=k.bits) (hw:k.wrap (m*2 ^ s)=z):
  (execOp a.eval ⟨some d,.binOp .shl T x y yt,ty,pos,af,gd⟩).run P w=.ok (.value (.int k z)) w:=by
 subst hw
 refine cV h hx hy ?_
 have h1:¬((s:Int)<0):=ae
 simp [eqGuard,binOp,Op.shift,h1,cW hs]
theorem JU (h:b7 dq N a l) (hx:eB l x=some (.int k m)) (hy:eB l y=some (.int k' (s:Nat))) (hs:s<=k.bits) (hw:m.fdiv (2 ^ s)=z):
  (execOp a.eval ⟨some d,.binOp .shr T x y yt,ty,pos,af,gd⟩).run P w=.ok (.value (.int k z)) w:=by
 subst hw
 refine cV h hx hy ?_
 have h1:¬((s:Int)<0):=ae
 simp [eqGuard,binOp,Op.shift,h1,cW hs]
theorem GZ (m n:Nat):(m:Int).tdiv (n:Int)=((m / n:Nat):Int):=rfl
theorem xC (m n:Nat):(m:Int).tmod (n:Int)=((m%n:Nat):Int):=rfl
end
end Go.Proofs.YtgopcdagnicekaaGreatDoor

/- What is known of a world, second form: the call's own is a list of facts, each with its blocks (a block of cells, a row that grows, a builder ..). Over any program. No condition. -/
namespace Go.Proofs.YtgopcdagnicekaaGreatDoor.W
open Go.RowKit Anv
def bk (g:Nat) (c:Array Value) (t:TypeId):PF:=
 ⟨fun w=>w.heap[g]?=some (.cells c t (0,0)),fun b=>b=g,fun h e=>e ▸ lt_of_block h,fun h _ hk=>(hk g rfl).trans h⟩
structure St (w0 w:World) (own ps:List PF):Prop where
 below:Below w0.heap.size w0 w
 mine:∀e∈own,e.P w
 new:∀e∈own,∀b,e.gO b->w0.heap.size<=b
 nd:own.Pairwise fun e f=>∀b,e.gO b->¬f.gO b
 pers:∀p∈ps,p.P w
 apart:∀p∈ps,∀e∈own,∀b,e.gO b->¬p.gO b
variable {g j n T o k:Nat} {c c':Array Value} {t:TypeId} {w0 w:World} {ps:List PF} {A:Option Addr} {x y:Operand} {v:Value} {l:List (Nat×Value)} {b:Bool} {og:Oper}
section
variable {w0 w w':World} {own ps:List PF} {e e' p:PF} {k:Nat}
theorem St.start (w:World):St w w [] []:=
 ⟨Below.refl _ _,fun e h=>by simp at h,fun e h=>by simp at h,List.Pairwise.nil,fun p h=>by simp at h,fun p h=>by simp at h⟩
theorem St.owns (h:St w0 w own ps) (hk:own[k]?=some e):e.P w:=h.mine e (ah hk)
theorem St.pV (h:St w0 w own ps) (hk:own[k]?=some (bk g c t)):w.heap[g]?=some (.cells c t (0,0)):=h.mine _ (ah hk)
theorem St.oge (h:St w0 w own ps) (hk:own[k]?=some (bk g c t)):w0.heap.size<=g:=h.new _ (ah hk) g rfl
theorem St.pat (h:St w0 w own ps) (hk:ps[k]?=some p):p.P w:=h.pers p (ah hk)
theorem St.one (h:St w0 w own ps) {f:PF} (hk:own[k]?=some e) (hj:own[j]?=some f) (hn:k≠j):∀b,e.gO b->¬f.gO b:=by
 have hp:=fH.1 h.nd
 obtain ⟨We,rfl⟩:=aE.1 hk
 obtain ⟨hjl,rfl⟩:=aE.1 hj
 intro b he hf
 rcases Nat.lt_or_gt_of_ne hn with h1 | h1
 ·exact hp k j We hjl h1 b he hf
 ·exact hp j k hjl We h1 b hf he
theorem St.l9 (h:St w0 w own ps) (p:PF) (hp:p.P w) (ha:∀e∈own,∀b,e.gO b->¬p.gO b):St w0 w own (p::ps):=
 ⟨h.below,h.mine,h.new,h.nd,fun q hq=>by
  rcases bf.1 hq with rfl | hq
  ·exact hp
  ·exact h.pers q hq,fun q hq=>by
  rcases bf.1 hq with rfl | hq
  ·exact ha
  ·exact h.apart q hq⟩
theorem St.call (h:St w0 w own ps) (hb:Below w.heap.size w w'):St w0 w' own ps:=
 ⟨h.below.trans (hb.mono h.below.size),fun e he=>e.keep (h.mine e he) hb.size fun b hf=>hb.block b (e.lt (h.mine e he) hf),h.new,h.nd,
  fun p hp=>p.keep (h.pers p hp) hb.size fun b Df=>hb.block b (p.lt (h.pers p hp) Df),h.apart⟩
theorem St.drew (h:St w0 w own ps):St w0 w.drew own ps:=h.call (Below.refl _ _).drew
theorem St.add (h:St w0 w own ps) (hb:Below w.heap.size w w') (e:PF) (he:e.P w') (hn:∀b,e.gO b->w.heap.size<=b):St w0 w' (e::own) ps:=by
 have h':=h.call hb
 refine ⟨h'.below,fun f hf=>?_,fun f hf b Dg=>?_,dR.2 ⟨fun f hf b h1 h2=>?_,h.nd⟩,h'.pers,fun p hp f hf b h1 h2=>?_⟩
 ·rcases bf.1 hf with rfl | hf
  ·exact he
  ·exact h'.mine f hf
 ·rcases bf.1 hf with rfl | hf
  ·exact aD h.below.size (hn b Dg)
  ·exact h.new f hf b Dg
 ·have:=f.lt (h.mine f hf) h2
  have:=hn b h1
  omega
 ·rcases bf.1 hf with rfl | hf
  ·have:=p.lt (h.pers p hp) h2
   have:=hn b h1
   omega
  ·exact h.apart p hp f hf b h1 h2
theorem St.push (h:St w0 w own ps) (c:Array Value) (t:TypeId):St w0 (w.alloc (.cells c t)) (bk w.heap.size c t::own) ps:=
 h.add (ue w (.cells c t)) _ (heap_alloc_new w _) fun _ hb=>ew hb.symm
theorem St.JV (h:St w0 w own ps) (e:PF) (he:e.P w) (hn:∀b,¬e.gO b):St w0 w (e::own) ps:=
 h.add (Below.refl _ _) e he fun b hb=>absurd hb (hn b)
theorem St.step (h:St w0 w own ps) (hk:own[k]?=some e) (he:e'.P w') (hf:∀b,e'.gO b->e.gO b∨w.heap.size<=b) (hb:Below w0.heap.size w w') (qZ:w.heap.size<=w'.heap.size)
  (G0:∀(j:Nat) (f:PF),own[j]?=some f->j≠k->∀b,f.gO b->w'.heap[b]?=w.heap[b]?) (Oz:∀p∈ps,∀b,p.gO b->w'.heap[b]?=w.heap[b]?):St w0 w' (own.set k e') ps:=by
 obtain ⟨We,hke⟩:=aE.1 hk
 have Q4:∀(j:Nat) (f:PF),(own.set k e')[j]?=some f->(j=k/\f=e')∨(j≠k/\own[j]?=some f):=by
  intro j f hj
  rw [gy] at hj
  split at hj
  ·rename_i GX
   exact .inl ⟨GX.symm,(aW hj).symm⟩
  ·rename_i GX
   exact .inr ⟨fun e=>GX e.symm,hj⟩
 refine ⟨h.below.trans hb,fun f EB=>?_,fun f EB b Dg=>?_,fH.2 fun i j hi hj QZ b h1 h2=>?_,fun p hp=>p.keep (h.pers p hp) qZ (Oz p hp),fun p hp f EB b h1 h2=>?_⟩
 ·obtain ⟨j,hj⟩:=dO EB
  rcases Q4 j f hj with ⟨_,rfl⟩ | ⟨GX,hj⟩
  ·exact he
  ·exact f.keep (h.owns hj) qZ (G0 j f hj GX)
 ·obtain ⟨j,hj⟩:=dO EB
  rcases Q4 j f hj with ⟨_,rfl⟩ | ⟨GX,hj⟩
  ·rcases hf b Dg with h3 | h3
   ·exact h.new e (ah hk) b h3
   ·exact aD h.below.size h3
  ·exact h.new f (ah hj) b Dg
 ·have hgi:=ag hi
  have hgj:=ag hj
  rcases Q4 i _ hgi with ⟨hik,hie⟩ | ⟨hik,LO⟩<;>rcases Q4 j _ hgj with ⟨GX,hje⟩ | ⟨GX,Qa⟩
  ·omega
  ·rw [hie] at h1
   rcases hf b h1 with h3 | h3
   ·exact h.one hk Qa (fun e=>GX e.symm) b h3 h2
   ·have:=(own.set k e')[j].lt (h.owns Qa) h2
    omega
  ·rw [hje] at h2
   rcases hf b h2 with h3 | h3
   ·exact h.one LO hk hik b h1 h3
   ·have:=(own.set k e')[i].lt (h.owns LO) h1
    omega
  ·exact h.one LO Qa ae b h1 h2
 ·obtain ⟨j,hj⟩:=dO EB
  rcases Q4 j f hj with ⟨_,rfl⟩ | ⟨GX,hj⟩
  ·rcases hf b h1 with h3 | h3
   ·exact h.apart p hp e (ah hk) b h3 h2
   ·have:=p.lt (h.pers p hp) h2
    omega
  ·exact h.apart p hp f (ah hj) b h1 h2
theorem St.pH (h:St w0 w own ps) (hk:own[k]?=some e) (he:e'.P w') (hf:∀b,e'.gO b->e.gO b∨w.heap.size<=b) (Oj:w'.os=w.os) (htp:w'.tape=w.tape) (Bs:w'.output=w.output) (hs:w.heap.size<=w'.heap.size)
  (hg:∀b,b<w.heap.size->¬e.gO b->w'.heap[b]?=w.heap[b]?):St w0 w' (own.set k e') ps:=
 h.step hk he hf ⟨Oj,htp,Bs,hs,fun b hb=>hg b (cl hb h.below.size) fun Dg=>by
   have:=h.new e (ah hk) b Dg
   omega⟩ hs
  (fun j f hj GX b Dg=>hg b (f.lt (h.owns hj) Dg) fun h1=>h.one hj hk GX b Dg h1)
  (fun p hp b L2=>hg b (p.lt (h.pers p hp) L2) fun h1=>h.apart p hp e (ah hk) b h1 L2)
theorem St.JQ (h:St w0 w own ps) (hk:own[k]?=some (bk g c t)) (hu:Qg w w' g c' t):St w0 w' (own.set k (bk g c' t)) ps:=
 h.pH hk hu.new (fun _ hb=>.inl hb) hu.os hu.tape hu.output (ew hu.size.symm) fun b _ hb=>hu.old b hb
theorem St.pick (h:St w0 w own ps) (is js:List Nat) (hn:is.Nodup):St w0 w (is.filterMap (own[·]?)) (js.filterMap (ps[·]?)):=by
 refine ⟨h.below,fun e he=>?_,fun e he=>?_,?_,fun p hp=>?_,fun p hp e he=>?_⟩
 ·obtain ⟨i,_,hi⟩:=dC.1 he
  exact h.owns hi
 ·obtain ⟨i,_,hi⟩:=dC.1 he
  exact h.new e (ah hi)
 ·clear js
  induction is with
  | nil=>simp
  | cons i is ih=>
   have hn':=List.nodup_cons.1 hn
   cases hi:own[i]? with
   | none=>simp [hi]; simpa using ih hn'.2
   | some e=>
    simp only [List.filterMap_cons,hi]
    refine dR.2 ⟨fun f hf=>?_,ih hn'.2⟩
    obtain ⟨j,hj,Oo⟩:=dC.1 hf
    exact h.one hi Oo fun e=>hn'.1 (e ▸ hj)
 ·obtain ⟨j,_,hj⟩:=dC.1 hp
  exact h.pat hj
 ·obtain ⟨j,_,hj⟩:=dC.1 hp
  obtain ⟨i,_,hi⟩:=dC.1 he
  exact h.apart p (ah hj) e (ah hi)
theorem St.aaw (h:St w0 w own ps) (p:PF) (hf:∀b,p.gO b->w.heap.size<=b):∀e∈own,∀b,e.gO b->¬p.gO b:=fun e he b h1 h2=>by
 have:=e.lt (h.mine e he) h1
 have:=hf _ h2
 omega
theorem St.aax (h:St w0 w own ps) (p:PF) (hf:∀b,p.gO b->b<w0.heap.size):∀e∈own,∀b,e.gO b->¬p.gO b:=fun e he b h1 h2=>by
 have:=h.new e he b h1
 have:=hf _ h2
 omega
theorem St.fresh (h:St w0 w own ps) (hb:Below w.heap.size w w') (p:PF) (hp:p.P w') (hf:∀b,p.gO b->w.heap.size<=b):St w0 w' own (p::ps):=
 (h.call hb).l9 p hp (h.aaw p hf)
theorem St.give (h:St w0 w own ps) (hk:own[k]?=some e) (p:PF) (hp:p.P w) (hf:∀b,p.gO b->e.gO b):St w0 w (own.eraseIdx k) (p::ps):=by
 have ab7:∀f∈own.eraseIdx k,∃j:Nat,j≠k/\own[j]?=some f:=by
  intro f hf
  obtain ⟨j,hj⟩:=dO hf
  rw [List.getElem?_eraseIdx] at hj
  split at hj
  ·exact ⟨j,by omega,hj⟩
  ·exact ⟨j+1,by omega,hj⟩
 refine ⟨h.below,fun f EB=>?_,fun f EB=>?_,List.Pairwise.sublist (i' own k) h.nd,fun q hq=>?_,fun q hq f EB b h1 h2=>?_⟩
 ·obtain ⟨j,_,hj⟩:=ab7 f EB; exact h.owns hj
 ·obtain ⟨j,_,hj⟩:=ab7 f EB; exact h.new f (ah hj)
 ·rcases bf.1 hq with rfl | hq
  ·exact hp
  ·exact h.pers q hq
 ·obtain ⟨j,GX,hj⟩:=ab7 f EB
  rcases bf.1 hq with rfl | hq
  ·exact h.one hj hk GX b h1 (hf b h2)
  ·exact h.apart q hq f (ah hj) b h1 h2
end
def NoU (e:PF):Prop:=∀(w:World) (b o:Nat) (i:Int),e.P w->e.gO b->w.cell? ⟨b,o,none⟩≠some (.int .u32 i)
theorem bV (h:c.toList.all dD=true):NoU (bk g c t):=by
 intro w b o i hP hf hc
 obtain rfl:b=g:=hf
 rw [cell_of_row w _ _ _ _ _ hP] at hc
 have h2:=bp.1 h _ (Array.mem_toList_iff.2 (iZ hc))
 simp [dD] at h2
def tO:List PF->Prop
 | []=>True
 | e::l=>NoU e/\tO l
theorem tO.at:∀{l:List PF},tO l->∀e∈l,NoU e
 | e::l,h,f,hf=>by
  rcases bf.1 hf with rfl | hf
  ·exact h.1
  ·exact tO.at h.2 f hf
theorem St.Oy {own:List PF} {c:Nat} {xs:List Nat} (h:St w0 w own ps) (hu:kp w A n c xs) (hn:tO own):St w0 w own (W4 A n c xs::ps):=
 h.l9 (W4 A n c xs) hu fun e he b1 h1 hf=>by
  obtain ⟨hp,off,rfl⟩:=hf
  obtain ⟨b,o,e',_,hc⟩:=hu.cells hp
  cases e'
  exact hn.at e he w _ _ _ (h.mine e he) h1 (hc 0 hp)
theorem St.j8 {own:List PF} {c:Nat} {z:Int} (h:St w0 w own ps) (hu:iY w A c z) (hn:tO own):St w0 w own (DJ A c z::ps):=St.Oy h hu hn
section
variable {P:Program} {K:Act->World->Prop} {Q:Exit->Act->World->Prop} {R:Ending->World->Prop} {N:Nat} {dq:List Deferred} {a:Act} {l:List (Nat×Value)} {w w0:World} {own ps:List PF}
variable {d:Nat} {ty:TypeId} {pos:String} {af:Array Edge} {gd:Option (Nat×Bool)} {ops:Array Oper} {fn:Func} {c:Code}
theorem enter {f:FuncId} {args:Array Value} (hf:P.funcs[f]?=some fn) (hb:fn.body=some c) (hn:fn.ntmps=N) (hz:Nat.ble args.size N=true)
 (h:∀a,Env N a (Wc 0 args.toList)->St w w [] []->c.wp P (bodyPost P fn R) a w):Calls P f args w R:=
 Go.Proofs.YtgopcdagnicekaaGreatDoor.enter hf hb hn hz fun a he _=>h a he (St.start w)
theorem ns {c:Array Value} (h:b7 dq N a l) (hs:St w0 w own ps) (hd:Nat.blt d N=true) (hx:eB l x=some v) (hc:v.cells=c)
 (hK:∀a' w' g,b7 dq N a' ((d,cY g)::l)->St w0 w' (bk g c T::own) ps->K a' w'):
  Oper.wp P ⟨some d,.box T x,ty,pos,af,gd⟩ a w K Q:=by
 have hr:(execOp a.eval ⟨some d,.box T x,ty,pos,af,gd⟩).run P w=.ok (.value (cY w.heap.size)) (w.alloc (.cells v.cells T)):=by
  simp only [execOp,h.ev hx]
  rfl
 subst hc
 unfold Oper.wp
 rw [hr]
 exact hK _ _ _ (h.put hd _) (hs.push _ _)
theorem kQ {c:Array Value} (h:b7 dq N a l) (hs:St w0 w own ps) (hd:Nat.blt d N=true) (hz:∃i,P.info? T=some i/\i.zero=some v) (hc:v.cells=c)
 (hK:∀a' w' g,b7 dq N a' ((d,cY g)::l)->St w0 w' (bk g c T::own) ps->K a' w'):
  Oper.wp P ⟨some d,.alloc T,ty,pos,af,gd⟩ a w K Q:=by
 obtain ⟨i,hi,hv⟩:=hz
 have hr:(execOp a.eval ⟨some d,.alloc T,ty,pos,af,gd⟩).run P w=.ok (.value (cY w.heap.size)) (w.alloc (.cells v.cells T)):=by
  have hz:(zeroValue T).run P w=.ok v w:=by simp [zeroValue,typeInfo,hi,hv]
  simp only [execOp,Instr.alloc,Sem.run_bind,hz,Result.andThen_ok]
  rfl
 subst hc
 unfold Oper.wp
 rw [hr]
 exact hK _ _ _ (h.put hd _) (hs.push _ _)
theorem kZ {t:Nat} {c cs:Array Value} (h:b7 dq N a l) (hs:St w0 w own ps) (hi:∃i,P.info? T=some i/\i.size=n) (hx:eB l x=some (.pointer (some ⟨g,o,none⟩))) (hy:eB l y=some (.agg cs))
 (hk:own[k]?=some (bk g c t)) (hn:cs.size=n) (ho:o+cs.size<=c.size) (h1:cs.toList.all (·.oneCell')=true) (hc:wr o cs.toList c=c')
 (hK:∀a' w',b7 dq N a' l->St w0 w' (own.set k (bk g c' t)) ps->K a' w'):
  Oper.wp P ⟨none,.store T x y,ty,pos,af,gd⟩ a w K Q:=by
 have hg:=hs.pV hk
 have ht:w.there g o cs.size:=fun j hj=>⟨by rw [cell_of_row w _ _ _ _ _ hg]; simp; omega,by simp [World.frozen?,hg]⟩
 obtain ⟨i,hi,nz⟩:=hi
 have hr:(execOp a.eval ⟨none,.store T x y,ty,pos,af,gd⟩).run P w=.ok .skip (w.setCells g o cs.toList):=by
  simp only [execOp,h.ev hx,h.ev hy]
  rw [Sem.run_bind,run_storeAt_mid w g o T cs ht (by rw [hi,hn]; simp [nz]) (by rw [Array.all_toList] at h1; exact h1)]
  rfl
 unfold Oper.wp
 rw [hr]
 subst hc
 exact hK _ _ (h.GU _) (hs.JQ hk (sP _ _ _ _ _ _ hg))
end
theorem aT {l':List (Nat×Value)} (h:Bl l l':=by repeat' (first | exact trivial | refine ⟨rfl,?_⟩)):Bl l l':=h
section
variable {w0 w:World} {a b c d e f g h i j p:PF} {own ps:List PF}
theorem St.bW (q:St w0 w own (p::ps)):p.P w:=q.pat (k:=0) rfl
theorem St.dw (q:St w0 w own (a::p::ps)):p.P w:=q.pat (k:=1) rfl
theorem St.fX (q:St w0 w own (a::b::p::ps)):p.P w:=q.pat (k:=2) rfl
theorem St.kC (q:St w0 w own (a::b::c::p::ps)):p.P w:=q.pat (k:=3) rfl
theorem St.nX (q:St w0 w own (a::b::c::d::p::ps)):p.P w:=q.pat (k:=4) rfl
theorem St.rK (q:St w0 w own (a::b::c::d::e::p::ps)):p.P w:=q.pat (k:=5) rfl
theorem St.rX (q:St w0 w own (a::b::c::d::e::f::p::ps)):p.P w:=q.pat (k:=6) rfl
theorem St.jr (q:St w0 w (p::own) ps):p.P w:=q.owns (k:=0) rfl
theorem St.l8 (q:St w0 w (a::p::own) ps):p.P w:=q.owns (k:=1) rfl
theorem St.pI (q:St w0 w (a::b::p::own) ps):p.P w:=q.owns (k:=2) rfl
theorem St.wF (q:St w0 w (a::b::c::p::own) ps):p.P w:=q.owns (k:=3) rfl
theorem St.Dh (q:St w0 w (a::b::c::d::p::own) ps):p.P w:=q.owns (k:=4) rfl
theorem St.JW (q:St w0 w (a::b::c::d::e::p::own) ps):p.P w:=q.owns (k:=5) rfl
theorem St.OA (q:St w0 w (a::b::c::d::e::f::p::own) ps):p.P w:=q.owns (k:=6) rfl
theorem St.vM (q:St w0 w (a::b::c::d::e::f::g::p::own) ps):p.P w:=q.owns (k:=7) rfl
end
section
variable {w0 w:World} {a b c d e f:PF} {own ps:List PF} {x:Nat} {y:Array Value} {z:TypeId}
theorem St.gq (q:St w0 w (bk x y z::own) ps):w.heap[x]?=some (.cells y z (0,0)):=q.pV (k:=0) rfl
theorem St.vN (q:St w0 w (a::bk x y z::own) ps):w.heap[x]?=some (.cells y z (0,0)):=q.pV (k:=1) rfl
theorem St.EC (q:St w0 w (a::b::bk x y z::own) ps):w.heap[x]?=some (.cells y z (0,0)):=q.pV (k:=2) rfl
theorem St.G1 (q:St w0 w (a::b::c::bk x y z::own) ps):w.heap[x]?=some (.cells y z (0,0)):=q.pV (k:=3) rfl
end
section
variable {P:Program} {K:Act->World->Prop} {Q:Exit->Act->World->Prop} {N:Nat} {dq:List Deferred} {a:Act} {l:List (Nat×Value)} {w w0:World} {own ps:List PF}
variable {d:Nat} {ty:TypeId} {pos:String} {af:Array Edge} {gd:Option (Nat×Bool)}
theorem u6 {t:Nat} (h:b7 dq N a l) (hs:St w0 w own ps) (hi:∃i,P.info? T=some i/\i.size=1) (hx:eB l x=some (.pointer (some ⟨g,o,none⟩))) (hy:eB l y=some v)
 (hk:own[k]?=some (bk g c t)) (ho:o<c.size) (h1:v.oneCell'=true) (hc:c.setIfInBounds o v=c')
 (hK:∀a' w',b7 dq N a' l->St w0 w' (own.set k (bk g c' t)) ps->K a' w'):
  Oper.wp P ⟨none,.store T x y,ty,pos,af,gd⟩ a w K Q:=by
 have hg:=hs.pV hk
 obtain ⟨i,hi,nz⟩:=hi
 have Ou:w.cell? ⟨g,o,none⟩=some c[o]:=by rw [cell_of_row w _ _ _ _ _ hg]; simp [ho]
 have hf:w.frozen? ⟨g,o,none⟩=false:=by simp [World.frozen?,hg]
 have hv:v.cells=#[v]:=by cases v<;>simp_all [Value.cells,Value.oneCell']
 have hr:(execOp a.eval ⟨none,.store T x y,ty,pos,af,gd⟩).run P w=.ok .skip (w.setCell ⟨g,o,none⟩ v):=by
  simp only [execOp,h.ev hx,h.ev hy,Instr.storeAt,Instr.sureAddr,Sem.run_bind,Sem.run_pure,Result.andThen_ok,storeVar,run_sizeOf ⟨i,hi,nz⟩,hv]
  have h0:(⟨g,o,none⟩:Addr).add 0=⟨g,o,none⟩:=by rw [Addr.add_mid]; rfl
  have σ:((store (⟨g,o,none⟩:Addr) v).run P w)=.ok () (w.setCell ⟨g,o,none⟩ v):=by
   cases v<;>simp_all [store,Sem.run,Value.oneCell']
  simp [storeCells,h0,σ]
 unfold Oper.wp
 rw [hr]
 subst hc
 exact hK _ _ (h.GU _) (hs.JQ hk (pE _ hg))
theorem nC {E z:Nat} {parts:Array (Nat×Operand)} {pv:Array (Nat×Value)} {zv:Value} (h:b7 dq N a l) (hs:St w0 w own ps) (hd:Nat.blt d N=true)
 (hT:P.underlying T=some (.slice E)) (hE:∃i,P.info? E=some i/\i.size=z) (hz:∃i,P.info? E=some i/\i.zero=some zv) (hn:n*z<=1000000) (pJ:n*z≠0)
 (hp:parts.toList.map (fun p=>(p.1,eB l p.2))=pv.toList.map (fun p=>(p.1,some p.2)))
 (hf:Instr.fill (fun i=>some (i*z,z)) ((Array.range (n*z)).map (zv.cells[·%zv.cells.size]!)) pv.toList=some c)
 (hK:∀a' w' g,b7 dq N a' ((d,.slice (cS g) n n)::l)->St w0 w' (bk g c E::own) ps->K a' w'):
  Oper.wp P ⟨some d,.buildSlice T n parts,ty,pos,af,gd⟩ a w K Q:=by
 have he:parts.map (fun (i,x)=>(i,a.eval x))=pv:=by
  apply jx
  rw [fe]
  generalize parts.toList=xl at hp ⊢
  generalize pv.toList=vl at hp ⊢
  induction xl generalizing vl with
  | nil=>cases vl with
   | nil=>rfl
   | cons=>simp at hp
  | cons x xl ih=>cases vl with
   | nil=>simp at hp
   | cons v vl=>
    simp only [dk,eY,cP] at hp ⊢
    refine ⟨?_,ih vl hp.2⟩
    obtain ⟨i,x⟩:=x
    obtain ⟨j,v⟩:=v
    have h1:i=j:=hp.1.1
    have h2:=h.ev hp.1.2
    subst h1
    exact Prod.ext I h2
 obtain ⟨i,hi,hv⟩:=hz
 have Q5:(zeroValue E).run P w=.ok zv w:=by simp [zeroValue,typeInfo,hi,hv]
 have hr:(execOp a.eval ⟨some d,.buildSlice T n parts,ty,pos,af,gd⟩).run P w=.ok (.value (.slice (cS w.heap.size) n n)) (w.alloc (.cells c E)):=by
  simp only [execOp,he,Instr.buildSlice,Sem.run_bind,run_underlying hT w,Result.andThen_ok,run_sizeOf hE,ak (show ¬n*z>2 ^ 24 by omega),ak pJ,Q5,Sem.run_pure,hf]
  rfl
 unfold Oper.wp
 rw [hr]
 exact hK _ _ _ (h.put hd _) (hs.push _ _)
def ahm (E z:Nat) (v:Value) (n:Nat) (vs:List Value):PF:=
 ⟨fun w=>w.ownsRow 0 E z v n vs,fun b=>v.ownBlock=some b,fun h hb=>(h.lt _ hb).2,fun {w w'} h _ hk=>by
  refine ⟨h.1,?_⟩
  rcases h.2 with hn | ⟨g,cap,cur,rfl,hb,hg,rest⟩
  ·exact .inl hn
  ·exact .inr ⟨g,cap,cur,I,hb,(hk g I).trans hg,rest⟩⟩
end
section
variable {P:Program} {ops:Array Oper} {Q:Exit->Act->World->Prop} {S:Nat->World->Prop}
def Kn (w:World) (l:List PF) (ps:List PF):Prop:=(∀e∈l,e.P w)/\∀p∈ps,p.P w
section
variable {w w0:World} {own:List PF} {ps:List PF} {k:Nat} {e:PF} {p:PF}
theorem St.kn (h:St w0 w own ps):Kn w own ps:=⟨h.mine,h.pers⟩
theorem Kn.owns (h:Kn w own ps) (hk:own[k]?=some e):e.P w:=h.1 e (ah hk)
theorem Kn.pV (h:Kn w own ps) (hk:own[k]?=some (bk g c t)):w.heap[g]?=some (.cells c t (0,0)):=h.1 _ (ah hk)
theorem Kn.pat (h:Kn w own ps) (hk:ps[k]?=some p):p.P w:=h.2 p (ah hk)
theorem Kn.pick (h:Kn w own ps) (is js:List Nat):Kn w (is.filterMap (own[·]?)) (js.filterMap (ps[·]?)):=
 ⟨fun e he=>by obtain ⟨i,_,hi⟩:=dC.1 he; exact h.owns hi,fun p hp=>by obtain ⟨i,_,hi⟩:=dC.1 hp; exact h.pat hi⟩
end
def Sk (l1:List PF) (ps:List PF) (Z:List Nat) (l2:List PF) (j:Nat) (w:World):Prop:=Kn w l1 ps/\(Z.contains j=true∨Kn w l2 [])
theorem Sk.two {l1:List PF} {Z:List Nat} {l2:List PF} {T:List Nat} (h:Sk l1 ps Z l2 j w) (hz:(Z.all fun j=>T.contains j)=true) (hj:j ∉ T):Kn w l2 []:=by
 rcases h.2 with h | h
 ·have h1:j∈Z:=by simpa using h
  exact absurd (by simpa using bp.1 hz j h1) hj
 ·exact h
theorem sQ {id:Nat} {N:Nat} {dq:List Deferred} {a:Act} {own:List PF} (S:Nat->World->Prop) (hm:P.follows .mixedOrders=true) (hn:ops.size=n) (he:b7 dq N a l) (hs:St w0 w own ps)
 (h:∀w',b7 dq N a l->St w0 w' own ps->nB P ops Q S n (Array.replicate n false) a w'):(Code.region id ops true).wp P Q a w:=by
 subst hn
 exact wp_region_any hm (zX _ _ _ _ (h _ he hs.drew))
end
section
variable {P:Program} {ops:Array Oper} {Q:Exit->Act->World->Prop} {rest:List Oper} {N:Nat} {dq:List Deferred} {l:List (Nat×Value)} {w:World} {d:Nat} {ty:TypeId} {pos:String} {af:Array Edge} {op:Op} {v:Value} {x:Operand}
theorem sA (hd:Nat.blt d N=true) (hr:∀a,b7 dq N a l->(execOp a.eval ⟨some d,op,ty,pos,af,none⟩).run P w=.ok (.value v) w) (hK:∀a,b7 dq N a ((d,v)::l)->wpList P ops Q rest a w):∀a,b7 dq N a l->wpList P ops Q (⟨some d,op,ty,pos,af,none⟩::rest) a w:=fun a h=>sv h hd (hr a h) hK
theorem mA (hd:Nat.blt d N=true) (hx:eB l x=some v) (hK:∀a,b7 dq N a ((d,v)::l)->wpList P ops Q rest a w):∀a,b7 dq N a l->wpList P ops Q (⟨some d,.move x,ty,pos,af,none⟩::rest) a w:=fun _ h=>sv h hd (ff h hx) hK
theorem aA (hd:Nat.blt d N=true) (hx:eB l x=some v) (hK:∀a,b7 dq N a ((d,v)::l)->wpList P ops Q rest a w):∀a,b7 dq N a l->wpList P ops Q (⟨some d,.assign x,ty,pos,af,none⟩::rest) a w:=fun _ h=>sv h hd (cf h hx) hK
theorem gA {t:Nat} (hg:ops[g]?=some og) (zD:og.dst=some t) (zW:look l t=some (.bool b)) (hd:Nat.blt d N=true) (hr:∀a,b7 dq N a l->(execOp a.eval ⟨some d,op,ty,pos,af,some (g,b)⟩).run P w=.ok (.value v) w) (hK:∀a,b7 dq N a ((d,v)::l)->wpList P ops Q rest a w):∀a,b7 dq N a l->wpList P ops Q (⟨some d,op,ty,pos,af,some (g,b)⟩::rest) a w:=fun a h=>ahg hg h zD zW (cH h hd (hr a h) hK)
theorem kA {t:Nat} {u:Value} (hg:ops[g]?=some og) (zD:og.dst=some t) (zW:look l t=some u) (hd:Nat.blt d N=true) (Bn:isB u b=false) (hK:∀a,b7 dq N a ((d,undef)::l)->wpList P ops Q rest a w):∀a,b7 dq N a l->wpList P ops Q (⟨some d,op,ty,pos,af,some (g,b)⟩::rest) a w:=fun _ h=>QY hg h zD zW hd Bn hK
end
abbrev rg (a n:Nat):List Nat:=List.range' a n
section
variable {P:Program} {ops:Array Oper} {Q:Exit->Act->World->Prop} {S:Nat->World->Prop} {N:Nat} {dq:List Deferred} {a:Act} {l:List (Nat×Value)} {w:World} {listed:Array Bool} {fuel i d:Nat} {ty:TypeId} {pos:String} {af:Array Edge} {v:Value} {x:Operand}
theorem tA {op:Op} (T:List Nat) (hi:ops[i]?=some ⟨some d,op,ty,pos,af,none⟩) (hb:p' ops listed i T=true) (hQ:∀c (a:Act) w,Q (.panic c) (a.put (some d) v) w->Q (.panic c) a w) (h:b7 dq N a l) (hd:Nat.blt d N=true)
 (hr:∀w',(execOp a.eval ⟨some d,op,ty,pos,af,none⟩).run P w'=.ok (.value v) w') (hK:∀a',b7 dq N a' ((d,v)::l)->nB P ops Q S fuel (listed.setIfInBounds i true) a' w):nB P ops Q S (fuel+1) listed a w:=
 kV T (fun _=>True) hi hb hQ (fun _ _ _ _=>trivial) h hd trivial (fun w' _=>hr w') hK
theorem tM (T:List Nat) (hi:ops[i]?=some ⟨some d,.move x,ty,pos,af,none⟩) (hb:p' ops listed i T=true) (hQ:∀c (a:Act) w,Q (.panic c) (a.put (some d) v) w->Q (.panic c) a w) (h:b7 dq N a l) (hd:Nat.blt d N=true)
  (hx:eB l x=some v) (hK:∀a',b7 dq N a' ((d,v)::l)->nB P ops Q S fuel (listed.setIfInBounds i true) a' w):nB P ops Q S (fuel+1) listed a w:=tA T hi hb hQ h hd (fun _=>ff h hx) hK
end
section
variable {P:Program} {ops:Array Oper} {Q:Exit->Act->World->Prop} {N:Nat} {dq:List Deferred} {a:Act} {l:List (Nat×Value)} {w w0:World} {listed:Array Bool} {fuel i d j k g n Ty:Nat} {ty t:TypeId} {pos:String} {af:Array Edge} {x:Operand} {c:Array Value} {l1 l2 own ps pt:List PF} {Z:List Nat}
theorem tL (j k:Nat) (T:List Nat) (hi:ops[i]?=some ⟨some d,.load Ty x,ty,pos,af,none⟩) (hb:p' ops listed i T=true) (hQ:∀c' (a:Act) w,Q (.panic c') (a.put (some d) (.agg c)) w->Q (.panic c') a w) (h:b7 dq N a l) (hd:Nat.blt d N=true) (ht:oh P Ty n) (hx:eB l x=some (cY g)) (hs:St w0 w own pt)
  (hj:l1[j]?=some (bk g c t)) (hk:own[k]?=some (bk g c t)) (hn:c.size=n) (hK:∀a',b7 dq N a' ((d,.agg c)::l)->nB P ops Q (Sk l1 ps Z l2) fuel (listed.setIfInBounds i true) a' w):nB P ops Q (Sk l1 ps Z l2) (fuel+1) listed a w:=
 kV T (fun w'=>w'.heap[g]?=some (.cells c t (0,0))) hi hb hQ (fun _ _ _ hS=>hS.1.pV hj) h hd (hs.pV hk) (fun _ hg=>jz h ht hx hg hn) hK
end
section
variable {P:Program} {a:Act} {w:World} {fn:Func} {r1 r2 r3 r4 r5:ResultVar} {v1 v2 v3 v4 v5:Value}
theorem ahz (h:fn.results=#[r1,r2,r3,r4]) (h1:RV P a w r1 v1) (h2:RV P a w r2 v2) (h3:RV P a w r3 v3) (h4:RV P a w r4 v4):(results fn a.tmps).run P w=.ok (.tuple #[v1,v2,v3,v4]) w:=by
 have h1:=rI h1
 have h2:=rI h2
 have h3:=rI h3
 have h4:=rI h4
 simp only [sR,h,ju,ku,List.mapM_nil]
 simp [h1,h2,h3,h4]
end
end Go.Proofs.YtgopcdagnicekaaGreatDoor.W

/- The zero value of a number. No condition. -/
namespace Go.Proofs.YtgopcdagnicekaaGreatDoor
open Go.RowKit Anv
theorem uz (w:World):iY w none 0 0:=⟨by show (L 0).length=zl 0; rw [ud,qk]; rfl,by rw [qk]; exact ar _,by simp [maxLen],zC _,fun hp=>by rw [qk] at hp; omega⟩
theorem pW:(Value.agg #[.bool false,bM]).cells=#[.bool (neg 0),.slice none (zl 0) 0]:=by rw [neg_zero,qk]; rfl
theorem am7:Value.agg #[.bool (neg 0),.slice none (zl 0) 0]=Value.agg #[.bool false,bM]:=by rw [neg_zero,qk]
section
variable {P:Program} {N:Nat} {a:Act} {l:List (Nat×Value)} {w:World} {d:Nat} {ty:TypeId} {pos:String} {af:Array Edge} {gd:Option (Nat×Bool)}
theorem Xl {T:Nat} {fs:Array Field} (hu:P.underlying T=some (.struct fs)) (hz:∃i,P.info? T=some i/\i.zero=some (.agg #[.bool false,bM])) (hs:∀f∈fs,∃i,P.info? f.type=some i):
  (execOp a.eval ⟨some d,.build T #[],ty,pos,af,gd⟩).run P w=.ok (.value (.agg #[.bool (neg 0),.slice none (zl 0) 0])) w:=by
 rw [am7]; exact Ot hu hz ⟨_,rfl⟩ hs
end
end Go.Proofs.YtgopcdagnicekaaGreatDoor
