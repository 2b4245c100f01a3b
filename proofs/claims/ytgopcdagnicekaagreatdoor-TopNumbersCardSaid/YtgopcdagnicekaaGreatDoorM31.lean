/- Rows: slices whose elements have z cells each, and what is known of their elements. Over any program. No condition. -/
import Derived.Test.YtgopcdagnicekaaGreatDoorM1
import Derived.Test.YtgopcdagnicekaaGreatDoorM12
import Derived.Test.YtgopcdagnicekaaGreatDoorM29
import Derived.Test.YtgopcdagnicekaaGreatDoorM30
import Derived.Test.YtgopcdagnicekaaGreatDoorM11
import Derived.Test.YtgopcdagnicekaaGreatDoorM8
import Derived.Lib.SmallJoins
import Derived.Laws.CopyRow
import Derived.Laws.Append
import Derived.ScopeJumps
import Derived.Deep.LoopGhost
import Derived.SizedLaws
import Derived.OrdersIn
import Derived.MapKept

set_option linter.unusedVariables false
set_option linter.unusedSimpArgs false
set_option linter.all false
namespace Go.Proofs.YtgopcdagnicekaaGreatDoor.W
open Go.RowKit Anv Go.Lib
section
variable {α:Type} {f:α->List Value} {z:Nat}
def fl (f:α->List Value):List α->List Value
 | []=>[]
 | e::es=>f e++fl f es
theorem Hs (es es':List α):fl f (es++es')=fl f es++fl f es':=by
 induction es with
 | nil=>rfl
 | cons e es ih=>simp only [fl,qj,ih,cG]
theorem aap (e:α):fl f [e]=f e:=by simp [fl]
theorem Dp (es:List α) (e:α):fl f es++f e=fl f (es++[e]):=by rw [Hs,aap]
theorem jo (hz:∀e,(f e).length=z) (es:List α):(fl f es).length=es.length*z:=by
 induction es with
 | nil=>simp [fl]
 | cons e es ih=>simp only [fl,aP,ih,hz,dy,iM]; omega
theorem PI (hz:∀e,(f e).length=z) {es:List α} {i j:Nat} {e:α} (he:es[i]?=some e) (hj:j<z):(fl f es)[i*z+j]?=(f e)[j]?:=by
 induction es generalizing i with
 | nil=>simp at he
 | cons e' es ih=>
  cases i with
  | zero=>
   have h:e'=e:=by simpa using he
   subst h
   rw [J3,fz,fl,jg (by rw [hz]; exact hj)]
  | succ i=>
   have he':es[i]?=some e:=by simpa using he
   rw [fl,j8 (by rw [hz,iM]; omega),hz,<- ih he',iM]
   congr 1
   omega
theorem aaq (hz:∀e,(f e).length=z) {es:List α} {i:Nat} (hi:i<es.length) (e:α):(fl f es).take (i*z)++f e++(fl f es).drop (i*z+z)=fl f (es.set i e):=by
 induction es generalizing i with
 | nil=>simp at hi
 | cons e' es ih=>
  cases i with
  | zero=>
   rw [List.set_cons_zero,J3,List.take_zero,iU,fz,fl,fl,qR (by rw [hz]; exact aY _),dM (by rw [hz]; exact aY _),iU]
  | succ i=>
   have E3:i<es.length:=by simpa using hi
   rw [C0,fl,fl,<- ih E3,iM]
   rw [List.take_append,List.drop_append,bD (by rw [hz]; omega),dM (by rw [hz]; omega),hz]
   rw [show i*z+z - z=i*z by omega,show i*z+z+z - z=i*z+z by omega]
   simp only [iU,cG]
theorem Im {q:Value->Bool} (hq:∀e,(f e).all q=true) (es:List α):(fl f es).all q=true:=by
 induction es with
 | nil=>rfl
 | cons e es ih=>rw [fl,ET,hq,ih]; rfl
theorem aar {c:Array Value} {e0:α} (hc:f e0=c.toList) (hz:c.size=z) (h0:0<z) (n:Nat):(madeCells c (n*z)).toList=fl f (List.replicate n e0):=by
 have hlen:∀n,(fl f (List.replicate n e0)).length=n*z:=by
  intro n
  induction n with
  | zero=>simp [fl]
  | succ n ih=>rw [qN,fl,aP,ih,hc,mO,hz,iM]; omega
 have Kr:∀n i,i<n*z->(fl f (List.replicate n e0))[i]?=c.toList[i%z]?:=by
  intro n
  induction n with
  | zero=>intro i hi; omega
  | succ n ih=>
   intro i hi
   rw [qN,fl]
   rcases dr i z with h | h
   ·rw [jg (by rw [hc,mO,hz]; exact h),hc,sN h]
   ·rw [j8 (by rw [hc,mO,hz]; exact h),hc,mO,hz,ih (i - z) (by rw [iM] at hi; omega),Nat.mod_eq_sub_mod h]
 apply kV
 intro i
 rcases dr i (n*z) with h | h
 ·rw [Kr n i h]
  have hm:i%z<z:=kx _ h0
  have hm':i%z<c.size:=ae
  simp only [madeCells,qg,bo,Array.toList_range,fQ h,qQ,hz]
  rw [getElem!_pos c _ hm',k7,yJ hm']
 ·rw [dz (by rw [mO,size_madeCells]; exact h),dz (by rw [hlen]; exact h)]
end
structure Rd (z:Nat) (w:World) (A:Option Addr) (n c:Nat) (vs:List Value):Prop where
 len:vs.length=n*z
 cap:n<=c
 big:c<=maxLen
 cells:0<n->∃b off,A=some ⟨b,off,none⟩/\b<w.heap.size/\∀i,i<n*z->w.cell? ⟨b,off+i,none⟩=vs[i]?
theorem Ks {z:Nat} {w w':World} {A:Option Addr} {n c:Nat} {vs:List Value} (h:Rd z w A n c vs) (hk:∀b,(0<n/\∃off,A=some ⟨b,off,none⟩)->w'.heap[b]?=w.heap[b]?):Rd z w' A n c vs:=
 ⟨h.len,h.cap,h.big,fun hp=>by
  obtain ⟨b,off,rfl,cD,hc⟩:=h.cells hp
  have hb:=hk b ⟨hp,off,rfl⟩
  have MD:b<w'.heap.size:=by
   rcases dr b w'.heap.size with h1 | h1
   ·exact h1
   ·rw [mQ h1] at hb
    rw [yJ cD] at hb; cases hb
  exact ⟨b,off,rfl,MD,fun i hi=>(World.cell?_of_block hb).trans (hc i hi)⟩⟩
def Fm (z:Nat) (A:Option Addr) (n c:Nat) (vs:List Value):PF:=
 ⟨fun w=>Rd z w A n c vs,fun b=>0<n/\∃off,A=some ⟨b,off,none⟩,fun h ⟨hp,off,e⟩=>by
  obtain ⟨b,o,e',cD,_⟩:=h.cells hp
  rw [e] at e'; cases e'; exact cD,fun h _ hk=>Ks h hk⟩
theorem Vi (z:Nat) (w:World):Rd z w none 0 0 []:=⟨by simp,aY _,bm _,fun h=>absurd h (Nat.lt_irrefl _)⟩
theorem Rd.ab {z:Nat} {w:World} {A:Option Addr} {n c:Nat} {vs:List Value} (h:Rd z w A n c vs) (hn:0<n):A=some ⟨Go.Proofs.YtgopcdagnicekaaGreatDoor.ab A,ao A,none⟩:=by
 obtain ⟨b,off,rfl,_,_⟩:=h.cells hn
 rfl
theorem Rd.at {z:Nat} {w:World} {A:Option Addr} {n c:Nat} {vs:List Value} (h:Rd z w A n c vs) {i:Nat} (hi:i<n*z):w.cell? ⟨Go.Proofs.YtgopcdagnicekaaGreatDoor.ab A,ao A+i,none⟩=vs[i]?:=by
 obtain ⟨b,off,rfl,_,hc⟩:=h.cells (Nat.pos_of_ne_zero fun h=>by rw [h,J3] at hi; omega)
 exact hc i hi
def bL {α:Type} (F:α->PF) (es:List α):PF:=
 ⟨fun w=>∀e∈es,(F e).P w,fun b=>∃e∈es,(F e).di b,fun h ⟨e,he,hf⟩=>(F e).lt (h e he) hf,
  fun h hs hk e he=>(F e).oC (h e he) hs fun b hb=>hk b ⟨e,he,hb⟩⟩
def ag {α:Type} (f:α->List Value) (F:α->PF) (z:Nat) (A:Option Addr) (n c:Nat) (es:List α):PF:=
 ⟨fun w=>Rd z w A n c (fl f es)/\es.length=n/\(bL F es).P w,fun b=>(Fm z A n c (fl f es)).di b∨(bL F es).di b,fun h hf=>by
   rcases hf with hf | hf
   ·exact (Fm z A n c (fl f es)).lt h.1 hf
   ·exact (bL F es).lt h.2.2 hf,fun h hs hk=>⟨Ks h.1 fun b hb=>hk b (.inl hb),h.2.1,(bL F es).oC h.2.2 hs fun b hb=>hk b (.inr hb)⟩⟩
theorem Io {α:Type} (F:α->PF) (w:World):(bL F []).P w:=fun e h=>by cases h
theorem Dq {α:Type} (f:α->List Value) (F:α->PF) (z:Nat) (w:World):(ag f F z none 0 0 []).P w:=⟨Vi z w,rfl,Io F w⟩
section
variable {w w' w0:World} {own ps:List PF} {α:Type} {f:α->List Value} {F:α->PF} {z n c i j k:Nat} {A:Option Addr} {es:List α} {e:α}
theorem aas (h:(ag f F z A n c es).P w) (he:es[i]?=some e):(F e).P w:=h.2.2 e (aB he)
theorem St.elem (h:St w0 w own ps) (hk:ps[k]?=some (ag f F z A n c es)) (he:es[i]?=some e):St w0 w own (F e::ps):=
 h.iB (F e) (aas (h.pat hk) he) fun o ho b h1 h2=>h.apart _ (aB hk) o ho b h1 (.inr ⟨e,aB he,h2⟩)
theorem St.qo (h:St w0 w own ps) (hk:ps[k]?=some (bL F es)) (he:es[i]?=some e):St w0 w own (F e::ps):=
 h.iB (F e) (h.pat hk e (aB he)) fun o ho b h1 h2=>h.apart _ (aB hk) o ho b h1 ⟨e,aB he,h2⟩
theorem St.nP (h:St w0 w own ps) (F:α->PF):St w0 w own (bL F []::ps):=
 h.iB _ (Io F w) fun o ho b _ h2=>by obtain ⟨e,he,_⟩:=h2; cases he
theorem St.l7 (h:St w0 w own ps) (hi:ps[i]?=some (bL F es)) (hj:ps[j]?=some (F e)):St w0 w own (bL F (es++[e])::ps):=
 h.iB _ (fun x hx=>by
  rcases b6.1 hx with hx | hx
  ·exact h.pat hi x hx
  ·obtain rfl:=cC.1 hx
   exact h.pat hj) fun o ho b h1 ⟨x,hx,hf⟩=>by
  rcases b6.1 hx with hx | hx
  ·exact h.apart _ (aB hi) o ho b h1 ⟨x,hx,hf⟩
  ·obtain rfl:=cC.1 hx
   exact h.apart _ (aB hj) o ho b h1 hf
theorem oe {β:Type} {l:List β} {i:Nat} {a x:β} (h:x∈l.set i a):x∈l∨x=a:=by
 rcases kr h with h | h
 ·exact .inl h
 ·exact .inr h
theorem St.qp (h:St w0 w own ps) (hi:ps[i]?=some (bL F es)) (hj:ps[j]?=some (F e)) (m:Nat):St w0 w own (bL F (es.set m e)::ps):=
 h.iB _ (fun x hx=>by
  rcases oe hx with hx | rfl
  ·exact h.pat hi x hx
  ·exact h.pat hj) fun o ho b h1 ⟨x,hx,hf⟩=>by
  rcases oe hx with hx | rfl
  ·exact h.apart _ (aB hi) o ho b h1 ⟨x,hx,hf⟩
  ·exact h.apart _ (aB hj) o ho b h1 hf
theorem St.afD (h:St w0 w own ps) (hi:ps[i]?=some (ag f F z A n c es)):St w0 w own (bL F es::ps):=
 h.iB _ (h.pat hi).2.2 fun o ho b h1 h2=>h.apart _ (aB hi) o ho b h1 (.inr h2)
theorem St.row (h:St w0 w own ps) (hi:ps[i]?=some (Fm z A n c (fl f es))) (hj:ps[j]?=some (bL F es)) (hl:es.length=n):St w0 w own (ag f F z A n c es::ps):=
 h.iB _ ⟨h.pat hi,hl,h.pat hj⟩ fun o ho b h1 h2=>by
  rcases h2 with h2 | h2
  ·exact h.apart _ (aB hi) o ho b h1 h2
  ·exact h.apart _ (aB hj) o ho b h1 h2
theorem St.aE (h:St w0 w [] ps) (hr:(ag f F z A n c es).P w):St w0 w [] (ag f F z A n c es::ps):=h.iB _ hr fun o ho=>by cases ho
end
section
variable {P:Program} {K:Act->World->Prop} {Q:Exit->Act->World->Prop} {N:Nat} {dq:List Deferred} {a:Act} {l:List (Nat×Value)} {w w0:World} {own ps:List PF}
variable {d:Nat} {ty:TypeId} {pos:String} {af:Array Edge} {gd:Option (Nat×Bool)}
theorem jy {x y:Operand} {T E i n c z p:Nat} {A:Option Addr} {vs:List Value} {k:IntKind} (h:aW dq N a l) (hT:P.underlying T=some (.slice E)) (hE:∃j,P.info? E=some j/\j.size=z) (hx:bV l x=some (.slice A n c)) (hy:bV l y=some (.int k (i:Nat))) (hi:i<n) (hp:i*z=p) (hr:Rd z w A n c vs):
  (execOp a.eval ⟨some d,.indexAddr T x y,ty,pos,af,gd⟩).run P w=.ok (.value (.pointer (some ⟨Go.Proofs.YtgopcdagnicekaaGreatDoor.ab A,ao A+p,none⟩))) w:=by
 subst hp
 exact kG h hT hE (hx.trans (by rw [<- hr.ab ae])) hy hi
theorem zf {i n z j:Nat} (hi:i<n) (hj:j<z):i*z+j<n*z:=by
 have:(i+1)*z<=n*z:=eh _ hi
 rw [iM] at this
 omega
theorem bF {α:Type} {f:α->List Value} {x:Operand} {T i n c z p:Nat} {A:Option Addr} {es:List α} {e:α} {v:Array Value} (h:aW dq N a l) (hT:lg P T z) (hx:bV l x=some (.pointer (some ⟨Go.Proofs.YtgopcdagnicekaaGreatDoor.ab A,ao A+p,none⟩))) (hp:i*z=p) (hz:∀e,(f e).length=z) (hr:Rd z w A n c (fl f es)) (hn:i<n) (he:es[i]?=some e) (hv:(f e).toArray=v):
  (execOp a.eval ⟨some d,.load T x,ty,pos,af,gd⟩).run P w=.ok (.value (.agg v)) w:=by
 subst hp hv
 refine O4 h hT hx (fun j v hv=>?_) (hz e)
 have hj:j<z:=by
  have:=(bU.1 hv).1
  rwa [hz] at this
 rw [mc,hr.at (zf hn hj),PI hz he hj,hv]
theorem aJ {α:Type} {f:α->List Value} {x:Operand} {T i j n c z p:Nat} {A:Option Addr} {es:List α} {e:α} {v:Value} (h:aW dq N a l) (hT:jx P T) (hx:bV l x=some (.pointer (some ⟨Go.Proofs.YtgopcdagnicekaaGreatDoor.ab A,ao A+p,none⟩))) (hp:i*z+j=p) (hz:∀e,(f e).length=z) (hj:j<z) (hr:Rd z w A n c (fl f es)) (hn:i<n) (he:es[i]?=some e) (hv:(f e)[j]?=some v):
  (execOp a.eval ⟨some d,.load T x,ty,pos,af,gd⟩).run P w=.ok (.value v) w:=by
 subst hp
 exact jl h hT hx (by rw [hr.at (zf hn hj),PI hz he hj,hv])
def av (q:Value->Bool) (E z:Nat) (A:Option Addr) (n c:Nat) (vs:List Value):PF:=tE q E z (.slice A n c) n vs
theorem ax {q:Value->Bool} {E z n c:Nat} {A:Option Addr} {vs:List Value} (h:(av q E z A n c vs).P w):Rd z w A n c vs:=by
 have h1:w.ownsRow 0 E z (.slice A n c) n vs:=h.1
 refine ⟨h1.1,?_,?_,fun hp=>?_⟩
 ·rcases h1.2 with ⟨e,hn⟩ | ⟨g,cap,cur,e,_,_,EF,_⟩
  ·omega
  ·cases e; exact EF
 ·rcases h1.2 with ⟨e,hn⟩ | ⟨g,cap,cur,e,_,_,_,hb,_⟩
  ·cases e; exact bm _
  ·cases e; exact hb
 ·rcases h1.2 with ⟨e,hn⟩ | ⟨g,cap,cur,e,_,hg,EF,hb,ia,ht⟩
  ·omega
  ·cases e
   refine ⟨g,0,rfl,lt_of_block hg,fun i hi=>?_⟩
   rw [fz,cell_of_row w g i cur E (0,0) hg,<- ht,qh hi]
   simp
theorem jz {q:Value->Bool} {E z n c:Nat} {A:Option Addr} {vs:List Value} {b:Nat} (h:(av q E z A n c vs).di b):∃a,A=some a/\a.block=b:=by
 cases A with
 | none=>simp [av,tE,Value.ownBlock] at h
 | some a=>exact ⟨a,rfl,by simpa [av,tE,Value.ownBlock] using h⟩
theorem aL {E z n c:Nat} {A:Option Addr} {vs:List Value}:YD (av ar E z A n c vs):=PD
theorem St.cl (h:St w0 w own ps) (q:Value->Bool) (E z:Nat):St w0 w (av q E z none 0 0 []::own) ps:=h.Vc q E z
theorem St.aat {q:Value->Bool} {E z n c k:Nat} {A:Option Addr} {vs:List Value} (h:St w0 w own ps) (hk:own[k]?=some (av q E z A n c vs)):St w0 w (own.eraseIdx k) (Fm z A n c vs::ps):=
 h.UW hk (Fm z A n c vs) (ax (h.owns hk)) fun b hb=>by
  obtain ⟨_,off,rfl⟩:=hb
  rfl
theorem St.rU {α:Type} {f:α->List Value} {F:α->PF} {es:List α} {q:Value->Bool} {E z n c k j:Nat} {A:Option Addr} (h:St w0 w own ps) (hk:own[k]?=some (av q E z A n c (fl f es))) (hj:ps[j]?=some (bL F es)) (hl:es.length=n):St w0 w (own.eraseIdx k) (ag f F z A n c es::Fm z A n c (fl f es)::ps):=
 (h.aat hk).row (i:=0) (j:=j+1) rfl hj hl
def pF {α:Type} (q:Value->Bool) (E z:Nat) (f:α->List Value) (F:α->PF) (B:Nat) (w:World) (A:Option Addr) (n c:Nat) (es:List α):Prop:=
 (av q E z A n c (fl f es)).P w/\(bL F es).P w/\∀a,A=some a->B<=a.block
theorem St.lN {α:Type} {f:α->List Value} {F:α->PF} {es:List α} {q:Value->Bool} {E z n c:Nat} {A:Option Addr} {w':World} (h:St w0 w own ps) (hb:Below w.heap.size w w') (hr:pF q E z f F w.heap.size w' A n c es) (hE:∀o∈av q E z A n c (fl f es)::own,∀b,o.di b->o.P w'->¬(bL F es).di b):St w0 w' (av q E z A n c (fl f es)::own) (bL F es::ps):=by
 have h1:=h.add hb (av q E z A n c (fl f es)) hr.1 fun b hb=>by
  obtain ⟨a,ha,rfl⟩:=jz hb
  exact hr.2.2 a ha
 exact h1.iB _ hr.2.1 fun o ho b Bj=>hE o ho b Bj (h1.mine o ho)
theorem St.iW {α:Type} {f:α->List Value} {F:α->PF} {es:List α} {q:Value->Bool} {E z n c:Nat} {A:Option Addr} {w':World} (h:St w0 w own ps) (hb:Below w.heap.size w w') (hr:pF q E z f F w.heap.size w' A n c es) (hl:es.length=n) (hE:∀o∈own,∀b,o.di b->o.P w'->¬(bL F es).di b):St w0 w' own (ag f F z A n c es::ps):=by
 have h1:=h.call hb
 refine h1.iB _ ⟨ax hr.1,hl,hr.2.1⟩ fun o ho b Bj hff=>?_
 rcases hff with ⟨_,off,rfl⟩ | hff
 ·have h2:=hr.2.2 _ rfl
  have h3:=o.lt (h.mine o ho) Bj
  have h2:w.heap.size<=b:=h2
  omega
 ·exact hE o ho b Bj (h1.mine o ho) hff
theorem St.newRow {α:Type} {f:α->List Value} {F:α->PF} {es:List α} {q:Value->Bool} {E z n c k j:Nat} {A:Option Addr} (h:St w0 w own ps) (hk:own[k]?=some (av q E z A n c (fl f es))) (hj:ps[j]?=some (bL F es)):pF q E z f F w0.heap.size w A n c es:=
 ⟨h.owns hk,h.pat hj,fun a ha=>h.new _ (aB hk) _ (by subst ha; rfl)⟩
theorem pG {q:Value->Bool} {t E n z bytes k j g m c c0:Nat} {x y:Operand} {A:Option Addr} {zv:Value} {vs:List Value} {cs:Array Value} {E':TypeId} (h:aW dq N a l) (hs:St w0 w own ps) (hd:Nat.blt d N=true) (hT:P.underlying t=some (.slice E))
  (hi:(P.info? E).map (fun i=>(i.zero,i.size,i.bytes))=some (some zv,z,bytes)) (Vg:zv.cells.size=z) (jF:Nat.blt 0 z=true) (hx:bV l x=some (.slice A n c0)) (hy:bV l y=some (.slice (bh g) m c))
  (hk:own[k]?=some (av q E z A n c0 vs)) (hj:own[j]?=some (bk g cs E')) (hm:cs.size=m*z) (h1:cs.toList.all (·.oneCell')=true) (Bo:cs.toList.all q=true) (Ve:zv.cells.toList.all q=true) (Bn:Nat.blt 0 m=true) (hn:n+m<=maxLen) (hb:(n+m)*bytes<=140737488355328)
  (hK:∀a' w' g' c',aW dq N a' ((d,.slice (bh g') (n+m) c')::l)->St w0 w' (own.set k (av q E z (bh g') (n+m) c' (vs++cs.toList))) ps->K a' w'):
  Oper.wp P ⟨some d,.call ⟨.builtin .append,#[x,y],#[t,t]⟩,ty,pos,af,gd⟩ a w K Q:=
 Il h hs hd hT hi Vg jF hx hy hk hj hm h1 Bo Ve Bn hn hb fun a' w' v' ha' qq=>by
  have YC:k<own.length:=(bU.1 hk).1
  have ri:w'.ownsRow 0 E z v' (n+m) (vs++cs.toList):=(qq.owns (e:=tE q E z v' (n+m) (vs++cs.toList)) (by rw [C2 YC])).1
  have wM:0<m:=kZ Bn
  rcases ri.2 with ⟨rfl,hnm⟩ | ⟨g',cap,cur,rfl,_⟩
  ·omega
  ·exact hK a' w' g' cap ha' qq
theorem Vj (vs:List Value) (o:Nat) (c:Array Value) (h:o+vs.length<=c.size):(wr o vs c).toList=c.toList.take o++vs++c.toList.drop (o+vs.length):=by
 have hlen:(c.toList.take o).length=o:=by rw [fg,mO]; exact jS ae
 apply kV
 intro i
 rw [k7,afc vs o c i h]
 rcases dr i o with h1 | h1
 ·rw [aQ ae,cG,jg (by rw [hlen]; exact h1),qh h1,k7]
 ·rcases dr i (o+vs.length) with h2 | h2
  ·rw [aR ⟨h1,h2⟩,cG,j8 (by rw [hlen]; exact h1),hlen,jg ae]
  ·rw [aQ ae,j8 (by rw [aP,hlen]; exact h2),aP,hlen,List.getElem?_drop,<- k7]
   congr 1
   omega
theorem vT {α:Type} {f:α->List Value} {q:Value->Bool} {T E i n c z p k:Nat} {x y:Operand} {A:Option Addr} {es:List α} {e:α} {v:Array Value} (h:aW dq N a l) (hs:St w0 w own ps) (hi:∃j,P.info? T=some j/\j.size=z) (hx:bV l x=some (.pointer (some ⟨Go.Proofs.YtgopcdagnicekaaGreatDoor.ab A,ao A+p,none⟩))) (hy:bV l y=some (.agg v)) (hp:i*z=p)
  (hk:own[k]?=some (av q E z A n c (fl f es))) (hz:∀e,(f e).length=z) (hn:i<n) (hl:es.length=n) (hv:(f e).toArray=v) (h1:v.toList.all (·.oneCell')=true) (hq:v.toList.all q=true)
  (hK:∀a' w',aW dq N a' l->St w0 w' (own.set k (av q E z A n c (fl f (es.set i e)))) ps->K a' w'):
  Oper.wp P ⟨none,.store T x y,ty,pos,af,gd⟩ a w K Q:=by
 subst hp hv
 have hP:=hs.owns hk
 have ri:w.ownsRow 0 E z (.slice A n c) n (fl f es):=hP.1
 rcases ri.2 with ⟨e0,vk⟩ | ⟨g,cap,cur,e0,_,hg,EF,E6,ia,uH⟩
 ·omega
 cases e0
 obtain ⟨Vf,sS,Bo⟩:=hP.2 g rfl
 rw [hg] at sS
 cases sS
 have PJ:bV l x=some (.pointer (some ⟨g,i*z,none⟩)):=by
  rw [hx]
  show some (Value.pointer (some ⟨g,0+i*z,none⟩))=_
  rw [fz]
 have hiz:i*z+z<=n*z:=by
  have:=eh z (show i+1<=n from hn)
  rwa [iM] at this
 have hzc:n*z<=cur.size:=by rw [ia]; exact eh _ EF
 have ht:w.there g (i*z) (f e).toArray.size:=fun j hj=>⟨by
  rw [cell_of_row w _ _ _ _ _ hg]
  have Od:j<z:=by simpa [hz] using hj
  simp; omega,by simp [World.frozen?,hg]⟩
 obtain ⟨ti,hti,PK⟩:=hi
 have hr:(execOp a.eval ⟨none,.store T x y,ty,pos,af,gd⟩).run P w=.ok .skip (w.setCells g (i*z) (f e)):=by
  simp only [execOp,h.ev PJ,h.ev hy]
  rw [Sem.run_bind,run_storeAt_mid w g (i*z) T (f e).toArray ht (by rw [hti]; simp [PK,hz]) (by rw [Array.all_toList] at h1; exact h1)]
  rfl
 unfold Oper.wp
 rw [hr]
 have hu:=pq (f e) (i*z) w g cur E hg
 have rO:=Vj (f e) (i*z) cur (by rw [hz]; omega)
 rw [hz] at rO
 refine hK _ _ (h.E7 _) (hs.mf hk (e':=av q E z (bh g) n c (fl f (es.set i e))) ⟨⟨?_,.inr ⟨g,c,_,rfl,bm _,hu.new,EF,E6,by rw [US]; exact ia,?_⟩⟩,fun g' sS=>?_⟩ (fun b hb=>.inl hb) hu.os hu.tape hu.output (nY hu.size.symm) fun b _ hb=>hu.old b fun e=>hb (aM some e.symm))
 ·rw [jo hz,cH,hl]
 ·have hLR:cur.toList=fl f es++cur.toList.drop (n*z):=by rw [<- uH,lX]
  have T8:(fl f es).length=n*z:=by rw [jo hz,hl]
  have hX:(wr (i*z) (f e) cur).toList=fl f (es.set i e)++cur.toList.drop (n*z):=by
   rw [rO,<- aaq hz ae]
   conv=>lhs; rw [hLR]
   rw [vA ae,qR ae]
   simp only [cG]
  rw [hX,vA (by rw [jo hz,cH,hl]; exact aY _),bD (by rw [jo hz,cH,hl]; exact aY _)]
 ·obtain rfl:g=g':=by simpa [Value.ownBlock] using sS
  refine ⟨_,hu.new,?_⟩
  rw [rO,ET,ET,fB,fB]
  refine ⟨⟨dP.2 fun u hu=>dP.1 Bo u (lI hu),by simpa using hq⟩,dP.2 fun u hu=>dP.1 Bo u (kj hu)⟩
theorem zg {α:Type} {f:α->List Value} {e0:α} {q:Value->Bool} {T E bytes n z:Nat} {x y:Operand} {kl kc:IntKind} {zv:Value} (h:aW dq N a l) (hs:St w0 w own ps) (hd:Nat.blt d N=true) (hT:P.underlying T=some (.slice E))
  (hi:(P.info? E).map (fun i=>(i.zero,i.size,i.bytes))=some (some zv,z,bytes)) (Vg:zv.cells.size=z) (jF:Nat.blt 0 z=true) (hf:f e0=zv.cells.toList) (hq:zv.cells.toList.all q=true) (hx:bV l x=some (.int kl (n:Nat))) (hy:bV l y=some (.int kc (n:Nat))) (hb:bytes*n<=140737488355328) (hn:n<=maxLen)
  (hK:∀a' w' g,aW dq N a' ((d,.slice (bh g) n n)::l)->St w0 w' (av q E z (bh g) n n (fl f (List.replicate n e0))::own) ps->K a' w'):
  Oper.wp P ⟨some d,.makeSlice T x y,ty,pos,af,gd⟩ a w K Q:=by
 obtain ⟨i,J7,vI⟩:=yA.1 hi
 simp only [ji] at vI
 obtain ⟨hz,mn,Ih⟩:=vI
 have ld:0<z:=kZ jF
 have mr:=run_make w T E i zv hT J7 hz kl kc (n:Int) (n:Int) ae ae (by rw [Ih,<- oz]; omega) (by simp only [maxLen] at hn; omega)
 simp only [mJ,mn] at mr
 have hr:(execOp a.eval ⟨some d,.makeSlice T x y,ty,pos,af,gd⟩).run P w=.ok (.value (.slice (bh w.heap.size) n n)) (w.alloc (.cells (madeCells zv.cells (n*z)) E)):=by
  simp only [execOp,h.ev hx,h.ev hy]
  rw [Sem.run_bind,mr]
  rfl
 unfold Oper.wp
 rw [hr]
 have hl:=aar hf Vg ld n
 refine hK _ _ _ (h.put hd _) (hs.add (qU w _) _ ⟨⟨?_,.inr ⟨w.heap.size,n,_,rfl,bm _,heap_alloc_new w _,aY _,hn,size_madeCells _ _,?_⟩⟩,fun g' sS=>?_⟩ fun b hb=>?_)
 ·rw [<- hl,mO,size_madeCells]
 ·rw [hl,bD]
  rw [<- hl,mO,size_madeCells]
  exact aY _
 ·obtain rfl:w.heap.size=g':=by simpa [Value.ownBlock] using sS
  refine ⟨_,heap_alloc_new w _,?_⟩
  rw [hl]
  refine dP.2 fun u hu=>?_
  have:∀n,∀u∈fl f (List.replicate n e0),u∈zv.cells.toList:=by
   intro n
   induction n with
   | zero=>intro u hu; cases hu
   | succ n ih=>
    intro u hu
    rw [qN,fl] at hu
    rcases b6.1 hu with hu | hu
    ·rwa [hf] at hu
    ·exact ih u hu
  exact dP.1 hq u (this n u hu)
 ·obtain ⟨a,ha,rfl⟩:=jz hb
  cases ha
  exact aY _
end
abbrev NE:=Option Addr×Nat×Int
abbrev zz (e:NE):Int:=e.2.2
def fN (e:NE):List Value:=[.bool (neg e.2.2),.slice e.1 (zl e.2.2) e.2.1]
def FN (e:NE):PF:=BW e.1 e.2.1 e.2.2
theorem eF (e:NE):(fN e).length=2:=rfl
def fM (e:NE):List Value:=[.bool (neg e.2.2),.slice e.1 (dl e.2.2) e.2.1]
def FM (e:NE):PF:=pfR e.1 e.2.1 e.2.2
section
variable {w w0:World} {own ps:List PF} {es:List NE}
theorem akV {A:Option Addr} {n c:Nat} {xs:List Nat} (hu:eT w A n c xs) (hn:qB own):∀o∈own,∀b,o.di b->o.P w->¬(UT A n c xs).di b:=fun o ho b1 h1 hP ⟨hp,off,e⟩=>by
 obtain ⟨b,asj,e',_,hc⟩:=hu.cells hp
 rw [e] at e'
 cases e'
 exact hn.at o ho w _ _ _ hP h1 (hc 0 hp)
theorem lh (h:(bL FN es).P w) (hn:qB own):∀o∈own,∀b,o.di b->o.P w->¬(bL FN es).di b:=fun o ho b h1 hP ⟨e,he,hf⟩=>akV (h e he) hn o ho b h1 hP hf
theorem St.sU (h:St w0 w own ps) (he:(bL FN es).P w) (hn:qB own):St w0 w own (bL FN es::ps):=h.iB _ he fun o ho b h1=>lh he hn o ho b h1 (h.mine o ho)
end
def jY:PF:=⟨fun _=>True,fun _=>False,fun _ h=>h.elim,fun _ _ _=>trivial⟩
abbrev FE:=List UInt8×List UInt8
def fF (e:FE):List Value:=[.string ⟨e.1.toArray⟩,.string ⟨e.2.toArray⟩]
def FF (_:FE):PF:=jY
theorem Kt {α:Type} {F:α->PF} (hF:∀e,F e=jY) (es:List α) (w:World):(bL F es).P w:=fun e _=>by rw [hF]; trivial
theorem uI {α:Type} {F:α->PF} (hF:∀e,F e=jY) {es:List α} {b:Nat}:¬(bL F es).di b:=fun ⟨e,_,h⟩=>by rw [hF] at h; exact h
theorem St.Dr {α:Type} {f:α->List Value} {F:α->PF} {w0 w:World} {own ps:List PF} {k g z n:Nat} {c:Array Value} {t:TypeId} {es:List α} (h:St w0 w own ps) (hk:own[k]?=some (bk g c t)) (hc:c.toList=fl f es) (hz:∀e,(f e).length=z) (hl:es.length=n) (hm:n<=maxLen) (hE:(bL F es).P w) (hA:∀o∈own,∀b,o.di b->¬(bL F es).di b):St w0 w (own.eraseIdx k) (ag f F z (bh g) n n es::Fm z (bh g) n n (fl f es)::ps):=by
 have hg:=h.nA hk
 have hr:Rd z w (bh g) n n (fl f es):=⟨by rw [jo hz,hl],aY _,hm,fun _=>⟨g,0,rfl,lt_of_block hg,fun i _=>by rw [fz,cell_of_row w g i c t (0,0) hg,<- hc,k7]⟩⟩
 have h1:=h.UW hk (Fm z (bh g) n n (fl f es)) hr fun b hb=>by
  obtain ⟨_,off,e⟩:=hb
  cases e
  rfl
 refine h1.iB _ ⟨hr,hl,hE⟩ fun o ho b h2 h3=>?_
 rcases h3 with h3 | h3
 ·exact h1.apart _ (bS ..) o ho b h2 h3
 ·exact hA o (vw ho) b h2 h3
section
variable {P:Program} {K:Act->World->Prop} {Q:Exit->Act->World->Prop} {N:Nat} {dq:List Deferred} {a:Act} {l:List (Nat×Value)} {w:World}
variable {d:Nat} {ty:TypeId} {pos:String} {af:Array Edge} {gd:Option (Nat×Bool)}
theorem uJ {f:FuncId} {y:Operand} {xs:Array Operand} {Ts:Array TypeId} {vs first caps:Array Value} {R:Ending->World->Prop} (h:aW dq N a l) (hd:Nat.blt d N=true)
  (hb:∀args w,(callFunc f args).run P w=.ok (.enter f args) w) (hy:bV l y=some (.func (.func f) first caps)) (hx:xs.toList.map (bV l)=vs.toList.map some) (hc:Calls P f (first++vs++caps) w R)
  (hK:∀e w',R e w'->∃v,e=.returned v/\∀a',aW dq N a' ((d,v)::l)->K a' w'):
  Oper.wp P ⟨some d,.call ⟨.value y,xs,Ts⟩,ty,pos,af,gd⟩ a w K Q:=by
 have hv:=h.ev hy
 have he:xs.map a.eval=vs:=by
  apply BG
  rw [qg]
  generalize xs.toList=xl at hx ⊢
  generalize vs.toList=vl at hx ⊢
  induction xl generalizing vl with
  | nil=>cases vl with
   | nil=>rfl
   | cons=>simp at hx
  | cons x xl ih=>cases vl with
   | nil=>simp at hx
   | cons v vl=>
    simp only [jJ,pf] at hx ⊢
    exact ⟨h.ev hx.1,ih vl hx.2⟩
 have hr:(execOp a.eval ⟨some d,.call ⟨.value y,xs,Ts⟩,ty,pos,af,gd⟩).run P w=.ok (.enter f (first++vs++caps)) w:=by
  simp only [execOp,resolve,he,hv,Sem.run_bind]
  simp [Deferred.ofValue,invoke,hb]
 unfold Oper.wp
 rw [hr]
 show Calls P f _ w _
 refine hc.mono fun e w' hR=>?_
 obtain ⟨v,rfl,hk⟩:=hK e w' hR
 exact hk _ (h.put hd v)
end
theorem oF {P:Program} {f:FuncId} {first vs caps us:Array Value} {w:World} {R:Ending->World->Prop} (h:first++vs++caps=us) (hc:Calls P f us w R):Calls P f (first++vs++caps) w R:=h ▸ hc
theorem take_one {α:Type} {l:List α} {i:Nat} {x:α} (h:l[i]?=some x):l.take (i+1)=l.take i++[x]:=by
 rw [List.take_add_one,h]; rfl
def fI (x:Int):List Value:=[.int .i64 x]
def FI (_:Int):PF:=jY
theorem bn (x:Int):(fI x).length=1:=rfl
def fS (s:List UInt8):List Value:=[.string ⟨s.toArray⟩]
def axL (_:List UInt8):PF:=jY
theorem PL {α:Type} {f:α->List Value} {F:α->PF} {z b o n c m:Nat} {es:List α} {w:World} (hz:∀e,(f e).length=z) (h:(ag f F z (some ⟨b,o,none⟩) n c es).P w) (hm:m<=n):(ag f F z (some ⟨b,o+m*z,none⟩) (n - m) (c - m) (es.drop m)).P w:=by
 obtain ⟨hr,hl,hE⟩:=h
 refine ⟨⟨?_,by have:=hr.cap; omega,by have:=hr.big; omega,fun hp=>?_⟩,by rw [j6,hl],fun e he=>hE e (kj he)⟩
 ·rw [jo hz,j6,hl]
 ·obtain ⟨b',off,e,cD,hc⟩:=hr.cells ae
  cases e
  refine ⟨b,o+m*z,rfl,cD,fun i hi=>?_⟩
  have hmul:m*z+(n - m)*z=n*z:=by rw [<- EV]; congr 1; omega
  rw [mc,hc (m*z+i) ae]
  have h1:fl f es=fl f (es.take m)++fl f (es.drop m):=by rw [<- Hs,lX]
  have h2:(fl f (es.take m)).length=m*z:=by rw [jo hz,fg,hl,jS hm]
  rw [h1,j8 ae,h2]
  congr 1
  omega
def jn:List (List UInt8)->List UInt8
 | []=>[]
 | s::r=>s++r.flatMap fun t=>32::t
def I64 (xs:List Int):Prop:=∀x∈xs,-9223372036854775808<=x/\x<=9223372036854775807
theorem I64.at {xs:List Int} (h:I64 xs) {i:Nat} {x:Int} (hx:xs[i]?=some x):-9223372036854775808<=x/\x<=9223372036854775807:=h x (aB hx)
theorem Ds {α β:Type} {f:α->β} {es:List α} {zs:List β} {n:Nat} (h:es.map f=zs) (hn:zs.length=n):es.length=n:=by
 have:=aM List.length h
 rw [aZ] at this
 omega
theorem St.iq {w0 w:World} {ps:List PF} (h:St w0 w [] ps) (p:PF) (hp:p.P w):St w0 w [] (p::ps):=h.iB p hp fun o ho=>by cases ho
def ZB (k:Nat) (es:List NE):Prop:=∀e∈es,zl (zz e)<=k
theorem ZB.at {k:Nat} {es:List NE} (h:ZB k es) {i:Nat} {A:Option Addr} {c:Nat} {z:Int} (he:es[i]?=some (A,c,z)):zl z<=k:=h _ (aB he)
theorem step_zip {es fs os:List NE} {g:Int->Int->Int} {j:Nat} {A B C:Option Addr} {c d m:Nat} {z y:Int} (ho:os.map zz=(List.zipWith g (es.map zz) (fs.map zz)).take j) (he:es[j]?=some (A,c,z)) (hf:fs[j]?=some (B,d,y)):(os++[(C,m,g z y)]).map zz=(List.zipWith g (es.map zz) (fs.map zz)).take (j+1):=by
 rw [je,ho,take_one (by rw [List.getElem?_zipWith,bo,bo,he,hf]; rfl)]
 rfl
theorem Ku {es fs:List NE} {g:Int->Int->Int} {n:Nat} (h:es.length=n) (k:fs.length=n):(List.zipWith g (es.map zz) (fs.map zz)).length=n:=by
 rw [List.length_zipWith,aZ,aZ,h,k,Nat.min_self]
def qC (B:Nat) (w:World) (v:Value) (n:Nat) (zs:List Int):Prop:=∃A c es,v=.slice A n c/\pF ar 52 2 fN FN B w A n c es/\es.length=n/\es.map zz=zs
theorem step_map {es:List NE} {os:List NE} {g:Int->Int} {j:Nat} {A B:Option Addr} {c d:Nat} {z:Int} (ho:os.map zz=((es.map zz).take j).map g) (he:es[j]?=some (A,c,z)):(os++[(B,d,g z)]).map zz=((es.map zz).take (j+1)).map g:=by
 rw [je,ho,take_one (by rw [bo,he]; rfl),je]
 rfl
abbrev IE:=Int×Int×Int×Int×Int
def fJ (e:IE):List Value:=[.int .i64 e.1,.int .i64 e.2.1,.int .i64 e.2.2.1,.int .i64 e.2.2.2.1,.int .i64 e.2.2.2.2]
def FJ (_:IE):PF:=jY
theorem iR (e:IE):(fJ e).length=5:=rfl
def B64 (x:Int):Prop:=-9223372036854775808<=x/\x<=9223372036854775807
def IB (e:IE):Prop:=B64 e.1/\B64 e.2.1/\B64 e.2.2.1/\B64 e.2.2.2.1/\B64 e.2.2.2.2
def IBs (es:List IE):Prop:=∀e∈es,IB e
theorem IBs.at {es:List IE} (h:IBs es) {i:Nat} {e:IE} (hx:es[i]?=some e):IB e:=h e (aB hx)
end Go.Proofs.YtgopcdagnicekaaGreatDoor.W
namespace Go.Proofs.YtgopcdagnicekaaGreatDoor
open Go.RowKit Anv Go.ChangeShapes Go.WideShapes Go.ChangeAt Go.Joins W
section
variable {H:Type} {enc:TypeId×Value->H} {P:Program} {w:World} {base:Nat} {spare:Nat->Bool} {held:Bool}
end
theorem PM:Tryz.prog.cellsOf 3=1:=by kernel_rfl
theorem Kv {H:Type} {enc:TypeId×Value->H} {W:World} {m:Nat} {v:Value} {y:DataW H×List MemPlace}
  (h:DataW.trod enc Tryz.prog W 0 (fun _=>true) true m 3 [v]=some y):∃n,v=.int .i64 n/\B64 n:=by
 obtain ⟨n,e,_,hw⟩:=DataW.trod_int Tryz.underlying3 h
 simp at e
 exact ⟨n,e,bounds_i64 hw⟩
end Go.Proofs.YtgopcdagnicekaaGreatDoor

/- All the rest of the world stands as it stood; a row with its spare room. Over any program. No condition. -/
namespace Go.Proofs.YtgopcdagnicekaaGreatDoor.W
open Go.RowKit Anv Go.Lib
def bP (w1:World) (o:PF):PF:=
 ⟨fun w=>w1.heap.size<=w.heap.size/\∀b,b<w1.heap.size->¬o.di b->w.heap[b]?=w1.heap[b]?,fun b=>b<w1.heap.size/\¬o.di b,
  fun h hb=>gw hb.1 h.1,fun h hs hk=>⟨bq h.1 hs,fun b hb hn=>(hk b ⟨hb,hn⟩).trans (h.2 b hb hn)⟩⟩
theorem St.bO {w0 w:World} {own ps:List PF} {k:Nat} {o:PF} (h:St w0 w own ps) (hk:own[k]?=some o) (js:List Nat):St w0 w [o] (bP w o::js.filterMap (ps[·]?)):=by
 have h1:=h.pick [k] js cT
 rw [show [k].filterMap (own[·]?)=[o] by simp [hk]] at h1
 refine h1.iB _ ⟨aY _,fun _ _ _=>rfl⟩ fun e he b h2 h3=>?_
 rw [cC.1 he] at h2
 exact h3.2 h2
theorem St.rest {w0 w w':World} {own ps:List PF} {k:Nat} {o:PF} (h:St w0 w own ps) (hk:own[k]?=some o) (h':St w0 w' [] [bP w o]):St w0 w' (own.eraseIdx k) ps:=by
 obtain ⟨hs,hr⟩:=h'.pat (k:=0) rfl
 have hm:∀e∈own.eraseIdx k,∃j,j≠k/\own[j]?=some e:=fun e he=>List.mem_eraseIdx_iff_getElem?.1 he
 refine ⟨h'.below,fun e he=>?_,fun e he=>h.new e (vw he),h.nd.sublist (yG ..),fun p hp=>?_,fun p hp e he=>h.apart p hp e (vw he)⟩
 ·obtain ⟨j,hj,EG⟩:=hm e he
  have h1:=h.mine e (vw he)
  exact e.oC h1 hs fun b hb=>hr b (e.lt h1 hb) (h.one EG hk hj b hb)
 ·have h1:=h.pers p hp
  exact p.oC h1 hs fun b hb=>hr b (p.lt h1 hb) fun ho=>h.apart p hp o (aB hk) b ho hb
abbrev PE:=Value×Value
def fP (p:PE):List Value:=[p.1,p.2]
def FP (_:PE):PF:=jY
section
variable {P:Program} {N:Nat} {dq:List Deferred} {a:Act} {l:List (Nat×Value)} {w:World}
variable {d:Nat} {ty:TypeId} {pos:String} {af:Array Edge} {gd:Option (Nat×Bool)}
end
def apK (p q:PF):PF:=
 ⟨fun w=>p.P w/\q.P w,fun b=>p.di b∨q.di b,fun h hb=>hb.elim (p.lt h.1) (q.lt h.2),fun h hs hk=>⟨p.oC h.1 hs fun b hb=>hk b (.inl hb),q.oC h.2 hs fun b hb=>hk b (.inr hb)⟩⟩
theorem kg {g:Nat} {c:Array Value} {t:TypeId} {w:World} (h:(bk g c t).P w):w.heap[g]?=some (.cells c t (0,0)):=h
theorem St.uK {w0 w:World} {own ps:List PF} {k g:Nat} {c:Array Value} {t:TypeId} (h:St w0 w own ps) (hk:own[k]?=some (bk g c t)):St w0 w (own.eraseIdx k) (bk g c t::ps):=
 h.UW hk _ (h.owns hk) fun _ hb=>hb
section
variable {P:Program} {N:Nat} {dq:List Deferred} {a:Act} {l:List (Nat×Value)} {w:World} {d:Nat} {ty:TypeId} {pos:String} {af:Array Edge} {gd:Option (Nat×Bool)}
theorem PN {xl:List Operand} {vl:List Value} (h:aW dq N a l) (hx:xl.map (bV l)=vl.map some):xl.map a.eval=vl:=by
 induction xl generalizing vl with
 | nil=>cases vl with
  | nil=>rfl
  | cons=>simp at hx
 | cons x xl ih=>cases vl with
  | nil=>simp at hx
  | cons v vl=>
   simp only [jJ,pf] at hx ⊢
   exact ⟨h.ev hx.1,ih hx.2⟩
theorem cW {f:FuncId} {fs cs:Array Operand} {us vs:Array Value} (h:aW dq N a l) (hf:fs.toList.map (bV l)=us.toList.map some) (hx:cs.toList.map (bV l)=vs.toList.map some):
  (execOp a.eval ⟨some d,.makeFunc (.func f) fs cs,ty,pos,af,gd⟩).run P w=.ok (.value (.func (.func f) us vs)) w:=by
 have e1:fs.map a.eval=us:=BG (by rw [qg]; exact PN h hf)
 have e2:cs.map a.eval=vs:=BG (by rw [qg]; exact PN h hx)
 simp [execOp,Instr.makeFunc,e1,e2]
end
theorem Ip {w:World} {g:Nat} {cur:Array Value} {t:TypeId} (cs:Array Value) (hg:w.heap[g]?=some (.cells cur t (0,0))):Oi w (w.setRow g cs) g cs t:=
 ⟨rfl,rfl,rfl,by simp [World.setRow],setRow_heap w g cur cs t (0,0) hg,fun k hk=>setRow_other w g k cs hk⟩
theorem xR {α:Type} {f:α->List Value} {z:Nat} (hz:∀e,(f e).length=z):∀(es:List α) (k:Nat),fl f (es.take k)=(fl f es).take (k*z)
 | [],k=>by simp [fl]
 | e::es,0=>by simp [fl]
 | e::es,k+1=>by
  rw [xo,fl,fl,xR hz es k,iM,List.take_append,hz,show (f e).take (k*z+z)=f e from bD (by rw [hz]; omega),show k*z+z - z=k*z by omega]
theorem Kw {α:Type} {f:α->List Value} {z:Nat} (hz:∀e,(f e).length=z):∀(es:List α) (k:Nat),fl f (es.drop k)=(fl f es).drop (k*z)
 | [],k=>by simp [fl]
 | e::es,0=>by simp
 | e::es,k+1=>by
  rw [List.drop_succ_cons,fl,Kw hz es k,iM,List.drop_append,hz,show (f e).drop (k*z+z)=[] from dM (by rw [hz]; omega),show k*z+z - z=k*z by omega,iU]
theorem Fo {β:Type} {l:List β} {k:Nat} {x:β} (h:l[k]?=some x):l.set k x=l:=by
 obtain ⟨hk,rfl⟩:=bU.1 h
 exact yH hk
theorem B7 (b o j:Nat):(⟨b,o,none⟩:Addr).add j=⟨b,o+j,none⟩:=by simp [Addr.add]
def Vk (A:Option Addr) (c m z:Nat):Option Addr:=if c=m then A else A.map (·.add (m*z))
theorem MW {P:Program} {w:World} {T T2 ty E n c m d2 z:Nat} {B:Option Addr} {cs:List Value} (hT:P.underlying T=some (.slice E)) (mn:(sizeOf E).run P w=.ok z w) (hf:(Builtin.firstCells z (min m n) (.slice B m d2)).run P w=.ok cs.toArray w):
  (Builtin.copy_ #[T,T2] ty #[.slice none n c,.slice B m d2]).run P w=.ok (.int .i64 (min m n:Nat)) w:=by
 have e5:Nat.min m n=min m n:=rfl
 simp [Builtin.copy_,run_underlying hT,Builtin.lenOf,mn,e5,hf,goInt]
theorem MX {P:Program} {w w':World} {T T2 ty E n c m d2 z:Nat} {A:Addr} {B:Option Addr} {cs:List Value} (hT:P.underlying T=some (.slice E)) (mn:(sizeOf E).run P w=.ok z w) (hf:(Builtin.firstCells z (min m n) (.slice B m d2)).run P w=.ok cs.toArray w) (σ:(storeCells A cs).run P w=.ok () w'):
  (Builtin.copy_ #[T,T2] ty #[.slice (some A) n c,.slice B m d2]).run P w=.ok (.int .i64 (min m n:Nat)) w':=by
 have e5:Nat.min m n=min m n:=rfl
 simp [Builtin.copy_,run_underlying hT,Builtin.lenOf,mn,e5,hf,σ,goInt]
section
variable {P:Program} {K:Act->World->Prop} {Q:Exit->Act->World->Prop} {N:Nat} {dq:List Deferred} {a:Act} {l:List (Nat×Value)} {w w0:World} {own ps:List PF}
variable {d:Nat} {ty:TypeId} {pos:String} {af:Array Edge} {gd:Option (Nat×Bool)}
theorem PO {α:Type} {f:α->List Value} {T T2 E n c m d2 z k:Nat} {x y:Operand} {A B:Option Addr} {es dL:List α} (h:aW dq N a l) (hs:St w0 w own ps) (hd:Nat.blt d N=true) (hT:P.underlying T=some (.slice E)) (hE:∃i,P.info? E=some i/\i.size=z)
  (hx:bV l x=some (.slice A n c)) (hy:bV l y=some (.slice B m d2)) (hk:own[k]?=some (av ar E z A n c (fl f es))) (hr:Rd z w B m d2 (fl f dL)) (hz:∀e,(f e).length=z) (hl:es.length=n) (jb:dL.length=m) (hq:∀e,(f e).all ar=true) (h1:∀e,∀v∈f e,v.oneCell'=true)
  (hK:∀a' w',aW dq N a' ((d,.int .i64 (min m n:Nat))::l)->St w0 w' (own.set k (av ar E z A n c (fl f (dL.take n++es.drop m)))) ps->K a' w'):
  Oper.wp P ⟨some d,.call ⟨.builtin .copy,#[x,y],#[T,T2]⟩,ty,pos,af,gd⟩ a w K Q:=by
 have hv:=h.ev hx
 have Bp:=h.ev hy
 have hP:=hs.owns hk
 have ri:w.ownsRow 0 E z (.slice A n c) n (fl f es):=hP.1
 obtain ⟨ti,hti,PK⟩:=hE
 have mn:(sizeOf E).run P w=.ok z w:=run_sizeOf ⟨ti,hti,PK⟩
 -- what is read
 have Oj:(fl f (dL.take (min m n))).length=min m n*z:=by rw [jo hz,fg]; congr 1; omega
 have hfc:(Builtin.firstCells z (min m n) (.slice B m d2)).run P w=.ok (fl f (dL.take (min m n))).toArray w:=by
  rcases ed m with h0 | h0
  ·have e:fl f (dL.take (min m n))=[]:=jE (by rw [Oj,h0]; simp)
   rw [e]
   cases B with
   | none=>exact run_firstCells_none w z _ _ _
   | some b=>exact run_firstCells_some w z _ b _ _ [] (by rw [h0]; simp) fun j v hj=>by simp at hj
  ·have hB:=hr.ab h0
   rw [hB]
   refine run_firstCells_some w z _ _ _ _ _ Oj fun j v hj=>?_
   have EG:j<min m n*z:=by have:=(bU.1 hj).1; omega
   have hmz:min m n*z<=m*z:=eh _ (Nat.min_le_left ..)
   have e1:(⟨Go.Proofs.YtgopcdagnicekaaGreatDoor.ab B,ao B,none⟩:Addr).add j=⟨Go.Proofs.YtgopcdagnicekaaGreatDoor.ab B,ao B+j,none⟩:=B7 ..
   rw [e1,hr.at ae,<- hj,xR hz,qh EG]
 rcases ri.2 with ⟨e0,vk⟩ | ⟨g,cap,cur,e0,_,hg,EF,E6,ia,uH⟩
 ·cases e0
  have Hu:(execOp a.eval ⟨some d,.call ⟨.builtin .copy,#[x,y],#[T,T2]⟩,ty,pos,af,gd⟩).run P w=.ok (.value (.int .i64 (min m 0:Nat))) w:=by
   simp only [execOp,resolve]
   generalize a.eval=ρ at hv Bp ⊢
   simp [hv,Bp,go_sem,MW hT mn hfc]
  unfold Oper.wp
  rw [Hu]
  refine hK _ _ (h.put hd _) ?_
  have e:dL.take 0++es.drop m=es:=by rw [jE hl]; simp
  rw [e,Fo hk]
  exact hs
 ·cases e0
  obtain ⟨Vf,sS,Bo⟩:=hP.2 g rfl
  rw [hg] at sS
  cases sS
  have hnz:min m n*z<=n*z:=eh _ (Nat.min_le_right ..)
  have hzc:n*z<=cur.size:=by rw [ia]; exact eh _ EF
  have akW:∀v∈fl f (dL.take (min m n)),v.oneCell'=true:=by
   have:∀l:List α,∀v∈fl f l,v.oneCell'=true:=by
    intro l
    induction l with
    | nil=>intro v hv; cases hv
    | cons e l ih=>
     intro v hv
     rw [fl] at hv
     rcases b6.1 hv with hv | hv
     ·exact h1 e v hv
     ·exact ih v hv
   exact this _
  have σ:=run_storeCells_at P g 0 E (fl f (dL.take (min m n))) 0 cur w hg (by rw [Oj]; omega) akW
  have Hu:(execOp a.eval ⟨some d,.call ⟨.builtin .copy,#[x,y],#[T,T2]⟩,ty,pos,af,gd⟩).run P w=.ok (.value (.int .i64 (min m n:Nat))) (w.setRow g (cur.toList.take (0+0)++fl f (dL.take (min m n))++cur.toList.drop (0+0+(fl f (dL.take (min m n))).length)).toArray):=by
   simp only [execOp,resolve]
   generalize a.eval=ρ at hv Bp ⊢
   simp [hv,Bp,go_sem,MX hT mn hfc σ]
  unfold Oper.wp
  rw [Hu]
  have hu:=Ip (cur.toList.take (0+0)++fl f (dL.take (min m n))++cur.toList.drop (0+0+(fl f (dL.take (min m n))).length)).toArray hg
  have hX:(cur.toList.take (0+0)++fl f (dL.take (min m n))++cur.toList.drop (0+0+(fl f (dL.take (min m n))).length))=fl f (dL.take n++es.drop m)++cur.toList.drop (n*z):=by
   have hLR:cur.toList=fl f es++cur.toList.drop (n*z):=by rw [<- uH,lX]
   have T8:(fl f es).length=n*z:=by rw [jo hz,hl]
   rw [Oj,fz,fz,List.take_zero,iU]
   conv=>lhs; rw [hLR]
   rw [qR ae,Hs,<- Kw hz,<- cG]
   congr 2
   ·congr 1
    rcases Nat.le_total m n with TZ | TZ
    ·rw [jS TZ,bD (by omega),bD (by omega)]
    ·rw [Nat.min_eq_right TZ]
   ·rcases Nat.le_total m n with TZ | TZ
    ·rw [jS TZ]
    ·rw [Nat.min_eq_right TZ,dM ae,dM ae]
  have UN:(dL.take n++es.drop m).length=n:=by rw [aP,fg,j6,hl,jb]; omega
  have hfn:(fl f (dL.take n++es.drop m)).length=n*z:=by rw [jo hz,UN]
  refine hK _ _ (h.put hd _) (hs.mf hk (e':=av ar E z (bh g) n c (fl f (dL.take n++es.drop m))) ⟨⟨hfn,.inr ⟨g,c,_,rfl,bm _,hu.new,EF,E6,?_,?_⟩⟩,fun g' sS=>?_⟩ (fun b hb=>.inl hb) hu.os hu.tape hu.output (nY hu.size.symm) fun b _ hb=>hu.old b fun e=>hb (aM some e.symm))
  ·rw [hX,List.size_toArray,aP,hfn,j6,mO,ia]
   have:=eh z EF
   omega
  ·rw [hX,vA ae,bD (by omega)]
  ·obtain rfl:g=g':=by simpa [Value.ownBlock] using sS
   refine ⟨_,hu.new,?_⟩
   rw [hX,ET,Im hq]
   exact dP.2 fun u hu=>dP.1 Bo u (kj hu)
theorem MY {x y y2:Operand} {T E n m c z:Nat} {k k2:IntKind} {A:Option Addr} (h:aW dq N a l) (hT:P.underlying T=some (.slice E)) (hE:∃j,P.info? E=some j/\j.size=z) (hx:bV l x=some (.slice A n c)) (hy:bV l y=some (.int k (m:Nat))) (hy2:bV l y2=some (.int k2 (m:Nat))) (hm:m<=c):
  (execOp a.eval ⟨some d,.slice T x none (some y) (some y2),ty,pos,af,gd⟩).run P w=.ok (.value (.slice A m m)) w:=by
 have hv:=h.ev hx
 have Bp:=h.ev hy
 have Yo:=h.ev hy2
 have he:P.elem T=E:=by simp [Program.elem,hT]
 have hr:=run_slice_hm w T A n c (by rw [he]; exact hT) k k2 (m:Int) (m:Int) ae ae ae
 rw [he,run_sizeOf hE] at hr
 simp only [execOp,ES,qQ,hv,Bp,Yo]
 rw [Sem.run_bind,run_sliceAt_slice _ _ _ _ _ _ (by rw [he]; exact hT),hr]
 have e:Option.map (fun x:Addr=>x.add 0) A=A:=by
  cases A with
  | none=>rfl
  | some ad=>simp [Addr.add]
 simp [sliced,Result.andThen,e]
theorem sV {x y:Operand} {T E n m c z:Nat} {k:IntKind} {A:Option Addr} (h:aW dq N a l) (hT:P.underlying T=some (.slice E)) (hE:∃j,P.info? E=some j/\j.size=z) (hx:bV l x=some (.slice A n c)) (hy:bV l y=some (.int k (m:Nat))) (hm:m<=n):
  (execOp a.eval ⟨some d,.slice T x (some y) none none,ty,pos,af,gd⟩).run P w=.ok (.value (.slice (Vk A c m z) (n - m) (c - m))) w:=by
 have hv:=h.ev hx
 have Bp:=h.ev hy
 have he:P.elem T=E:=by simp [Program.elem,hT]
 have hr:=run_slice_l w T A n c (by rw [he]; exact hT) k (m:Int) ae ae
 rw [he,run_sizeOf hE] at hr
 simp only [execOp,ES,qQ,hv,Bp]
 rw [Sem.run_bind,run_sliceAt_slice _ _ _ _ _ _ (by rw [he]; exact hT),hr]
 simp [sliced,Result.andThen,Vk]
end
theorem PR {α:Type} {f:α->List Value} {F:α->PF} {z n c m:Nat} {A:Option Addr} {es:List α} {w:World} (hz:∀e,(f e).length=z) (h:(ag f F z A n c es).P w) (hm:m<=n):(ag f F z (Vk A c m z) (n - m) (c - m) (es.drop m)).P w:=by
 obtain ⟨hr,hl,hE⟩:=h
 have afn:=hr.cap
 have hE2:(bL F (es.drop m)).P w:=fun e he=>hE e (kj he)
 rcases ed (n - m) with h0 | h0
 ·refine ⟨⟨by rw [jo hz,j6,hl],by omega,by have:=hr.big; omega,fun hp=>ae⟩,by rw [j6,hl],hE2⟩
 ·obtain ⟨b,off,rfl,_⟩:=hr.cells ae
  have e:Vk (some ⟨b,off,none⟩) c m z=some ⟨b,off+m*z,none⟩:=by
   unfold Vk
   rw [aQ ae]
   simp [Addr.add]
  rw [e]
  exact PL hz ⟨hr,hl,hE⟩ hm
theorem St.rowFrom {α:Type} {f:α->List Value} {F:α->PF} {w0 w:World} {own ps:List PF} {z n c i:Nat} {A:Option Addr} {es:List α} (h:St w0 w own ps) (hi:ps[i]?=some (ag f F z A n c es)) (m:Nat) (hz:∀e,(f e).length=z) (hm:m<=n):St w0 w own (ag f F z (Vk A c m z) (n - m) (c - m) (es.drop m)::ps):=
 h.iB _ (PR hz (h.pat hi) hm) fun e he b1 h1 h2=>h.apart _ (aB hi) e he b1 h1 (by
  rcases h2 with ⟨hp,off,e2⟩ | ⟨x,hx,hf⟩
  ·obtain ⟨b,o,rfl,_⟩:=(h.pat hi).1.cells ae
   have e3:Vk (some ⟨b,o,none⟩) c m z=some ⟨b,o+m*z,none⟩:=by
    unfold Vk
    rw [aQ (by have:=(h.pat hi).1.cap; omega)]
    simp [Addr.add]
   rw [e3] at e2
   cases e2
   exact .inl ⟨by omega,o,rfl⟩
  ·exact .inr ⟨x,kj hx,hf⟩)
abbrev LE:=Option Addr×Nat×Nat×List NE
def fL (v:LE):List Value:=[.slice v.1 v.2.1 v.2.2.1]
def FL (v:LE):PF:=ag fN FN 2 v.1 v.2.1 v.2.2.1 v.2.2.2
theorem gX (v:LE):(fL v).length=1:=rfl
def lz (v:LE):List Int:=v.2.2.2.map zz
section
variable {P:Program} {a:Act} {w:World} {Q:Exit->Act->World->Prop}
end
section
variable {P:Program} {K:Act->World->Prop} {Q:Exit->Act->World->Prop} {N:Nat} {dq:List Deferred} {a:Act} {l:List (Nat×Value)} {w w0:World} {own ps:List PF}
variable {d:Nat} {ty:TypeId} {pos:String} {af:Array Edge} {gd:Option (Nat×Bool)}
theorem rk {T E z:Nat} (h:aW dq N a l) (hs:St w0 w own ps) (hd:Nat.blt d N=true) (hT:P.underlying T=some (.slice E)) (hE:∃i,P.info? E=some i/\i.size=z)
  (hK:∀a' w' g,aW dq N a' ((d,.slice (bh g) 0 0)::l)->St w0 w' (bk g #[] E::own) ps->K a' w'):
  Oper.wp P ⟨some d,.buildSlice T 0 #[],ty,pos,af,gd⟩ a w K Q:=by
 have hr:(execOp a.eval ⟨some d,.buildSlice T 0 #[],ty,pos,af,gd⟩).run P w=.ok (.value (.slice (bh w.heap.size) 0 0)) (w.alloc (.cells #[] E)):=by
  have hf:Instr.fill (fun i=>some (i*z,z)) (Array.map (fun x=>(#[]:Array Value)[x%(#[]:Array Value).size]!) (Array.range 0)) ((#[]:Array (Nat×Operand)).map fun x=>(x.fst,a.eval x.snd)).toList=some #[]:=by simp [Instr.fill]
  simp only [execOp,Instr.buildSlice,Sem.run_bind,run_underlying hT w,Result.andThen_ok,run_sizeOf hE,J3,aQ (show ¬0>2 ^ 24 by omega),if_true,Sem.run_pure,hf]
  rfl
 unfold Oper.wp
 rw [hr]
 exact hK _ _ _ (h.put hd _) (hs.push _ _)
end
section
variable {P:Program} {K:Act->World->Prop} {Q:Exit->Act->World->Prop} {N:Nat} {dq:List Deferred} {a:Act} {l:List (Nat×Value)} {w w0:World} {own ps:List PF}
variable {d:Nat} {ty:TypeId} {pos:String} {af:Array Edge} {gd:Option (Nat×Bool)}
theorem zh {q:Value->Bool} {t E n z bytes k m c c0:Nat} {x y:Operand} {A B:Option Addr} {zv:Value} {vs us:List Value} (h:aW dq N a l) (hs:St w0 w own ps) (hd:Nat.blt d N=true) (hT:P.underlying t=some (.slice E))
  (hi:(P.info? E).map (fun i=>(i.zero,i.size,i.bytes))=some (some zv,z,bytes)) (Vg:zv.cells.size=z) (jF:Nat.blt 0 z=true) (hx:bV l x=some (.slice A n c0)) (hy:bV l y=some (.slice B m c))
  (hk:own[k]?=some (av q E z A n c0 vs)) (hr:Rd z w B m c us) (h1:us.all (·.oneCell')=true) (Bo:us.all q=true) (Ve:zv.cells.toList.all q=true) (Bn:0<m) (hn:n+m<=maxLen) (hb:(n+m)*bytes<=140737488355328)
  (hK:∀a' w' g' c',aW dq N a' ((d,.slice (bh g') (n+m) c')::l)->St w0 w' (own.set k (av q E z (bh g') (n+m) c' (vs++us))) ps->K a' w'):
  Oper.wp P ⟨some d,.call ⟨.builtin .append,#[x,y],#[t,t]⟩,ty,pos,af,gd⟩ a w K Q:=by
 obtain ⟨i,J7,vI⟩:=yA.1 hi
 simp only [ji] at vI
 obtain ⟨hz,mn,Ih⟩:=vI
 have ri:(tE q E z (.slice A n c0) n vs).P w:=hs.owns hk
 have hl:us.length=m*z:=hr.len
 obtain ⟨b,off,rfl,_,hc⟩:=hr.cells Bn
 have PH:∀(j:Nat) u,us[j]?=some u->w.cell? ((⟨b,off,none⟩:Addr).add j)=some u:=by
  intro j u hu
  rw [B7,hc j (by rw [<- hl]; exact (bU.1 hu).1)]
  exact hu
 have h1':∀u∈us,u.oneCell'=true:=fun u hu=>dP.1 h1 u hu
 obtain ⟨v',w',mr,Kq,oE,_,Kr⟩:=run_append_own_at w 0 t ty E i zv z bytes hT J7 hz mn Ih Vg (kZ jF) _ n vs ri.1 ⟨b,off,none⟩ m c us hl PH h1' hn hb (bm _)
 have hq:zd q w' E v':=by
  subst mn Ih
  obtain ⟨v2,w2,Fl,hq⟩:=uG q hT J7 hz ri.1 ri.2 hl PH h1' Bo Ve Bn hn hb
  rw [mr] at Fl
  cases Fl
  exact hq
 have hvx:=h.ev hx
 have hvy:=h.ev hy
 have hr:(execOp a.eval ⟨some d,.call ⟨.builtin .append,#[x,y],#[t,t]⟩,ty,pos,af,gd⟩).run P w=.ok (.value v') w':=by
  simp [execOp,resolve,invoke,builtin,hvx,hvy,mr]
 unfold Oper.wp
 rw [hr]
 have qq:St w0 w' (own.set k (tE q E z v' (n+m) (vs++us))) ps:=hs.mf hk (e':=tE q E z v' (n+m) (vs++us)) ⟨Kq,hq⟩ (fun b hb=>by
  have Dc:v'.ownBlock=some b:=hb
  rcases Kr with h2 | h2
  ·exact .inl (h2.symm.trans Dc)
  ·rw [h2] at Dc
   exact .inr (nY (dw Dc))) oE.os oE.tape oE.output oE.size fun b hb hnf=>oE.block b hb fun e=>hnf e.symm
 rcases Kq.2 with ⟨rfl,hnm⟩ | ⟨g',cap,cur,rfl,_⟩
 ·omega
 ·exact hK _ _ g' cap (h.put hd _) qq
theorem Fp {q:Value->Bool} {t E n z k c c0:Nat} {x y:Operand} {A B:Option Addr} {vs:List Value} (h:aW dq N a l) (hs:St w0 w own ps) (hd:Nat.blt d N=true) (hT:P.underlying t=some (.slice E))
  (hE:∃i,P.info? E=some i/\i.size=z) (hx:bV l x=some (.slice A n c0)) (hy:bV l y=some (.slice B 0 c)) (hk:own[k]?=some (av q E z A n c0 vs))
  (hK:∀a',aW dq N a' ((d,.slice A n c0)::l)->K a' w):
  Oper.wp P ⟨some d,.call ⟨.builtin .append,#[x,y],#[t,t]⟩,ty,pos,af,gd⟩ a w K Q:=by
 obtain ⟨i,hi,hz⟩:=hE
 have hle:n<=c0:=(ax (hs.owns hk)).cap
 have hvx:=h.ev hx
 have hvy:=h.ev hy
 have hf:(Builtin.firstCells i.size 0 (.slice B 0 c)).run P w=.ok (#[]:Array Value) w:=by
  cases B with
  | none=>exact run_firstCells_none w i.size _ _ _
  | some b=>exact run_firstCells_some w i.size 0 b 0 c [] cT fun j v hj=>by simp at hj
 have mr:(Builtin.append_ #[t,t] ty #[.slice A n c0,.slice B 0 c]).run P w=.ok (.slice A n c0) w:=by
  cases A<;>simp [Builtin.append_,run_underlying hT,sizeOf,typeInfo,hi,Builtin.lenOf,hle,hf,storeCells]
 have hr:(execOp a.eval ⟨some d,.call ⟨.builtin .append,#[x,y],#[t,t]⟩,ty,pos,af,gd⟩).run P w=.ok (.value (.slice A n c0)) w:=by
  simp [execOp,resolve,invoke,builtin,hvx,hvy,mr]
 unfold Oper.wp
 rw [hr]
 exact hK _ (h.put hd _)
end
theorem St.PS {w0 w:World} {own ps:List PF} {k g:Nat} {E:TypeId} (h:St w0 w own ps) (hk:own[k]?=some (bk g #[] E)) (z:Nat):St w0 w (own.set k (av ar E z (bh g) 0 0 [])) ps:=by
 have hg:w.heap[g]?=some (.cells #[] E (0,0)):=h.owns hk
 refine h.mf hk (e':=av ar E z (bh g) 0 0 []) ⟨⟨by simp,.inr ⟨g,0,#[],rfl,bm _,hg,aY _,bm _,by simp,by simp⟩⟩,fun g' sS=>?_⟩ (fun b hb=>.inl ?_) rfl rfl rfl (aY _) fun _ _ _=>rfl
 ·obtain rfl:g=g':=by simpa [Value.ownBlock] using sS
  exact ⟨_,hg,rfl⟩
 ·obtain ⟨a,ha,rfl⟩:=jz hb
  cases ha
  rfl
theorem St.PT {α:Type} {f:α->List Value} {q:Value->Bool} {w0 w:World} {own ps:List PF} {E z n c k:Nat} {A:Option Addr} {es:List α} (h:St w0 w own ps) (hk:own[k]?=some (av q E z A n c (fl f es))) (hl:es.length=n) (m:Nat) (hz:∀e,(f e).length=z) (hm:m<=n):St w0 w (own.set k (av q E z A m c (fl f (es.take m)))) ps:=by
 have hP:=h.owns hk
 have hr:w.ownsRow 0 E z (.slice A n c) n (fl f es):=hP.1
 have wM:m*z<=n*z:=eh _ hm
 have hlen:(fl f (es.take m)).length=m*z:=by rw [jo hz,fg,hl,jS hm]
 refine h.mf hk (e':=av q E z A m c (fl f (es.take m))) ⟨⟨hlen,?_⟩,fun g hg=>?_⟩ (fun b hb=>.inl ?_) rfl rfl rfl (aY _) fun _ _ _=>rfl
 ·rcases hr.2 with ⟨e0,hn⟩ | ⟨g,cap,cur,e0,hb,hg,EF,E6,ia,ht⟩
  ·cases e0
   exact .inl ⟨by rw [show m=0 by omega],by omega⟩
  ·cases e0
   exact .inr ⟨g,c,cur,rfl,hb,hg,bq hm EF,E6,ia,by rw [xR hz,<- ht,List.take_take,jS wM]⟩
 ·obtain ⟨cur,h1,h2⟩:=hP.2 g (by
   cases A with
   | none=>simp [Value.ownBlock] at hg
   | some a=>simpa [Value.ownBlock] using hg)
  exact ⟨cur,h1,h2⟩
 ·obtain ⟨a,rfl,rfl⟩:=jz hb
  rfl
abbrev UE:=Bool×Option Addr×Nat×Nat×List Nat
def fU (e:UE):List Value:=[.bool e.1,.slice e.2.1 e.2.2.1 e.2.2.2.1]
def FU (e:UE):PF:=UT e.2.1 e.2.2.1 e.2.2.2.1 e.2.2.2.2
def Sz (es:List UE):Prop:=∀e∈es,e.2.2.1<=35184372088832
theorem Sz.at {es:List UE} (h:Sz es) {i:Nat} {e:UE} (hx:es[i]?=some e):e.2.2.1<=35184372088832:=h e (aB hx)
end Go.Proofs.YtgopcdagnicekaaGreatDoor.W
namespace Go.Proofs.YtgopcdagnicekaaGreatDoor
open Go.RowKit Anv Go.ChangeShapes Go.WideShapes Go.ChangeAt Go.Joins W
end Go.Proofs.YtgopcdagnicekaaGreatDoor

/- A value is stored into a row of the call's own whose elements have one cell. Over any program. No condition. -/
namespace Go.Proofs.YtgopcdagnicekaaGreatDoor.W
open Go.RowKit Anv Go.Lib
theorem IC {v:Value} (h1:v.oneCell'=true):v.cells=#[v]:=by cases v<;>simp_all [Value.cells,Value.oneCell']
theorem ID {P:Program} {w:World} {ad:Addr} {u v:Value} (h1:v.oneCell'=true) (Oj:w.cell? ad=some u) (hf:w.frozen? ad=false):((store ad v).run P w)=.ok () (w.setCell ad v):=by
 cases v<;>simp_all [store,Sem.run,Value.oneCell']
theorem FK {α:Type} {f:α->List Value} {e:α} {v:Value} (hz:∀e,(f e).length=1) (hv:f e=[v]):∀(es:List α) (i:Nat),(fl f es).set i v=fl f (es.set i e)
 | [],_=>rfl
 | x::es,0=>by
  match h:f x,hz x with
  | [u],_=>rw [fl,h,List.set_cons_zero,fl,hv]; rfl
 | x::es,i+1=>by
  match h:f x,hz x with
  | [u],_=>rw [fl,h,C0,fl,h,<- FK hz hv es i]; rfl
section
variable {P:Program} {K:Act->World->Prop} {Q:Exit->Act->World->Prop} {N:Nat} {dq:List Deferred} {a:Act} {l:List (Nat×Value)} {w w0:World} {own ps:List PF}
variable {d:Nat} {ty:TypeId} {pos:String} {af:Array Edge} {gd:Option (Nat×Bool)}
theorem IF {α:Type} {f:α->List Value} {q:Value->Bool} {T E i n c p k:Nat} {x y:Operand} {A:Option Addr} {es:List α} {e:α} {v:Value} (h:aW dq N a l) (hs:St w0 w own ps) (hi:∃j,P.info? T=some j/\j.size=1) (hx:bV l x=some (.pointer (some ⟨Go.Proofs.YtgopcdagnicekaaGreatDoor.ab A,ao A+p,none⟩))) (hy:bV l y=some v) (hp:i*1=p)
  (hk:own[k]?=some (av q E 1 A n c (fl f es))) (hz:∀e,(f e).length=1) (hn:i<n) (hl:es.length=n) (hv:f e=[v]) (h1:v.oneCell'=true) (hq:q v=true)
  (hK:∀a' w',aW dq N a' l->St w0 w' (own.set k (av q E 1 A n c (fl f (es.set i e)))) ps->K a' w'):
  Oper.wp P ⟨none,.store T x y,ty,pos,af,gd⟩ a w K Q:=by
 subst hp
 have hP:=hs.owns hk
 have ri:w.ownsRow 0 E 1 (.slice A n c) n (fl f es):=hP.1
 rcases ri.2 with ⟨e0,vk⟩ | ⟨g,cap,cur,e0,_,hg,EF,E6,ia,uH⟩
 ·omega
 cases e0
 obtain ⟨Vf,sS,Bo⟩:=hP.2 g rfl
 rw [hg] at sS
 cases sS
 have PJ:bV l x=some (.pointer (some ⟨g,i,none⟩)):=by
  rw [hx]
  show some (Value.pointer (some ⟨g,0+i*1,none⟩))=_
  rw [fz,tg]
 have hic:i<cur.size:=ae
 obtain ⟨ti,hti,km⟩:=hi
 have Oj:w.cell? ⟨g,i,none⟩=some cur[i]:=by rw [cell_of_row w _ _ _ _ _ hg]; simp [hic]
 have hf:w.frozen? ⟨g,i,none⟩=false:=by simp [World.frozen?,hg]
 have hvc:=IC h1
 have hr:(execOp a.eval ⟨none,.store T x y,ty,pos,af,gd⟩).run P w=.ok .skip (w.setCell ⟨g,i,none⟩ v):=by
  simp only [execOp,h.ev PJ,h.ev hy,Instr.storeAt,Instr.sureAddr,Sem.run_bind,Sem.run_pure,Result.andThen_ok,storeVar,run_sizeOf ⟨ti,hti,km⟩,hvc]
  have h0:(⟨g,i,none⟩:Addr).add 0=⟨g,i,none⟩:=by rw [Addr.add_mid]; rfl
  have σ:=ID (P:=P) h1 Oj hf
  simp [storeCells,h0,σ]
 unfold Oper.wp
 rw [hr]
 have hu:=lK (o:=i) v hg
 have FQ:(cur.setIfInBounds i v).toList=cur.toList.set i v:=by simp
 refine hK _ _ (h.E7 _) (hs.mf hk (e':=av q E 1 (bh g) n c (fl f (es.set i e))) ⟨⟨?_,.inr ⟨g,c,_,rfl,bm _,hu.new,EF,E6,by simpa using ia,?_⟩⟩,fun g' sS=>?_⟩ (fun b hb=>.inl hb) hu.os hu.tape hu.output (nY hu.size.symm) fun b _ hb=>hu.old b fun e=>hb (aM some e.symm))
 ·rw [jo hz,cH,hl]
 ·rw [FQ,List.take_set,uH,FK hz hv]
 ·obtain rfl:g=g':=by simpa [Value.ownBlock] using sS
  refine ⟨_,hu.new,?_⟩
  rw [FQ]
  refine dP.2 fun u hu=>?_
  rcases kr hu with h2 | h2
  ·exact dP.1 Bo u h2
  ·rw [h2]; exact hq
end
section
variable {P:Program} {ro:Option Nat} {m:Nat} {Q:Exit->Act->World->Prop} {ops:Array Oper} {K:Act->World->Prop} {a:Act} {w:World} {md:Region.Mode}
def uU (ops:Array Oper):Bool:=ops.all fun o=>match o.op with | .defer _=>false | _=>true
theorem Gg (h:uU ops=true) {i:Nat} {o:Oper} (hi:ops[i]?=some o) (c:Call):o.op≠.defer c:=fun e=>by
 unfold uU at h
 rw [Array.all_eq_true'] at h
 have:=h o (yF hi)
 rw [e] at this
 cases this
theorem V9 (h:uU ops=true) (sY:∀a w,¬Q .outgrown a w) {i:Nat} (hw:wpOp P ops Q i K a w):wpOpIn (WF ro) m P ops Q i K a w:=by
 unfold wpOp at hw
 unfold wpOpIn
 revert hw
 cases hi:ops[i]? with
 | none=>exact id
 | some o=>
  simp only
  split
  ·rintro (hw | ⟨_,a',w',hq⟩)
   ·exact xQ (Gg h hi) hw
   ·exact (sY a' w' hq).elim
  ·intro hw; exact ⟨fun _ _=>trivial,hw⟩
theorem Q6 (h:uU ops=true) (sY:∀a w,¬Q .outgrown a w):∀(fuel:Nat) (listed:Array Bool) (a:Act) (w:World),wpAny P md ops Q fuel listed a w->wpAnyIn (WF ro) m P md ops Q fuel listed a w
 | 0,_,_,_,hw=>hw
 | fuel+1,_,_,_,hw=>⟨hw.1,fun i hi=>V9 h sY (wpOp_mono (fun a' w' h'=>Q6 h sY fuel _ a' w' h') (hw.2 i hi))⟩
theorem uV {id n:Nat} {N:Nat} {dq:List Deferred} {w0:World} {own ps:List PF} {l:List (Nat×Value)} (S:Nat->World->Prop) (hm:P.follows .mixedOrders=true) (hn:ops.size=n) (he:aW dq N a l) (hs:St w0 w own ps) (hd:uU ops=true) (sY:∀a w,¬Q .outgrown a w)
  (h:∀w',aW dq N a l->St w0 w' own ps->jU P ops Q S n (Array.replicate n false) a w'):(Code.region id ops true).wpIn (WF ro) m P Q a w:=by
 subst hn
 exact wpIn_region_any hm (Q6 hd sY _ _ _ _ (xO _ _ _ _ (h _ he hs.drew)))
end
def Gh:List Value->Nat->Option Value
 | [],_=>none
 | v::_,0=>some v
 | _::l,n+1=>Gh l n
theorem uW:∀(l:List Value) (n:Nat),Gh l n=l[n]?
 | [],_=>rfl
 | _::_,0=>rfl
 | _::l,n+1=>uW l n
inductive Uj where
 | no
 | one
 | agg (n:Nat)
 | sl (E:Nat)
structure Gi (P:Program) where
 ty:Nat->Uj
 fd:Nat->Nat->Option (Nat×Nat)
 tyOk:∀T,match ty T with
  | .no=>True
  | .one=>jx P T
  | .agg n=>lg P T n
  | .sl E=>jx P T/\P.underlying T=some (.slice E)
 fdOk:∀S f off T,fd S f=some (off,T)->n6 P S f off T
def Lr {α:Type}:List Value->Nat->(List Value->Option α)->Option α
 | _,0,k=>k []
 | [],_+1,_=>none
 | v::l,n+1,k=>Lr l n fun r=>k (v::r)
def Gj:List Value->Nat->List Value
 | l,0=>l
 | [],_+1=>[]
 | _::l,n+1=>Gj l n
def uX:List Oper->Nat->Option Oper
 | [],_=>none
 | o::_,0=>some o
 | _::l,n+1=>uX l n
section
variable {P:Program} (T:Gi P)
def vlM (l:List (Nat×Value)):Op->Option Value
 | .move x=>bV l x
 | .assign x=>bV l x
 | .pick c x y=>match bV l c with
  | some (.bool true)=>bV l x
  | some (.bool false)=>bV l y
  | _=>none
 | .extract x i=>match bV l x with
  | some (.tuple vs)=>Gh vs.toList i
  | _=>none
 | .fieldAddr S x f=>match bV l x with
  | some (.pointer (some ⟨g,o,none⟩))=>match T.fd S f with
   | some (off,F)=>match T.ty F with
    | .one=>some (.pointer (some ⟨g,o+off,none⟩))
    | .sl _=>some (.pointer (some ⟨g,o+off,none⟩))
    | .agg (_+1)=>some (.pointer (some ⟨g,o+off,none⟩))
    | _=>none
   | none=>none
  | _=>none
 | .field S x f=>match bV l x with
  | some (.agg cs)=>match T.fd S f with
   | some (off,F)=>match T.ty F with
    | .one=>Gh cs.toList off
    | .sl _=>Gh cs.toList off
    | .agg n=>Lr (Gj cs.toList off) n fun r=>some (.agg r.toArray)
    | .no=>none
   | none=>none
  | _=>none
 | .call ⟨.builtin .len,xs,Ts⟩=>match xs.toList,Ts.toList with
  | [x],[t]=>match T.ty t,bV l x with
   | .sl _,some (.slice _ n _)=>some (.int .i64 n)
   | _,_=>none
  | _,_=>none
 | .unOp .not _ x=>match bV l x with
  | some (.bool b)=>some (.bool (!b))
  | _=>none
 | .nilCheck x=>match bV l x with
  | some (.pointer (some p))=>some (.pointer (some p))
  | _=>none
 | _=>none
end
structure yc (Q:Exit->Act->World->Prop):Prop where
 Uk:∀c a w,¬Q (.panic c) a w
 og:∀a w,¬Q .outgrown a w
structure Cx (P:Program) where
 T:Gi P
 mix:P.follows .mixedOrders=true
 ro:Option Nat
 m:Nat
 dq:List Deferred
 N:Nat
 Q:Exit->Act->World->Prop
 ok:yc Q
inductive wZ where
 | th (c:Code)
 | bl (i:Nat)
 | sc
 | q (K:Act->World->Prop)
inductive Bd where
 | code (c:Code)
 | list (os rest:List Oper)
 | Be (own ps:List PF) (Z:List Nat) (os:List Oper) (is:List Nat) (ls:Array Bool)
 | fin (e:Exit)
section
variable {P:Program} (X:Cx P)
def qD:List wZ->Exit->Act->World->Prop
 | []=>X.Q
 | .th c::s=>Exit.then (fun a w=>c.wpIn (WF X.ro) X.m P (qD s) a w) (qD s)
 | .bl i::s=>Exit.inBlock i (qD s)
 | .sc::s=>Exit.noGoto (qD s)
 | .q K::s=>Exit.then K (qD s)
def Gk (os:Array Oper) (i:Nat):List Nat:=(List.range os.size).foldl (fun T j=>if Nat.blt i j && (match os[j]? with
 | some oj=>oj.after.any fun e=>Region.binds .any e && (Nat.beq e.on i || T.contains e.on)
 | none=>false) then T++[j] else T) []
def v7 (os:Array Oper) (Z:List Nat):List Nat->Array Bool->Bool
 | [],ls=>(Region.ready .any os ls).isEmpty
 | c::is,ls=>bif Nat.beq (c%4) 3 then true else ((match c%4 with
  | 0=>me os ls (c / 4) (Gk os (c / 4))
  | 1=>me os ls (c / 4) (Gk os (c / 4)) && Z.all fun z=>(Gk os (c / 4)).contains z
  | _=>decide (Region.ready .any os ls=[c / 4])) && v7 os Z is (ls.setIfInBounds (c / 4) true))
theorem DO {os:Array Oper} {Z:List Nat} {c:Nat} {is:List Nat} {ls:Array Bool} (h:v7 os Z (c::is) ls=true) (hc:Nat.beq (c%4) 3=false):((match c%4 with
  | 0=>me os ls (c / 4) (Gk os (c / 4))
  | 1=>me os ls (c / 4) (Gk os (c / 4)) && Z.all fun z=>(Gk os (c / 4)).contains z
  | _=>decide (Region.ready .any os ls=[c / 4])) && v7 os Z is (ls.setIfInBounds (c / 4) true))=true:=by
 unfold v7 at h
 rw [hc] at h
 exact h
def zfB (Z:List Nat) (ls:Array Bool):Bool:=Z.all fun z=>!ls.getD z false
def Hy (Z:List Nat) (own ps:List PF) (j:Nat) (w:World):Prop:=Z.contains j=true∨Kn w own ps
def raE:Bd->List wZ->Act->World->Prop
 | .code c,s=>c.wpIn (WF X.ro) X.m P (qD X s)
 | .list os rest,s=>wpListIn (WF X.ro) X.m P os.toArray (qD X s) rest
 | .Be own ps Z os is ls,s=>fun a w=>v7 os.toArray Z is ls=true->(zfB Z ls=true->Kn w own ps)->jU P os.toArray (qD X s) (Hy Z own ps) is.length ls a w
 | .fin e,s=>qD X s e
structure jB (w:World) (k:Bd) (s:List wZ) (l:List (Nat×Value)):Prop where
 go:∀a,aW X.dq X.N a l->raE X k s a w
end
def dOk (N:Nat):Option Nat->Bool
 | some d=>Nat.blt d N
 | none=>true
def V':Op->Bool
 | .defer _=>false
 | _=>true
def Hz (os:List Oper) (l:List (Nat×Value)):Option (Nat×Bool)->Option Bool
 | none=>some true
 | some (g,b)=>match uX os g with
  | some og=>match og.dst with
   | some t=>match look l t with
    | some u=>some (Yz u b)
    | none=>none
   | none=>none
  | none=>none
def DP (N:Nat) (l:List (Nat×Value)):Bd->Option (Nat×Op×Bool×Bd)
 | .list os (⟨some d,op,_,_,_,gd⟩::rest)=>bif Nat.blt d N && V' op then (match Hz os l gd with
  | some b=>some (d,op,b,.list os rest)
  | none=>none) else none
 | .Be own ps Z os (c::is) ls=>match uX os (c / 4) with
  | some ⟨some d,op,_,_,_,gd⟩=>bif Nat.blt d N && (V' op && !Nat.beq (c%4) 3) then (match Hz os l gd with
   | some b=>some (d,op,b,.Be own ps Z os is (ls.setIfInBounds (c / 4) true))
   | none=>none) else none
  | _=>none
 | _=>none
def hdL (N:Nat) (l:List (Nat×Value)):Bd->Option (Option Nat×Op×Bd)
 | .list os (⟨d,op,_,_,_,gd⟩::rest)=>bif V' op && dOk N d then (match Hz os l gd with
  | some true=>some (d,op,.list os rest)
  | _=>none) else none
 | _=>none
def hdZ (N:Nat) (l:List (Nat×Value)):Bd->Option (Option Nat×Op×Nat×List Nat×List PF×List PF×Bd)
 | .Be own ps Z os (c::is) ls=>match uX os (c / 4) with
  | some ⟨d,op,_,_,_,gd⟩=>bif Nat.beq (c%4) 2 && dOk N d then (match Hz os l gd with
   | some true=>some (d,op,c / 4,Z,own,ps,.Be own ps Z os is (ls.setIfInBounds (c / 4) true))
   | _=>none) else none
  | _=>none
 | _=>none
def hdK (N:Nat) (l:List (Nat×Value)):Bd->Option (Nat×Op×List PF×List PF×Bd)
 | .Be own ps Z os (c::is) ls=>match uX os (c / 4) with
  | some ⟨some d,op,_,_,_,gd⟩=>bif Nat.beq (c%4) 1 && Nat.blt d N then (match Hz os l gd with
   | some true=>some (d,op,own,ps,.Be own ps Z os is (ls.setIfInBounds (c / 4) true))
   | _=>none) else none
  | _=>none
 | _=>none
section
variable {P:Program} (T:Gi P)
def nxV (N:Nat) (k:Bd) (s:List wZ) (l:List (Nat×Value)):Option (Bd×List wZ×List (Nat×Value)):=match DP N l k with
 | some (d,op,true,k')=>match vlM T l op with
  | some v=>some (k',s,(d,v)::l)
  | none=>none
 | some (d,_,false,k')=>some (k',s,(d,undef)::l)
 | none=>none
def nxE (N:Nat):Bd->List wZ->List (Nat×Value)->Option (Bd×List wZ×List (Nat×Value))
 | .code c,s,l=>match c with
  | .seq x y=>some (.code x,.th y::s,l)
  | .region _ ⟨os⟩ false=>some (.list os os,s,l)
  | .skip=>some (.fin .normal,s,l)
  | .block i x=>some (.code x,.bl i::s,l)
  | .exit i=>some (.fin (.exit i),s,l)
  | .ret=>some (.fin .ret,s,l)
  | .label _=>some (.fin .normal,s,l)
  | _=>none
 | .fin e,s,l=>match s,e with
  | .th c::s,.normal=>some (.code c,s,l)
  | .bl _::s,.normal=>some (.fin .normal,s,l)
  | .sc::s,.normal=>some (.fin .normal,s,l)
  | .th _::s,.exit j=>some (.fin (.exit j),s,l)
  | .bl i::s,.exit j=>bif Nat.beq j i then some (.fin .normal,s,l) else some (.fin (.exit j),s,l)
  | .sc::s,.exit j=>some (.fin (.exit j),s,l)
  | .th _::s,.ret=>some (.fin .ret,s,l)
  | .bl _::s,.ret=>some (.fin .ret,s,l)
  | .sc::s,.ret=>some (.fin .ret,s,l)
  | .q _::s,.exit j=>some (.fin (.exit j),s,l)
  | .q _::s,.ret=>some (.fin .ret,s,l)
  | _,_=>none
 | .list os rest,s,l=>match rest with
  | []=>some (.fin .normal,s,l)
  | o::r=>nxV T N (.list os (o::r)) s l
 | .Be own ps Z os is ls,s,l=>match is with
  | []=>some (.fin .normal,s,l)
  | c::r=>nxV T N (.Be own ps Z os (c::r) ls) s l
def Mq (X:Cx P) (w:World):Nat->Bd->List wZ->List (Nat×Value)->Prop
 | 0,k,s,l=>jB X w k s l
 | n+1,k,s,l=>match nxE X.T X.N k s l with
  | some (k,s,l)=>Mq X w n k s l
  | none=>jB X w k s l
end
theorem yd:∀(l:List Oper) (n:Nat),uX l n=l[n]?
 | [],_=>rfl
 | _::_,0=>rfl
 | _::l,n+1=>yd l n
theorem Gl {α:Type}:∀(l:List Value) (n:Nat) (k:List Value->Option α) (v:α),Lr l n k=some v->k (l.take n)=some v
 | _,0,_,_,h=>by simpa [Lr] using h
 | [],_+1,_,_,h=>by cases h
 | _::l,n+1,k,v,h=>by simpa using Gl l n _ v h
theorem Gm:∀(l:List Value) (n:Nat),Gj l n=l.drop n
 | _,0=>by simp [Gj]
 | [],_+1=>rfl
 | _::l,n+1=>by simpa [Gj] using Gm l n
section
variable {P:Program} {T:Gi P} {dq:List Deferred} {N:Nat} {w w0:World} {l:List (Nat×Value)} {a:Act} {d:Nat} {op:Op} {ty:TypeId} {pos:String} {af:Array Edge} {gd:Option (Nat×Bool)} {v:Value}
theorem Gn {x:Operand} {p:Addr} (h:aW dq N a l) (hx:bV l x=some (.pointer (some p))):(execOp a.eval ⟨some d,.nilCheck x,ty,pos,af,gd⟩).run P w=.ok (.value (.pointer (some p))) w:=by
 simp [execOp,h.ev hx]
theorem abd (h:aW dq N a l) (hv:vlM T l op=some v):(execOp a.eval ⟨some d,op,ty,pos,af,gd⟩).run P w=.ok (.value v) w:=by
 unfold vlM at hv
 split at hv
 ·exact b7 h hv
 ·exact aV h hv
 ·split at hv
  ·next hc=>exact ij h hc (by simpa using hv)
  ·next hc=>exact ij h hc (by simpa using hv)
  ·cases hv
 ·split at hv
  ·next hx=>exact dQ h hx (by rw [uW,k7] at hv; exact hv)
  ·cases hv
 ·split at hv
  ·next hx=>
   split at hv
   ·next off F hf=>
    have ht:=T.tyOk F
    split at hv<;>first | (cases hv; done) | skip
    ·next e=>rw [e] at ht; cases hv; exact cU h (T.fdOk _ _ _ _ hf) ht.size ae hx
    ·next e=>rw [e] at ht; cases hv; exact cU h (T.fdOk _ _ _ _ hf) ht.1.size ae hx
    ·next e=>rw [e] at ht; cases hv; exact cU h (T.fdOk _ _ _ _ hf) ht.size ae hx
   ·cases hv
  ·cases hv
 ·split at hv
  ·next hx=>
   split at hv
   ·next off F hf=>
    have ht:=T.tyOk F
    split at hv
    ·next e=>rw [e] at ht; exact BS h (T.fdOk _ _ _ _ hf) ht hx (by rw [uW,k7] at hv; exact hv)
    ·next e=>rw [e] at ht; exact BS h (T.fdOk _ _ _ _ hf) ht.1 hx (by rw [uW,k7] at hv; exact hv)
    ·next n e=>
     rw [e] at ht
     have hq:=Gl _ _ _ _ hv
     cases hq
     have:=MH (w:=w) (d:=d) (ty:=ty) (pos:=pos) (af:=af) (gd:=gd) h (T.fdOk _ _ _ _ hf) ht hx
     rw [this,Gm]
     congr 3
     apply BG
     simp [List.take_drop]
    ·cases hv
   ·cases hv
  ·cases hv
 ·next xs Ts=>
  split at hv
  ·next x t ex et=>
   split at hv
   ·next E A n c e1 e2=>
    have ht:=T.tyOk t
    rw [e1] at ht
    cases hv
    obtain ⟨xs⟩:=xs
    obtain ⟨Ts⟩:=Ts
    dsimp only at ex et
    subst ex et
    exact eW h ht.2 e2
   ·cases hv
  ·cases hv
 ·split at hv
  ·next hx=>cases hv; exact kF h hx rfl
  ·cases hv
 ·split at hv
  ·next hx=>cases hv; exact Gn h hx
  ·cases hv
 ·cases hv
theorem rv {os:List Oper} {gd:Option (Nat×Bool)} (h:Hz os l gd=some true):gd=none∨∃g b og t,gd=some (g,b)/\os.toArray[g]?=some og/\og.dst=some t/\look l t=some (.bool b):=by
 unfold Hz at h
 split at h
 ·exact .inl rfl
 ·split at h
  ·next og ho=>
   split at h
   ·next t ht=>
    split at h
    ·next u hu=>
     have hb:=dw h
     rw [yd] at ho
     refine .inr ⟨_,_,og,t,rfl,by simpa using ho,ht,?_⟩
     cases u<;>first | (cases hb; done) | skip
     rw [hu,uh.1 (show (_==_)=true from hb)]
    ·cases h
   ·cases h
  ·cases h
theorem Cs {os:List Oper} {gd:Option (Nat×Bool)} (h:Hz os l gd=some false):∃g b og t u,gd=some (g,b)/\os.toArray[g]?=some og/\og.dst=some t/\look l t=some u/\Yz u b=false:=by
 unfold Hz at h
 split at h
 ·cases h
 ·split at h
  ·next og ho=>
   split at h
   ·next t ht=>
    split at h
    ·next u hu=>
     rw [yd] at ho
     exact ⟨_,_,og,t,u,rfl,by simpa using ho,ht,hu,dw h⟩
    ·cases h
   ·cases h
  ·cases h
theorem DQ {op:Op} (h:V' op=true) (c:Call):op≠.defer c:=fun e=>by subst e; cases h
end
section
variable {P:Program} {X:Cx P} {w w0:World} {k k':Bd} {s s':List wZ} {l l':List (Nat×Value)} {d:Nat} {op:Op} {v:Value} {own ps:List PF} {Z:List Nat} {os rest:List Oper} {is:List Nat} {ls:Array Bool} {ty:TypeId} {pos:String} {af:Array Edge} {gd:Option (Nat×Bool)} {c:Nat} {dst:Option Nat}
theorem kP (X:Cx P):∀s,yc (qD X s)
 | []=>X.ok
 | .th _::s=>⟨(kP X s).Uk,(kP X s).og⟩
 | .bl _::s=>⟨(kP X s).Uk,(kP X s).og⟩
 | .sc::s=>⟨(kP X s).Uk,(kP X s).og⟩
 | .q _::s=>⟨(kP X s).Uk,(kP X s).og⟩
abbrev PV (X:Cx P) (l:List (Nat×Value)) (op:Op) (v:Value):Prop:=∀{a:Act} {w:World} {d:Nat} {ty:TypeId} {pos:String} {af:Array Edge} {gd:Option (Nat×Bool)},aW X.dq X.N a l->(execOp a.eval ⟨some d,op,ty,pos,af,gd⟩).run P w=.ok (.value v) w
abbrev KV (X:Cx P) (l:List (Nat×Value)) (own ps:List PF) (op:Op) (v:Value):Prop:=∀{a:Act} {w:World} {d:Nat} {ty:TypeId} {pos:String} {af:Array Edge} {gd:Option (Nat×Bool)},aW X.dq X.N a l->Kn w own ps->(execOp a.eval ⟨some d,op,ty,pos,af,gd⟩).run P w=.ok (.value v) w
abbrev CV (X:Cx P) (w:World) (l:List (Nat×Value)) (op:Op) (v:Value):Prop:=∀{a:Act} {d:Nat} {ty:TypeId} {pos:String} {af:Array Edge} {gd:Option (Nat×Bool)},aW X.dq X.N a l->(execOp a.eval ⟨some d,op,ty,pos,af,gd⟩).run P w=.ok (.value v) w
structure WE (X:Cx P) (w:World) (l:List (Nat×Value)) (op:Op) (dst:Option Nat) (C:World->List (Nat×Value)->Prop):Prop where
 go:∀{a:Act} {K:Act->World->Prop} {Q:Exit->Act->World->Prop} {ty:TypeId} {pos:String} {af:Array Edge} {gd:Option (Nat×Bool)},aW X.dq X.N a l->(∀a' w' l',C w' l'->aW X.dq X.N a' l'->K a' w')->Oper.wp P ⟨dst,op,ty,pos,af,gd⟩ a w K Q
theorem DR {i:Nat} (h:zfB Z (ls.setIfInBounds i true)=true):zfB Z ls=true:=by
 unfold zfB at h ⊢
 rw [dP] at h ⊢
 intro z hz
 have h1:=h z hz
 cases h2:ls.getD z false with
 | false=>rfl
 | true=>rw [getD_set_true h2] at h1; cases h1
theorem xc {i:Nat} {o:Oper} (h:uX os i=some o):os.toArray[i]?=some o:=by rw [yd] at h; simpa using h
theorem zY (T:List Nat) (G:World->Prop) (ho:uX os (c / 4)=some ⟨some d,op,ty,pos,af,gd⟩) (hd:Nat.blt d X.N=true) (hg:Hz os l gd=some true) (ht:me os.toArray ls (c / 4) T=true) (hs:v7 os.toArray Z is (ls.setIfInBounds (c / 4) true)=true)
  (hG:∀j w',j ∉ T->Hy Z own ps j w'->G w') (hGw:G w) (hz:zfB Z ls=true->Kn w own ps) (hr:∀{a:Act} {w:World} {d:Nat} {ty:TypeId} {pos:String} {af:Array Edge} {gd:Option (Nat×Bool)},aW X.dq X.N a l->G w->(execOp a.eval ⟨some d,op,ty,pos,af,gd⟩).run P w=.ok (.value v) w)
  (hK:jB X w (.Be own ps Z os is (ls.setIfInBounds (c / 4) true)) s ((d,v)::l)) (a:Act) (e:aW X.dq X.N a l):jU P os.toArray (qD X s) (Hy Z own ps) (is.length+1) ls a w:=by
 have hQ:∀c (a:Act) w,qD X s (.panic c) (a.put (some d) v) w->qD X s (.panic c) a w:=fun c a w h=>absurd h ((kP X s).Uk _ _ _)
 have hk:∀a',aW X.dq X.N a' ((d,v)::l)->jU P os.toArray (qD X s) (Hy Z own ps) is.length (ls.setIfInBounds (c / 4) true) a' w:=fun a' e'=>hK.go a' e' hs fun h=>hz (DR h)
 rcases rv hg with rfl | ⟨g,b,og,t,rfl,h1,h2,h3⟩
 ·exact fH T G (xc ho) ht hQ hG e hd hGw (fun w' hw=>hr e hw) hk
 ·exact Ie T G (xc ho) ht hQ hG e hd h1 h2 h3 hGw (fun w' hw=>hr e hw) hk
theorem Ls {i:Nat} {o:Oper} {a:Act} (hr:Region.ready .any os.toArray ls=[i]) (ho:uX os i=some o) (hg:Hz os l o.guard=some true) (e:aW X.dq X.N a l)
  (h:o.wp P a w (fun a' w'=>(w'=w∨Hy Z own ps i w')/\jU P os.toArray (qD X s) (Hy Z own ps) is.length (ls.setIfInBounds i true) a' w') (qD X s)):jU P os.toArray (qD X s) (Hy Z own ps) (is.length+1) ls a w:=by
 rcases rv hg with h0 | ⟨g,b,og,t,h0,h1,h2,h3⟩
 ·exact mY hr (xc ho) h0 h
 ·exact MJ hr (xc ho) h0 e h1 h2 h3 h
theorem Q7 (M6:Nat.beq (c%4) 3=false) (ho:uX os (c / 4)=some ⟨some d,op,ty,pos,af,gd⟩) (hd:Nat.blt d X.N=true) (hg:Hz os l gd=some false) (hs:v7 os.toArray Z (c::is) ls=true) (hz:zfB Z ls=true->Kn w own ps)
  (hK:jB X w (.Be own ps Z os is (ls.setIfInBounds (c / 4) true)) s ((d,undef)::l)) (a:Act) (e:aW X.dq X.N a l):jU P os.toArray (qD X s) (Hy Z own ps) (is.length+1) ls a w:=by
 obtain ⟨g,b,og,t,u,rfl,h1,h2,h3,h4⟩:=Cs hg
 replace hs:=DO hs M6
 rw [fB] at hs
 have hQ:∀c (a:Act) w,qD X s (.panic c) (a.put (some d) undef) w->qD X s (.panic c) a w:=fun c a w h=>absurd h ((kP X s).Uk _ _ _)
 have hk:∀a',aW X.dq X.N a' ((d,undef)::l)->jU P os.toArray (qD X s) (Hy Z own ps) is.length (ls.setIfInBounds (c / 4) true) a' w:=fun a' e'=>hK.go a' e' hs.2 fun h=>hz (DR h)
 have h5:=hs.1
 split at h5
 ·exact yZ _ (xc ho) h5 hQ e hd h1 h2 h3 h4 hk
 ·rw [fB] at h5
  exact yZ _ (xc ho) h5.1 hQ e hd h1 h2 h3 h4 hk
 ·have h6:=bX h5
  refine ⟨fun h0=>(by rw [h6] at h0; cases h0),fun j hj=>?_⟩
  rw [h6] at hj
  obtain rfl:j=c / 4:=by simpa using hj
  unfold wpOp
  simp only [xc ho]
  rw [aQ (by rw [po h1 e h2 h3 h4]; decide)]
  exact ⟨.inl trivial,hk _ (e.put hd undef)⟩
theorem Gp {b:Bool} (h:DP X.N l k=some (d,op,b,k')):(∃os rest ty pos af gd,k=.list os (⟨some d,op,ty,pos,af,gd⟩::rest)/\k'=.list os rest/\Nat.blt d X.N=true/\V' op=true/\Hz os l gd=some b)∨
  ∃own ps Z os c is ls ty pos af gd,k=.Be own ps Z os (c::is) ls/\k'=.Be own ps Z os is (ls.setIfInBounds (c / 4) true)/\uX os (c / 4)=some ⟨some d,op,ty,pos,af,gd⟩/\Nat.blt d X.N=true/\Hz os l gd=some b/\Nat.beq (c%4) 3=false:=by
 unfold DP at h
 split at h
 ·next os d' KP ty pos af gd rest=>
  cases hb:(Nat.blt d' X.N && V' KP) with
  | false=>rw [hb] at h; cases h
  | true=>
   rw [hb] at h
   dsimp only [cond_true] at h
   rw [fB] at hb
   split at h
   ·next b' hg=>cases h; exact .inl ⟨_,_,_,_,_,_,rfl,rfl,hb.1,hb.2,hg⟩
   ·cases h
 ·next own ps Z os c is ls=>
  split at h
  ·next d' KP ty pos af gd ho=>
   cases hb:(Nat.blt d' X.N && (V' KP && !Nat.beq (c%4) 3)) with
   | false=>rw [hb] at h; cases h
   | true=>
    rw [hb] at h
    dsimp only [cond_true] at h
    rw [fB,fB] at hb
    split at h
    ·next b' hg=>cases h; exact .inr ⟨_,_,_,_,_,_,_,_,_,_,_,rfl,rfl,ho,hb.1,hg,by simpa using hb.2.2⟩
    ·cases h
  ·cases h
 ·cases h
theorem jB.val (hn:DP X.N l k=some (d,op,true,k')) (h:PV X l op v) (hK:jB X w k' s ((d,v)::l)):jB X w k s l:=by
 rcases Gp hn with ⟨os,rest,ty,pos,af,gd,rfl,rfl,hd,rR,hg⟩ | ⟨own,ps,Z,os,c,is,ls,ty,pos,af,gd,rfl,rfl,ho,hd,hg,M6⟩
 ·refine ⟨fun a e=>?_⟩
  rcases rv hg with rfl | ⟨g,b,og,t,rfl,h1,h2,h3⟩
  ·exact gh rfl (DQ rR) (aX e hd (h e) fun a' e'=>hK.go a' e')
  ·exact afw h1 e h2 h3 (DQ rR) (aX e hd (h e) fun a' e'=>hK.go a' e')
 ·refine ⟨fun a e hs hz=>?_⟩
  replace hs:=DO hs M6
  rw [fB] at hs
  have h5:=hs.1
  split at h5
  ·exact zY _ (fun _=>True) ho hd hg h5 hs.2 (fun _ _ _ _=>trivial) trivial hz (fun e _=>h e) hK a e
  ·rw [fB] at h5
   exact zY _ (fun _=>True) ho hd hg h5.1 hs.2 (fun _ _ _ _=>trivial) trivial hz (fun e _=>h e) hK a e
  ·exact Ls (bX h5) ho hg e (aX e hd (h e) fun a' e'=>⟨.inl rfl,hK.go a' e' hs.2 fun h=>hz (DR h)⟩)
theorem jB.skip (hn:DP X.N l k=some (d,op,false,k')) (hK:jB X w k' s ((d,undef)::l)):jB X w k s l:=by
 rcases Gp hn with ⟨os,rest,ty,pos,af,gd,rfl,rfl,hd,rR,hg⟩ | ⟨own,ps,Z,os,c,is,ls,ty,pos,af,gd,rfl,rfl,ho,hd,hg,M6⟩
 ·refine ⟨fun a e=>?_⟩
  obtain ⟨g,b,og,t,u,rfl,h1,h2,h3,h4⟩:=Cs hg
  exact U' h1 e h2 h3 hd h4 fun a' e'=>hK.go a' e'
 ·exact ⟨fun a e hs hz=>Q7 M6 ho hd hg hs hz hK a e⟩
theorem Q8 (hn:nxV X.T X.N k s l=some (k',s',l')) (h:jB X w k' s' l'):jB X w k s l:=by
 unfold nxV at hn
 split at hn
 ·next hx=>
  split at hn
  ·next hv=>cases hn; exact h.val hx fun e=>abd e hv
  ·cases hn
 ·next hx=>cases hn; exact h.skip hx
 ·cases hn
theorem abe (hn:nxE X.T X.N k s l=some (k',s',l')) (h:jB X w k' s' l'):jB X w k s l:=by
 unfold nxE at hn
 split at hn
 ·split at hn<;>first | (cases hn; done) | skip
  ·cases hn; exact ⟨fun a e=>wpIn_seq (h.go a e)⟩
  ·cases hn; exact ⟨fun a e=>rS (h.go a e)⟩
  ·cases hn; exact ⟨fun a e=>wpIn_skip (h.go a e)⟩
  ·cases hn; exact ⟨fun a e=>wpIn_block (h.go a e)⟩
  ·cases hn; exact ⟨fun a e=>wpIn_exit (h.go a e)⟩
  ·cases hn; exact ⟨fun a e=>wpIn_ret (h.go a e)⟩
  ·cases hn; exact ⟨fun a e=>wpIn_label (h.go a e)⟩
 ·split at hn<;>first | (cases hn; done) | skip
  ·cases hn; exact ⟨h.go⟩
  ·cases hn; exact ⟨h.go⟩
  ·cases hn; exact ⟨h.go⟩
  ·cases hn; exact ⟨h.go⟩
  ·cases hb:Nat.beq _ _ with
   | true=>
    rw [hb] at hn
    cases hn
    have:=k5 hb
    subst this
    exact ⟨fun a e=>tt (h.go a e)⟩
   | false=>
    rw [hb] at hn
    cases hn
    exact ⟨fun a e=>afg hb (h.go a e)⟩
  ·cases hn; exact ⟨h.go⟩
  ·cases hn; exact ⟨h.go⟩
  ·cases hn; exact ⟨h.go⟩
  ·cases hn; exact ⟨h.go⟩
  ·cases hn; exact ⟨h.go⟩
  ·cases hn; exact ⟨h.go⟩
 ·split at hn
  ·cases hn; exact ⟨h.go⟩
  ·exact Q8 hn h
 ·split at hn
  ·cases hn
   refine ⟨fun a e hs _=>rN ?_ (h.go a e) _⟩
   unfold v7 at hs
   exact List.isEmpty_iff.1 hs
  ·exact Q8 hn h
theorem ib:∀(n:Nat) {k:Bd} {s:List wZ} {l:List (Nat×Value)},Mq X w n k s l->jB X w k s l
 | 0,_,_,_,h=>h
 | n+1,k,s,l,h=>by
  unfold Mq at h
  split at h
  ·next hn=>exact abe hn (ib n h)
  ·exact h
end
def isT (P:Program) (F:Nat):Uj->Prop
 | .no=>True
 | .one=>jx P F
 | .agg n=>lg P F n
 | .sl E=>jx P F/\P.underlying F=some (.slice E)
def okT (P:Program):List (Nat×Uj)->Prop
 | []=>True
 | e::r=>isT P e.1 e.2/\okT P r
def okG (P:Program) (S:Nat):Nat->List (Nat×Nat)->Prop
 | _,[]=>True
 | i,e::r=>n6 P S i e.1 e.2/\okG P S (i+1) r
def okF (P:Program):List (Nat×List (Nat×Nat))->Prop
 | []=>True
 | e::r=>okG P e.1 0 e.2/\okF P r
def lkT:List (Nat×Uj)->Nat->Uj
 | [],_=>.no
 | (T,i)::r,F=>bif Nat.beq T F then i else lkT r F
def lkG:List (Nat×Nat)->Nat->Option (Nat×Nat)
 | [],_=>none
 | e::_,0=>some e
 | _::r,n+1=>lkG r n
def lkF:List (Nat×List (Nat×Nat))->Nat->Nat->Option (Nat×Nat)
 | [],_,_=>none
 | (T,fs)::r,S,f=>bif Nat.beq T S then lkG fs f else lkF r S f
theorem Q9 {P:Program}:∀(L:List (Nat×Uj)),okT P L->∀F,isT P F (lkT L F)
 | [],_,_=>trivial
 | (T,i)::r,h,F=>by
  unfold lkT
  cases hb:Nat.beq T F with
  | true=>rw [<- k5 hb]; exact h.1
  | false=>exact Q9 r h.2 F
theorem Ra {P:Program} {S:Nat}:∀(L:List (Nat×Nat)) (i n:Nat) (p:Nat×Nat),okG P S i L->lkG L n=some p->n6 P S (i+n) p.1 p.2
 | [],_,_,_,_,h=>by cases h
 | _::_,_,0,_,h,e=>by cases e; exact h.1
 | _::r,i,n+1,p,h,e=>by
  have:=Ra r (i+1) n p h.2 e
  rw [show i+(n+1)=i+1+n by omega]
  exact this
theorem Rc {P:Program}:∀(L:List (Nat×List (Nat×Nat))),okF P L->∀S f p,lkF L S f=some p->n6 P S f p.1 p.2
 | [],_,_,_,_,h=>by cases h
 | (T,fs)::r,h,S,f,p,e=>by
  unfold lkF at e
  cases hb:Nat.beq T S with
  | true=>
   rw [hb] at e
   have:=Ra fs 0 f p h.1 e
   rw [<- k5 hb]
   rw [fz] at this
   exact this
  | false=>rw [hb] at e; exact Rc r h.2 S f p e
def alo {P:Program} {L:List (Nat×Uj)} {F:List (Nat×List (Nat×Nat))} (h:okT P L) (k:okF P F):Gi P where
 ty:=lkT L
 fd:=lkF F
 tyOk T:=by
  have:=Q9 L h T
  revert this
  cases lkT L T<;>exact id
 fdOk _ _ _ _ e:=Rc F k _ _ _ e
def Re:Uj->Bool
 | .one=>true
 | .sl _=>true
 | _=>false
def Gq:Uj->Nat
 | .one=>1
 | .sl _=>1
 | .agg n=>n
 | .no=>0
def abf (v:Value) (k:Array Value->Prop):Prop:=match v with
 | .agg cs=>k cs
 | v=>k #[v]
theorem Lt {v:Value} {k:Array Value->Prop} (h:abf v k):k v.cells:=by cases v<;>exact h
def DS:List Value->Nat->List Value->(List Value->Prop)->Prop
 | c,_,[],k=>k c
 | [],_,_::_,_=>False
 | _::c,0,u::us,k=>DS c 0 us fun r=>k (u::r)
 | v::c,o+1,us,k=>DS c o us fun r=>k (v::r)
def xB:List PF->Nat->PF->(List PF->Prop)->Prop
 | [],_,_,k=>k []
 | _::l,0,b,k=>k (b::l)
 | e::l,n+1,b,k=>xB l n b fun r=>k (e::r)
theorem kQ:∀(l:List PF) (n:Nat) (b:PF) (k:List PF->Prop),xB l n b k->k (l.set n b)
 | [],_,_,_,h=>h
 | _::_,0,_,_,h=>h
 | _::l,n+1,_,_,h=>kQ l n _ _ h
theorem DT (v:Value):∀(vs c:List Value) (o:Nat),wr (o+1) vs (v::c).toArray=(v::(wr o vs c.toArray).toList).toArray
 | [],c,o=>by simp [wr]
 | u::vs,c,o=>by
  unfold wr
  have:((v::c).toArray).setIfInBounds (o+1) u=(v::(c.set o u)).toArray:=by simp
  rw [this,DT v vs (c.set o u) (o+1)]
  simp
theorem ye:∀(c:List Value) (o:Nat) (us:List Value) (k:List Value->Prop),DS c o us k->o+us.length<=c.length/\k (wr o us c.toArray).toList∨(us=[]/\k c)
 | c,o,[],k,h=>.inr ⟨rfl,by unfold DS at h; exact h⟩
 | [],_,_::_,_,h=>by unfold DS at h; exact h.elim
 | v::c,0,u::us,k,h=>.inl (by
  unfold DS at h
  rcases ye c 0 us _ h with ⟨h1,h2⟩ | ⟨h1,h2⟩
  ·refine ⟨by simp at h1 ⊢; omega,?_⟩
   unfold wr
   have:((v::c).toArray).setIfInBounds 0 u=(u::c).toArray:=by simp
   rw [this,DT]
   exact h2
  ·subst h1
   refine ⟨by simp,?_⟩
   simp only [wr]
   have:((v::c).toArray).setIfInBounds 0 u=(u::c).toArray:=by simp
   rw [this]
   exact h2)
 | v::c,o+1,u::us,k,h=>.inl (by
  unfold DS at h
  rcases ye c o (u::us) _ h with ⟨h1,h2⟩ | ⟨h1,h2⟩
  ·refine ⟨by simp at h1 ⊢; omega,?_⟩
   rw [DT]
   exact h2
  ·cases h1)
section
variable {P:Program} {X:Cx P} {w w0:World} {k k':Bd} {s:List wZ} {l l':List (Nat×Value)} {own ps:List PF} {os rest:List Oper} {d i:Nat} {dst:Option Nat} {op:Op} {v:Value} {x y:Operand} {Z:List Nat} {C:World->List (Nat×Value)->Prop}
theorem vE (hn:DP X.N l k=some (d,op,true,k')) (h:PV X l op v) (hK:Mq X w 999 k' s ((d,v)::l)):jB X w k s l:=(ib _ hK).val hn h
theorem IY (hn:hdL X.N l k=some (dst,op,k')):∃os rest ty pos af gd,k=.list os (⟨dst,op,ty,pos,af,gd⟩::rest)/\k'=.list os rest/\V' op=true/\Hz os l gd=some true/\∀d,dst=some d->Nat.blt d X.N=true:=by
 unfold hdL at hn
 split at hn
 ·next os d' KP ty pos af gd rest=>
  cases hb:(V' KP && dOk X.N d') with
  | false=>rw [hb] at hn; cases hn
  | true=>
   rw [hb] at hn
   dsimp only [cond_true] at hn
   rw [fB] at hb
   split at hn
   ·next hg=>cases hn; exact ⟨_,_,_,_,_,_,rfl,rfl,hb.1,hg,fun d h=>by have:=hb.2; rw [h] at this; exact this⟩
   ·cases hn
 ·cases hn
theorem abg (hn:hdZ X.N l k=some (dst,op,i,Z,own,ps,k')):∃os c is ls ty pos af gd,k=.Be own ps Z os (c::is) ls/\k'=.Be own ps Z os is (ls.setIfInBounds i true)/\i=c / 4/\c%4=2/\uX os i=some ⟨dst,op,ty,pos,af,gd⟩/\Hz os l gd=some true/\∀d,dst=some d->Nat.blt d X.N=true:=by
 unfold hdZ at hn
 split at hn
 ·next jP ps' Z' os c is ls=>
  split at hn
  ·next d' KP ty pos af gd ho=>
   cases hb:(Nat.beq (c%4) 2 && dOk X.N d') with
   | false=>rw [hb] at hn; cases hn
   | true=>
    rw [hb] at hn
    dsimp only [cond_true] at hn
    rw [fB] at hb
    split at hn
    ·next hg=>cases hn; exact ⟨_,_,_,_,_,_,_,_,rfl,rfl,rfl,k5 hb.1,ho,hg,fun d h=>by have:=hb.2; rw [h] at this; exact this⟩
    ·cases hn
  ·cases hn
 ·cases hn
theorem eE (hn:hdL X.N l k=some (dst,op,k')) (h:WE X w l op dst fun w' l'=>Mq X w' 999 k' s l'):jB X w k s l:=by
 obtain ⟨os,rest,ty,pos,af,gd,rfl,rfl,rR,hg,_⟩:=IY hn
 refine ⟨fun a e=>?_⟩
 rcases rv hg with rfl | ⟨g,b,og,t,rfl,h1,h2,h3⟩
 ·exact gh rfl (DQ rR) (h.go e fun a' w' l' hM e'=>(ib _ hM).go a' e')
 ·exact afw h1 e h2 h3 (DQ rR) (h.go e fun a' w' l' hM e'=>(ib _ hM).go a' e')
theorem eS (hn:hdZ X.N l k=some (dst,op,i,Z,own,ps,k')) (h:WE X w l op dst fun w' l'=>Hy Z own ps i w'/\Mq X w' 999 k' s l'):jB X w k s l:=by
 obtain ⟨os,c,is,ls,ty,pos,af,gd,rfl,rfl,rfl,hc,ho,hg,_⟩:=abg hn
 refine ⟨fun a e hs hz=>?_⟩
 replace hs:=DO hs (by rw [hc]; rfl)
 rw [fB,hc] at hs
 refine Ls (bX hs.1) ho hg e (h.go e fun a' w' l' hM e'=>⟨.inr hM.1,(ib _ hM.2).go a' e' hs.2 fun hz'=>hM.1.resolve_left fun hq=>?_⟩)
 have h1:=dP.1 hz' _ (List.contains_iff_mem.1 hq)
 have h2:Region.ready .any os.toArray ls=[c / 4]:=bX hs.1
 have h3:=(mem_ready.1 (show c / 4∈Region.ready .any os.toArray ls by rw [h2]; simp)).1
 rcases dr (c / 4) ls.size with cD | vG
 ·rw [jf,um cD] at h1
  cases h1
 ·rw [jf,mQ vG] at h3
  cases h3
theorem WE.val (hd:Nat.blt d X.N=true) (h:CV X w l op v) (hK:C w ((d,v)::l)):WE X w l op (some d) C:=⟨fun e hC=>aX e hd (h e) fun a' e'=>hC a' w _ hK e'⟩
theorem cE (hn:hdL X.N l k=some (some d,op,k')) (h:CV X w l op v) (hK:Mq X w 999 k' s ((d,v)::l)):jB X w k s l:=by
 obtain ⟨_,_,_,_,_,_,_,_,_,_,hd⟩:=IY hn
 exact eE hn (WE.val (hd d rfl) h hK)
theorem sE (hn:hdK X.N l k=some (d,op,own,ps,k')) (h:KV X l own ps op v) (hK:Mq X w 999 k' s ((d,v)::l)):jB X w k s l:=by
 unfold hdK at hn
 split at hn
 ·next jP ps' Z os c is ls=>
  split at hn
  ·next d' KP ty pos af gd ho=>
   cases hb:(Nat.beq (c%4) 1 && Nat.blt d' X.N) with
   | false=>rw [hb] at hn; cases hn
   | true=>
    rw [hb] at hn
    dsimp only [cond_true] at hn
    rw [fB] at hb
    split at hn
    ·next hg=>
     cases hn
     refine ⟨fun a e hs hz=>?_⟩
     have hc:=k5 hb.1
     replace hs:=DO hs (by rw [hc]; rfl)
     rw [fB,hc] at hs
     replace hs:((me os.toArray ls (c / 4) (Gk os.toArray (c / 4)) && Z.all fun z=>(Gk os.toArray (c / 4)).contains z)=true)/\_:=hs
     rw [fB] at hs
     obtain ⟨⟨ht,hZ⟩,hs⟩:=hs
     have hZ':=dP.1 hZ
     have hf:zfB Z ls=true:=dP.2 fun z ld=>by
      have ht':=ht
      unfold me at ht'
      simp only [fB] at ht'
      obtain ⟨⟨⟨⟨_,h2⟩,h3⟩,_⟩,h5⟩:=ht'
      have h6:c / 4∈Region.ready .any os.toArray ls:=by simpa using h5
      rw [((mq h2).no (uB h3) (Kf (mem_ready.1 h6).1) (z+1) z ae (by simpa using hZ' z ld)).1]
      rfl
     exact zY _ (fun w=>Kn w own ps) ho hb.2 hg ht hs (fun j w' hj hS=>hS.resolve_left fun hq=>hj (by simpa using hZ' j (by simpa using hq))) (hz hf) hz (fun e hw=>h e hw) (ib _ hK) a e
    ·cases hn
  ·cases hn
 ·cases hn
theorem sk (h:Kn w own ps) {M:Prop} (hM:M):Hy Z own ps i w/\M:=⟨.inr h,hM⟩
theorem sz (h:Z.contains i=true) {M:Prop} (hM:M):Hy Z own ps i w/\M:=⟨.inl h,hM⟩
theorem St.kd (h:St w0 w own ps) (i j:Nat):Kn w (own.drop i) (ps.drop j):=⟨fun e he=>h.mine e (kj he),fun p hp=>h.pers p (kj hp)⟩
section
variable {ik:IntKind} {m n:Int} {Ty yt:Nat}
theorem ei (e:(DP X.N l k,bV l x,bV l y)=(some (d,.binOp .lss Ty x y yt,true,k'),some (.int ik m),some (.int ik n))) (hK:Mq X w 999 k' s ((d,.bool (decide (m<n)))::l)):jB X w k s l:=vE (aM (·.1) e) (fun h=>bg h (aM (·.2.1) e) (aM (·.2.2) e) (by cases ik<;>cases x<;>cases y<;>rfl)) hK
theorem IZ (e:(DP X.N l k,bV l x,bV l y)=(some (d,.binOp .leq Ty x y yt,true,k'),some (.int ik m),some (.int ik n))) (hK:Mq X w 999 k' s ((d,.bool (decide (m<=n)))::l)):jB X w k s l:=vE (aM (·.1) e) (fun h=>bg h (aM (·.2.1) e) (aM (·.2.2) e) (by cases ik<;>cases x<;>cases y<;>rfl)) hK
theorem pd (e:(DP X.N l k,bV l x,bV l y)=(some (d,.binOp .gtr Ty x y yt,true,k'),some (.int ik m),some (.int ik n))) (hK:Mq X w 999 k' s ((d,.bool (decide (m>n)))::l)):jB X w k s l:=vE (aM (·.1) e) (fun h=>bg h (aM (·.2.1) e) (aM (·.2.2) e) (by cases ik<;>cases x<;>cases y<;>rfl)) hK
theorem xd (e:(DP X.N l k,bV l x,bV l y)=(some (d,.binOp .geq Ty x y yt,true,k'),some (.int ik m),some (.int ik n))) (hK:Mq X w 999 k' s ((d,.bool (decide (m>=n)))::l)):jB X w k s l:=vE (aM (·.1) e) (fun h=>bg h (aM (·.2.1) e) (aM (·.2.2) e) (by cases ik<;>cases x<;>cases y<;>rfl)) hK
theorem cZ (e:(DP X.N l k,bV l x,bV l y)=(some (d,.binOp .eql Ty x y yt,true,k'),some (.int ik m),some (.int ik n))) (hK:Mq X w 999 k' s ((d,.bool (m==n))::l)):jB X w k s l:=vE (aM (·.1) e) (fun h=>bg h (aM (·.2.1) e) (aM (·.2.2) e) (by cases ik<;>cases x<;>cases y<;>rfl)) hK
theorem ir (e:(DP X.N l k,bV l x,bV l y)=(some (d,.binOp .neq Ty x y yt,true,k'),some (.int ik m),some (.int ik n))) (hK:Mq X w 999 k' s ((d,.bool (m !=n))::l)):jB X w k s l:=vE (aM (·.1) e) (fun h=>bg h (aM (·.2.1) e) (aM (·.2.2) e) (by cases ik<;>cases x<;>cases y<;>rfl)) hK
theorem Rf (e:(DP X.N l k,bV l x,bV l y)=(some (d,.binOp .add Ty x y yt,true,k'),some (.int .i64 m),some (.int .i64 n))) (hw:-9223372036854775808<=m+n/\m+n<=9223372036854775807) (hK:Mq X w 999 k' s ((d,.int .i64 (m+n))::l)):jB X w k s l:=vE (aM (·.1) e) (fun h=>im h (aM (·.2.1) e) (aM (·.2.2) e) (IntWalk.i64_in _ ae)) hK
theorem yf (e:(DP X.N l k,bV l x,bV l y)=(some (d,.binOp .sub Ty x y yt,true,k'),some (.int .i64 m),some (.int .i64 n))) (hw:-9223372036854775808<=m - n/\m - n<=9223372036854775807) (hK:Mq X w 999 k' s ((d,.int .i64 (m - n))::l)):jB X w k s l:=vE (aM (·.1) e) (fun h=>qW h (aM (·.2.1) e) (aM (·.2.2) e) (IntWalk.i64_in _ ae)) hK
theorem xC (e:(DP X.N l k,bV l x,bV l y)=(some (d,.binOp .mul Ty x y yt,true,k'),some (.int .i64 m),some (.int .i64 n))) (hw:-9223372036854775808<=m*n/\m*n<=9223372036854775807) (hK:Mq X w 999 k' s ((d,.int .i64 (m*n))::l)):jB X w k s l:=vE (aM (·.1) e) (fun h=>yX h (aM (·.2.1) e) (aM (·.2.2) e) (IntWalk.i64_in _ ae)) hK
theorem can {i j:Nat} (e:(DP X.N l k,bV l x,bV l y)=(some (d,.binOp .add Ty x y yt,true,k'),some (.int .i64 (i:Nat)),some (.int .i64 (j:Nat)))) (hw:i+j<=9223372036854775807) (hK:Mq X w 999 k' s ((d,.int .i64 ((i+j:Nat):Int))::l)):jB X w k s l:=vE (aM (·.1) e) (fun h=>im h (aM (·.2.1) e) (aM (·.2.2) e) (by rw [IntWalk.i64_in _ ae]; omega)) hK
theorem xD {i j:Nat} (e:(DP X.N l k,bV l x,bV l y)=(some (d,.binOp .sub Ty x y yt,true,k'),some (.int .i64 (i:Nat)),some (.int .i64 (j:Nat)))) (hw:j<=i/\i<=9223372036854775807) (hK:Mq X w 999 k' s ((d,.int .i64 ((i - j:Nat):Int))::l)):jB X w k s l:=vE (aM (·.1) e) (fun h=>qW h (aM (·.2.1) e) (aM (·.2.2) e) (by rw [IntWalk.i64_in _ ae]; omega)) hK
theorem Nl {i j:Nat} (e:(DP X.N l k,bV l x,bV l y)=(some (d,.binOp .mul Ty x y yt,true,k'),some (.int .i64 (i:Nat)),some (.int .i64 (j:Nat)))) (hw:i*j<=9223372036854775807) (hK:Mq X w 999 k' s ((d,.int .i64 ((i*j:Nat):Int))::l)):jB X w k s l:=vE (aM (·.1) e) (fun h=>yX h (aM (·.2.1) e) (aM (·.2.2) e) (by rw [IntWalk.i64_in _ (by rw [<- oz]; omega),oz])) hK
theorem Wa (e:(DP X.N l k,bV l x)=(some (d,.unOp .neg Ty x,true,k'),some (.int .i64 m))) (hw:-9223372036854775807<=m/\m<=9223372036854775807) (hK:Mq X w 999 k' s ((d,.int .i64 (-m))::l)):jB X w k s l:=vE (aM (·.1) e) (fun h=>kF h (aM (·.2) e) (by
 have e:IntKind.i64.wrap (-m)=-m:=IntWalk.i64_in _ ae
 simp [Op.unary,Op.intArith,e])) hK
end
section
variable {T:Gi P}
theorem Lu {F:Nat} (h:Re (T.ty F)=true):jx P F:=by
 have:=T.tyOk F
 cases e:T.ty F with
 | no=>rw [e] at h; cases h
 | one=>rw [e] at this; exact this
 | agg n=>rw [e] at h; cases h
 | sl E=>rw [e] at this; exact this.1
theorem Y5 {F n:Nat} (h:T.ty F=.agg n):lg P F n:=by
 have:=T.tyOk F
 rw [h] at this; exact this
theorem Rg {F n:Nat} (h:Gq (T.ty F)=n+1):∃i,P.info? F=some i/\i.size=n+1:=by
 have:=T.tyOk F
 cases e:T.ty F with
 | no=>rw [e] at h; cases h
 | one=>rw [e] at this h; rw [<- h]; exact this.size
 | agg n=>rw [e] at this h; rw [<- h]; exact this.size
 | sl E=>rw [e] at this h; rw [<- h]; exact this.1.size
end
section
variable {F g o n:Nat} {c cs:Array Value} {t:TypeId}
theorem Rh (h:Gh c.toList o=some v):c[o]?=some v:=by rw [uW,k7] at h; exact h
theorem lE (j:Nat) (hs:St w0 w own ps) (e:(hdL X.N l k,Re (X.T.ty F),bV l x,own[j]?,Gh c.toList o)=(some (some d,.load F x,k'),true,some (.pointer (some ⟨g,o,none⟩)),some (bk g c t),some v)) (hK:Mq X w 999 k' s ((d,v)::l)):jB X w k s l:=
 cE (aM (·.1) e) (fun h=>aS h (Lu (aM (·.2.1) e)) (aM (·.2.2.1) e) (hs.nA (aM (·.2.2.2.1) e)) (Rh (aM (·.2.2.2.2) e))) hK
theorem gE (j:Nat) (hs:St w0 w own ps) (e:(hdL X.N l k,X.T.ty F,bV l x,own[j]?,c.size)=(some (some d,.load F x,k'),.agg n,some (bB g),some (bk g c t),n)) (hK:Mq X w 999 k' s ((d,.agg c)::l)):jB X w k s l:=
 cE (aM (·.1) e) (fun h=>dX h (Y5 (aM (·.2.1) e)) (aM (·.2.2.1) e) (hs.nA (aM (·.2.2.2.1) e)) (aM (·.2.2.2.2) e)) hK
theorem Kn.bk {j:Nat} (h:Kn w own ps) (hk:own[j]?=some (W.bk g c t)):w.heap[g]?=some (.cells c t (0,0)):=h.1 _ (aB hk)
theorem lS (j:Nat) (e:(hdK X.N l k,Re (X.T.ty F),bV l x,own[j]?,Gh c.toList o)=(some (d,.load F x,own,ps,k'),true,some (.pointer (some ⟨g,o,none⟩)),some (bk g c t),some v)) (hK:Mq X w 999 k' s ((d,v)::l)):jB X w k s l:=
 sE (aM (·.1) e) (fun h hk=>aS h (Lu (aM (·.2.1) e)) (aM (·.2.2.1) e) (hk.bk (aM (·.2.2.2.1) e)) (Rh (aM (·.2.2.2.2) e))) hK
theorem gS (j:Nat) (e:(hdK X.N l k,X.T.ty F,bV l x,own[j]?,c.size)=(some (d,.load F x,own,ps,k'),.agg n,some (bB g),some (bk g c t),n)) (hK:Mq X w 999 k' s ((d,.agg c)::l)):jB X w k s l:=
 sE (aM (·.1) e) (fun h hk=>dX h (Y5 (aM (·.2.1) e)) (aM (·.2.2.1) e) (hk.bk (aM (·.2.2.2.1) e)) (aM (·.2.2.2.2) e)) hK
theorem gN (hs:St w0 w own ps) (e:(Nat.blt d X.N,bV l x)=(true,some v)) (h:abf v fun c=>∀w' g,St w0 w' (bk g c F::own) ps->C w' ((d,bB g)::l)):WE X w l (.box F x) (some d) C:=
 ⟨fun h1 hC=>jL h1 hs (aM (·.1) e) (aM (·.2) e) rfl fun a' w' g h' qq=>hC a' w' _ (Lt h w' g qq) h'⟩
theorem eL (hz:∃i,P.info? F=some i/\i.zero=some v) (hs:St w0 w own ps) (e:Nat.blt d X.N=true) (h:abf v fun c=>∀w' g,St w0 w' (bk g c F::own) ps->C w' ((d,bB g)::l)):WE X w l (.alloc F) (some d) C:=
 ⟨fun h1 hC=>fA h1 hs e hz rfl fun a' w' g h' qq=>hC a' w' _ (Lt h w' g qq) h'⟩
theorem j0 (j:Nat) (hs:St w0 w own ps) (e:(Re (X.T.ty F),bV l x,bV l y,own[j]?,v.oneCell')=(true,some (.pointer (some ⟨g,o,none⟩)),some v,some (bk g c t),true)) (h:DS c.toList o [v] fun c'=>xB own j (bk g c'.toArray t) fun jP=>∀w',St w0 w' jP ps->C w' l):WE X w l (.store F x y) none C:=by
 rcases ye _ _ _ _ h with ⟨h1,h2⟩ | ⟨h1,_⟩
 ·have h3:=kQ _ _ _ _ h2
  refine ⟨fun hh hC=>rM hh hs (Lu (aM (·.1) e)).size (aM (·.2.1) e) (aM (·.2.2.1) e) (aM (·.2.2.2.1) e) (by simp at h1; omega) (aM (·.2.2.2.2) e) rfl fun a' w' h' qq=>hC a' w' _ (h3 w' ?_) h'⟩
  rw [show (wr o [v] c.toList.toArray).toList.toArray=c.setIfInBounds o v from rfl]
  exact qq
 ·cases h1
theorem cX (j:Nat) (hs:St w0 w own ps) (e:(Gq (X.T.ty F),bV l x,bV l y,own[j]?,cs.size,cs.toList.all (·.oneCell'))=(n+1,some (.pointer (some ⟨g,o,none⟩)),some (.agg cs),some (bk g c t),n+1,true)) (h:DS c.toList o cs.toList fun c'=>xB own j (bk g c'.toArray t) fun jP=>∀w',St w0 w' jP ps->C w' l):WE X w l (.store F x y) none C:=by
 have hz:=aM (·.2.2.2.2.1) e
 dsimp only at hz
 rcases ye _ _ _ _ h with ⟨h1,h2⟩ | ⟨h1,_⟩
 ·have h3:=kQ _ _ _ _ h2
  refine ⟨fun hh hC=>fW hh hs (Rg (aM (·.1) e)) (aM (·.2.1) e) (aM (·.2.2.1) e) (aM (·.2.2.2.1) e) hz (by simpa using h1) (aM (·.2.2.2.2.2) e) rfl fun a' w' h' qq=>hC a' w' _ (h3 w' ?_) h'⟩
  simpa using qq
 ·rw [<- mO,h1] at hz; cases hz
end
section
variable {f:FuncId} {xs:Array Operand} {Ts:Array TypeId} {vs:Array Value} {R:Ending->World->Prop}
theorem dx (hb:∀args w,(callFunc f args).run P w=.ok (.enter f args) w) (hc:Calls P f vs w fun e w'=>e=.returned v/\Below w.heap.size w w') (hs:St w0 w own ps) (e:(Nat.blt d X.N,xs.toList.map (bV l))=(true,vs.toList.map some)) (h:∀w',St w0 w' own ps->C w' ((d,v)::l)):WE X w l (.call ⟨.value (.func f),xs,Ts⟩) (some d) C:=
 ⟨fun h1 hC=>cV h1 (aM (·.1) e) hb (aM (·.2) e) hc fun _ w' ⟨he,hB⟩=>⟨v,he,fun a' h'=>hC a' w' _ (h w' (hs.call hB)) h'⟩⟩
theorem cS (hb:∀args w,(callFunc f args).run P w=.ok (.enter f args) w) (hc:Calls P f vs w R) (e:(Nat.blt d X.N,xs.toList.map (bV l))=(true,vs.toList.map some)) (h:∀e w',R e w'->∃v,e=.returned v/\C w' ((d,v)::l)):WE X w l (.call ⟨.value (.func f),xs,Ts⟩) (some d) C:=
 ⟨fun h1 hC=>cV h1 (aM (·.1) e) hb (aM (·.2) e) hc fun e w' hr=>by
  obtain ⟨v,he,hk⟩:=h e w' hr
  exact ⟨v,he,fun a' h'=>hC a' w' _ hk h'⟩⟩
end
section
variable {z:Operand} {b b':Bool} {c1 c2:Code} {p:Prop} [Decidable p] {m n:Int} {N:Nat}
theorem iE (hz:bV l z=some (.bool b)) (ht:b=true->Mq X w 999 (.code c1) s l) (hf:b=false->Mq X w 999 (.code c2) s l):jB X w (.code (.cond z c1 c2)) s l:=⟨fun a h=>Ik h hz (fun e=>(ib _ (ht e)).go a h) fun e=>(ib _ (hf e)).go a h⟩
theorem iT (hz:bV l z=some (.bool b)) (hb:b=true) (ht:Mq X w 999 (.code c1) s l):jB X w (.code (.cond z c1 c2)) s l:=⟨fun a h=>PA h hz hb ((ib _ ht).go a h)⟩
theorem iF (hz:bV l z=some (.bool b)) (hb:b=false) (hf:Mq X w 999 (.code c2) s l):jB X w (.code (.cond z c1 c2)) s l:=⟨fun a h=>PB h hz hb ((ib _ hf).go a h)⟩
theorem dE (hz:bV l z=some (.bool (decide p))) (ht:p->Mq X w 999 (.code c1) s l) (hf:¬p->Mq X w 999 (.code c2) s l):jB X w (.code (.cond z c1 c2)) s l:=iE hz (fun h=>ht (bX h)) fun h=>hf (fT h)
theorem dN (hz:bV l z=some (.bool (!decide p))) (ht:¬p->Mq X w 999 (.code c1) s l) (hf:p->Mq X w 999 (.code c2) s l):jB X w (.code (.cond z c1 c2)) s l:=iE hz (fun h=>ht (by simpa using h)) fun h=>hf (by simpa using h)
theorem kB (hb:b=b') (h:Mq X w N k s ((d,.bool b')::l)):Mq X w N k s ((d,.bool b)::l):=by subst hb; exact h
theorem wB (ht:b=true->Mq X w N k s ((d,.bool true)::l)) (hf:b=false->Mq X w N k s ((d,.bool false)::l)):Mq X w N k s ((d,.bool b)::l):=by cases b; exact hf rfl; exact ht rfl
theorem wD (ht:p->Mq X w N k s ((d,.bool true)::l)) (hf:¬p->Mq X w N k s ((d,.bool false)::l)):Mq X w N k s ((d,.bool (decide p))::l):=wB (fun h=>ht (bX h)) fun h=>hf (fT h)
theorem wQ (ht:m=n->Mq X w N k s ((d,.bool true)::l)) (hf:m≠n->Mq X w N k s ((d,.bool false)::l)):Mq X w N k s ((d,.bool (m==n))::l):=wB (fun h=>ht (eq_of_beq h)) fun h=>hf (ne_of_beq_false h)
theorem wN (ht:m≠n->Mq X w N k s ((d,.bool true)::l)) (hf:m=n->Mq X w N k s ((d,.bool false)::l)):Mq X w N k s ((d,.bool (m !=n))::l):=wB (fun h=>ht (by simpa using h)) fun h=>hf (by simpa using h)
theorem Lv {v':Value} (hv:v=v') (h:Mq X w N k s ((d,v')::l)):Mq X w N k s ((d,v)::l):=by subst hv; exact h
end
def KJ (X:Cx P) (J:Nat->List (Nat×Value)->World->Prop) (mz:Nat) (a:Act) (w:World):Prop:=∃m',m'<mz/\∃l',aW X.dq X.N a l'/\J m' l' w
def KC (X:Cx P) (J:List (Nat×Value)->World->Prop) (a:Act) (w:World):Prop:=∃l',aW X.dq X.N a l'/\J l' w
section
variable {c:Code} {mz m':Nat} {l0:List (Nat×Value)}
theorem fX (J:Nat->List (Nat×Value)->World->Prop) (h0:J m' l0 w) (hs:yW l l0) (hb:∀mz l w,J mz l w->Mq X w 999 (.code c) (.q (KJ X J mz)::s) l):jB X w (.code (.loop c)) s l:=
 ⟨fun _ e=>Dn (fun mz a w=>∃l',aW X.dq X.N a l'/\J mz l' w) m' ⟨l0,e.sub hs,h0⟩ fun mz a w ⟨l',e',hJ⟩=>(ib _ (hb mz l' w hJ)).go a e'⟩
theorem dF {J:Nat->List (Nat×Value)->World->Prop} (hJ:J m' l' w) (hs:yW l l') (cD:m'<mz):jB X w (.fin .normal) (.q (KJ X J mz)::s) l:=⟨fun _ e=>⟨m',cD,l',e.sub hs,hJ⟩⟩
def Wb:Nat->List wZ->(Act->World->Prop)->List wZ
 | _,[],_=>[]
 | 0,_::s,K=>.q K::s
 | n+1,f::s,K=>f::Wb n s K
def abh:Nat->List wZ->Option (Code×List wZ)
 | 0,.th c::s=>some (c,s)
 | n+1,_::s=>abh n s
 | _,_=>none
theorem Ri {K:Act->World->Prop} {c2:Code} {s2:List wZ}:∀(n:Nat) (s:List wZ),abh n s=some (c2,s2)->(∀a w,K a w->c2.wpIn (WF X.ro) X.m P (qD X s2) a w)->∀e a w,qD X (Wb n s K) e a w->qD X s e a w
 | 0,.th c::s,h,hK,e,a,w,hq=>by
  cases h
  cases e<;>first | exact hK a w hq | exact hq
 | n+1,f::s,h,hK,e,a,w,hq=>by
  have ih:=Ri n s (by cases f<;>exact h) hK
  cases f with
  | th c=>cases e<;>first | exact wpIn_mono hq ih | exact ih _ _ _ hq
  | bl i=>
   cases e<;>first | exact ih _ _ _ hq | skip
   next j=>
    show Exit.inBlock i (qD X s) (.exit j) a w
    have hq':Exit.inBlock i (qD X (Wb n s K)) (.exit j) a w:=hq
    unfold Exit.inBlock at hq' ⊢
    dsimp only at hq' ⊢
    split at hq'
    ·next h=>rw [aR h]; exact ih _ _ _ hq'
    ·next h=>rw [aQ h]; exact ih _ _ _ hq'
  | sc=>cases e<;>first | exact ih _ _ _ hq | exact hq
  | q K'=>cases e<;>first | exact hq | exact ih _ _ _ hq
theorem xe {F:Fence} {m:Nat} {o:Oper} {a:Act} {w:World} {K K':Act->World->Prop} {Q Q':Exit->Act->World->Prop} (hQ:yc Q) (h:∀a w,K a w->K' a w) (hh:o.wpIn F m P a w K Q):o.wpIn F m P a w K' Q':=by
 refine ⟨hh.1,?_⟩
 have hh:=hh.2
 generalize (o.semAt F.round a.eval).run P w=r at*
 have ho:¬LetsOut Q:=fun ⟨_,_,q⟩=>hQ.og _ _ q
 cases r with
 | ok n w'=>
  cases n<;>simp only [Oper.uponIn] at hh ⊢<;>
   first
    | exact h _ _ hh
    | exact ⟨hh.1,CallsIn.mono hh.2 (fun e w'' he=>by cases e<;>first | exact h _ _ he | exact (hQ.Uk _ _ _ he).elim | exact (ho he).elim)⟩
    | exact ⟨hh.1,RowsIn.mono hh.2 (fun _ _ he=>h _ _ he)⟩
    | exact ⟨hh.1,RoundIn.mono hh.2 (fun e w'' he=>by cases e<;>first | exact h _ _ he | exact (hQ.Uk _ _ _ he).elim | exact (ho he).elim)⟩
 | halt x w'=>cases x<;>simp only [Oper.uponIn] at hh ⊢<;>first | exact (hQ.Uk _ _ _ hh).elim | exact hh
theorem ry {F:Fence} {m:Nat} {ops:Array Oper} {Q Q':Exit->Act->World->Prop} (hQ:yc Q) (hq:∀e a w,Q e a w->Q' e a w):∀(rest:List Oper) {a:Act} {w:World},wpListIn F m P ops Q rest a w->wpListIn F m P ops Q' rest a w
 | [],_,_,h=>hq _ _ _ h
 | o::rest,a,w,h=>by
  unfold wpListIn at h ⊢
  split at h
  ·next hw=>rw [aR hw]; exact xe hQ (fun a w h=>ry hQ hq rest h) h
  ·next hw=>rw [aQ hw]; exact ⟨h.1,ry hQ hq rest h.2⟩
def ckE:Bd->Bool
 | .code _=>true
 | .list _ _=>true
 | .fin _=>true
 | _=>false
theorem Wc {k:Bd} {c2:Code} {s2:List wZ} (n:Nat) (J:List (Nat×Value)->World->Prop) (hn:(abh n s,ckE k)=(some (c2,s2),true)) (h:Mq X w 999 k (Wb n s (KC X J)) l) (hb:∀l w,J l w->Mq X w 999 (.code c2) s2 l):jB X w k s l:=
 ⟨fun a e=>by
  have h1:=(ib _ h).go a e
  have hq:=Ri n s (aM (·.1) hn) (K:=KC X J) fun a w ⟨l',e',hJ⟩=>(ib _ (hb l' w hJ)).go a e'
  cases k with
  | code c=>exact wpIn_mono h1 hq
  | list os rest=>exact ry (kP X _) hq rest h1
  | fin x=>exact hq _ _ _ h1
  | Be=>exact absurd (aM (·.2) hn) (by simp [ckE])⟩
theorem xf {J:List (Nat×Value)->World->Prop} (hJ:J l' w) (hs:yW l l'):jB X w (.fin .normal) (.q (KC X J)::s) l:=⟨fun _ e=>⟨l',e.sub hs,hJ⟩⟩
end
theorem We {c:Code} (hr:X.ro=none) (h:Mq X w 999 (.code c) (.sc::s) l):jB X w (.code (.scope c)) s l:=⟨fun a e=>by
 have h1:=(ib _ h).go a e
 show (Code.scope c).wpIn (WF X.ro) X.m P (qD X s) a w
 have h2:c.wpIn (WF X.ro) X.m P (Exit.noGoto (qD X s)) a w:=h1
 rw [hr] at h2 ⊢
 exact (wpIn_wide).2 (wp_scope_straight ((wpIn_wide).1 h2))⟩
def brG (X:Cx P) (w:World) (own ps:List PF) (Z:List Nat) (os:List Oper) (n:Nat) (ls:Array Bool) (s:List wZ) (l:List (Nat×Value)):List (Nat×List Nat)->Prop
 | []=>True
 | (i,is)::r=>((∃dst op ty pos af,uX os i=some ⟨dst,op,ty,pos,af,none⟩/\WE X w l op dst fun w' l'=>Hy Z own ps i w'/\Mq X w' 999 (.Be own ps Z os is (ls.setIfInBounds i true)) s l')/\v7 ⟨os⟩ Z is (ls.setIfInBounds i true)=true/\is.length=n)/\brG X w own ps Z os n ls s l r
theorem Rj {own ps:List PF} {Z:List Nat} {os:List Oper} {n:Nat} {ls:Array Bool}:∀(r:List (Nat×List Nat)),brG X w own ps Z os n ls s l r->∀i∈r.map (·.1),∃is,(∃dst op ty pos af,uX os i=some ⟨dst,op,ty,pos,af,none⟩/\WE X w l op dst fun w' l'=>Hy Z own ps i w'/\Mq X w' 999 (.Be own ps Z os is (ls.setIfInBounds i true)) s l')/\v7 ⟨os⟩ Z is (ls.setIfInBounds i true)=true/\is.length=n
 | [],_,i,hi=>by cases hi
 | (j,is)::r,h,i,hi=>by
  rcases dW.1 hi with rfl | hi
  ·exact ⟨is,h.1⟩
  ·exact Rj r h.2 i hi
theorem brE {own ps:List PF} {Z:List Nat} {os:List Oper} {c:Nat} {is:List Nat} {ls:Array Bool} (r:List (Nat×List Nat)) (hr:decide (Region.ready .any ⟨os⟩ ls=r.map (·.1))=true) (sQ:r.map (·.1)≠[]) (h:brG X w own ps Z os is.length ls s l r):jB X w (.Be own ps Z os (c::is) ls) s l:=by
 refine ⟨fun a e _ hz=>⟨fun h0=>absurd ((bX hr).symm.trans h0) sQ,fun i hi=>?_⟩⟩
 have Z5:Region.ready .any os.toArray ls=r.map (·.1):=bX hr
 have E3:=hi
 rw [Z5] at E3
 obtain ⟨is',⟨dst,op,ty,pos,af,ho,hw⟩,hs,hl⟩:=Rj r h i E3
 unfold wpOp
 simp only [xc ho]
 rw [aR (by simp [Region.wanted])]
 refine .inl (hw.go e fun a' w' l' hM e'=>⟨.inr hM.1,?_⟩)
 rw [<- hl]
 refine (ib _ hM.2).go a' e' hs fun hz'=>hM.1.resolve_left fun hq=>?_
 have h1:=dP.1 hz' _ (List.contains_iff_mem.1 hq)
 have h3:=(mem_ready.1 hi).1
 rcases dr i ls.size with cD | vG
 ·rw [jf,um cD] at h1
  cases h1
 ·rw [jf,mQ vG] at h3
  cases h3
theorem gY {id:Nat} {os:List Oper} (Z is:List Nat) (e:(v7 ⟨os⟩ Z is (Array.replicate os.length false),uU ⟨os⟩,decide (is.length=os.length))=(true,true,true)) (hs:St w0 w own ps) (h:∀w',St w0 w' own ps->Mq X w' 999 (.Be own ps Z os is (Array.replicate os.length false)) s l):jB X w (.code (.region id ⟨os⟩ true)) s l:=
 ⟨fun a he=>by
  have h1:=aM (·.1) e
  have h3:=bX (aM (·.2.2) e)
  refine uV (n:=os.length) (Hy Z own ps) X.mix rfl he hs (aM (·.2.1) e) (kP X s).og fun w' he' qq=>?_
  rw [<- h3]
  have:=(ib _ (h w' qq)).go a he' h1 fun _=>qq.kn
  rw [<- h3] at this
  exact this⟩
end
section
variable {P:Program} {fn:Func} {R:Ending->World->Prop} {T:Gi P} {mix:P.follows .mixedOrders=true} {N:Nat} {w w0:World} {l:List (Nat×Value)} {v v1 v2 v3 v4:Value} {t1 t2 t3 t4:Nat}
def Gr (P:Program) (fn:Func) (R:Ending->World->Prop):Exit->Act->World->Prop
 | .normal,a,w=>a.defers=[]/\∃v,(results fn a.tmps).run P w=.ok v w/\R (.returned v) w
 | .ret,a,w=>a.defers=[]/\∃v,(results fn a.tmps).run P w=.ok v w/\R (.returned v) w
 | _,_,_=>False
theorem Rl:yc (Gr P fn R):=⟨fun _ _ _ h=>h,fun _ _ h=>h⟩
theorem enE {c:Code} {f:FuncId} {args:Array Value} (T:Gi P) (mix:P.follows .mixedOrders=true) (hf:P.funcs[f]?=some fn) (hb:fn.body=some c) (hn:fn.ntmps=N) (hz:Nat.ble args.size N=true) (h:St w w [] []->Mq ⟨T,mix,none,9,[],N,Gr P fn R,Rl⟩ w 999 (.code c) [] (T4 0 args.toList)):Calls P f args w R:=
 enter hf hb hn hz fun a h1 h2=>(wpIn_wide (n:=9)).1 (wpIn_mono ((ib _ (h h2)).go a h1) fun e a w hq=>by cases e<;>first | exact hq | exact hq.elim)
theorem oR {ok:yc (Gr P fn R)} (hr:∀{a:Act},aW [] N a l->(results fn a.tmps).run P w=.ok v w) (hR:R (.returned v) w):jB ⟨T,mix,none,9,[],N,Gr P fn R,ok⟩ w (.fin .ret) [] l:=⟨fun _ e=>⟨e.defers,v,hr e,hR⟩⟩
theorem oN {ok:yc (Gr P fn R)} (hr:∀{a:Act},aW [] N a l->(results fn a.tmps).run P w=.ok v w) (hR:R (.returned v) w):jB ⟨T,mix,none,9,[],N,Gr P fn R,ok⟩ w (.fin .normal) [] l:=⟨fun _ e=>⟨e.defers,v,hr e,hR⟩⟩
theorem o0 {ok:yc (Gr P fn R)} (h:fn.results=#[]) (hR:R (.returned (.tuple #[])) w):jB ⟨T,mix,none,9,[],N,Gr P fn R,ok⟩ w (.fin .ret) [] l:=oR (fun _=>MK h) hR
theorem Bu {ok:yc (Gr P fn R)} (h:fn.results=#[]) (hR:R (.returned (.tuple #[])) w):jB ⟨T,mix,none,9,[],N,Gr P fn R,ok⟩ w (.fin .normal) [] l:=oN (fun _=>MK h) hR
theorem o1 {ok:yc (Gr P fn R)} (h:fn.results=#[.tmp t1]) (h1:look l t1=some v1) (hR:R (.returned v1) w):jB ⟨T,mix,none,9,[],N,Gr P fn R,ok⟩ w (.fin .ret) [] l:=oR (fun e=>dA h (RV.tmp e h1)) hR
theorem o2 {ok:yc (Gr P fn R)} (h:fn.results=#[.tmp t1,.tmp t2]) (h1:(look l t1,look l t2)=(some v1,some v2)) (hR:R (.returned (.tuple #[v1,v2])) w):jB ⟨T,mix,none,9,[],N,Gr P fn R,ok⟩ w (.fin .ret) [] l:=oR (fun e=>gC h (RV.tmp e (aM (·.1) h1)) (RV.tmp e (aM (·.2) h1))) hR
theorem o3 {ok:yc (Gr P fn R)} (h:fn.results=#[.tmp t1,.tmp t2,.tmp t3]) (h1:(look l t1,look l t2,look l t3)=(some v1,some v2,some v3)) (hR:R (.returned (.tuple #[v1,v2,v3])) w):jB ⟨T,mix,none,9,[],N,Gr P fn R,ok⟩ w (.fin .ret) [] l:=oR (fun e=>aff h (RV.tmp e (aM (·.1) h1)) (RV.tmp e (aM (·.2.1) h1)) (RV.tmp e (aM (·.2.2) h1))) hR
end
section
variable {P:Program} {X:Cx P} {w w0:World} {k k':Bd} {s:List wZ} {l l':List (Nat×Value)} {own ps:List PF} {os rest:List Oper} {d i:Nat} {dst:Option Nat} {op:Op} {v:Value} {x y:Operand} {Z:List Nat} {C:World->List (Nat×Value)->Prop}
theorem Kn.ow {j:Nat} {e:PF} (h:Kn w own ps) (hk:own[j]?=some e):e.P w:=h.1 _ (aB hk)
theorem Kn.pt {j:Nat} {e:PF} (h:Kn w own ps) (hk:ps[j]?=some e):e.P w:=h.2 _ (aB hk)
section
variable {N:Nat} {dq:List Deferred} {a:Act} {ty:TypeId} {pos:String} {af:Array Edge} {gd:Option (Nat×Bool)}
theorem az {w1:World} {T E i n c z p:Nat} {A:Option Addr} {vs:List Value} {k:IntKind} (h:aW dq N a l) (hT:P.underlying T=some (.slice E)) (hE:∃j,P.info? E=some j/\j.size=z) (hx:bV l x=some (.slice A n c)) (hy:bV l y=some (.int k (i:Nat))) (hi:i<n) (hp:i*z=p) (hr:Rd z w1 A n c vs):
  (execOp a.eval ⟨some d,.indexAddr T x y,ty,pos,af,gd⟩).run P w=.ok (.value (.pointer (some ⟨Go.Proofs.YtgopcdagnicekaaGreatDoor.ab A,ao A+p,none⟩))) w:=by
 subst hp
 exact kG h hT hE (hx.trans (by rw [<- hr.ab ae])) hy hi
def BD (P:Program) (T:Nat) (pl:List (Nat×Nat)) (zc:Array Value):Prop:=(∃fs,P.underlying T=some (.struct fs)/\∀w,(fs.mapM fun f=>do pure (f.offset,<- sizeOf f.type):Sem (Array (Nat×Nat))).run P w=.ok pl.toArray w)/\∃i,P.info? T=some i/\i.zero=some (.agg zc)
def evP (l:List (Nat×Value)):List (Nat×Operand)->Option (List (Nat×Value))
 | []=>some []
 | (i,x)::r=>match bV l x with
  | some v=>match evP l r with
   | some q=>some ((i,v)::q)
   | none=>none
  | none=>none
theorem I0:∀(r:List (Nat×Operand)) (q:List (Nat×Value)),evP l r=some q->r.map (fun p=>(p.1,bV l p.2))=q.map (fun p=>(p.1,some p.2))
 | [],_,h=>by cases h; rfl
 | (i,x)::r,q,h=>by
  unfold evP at h
  split at h
  ·next v hv=>
   split at h
   ·next q' hq=>
    cases h
    rw [jJ,jJ,I0 r q' hq,hv]
   ·cases h
  ·cases h
theorem cK {T:Nat} {pl:List (Nat×Nat)} {zc c:Array Value} {parts:Array (Nat×Operand)} {pv:List (Nat×Value)} (hb:BD P T pl zc) (h:aW dq N a l) (hp':evP l parts.toList=some pv) (hf:Instr.fill (pl.toArray[·]?) zc pv=some c):
  (execOp a.eval ⟨some d,.build T parts,ty,pos,af,gd⟩).run P w=.ok (.value (.agg c)) w:=by
 have hp:=I0 _ _ hp'
 have he:(parts.map (fun (i,x)=>(i,a.eval x))).toList=pv:=by
  rw [qg]
  clear hf hp'
  generalize parts.toList=xl at hp ⊢
  induction xl generalizing pv with
  | nil=>cases pv with
   | nil=>rfl
   | cons=>simp at hp
  | cons x xl ih=>cases pv with
   | nil=>simp at hp
   | cons v pv=>
    simp only [jJ,pf,ji] at hp ⊢
    refine ⟨?_,ih hp.2⟩
    obtain ⟨i,x⟩:=x
    obtain ⟨j,v⟩:=v
    have h1:i=j:=hp.1.1
    have h2:=h.ev hp.1.2
    subst h1
    exact Prod.ext rfl h2
 obtain ⟨⟨fs,hu,hm⟩,i,hi,hz⟩:=hb
 have Pa:(zeroValue T).run P w=.ok (.agg zc) w:=by simp [zeroValue,typeInfo,hi,hz]
 simp only [execOp,Instr.build,Sem.run_bind,Pa,Result.andThen_ok,run_underlying hu w,hm w,Value.cells,he,hf]
 rfl
end
theorem BD.of (T:Gi P) {Ty:Nat} {fs:Array Field} {pl:List (Nat×Nat)} {zc:Array Value} (hu:P.underlying Ty=some (.struct fs)) (hz:∃i,P.info? Ty=some i/\i.zero=some (.agg zc)) (e:(fs.toList.map (fun f=>(f.offset,Gq (T.ty f.type))),pl.all fun p=>Nat.blt 0 p.2)=(pl,true)):BD P Ty pl zc:=by
 refine ⟨⟨fs,hu,fun w=>?_⟩,hz⟩
 have e1:=aM (·.1) e
 have e2:=aM (·.2) e
 dsimp only at e1 e2
 obtain ⟨fl⟩:=fs
 dsimp only at e1
 have hm:∀(l:List Field) (p:List (Nat×Nat)),l.map (fun f=>(f.offset,Gq (T.ty f.type)))=p->(p.all fun p=>Nat.blt 0 p.2)=true->(l.mapM fun f=>do pure (f.offset,<- sizeOf f.type):Sem (List (Nat×Nat))).run P w=.ok p w:=by
  intro l
  induction l with
  | nil=>intro p h _; subst h; simp
  | cons f l ih=>
   intro p h h0
   subst h
   simp only [jJ,List.all_cons,fB] at h0
   have h1:0<Gq (T.ty f.type):=kZ h0.1
   obtain ⟨n,hn⟩:∃n,Gq (T.ty f.type)=n+1:=⟨Gq (T.ty f.type) - 1,by omega⟩
   have hz:=run_sizeOf (P:=P) (w:=w) (Rg hn)
   simp only [List.mapM_cons,Sem.run_bind,hz,Result.andThen_ok,Sem.run_pure,ih _ rfl h0.2,jJ,hn]
 have:=hm fl pl e1 e2
 simp only [BE,map_eq_pure_bind,Sem.run_bind]
 rw [this]
 rfl
section
variable {α:Type} {f:α->List Value} {q:Value->Bool} {t E n z bytes g m c c0 T p:Nat} {A:Option Addr} {zv:Value} {es new:List α} {cs va:Array Value} {E':TypeId} {e0 ez:α}
theorem pT (j r:Nat) (hs:St w0 w own ps) (hi:(P.info? E).map (fun i=>(i.zero,i.size,i.bytes))=some (some zv,z,bytes))
  (e:(Nat.blt d X.N,X.T.ty t,bV l x,bV l y,own[j]?,own[r]?,zv.cells.size,Nat.blt 0 z,cs.size,cs.toList.all (·.oneCell'),cs.toList.all q,zv.cells.toList.all q,Nat.blt 0 m,cs.toList)=(true,.sl E,some (.slice A n c0),some (.slice (bh g) m c),some (av q E z A n c0 (fl f es)),some (bk g cs E'),z,true,m*z,true,true,true,true,fl f new))
  (hn:n+m<=maxLen) (hb:(n+m)*bytes<=140737488355328)
  (h:∀w' g' c',xB own j (av q E z (bh g') (n+m) c' (fl f (es++new))) fun jP=>St w0 w' jP ps->C w' ((d,.slice (bh g') (n+m) c')::l)):WE X w l (.call ⟨.builtin .append,#[x,y],#[t,t]⟩) (some d) C:=by
 have ht:=X.T.tyOk t
 simp only [ji] at e
 obtain ⟨e1,e2,e3,e4,e5,e6,e7,e8,e9,e10,e11,e12,e13,e14⟩:=e
 rw [e2] at ht
 exact ⟨fun h1 hC=>pG h1 hs e1 ht.2 hi e7 e8 e3 e4 e5 e6 e9 e10 e11 e12 e13 hn hb fun a' w' g' c' h' qq=>hC a' w' _ (kQ _ _ _ _ (h w' g' c') (by rw [Hs,<- e14]; exact qq)) h'⟩
theorem aRE (j:Nat) {B:Option Addr} (hs:St w0 w own ps) (hi:(P.info? E).map (fun i=>(i.zero,i.size,i.bytes))=some (some zv,z,bytes)) (hr:Rd z w B m c (fl f new)) (h1:(fl f new).all (·.oneCell')=true) (Bo:(fl f new).all q=true)
  (e:(Nat.blt d X.N,X.T.ty t,bV l x,bV l y,own[j]?,zv.cells.size,Nat.blt 0 z,zv.cells.toList.all q)=(true,.sl E,some (.slice A n c0),some (.slice B m c),some (av q E z A n c0 (fl f es)),z,true,true))
  (hm:0<m) (hn:n+m<=maxLen) (hb:(n+m)*bytes<=140737488355328)
  (h:∀w' g' c',xB own j (av q E z (bh g') (n+m) c' (fl f (es++new))) fun jP=>St w0 w' jP ps->C w' ((d,.slice (bh g') (n+m) c')::l)):WE X w l (.call ⟨.builtin .append,#[x,y],#[t,t]⟩) (some d) C:=by
 have ht:=X.T.tyOk t
 simp only [ji] at e
 obtain ⟨e1,e2,e3,e4,e5,e7,e8,e12⟩:=e
 rw [e2] at ht
 exact ⟨fun h0 hC=>zh h0 hs e1 ht.2 hi e7 e8 e3 e4 e5 hr h1 Bo e12 hm hn hb fun a' w' g' c' h' qq=>hC a' w' _ (kQ _ _ _ _ (h w' g' c') (by rw [Hs]; exact qq)) h'⟩
theorem yg (f:α->List Value) (e0:α) (q:Value->Bool) {n:Nat} {kl kc:IntKind} (hs:St w0 w own ps) (hi:(P.info? E).map (fun i=>(i.zero,i.size,i.bytes))=some (some zv,z,bytes))
  (e:(Nat.blt d X.N,X.T.ty T,bV l x,bV l y,zv.cells.size,Nat.blt 0 z,f e0,zv.cells.toList.all q)=(true,.sl E,some (.int kl (n:Nat)),some (.int kc (n:Nat)),z,true,zv.cells.toList,true)) (hb:bytes*n<=140737488355328) (hn:n<=maxLen)
  (h:∀w' g,St w0 w' (av q E z (bh g) n n (fl f (List.replicate n e0))::own) ps->C w' ((d,.slice (bh g) n n)::l)):WE X w l (.makeSlice T x y) (some d) C:=by
 have ht:=X.T.tyOk T
 simp only [ji] at e
 obtain ⟨e1,e2,e3,e4,e5,e6,e7,e8⟩:=e
 rw [e2] at ht
 exact ⟨fun h1 hC=>zg h1 hs e1 ht.2 hi e5 e6 e7 e8 e3 e4 hb hn fun a' w' g h' qq=>hC a' w' _ (h w' g qq) h'⟩
theorem srE (j i:Nat) {e1:α} (hz:∀e,(f e).length=z) (hs:St w0 w own ps) (e:(Gq (X.T.ty T),bV l x,bV l y,own[j]?,(f e1).toArray,va.toList.all (·.oneCell'),va.toList.all q)=(z,some (.pointer (some ⟨Go.Proofs.YtgopcdagnicekaaGreatDoor.ab A,ao A+p,none⟩)),some (.agg va),some (av q E z A n c (fl f es)),va,true,true)) (hp:i*z=p) (jF:0<z) (hn:i<n) (hl:es.length=n)
  (h:∀w',xB own j (av q E z A n c (fl f (es.set i e1))) fun jP=>St w0 w' jP ps->C w' l):WE X w l (.store T x y) none C:=by
 obtain ⟨z,rfl⟩:∃y,z=y+1:=⟨z - 1,by omega⟩
 simp only [ji] at e
 obtain ⟨a1,a2,a3,a4,a5,a6,a7⟩:=e
 exact ⟨fun h1 hC=>vT h1 hs (Rg a1) a2 a3 hp a4 hz hn hl a5 a6 a7 fun a' w' h' qq=>hC a' w' _ (kQ _ _ _ _ (h w') qq) h'⟩
theorem qI (j i:Nat) {e1:α} (hz:∀e,(f e).length=1) (hs:St w0 w own ps) (e:(Re (X.T.ty T),bV l x,bV l y,own[j]?,f e1,v.oneCell',q v)=(true,some (.pointer (some ⟨Go.Proofs.YtgopcdagnicekaaGreatDoor.ab A,ao A+p,none⟩)),some v,some (av q E 1 A n c (fl f es)),[v],true,true)) (hp:i*1=p) (hn:i<n) (hl:es.length=n)
  (h:∀w',xB own j (av q E 1 A n c (fl f (es.set i e1))) fun jP=>St w0 w' jP ps->C w' l):WE X w l (.store T x y) none C:=by
 simp only [ji] at e
 obtain ⟨a1,a2,a3,a4,a5,a6,a7⟩:=e
 exact ⟨fun h1 hC=>IF h1 hs (Lu a1).size a2 a3 hp a4 hz hn hl a5 a6 a7 fun a' w' h' qq=>hC a' w' _ (kQ _ _ _ _ (h w') qq) h'⟩
theorem lr {parts:Array (Nat×Operand)} {pv:List (Nat×Value)} (c:Array Value) (hs:St w0 w own ps) (hE:∃i,P.info? E=some i/\i.size=z) (hz:∃i,P.info? E=some i/\i.zero=some zv) (e:(Nat.blt d X.N,X.T.ty T,Nat.ble (n*z) 1000000,Nat.blt 0 (n*z),evP l parts.toList)=(true,.sl E,true,true,some pv))
  (hf:Instr.fill (fun i=>some (i*z,z)) ((Array.range (n*z)).map (zv.cells[·%zv.cells.size]!)) pv=some c) (h:∀w' g,St w0 w' (bk g c E::own) ps->C w' ((d,.slice (bh g) n n)::l)):WE X w l (.buildSlice T n parts) (some d) C:=by
 have ht:=X.T.tyOk T
 simp only [ji] at e
 obtain ⟨e1,e2,e3,e4,e5⟩:=e
 rw [e2] at ht
 exact ⟨fun h1 hC=>jX h1 hs e1 ht.2 hE hz (kZ e3) (by have:=kZ e4; omega) (by simpa using I0 _ _ e5) hf fun a' w' g h' qq=>hC a' w' _ (h w' g qq) h'⟩
end
def evA (l:List (Nat×Value)):List Operand->Option (List Value)
 | []=>some []
 | x::r=>match bV l x with
  | some v=>match evA l r with
   | some q=>some (v::q)
   | none=>none
  | none=>none
section
variable {fn:FuncId} {xs:Array Operand} {Ts:Array TypeId} {vs first caps:Array Value} {R:Ending->World->Prop}
theorem Rm:∀(r:List Operand) (q:List Value),evA l r=some q->r.map (bV l)=q.map some
 | [],_,h=>by cases h; rfl
 | x::r,q,h=>by
  unfold evA at h
  split at h
  ·next v hv=>
   split at h
   ·next q' hq=>cases h; rw [jJ,jJ,Rm r q' hq,hv]
   ·cases h
  ·cases h
theorem sf {us:Array Value} {vl:List Value} (hb:∀args w,(callFunc fn args).run P w=.ok (.enter fn args) w) (e:(Nat.blt d X.N,bV l y,evA l xs.toList)=(true,some (.func (.func fn) first caps),some vl)) (hc:Calls P fn us w R) (hu:first.toList++vl++caps.toList=us.toList) (h:∀e w',R e w'->∃v,e=.returned v/\C w' ((d,v)::l)):WE X w l (.call ⟨.value y,xs,Ts⟩) (some d) C:=
 ⟨fun h1 hC=>uJ h1 (aM (·.1) e) hb (aM (·.2.1) e) (by simpa using Rm _ _ (aM (·.2.2) e)) (by rw [show first++vl.toArray++caps=us from BG (by simpa using hu)]; exact hc) fun e w' hr=>by
  obtain ⟨v,he,hk⟩:=h e w' hr
  exact ⟨v,he,fun a' h'=>hC a' w' _ hk h'⟩⟩
end
end
open Go.RowKit
set_option maxRecDepth 100000
def tyL:List (Nat×Uj):=[(2,.one),
 (3,.one),
 (4,.one),
 (5,.one),
 (9,.one),
 (22,.sl 61),
 (23,.sl 2),
 (25,.sl 116),
 (26,.sl 3),
 (28,.agg 4),
 (30,.agg 15),
 (31,.one),
 (35,.one),
 (39,.agg 4),
 (43,.sl 52),
 (50,.sl 98),
 (52,.agg 2),
 (61,.agg 2),
 (65,.sl 5),
 (69,.agg 2),
 (74,.sl 77),
 (76,.one),
 (77,.one),
 (79,.one),
 (82,.agg 15),
 (90,.one),
 (91,.agg 2),
 (92,.agg 4),
 (96,.one),
 (98,.one),
 (99,.one),
 (104,.sl 108),
 (106,.one),
 (108,.agg 5),
 (112,.agg 3),
 (116,.agg 5),
 (128,.sl 133),
 (131,.sl 43),
 (133,.agg 2),
 (136,.one),
 (142,.one),
 (146,.one),
 (151,.agg 3),
 (155,.one),
 (157,.agg 3),
 (158,.one),
 (161,.one),
 (168,.agg 2),
 (169,.sl 168),
 (174,.agg 2),
 (175,.agg 6),
 (176,.agg 12),
 (206,.one),
 (212,.one),
 (216,.one),
 (218,.agg 4),
 (219,.sl 4),
 (224,.one),
 (225,.one),
 (227,.agg 2),
 (230,.agg 10),
 (231,.agg 2),
 (233,.one),
 (238,.agg 6),
 (248,.one),
 (249,.one),
 (250,.one),
 (251,.one),
 (253,.agg 5),
 (255,.one),
 (262,.one),
 (264,.agg 3),
 (273,.agg 4),
 (290,.agg 32),
 (291,.agg 64),
 (297,.one),
 (300,.one),
 (311,.one),
 (315,.one)]
def fdL:List (Nat×List (Nat×Nat)):=[(28,[(0,3),(1,3),(2,25),(3,26)]),
 (30,[(0,3),(1,3),(2,22),(3,28),(7,28),(11,28)]),
 (39,[(0,3),(1,3),(2,3),(3,3)]),
 (52,[(0,4),(1,50)]),
 (61,[(0,3),(1,3)]),
 (69,[(0,31),(1,3)]),
 (82,[(0,30)]),
 (108,[(0,28),(4,106)]),
 (116,[(0,3),(1,3),(2,3),(3,3),(4,3)]),
 (133,[(0,43),(1,43)]),
 (151,[(0,3),(1,3),(2,22)]),
 (157,[(0,65),(1,3),(2,4)]),
 (168,[(0,9),(1,79)]),
 (175,[(0,43),(1,3),(2,28)]),
 (218,[(0,26),(1,216),(2,216),(3,3)]),
 (227,[(0,225),(1,219)]),
 (230,[(0,28),(4,219),(5,26),(6,26),(7,26),(8,26),(9,26)]),
 (238,[(0,28),(4,131),(5,3)]),
 (253,[(0,248),(1,249),(2,249),(3,250),(4,251)]),
 (264,[(0,3),(1,25),(2,22)]),
 (273,[(0,3),(1,3),(2,3),(3,3)])]
theorem abj:okT Tryz.prog tyL:=⟨⟨⟨_,Tryz.underlying2,rfl⟩,by kernel_rfl⟩,
 ⟨⟨_,Tryz.underlying3,rfl⟩,by kernel_rfl⟩,
 ⟨⟨_,Tryz.underlying4,rfl⟩,by kernel_rfl⟩,
 ⟨⟨_,Tryz.underlying5,rfl⟩,by kernel_rfl⟩,
 ⟨⟨_,Tryz.underlying9,rfl⟩,by kernel_rfl⟩,
 ⟨⟨⟨_,Tryz.underlying22,rfl⟩,by kernel_rfl⟩,Tryz.underlying22⟩,
 ⟨⟨⟨_,Tryz.underlying23,rfl⟩,by kernel_rfl⟩,Tryz.underlying23⟩,
 ⟨⟨⟨_,Tryz.underlying25,rfl⟩,by kernel_rfl⟩,Tryz.underlying25⟩,
 ⟨⟨⟨_,Tryz.underlying26,rfl⟩,by kernel_rfl⟩,Tryz.underlying26⟩,
 ⟨⟨_,Tryz.underlying28,rfl⟩,by kernel_rfl⟩,
 ⟨⟨_,Tryz.underlying30,rfl⟩,by kernel_rfl⟩,
 ⟨⟨_,Tryz.underlying31,rfl⟩,by kernel_rfl⟩,
 ⟨⟨_,Tryz.underlying35,rfl⟩,by kernel_rfl⟩,
 ⟨⟨_,Tryz.underlying39,rfl⟩,by kernel_rfl⟩,
 ⟨⟨⟨_,Tryz.underlying43,rfl⟩,by kernel_rfl⟩,Tryz.underlying43⟩,
 ⟨⟨⟨_,Tryz.underlying50,rfl⟩,by kernel_rfl⟩,Tryz.underlying50⟩,
 ⟨⟨_,Tryz.underlying52,rfl⟩,by kernel_rfl⟩,
 ⟨⟨_,Tryz.underlying61,rfl⟩,by kernel_rfl⟩,
 ⟨⟨⟨_,Tryz.underlying65,rfl⟩,by kernel_rfl⟩,Tryz.underlying65⟩,
 ⟨⟨_,Tryz.underlying69,rfl⟩,by kernel_rfl⟩,
 ⟨⟨⟨_,Tryz.underlying74,rfl⟩,by kernel_rfl⟩,Tryz.underlying74⟩,
 ⟨⟨_,Tryz.underlying76,rfl⟩,by kernel_rfl⟩,
 ⟨⟨_,Tryz.underlying77,rfl⟩,by kernel_rfl⟩,
 ⟨⟨_,Tryz.underlying79,rfl⟩,by kernel_rfl⟩,
 ⟨⟨_,Tryz.underlying82,rfl⟩,by kernel_rfl⟩,
 ⟨⟨_,Tryz.underlying90,rfl⟩,by kernel_rfl⟩,
 ⟨⟨_,Tryz.underlying91,rfl⟩,by kernel_rfl⟩,
 ⟨⟨_,Tryz.underlying92,rfl⟩,by kernel_rfl⟩,
 ⟨⟨_,Tryz.underlying96,rfl⟩,by kernel_rfl⟩,
 ⟨⟨_,Tryz.underlying98,rfl⟩,by kernel_rfl⟩,
 ⟨⟨_,Tryz.underlying99,rfl⟩,by kernel_rfl⟩,
 ⟨⟨⟨_,Tryz.underlying104,rfl⟩,by kernel_rfl⟩,Tryz.underlying104⟩,
 ⟨⟨_,Tryz.underlying106,rfl⟩,by kernel_rfl⟩,
 ⟨⟨_,Tryz.underlying108,rfl⟩,by kernel_rfl⟩,
 ⟨⟨_,Tryz.underlying112,rfl⟩,by kernel_rfl⟩,
 ⟨⟨_,Tryz.underlying116,rfl⟩,by kernel_rfl⟩,
 ⟨⟨⟨_,Tryz.underlying128,rfl⟩,by kernel_rfl⟩,Tryz.underlying128⟩,
 ⟨⟨⟨_,Tryz.underlying131,rfl⟩,by kernel_rfl⟩,Tryz.underlying131⟩,
 ⟨⟨_,Tryz.underlying133,rfl⟩,by kernel_rfl⟩,
 ⟨⟨_,Tryz.underlying136,rfl⟩,by kernel_rfl⟩,
 ⟨⟨_,Tryz.underlying142,rfl⟩,by kernel_rfl⟩,
 ⟨⟨_,Tryz.underlying146,rfl⟩,by kernel_rfl⟩,
 ⟨⟨_,Tryz.underlying151,rfl⟩,by kernel_rfl⟩,
 ⟨⟨_,Tryz.underlying155,rfl⟩,by kernel_rfl⟩,
 ⟨⟨_,Tryz.underlying157,rfl⟩,by kernel_rfl⟩,
 ⟨⟨_,Tryz.underlying158,rfl⟩,by kernel_rfl⟩,
 ⟨⟨_,Tryz.underlying161,rfl⟩,by kernel_rfl⟩,
 ⟨⟨_,Tryz.underlying168,rfl⟩,by kernel_rfl⟩,
 ⟨⟨⟨_,Tryz.underlying169,rfl⟩,by kernel_rfl⟩,Tryz.underlying169⟩,
 ⟨⟨_,Tryz.underlying174,rfl⟩,by kernel_rfl⟩,
 ⟨⟨_,Tryz.underlying175,rfl⟩,by kernel_rfl⟩,
 ⟨⟨_,Tryz.underlying176,rfl⟩,by kernel_rfl⟩,
 ⟨⟨_,Tryz.underlying206,rfl⟩,by kernel_rfl⟩,
 ⟨⟨_,Tryz.underlying212,rfl⟩,by kernel_rfl⟩,
 ⟨⟨_,Tryz.underlying216,rfl⟩,by kernel_rfl⟩,
 ⟨⟨_,Tryz.underlying218,rfl⟩,by kernel_rfl⟩,
 ⟨⟨⟨_,Tryz.underlying219,rfl⟩,by kernel_rfl⟩,Tryz.underlying219⟩,
 ⟨⟨_,Tryz.underlying224,rfl⟩,by kernel_rfl⟩,
 ⟨⟨_,Tryz.underlying225,rfl⟩,by kernel_rfl⟩,
 ⟨⟨_,Tryz.underlying227,rfl⟩,by kernel_rfl⟩,
 ⟨⟨_,Tryz.underlying230,rfl⟩,by kernel_rfl⟩,
 ⟨⟨_,Tryz.underlying231,rfl⟩,by kernel_rfl⟩,
 ⟨⟨_,Tryz.underlying233,rfl⟩,by kernel_rfl⟩,
 ⟨⟨_,Tryz.underlying238,rfl⟩,by kernel_rfl⟩,
 ⟨⟨_,Tryz.underlying248,rfl⟩,by kernel_rfl⟩,
 ⟨⟨_,Tryz.underlying249,rfl⟩,by kernel_rfl⟩,
 ⟨⟨_,Tryz.underlying250,rfl⟩,by kernel_rfl⟩,
 ⟨⟨_,Tryz.underlying251,rfl⟩,by kernel_rfl⟩,
 ⟨⟨_,Tryz.underlying253,rfl⟩,by kernel_rfl⟩,
 ⟨⟨_,Tryz.underlying255,rfl⟩,by kernel_rfl⟩,
 ⟨⟨_,Tryz.underlying262,rfl⟩,by kernel_rfl⟩,
 ⟨⟨_,Tryz.underlying264,rfl⟩,by kernel_rfl⟩,
 ⟨⟨_,Tryz.underlying273,rfl⟩,by kernel_rfl⟩,
 ⟨⟨_,Tryz.underlying290,rfl⟩,by kernel_rfl⟩,
 ⟨⟨_,Tryz.underlying291,rfl⟩,by kernel_rfl⟩,
 ⟨⟨_,Tryz.underlying297,rfl⟩,by kernel_rfl⟩,
 ⟨⟨_,Tryz.underlying300,rfl⟩,by kernel_rfl⟩,
 ⟨⟨_,Tryz.underlying311,rfl⟩,by kernel_rfl⟩,
 ⟨⟨_,Tryz.underlying315,rfl⟩,by kernel_rfl⟩,trivial⟩
theorem abk:okF Tryz.prog fdL:=⟨⟨⟨_,_,Tryz.underlying28,rfl,rfl,rfl⟩,⟨_,_,Tryz.underlying28,rfl,rfl,rfl⟩,⟨_,_,Tryz.underlying28,rfl,rfl,rfl⟩,⟨_,_,Tryz.underlying28,rfl,rfl,rfl⟩,trivial⟩,
 ⟨⟨_,_,Tryz.underlying30,rfl,rfl,rfl⟩,⟨_,_,Tryz.underlying30,rfl,rfl,rfl⟩,⟨_,_,Tryz.underlying30,rfl,rfl,rfl⟩,⟨_,_,Tryz.underlying30,rfl,rfl,rfl⟩,⟨_,_,Tryz.underlying30,rfl,rfl,rfl⟩,⟨_,_,Tryz.underlying30,rfl,rfl,rfl⟩,trivial⟩,
 ⟨⟨_,_,Tryz.underlying39,rfl,rfl,rfl⟩,⟨_,_,Tryz.underlying39,rfl,rfl,rfl⟩,⟨_,_,Tryz.underlying39,rfl,rfl,rfl⟩,⟨_,_,Tryz.underlying39,rfl,rfl,rfl⟩,trivial⟩,
 ⟨⟨_,_,Tryz.underlying52,rfl,rfl,rfl⟩,⟨_,_,Tryz.underlying52,rfl,rfl,rfl⟩,trivial⟩,
 ⟨⟨_,_,Tryz.underlying61,rfl,rfl,rfl⟩,⟨_,_,Tryz.underlying61,rfl,rfl,rfl⟩,trivial⟩,
 ⟨⟨_,_,Tryz.underlying69,rfl,rfl,rfl⟩,⟨_,_,Tryz.underlying69,rfl,rfl,rfl⟩,trivial⟩,
 ⟨⟨_,_,Tryz.underlying82,rfl,rfl,rfl⟩,trivial⟩,
 ⟨⟨_,_,Tryz.underlying108,rfl,rfl,rfl⟩,⟨_,_,Tryz.underlying108,rfl,rfl,rfl⟩,trivial⟩,
 ⟨⟨_,_,Tryz.underlying116,rfl,rfl,rfl⟩,⟨_,_,Tryz.underlying116,rfl,rfl,rfl⟩,⟨_,_,Tryz.underlying116,rfl,rfl,rfl⟩,⟨_,_,Tryz.underlying116,rfl,rfl,rfl⟩,⟨_,_,Tryz.underlying116,rfl,rfl,rfl⟩,trivial⟩,
 ⟨⟨_,_,Tryz.underlying133,rfl,rfl,rfl⟩,⟨_,_,Tryz.underlying133,rfl,rfl,rfl⟩,trivial⟩,
 ⟨⟨_,_,Tryz.underlying151,rfl,rfl,rfl⟩,⟨_,_,Tryz.underlying151,rfl,rfl,rfl⟩,⟨_,_,Tryz.underlying151,rfl,rfl,rfl⟩,trivial⟩,
 ⟨⟨_,_,Tryz.underlying157,rfl,rfl,rfl⟩,⟨_,_,Tryz.underlying157,rfl,rfl,rfl⟩,⟨_,_,Tryz.underlying157,rfl,rfl,rfl⟩,trivial⟩,
 ⟨⟨_,_,Tryz.underlying168,rfl,rfl,rfl⟩,⟨_,_,Tryz.underlying168,rfl,rfl,rfl⟩,trivial⟩,
 ⟨⟨_,_,Tryz.underlying175,rfl,rfl,rfl⟩,⟨_,_,Tryz.underlying175,rfl,rfl,rfl⟩,⟨_,_,Tryz.underlying175,rfl,rfl,rfl⟩,trivial⟩,
 ⟨⟨_,_,Tryz.underlying218,rfl,rfl,rfl⟩,⟨_,_,Tryz.underlying218,rfl,rfl,rfl⟩,⟨_,_,Tryz.underlying218,rfl,rfl,rfl⟩,⟨_,_,Tryz.underlying218,rfl,rfl,rfl⟩,trivial⟩,
 ⟨⟨_,_,Tryz.underlying227,rfl,rfl,rfl⟩,⟨_,_,Tryz.underlying227,rfl,rfl,rfl⟩,trivial⟩,
 ⟨⟨_,_,Tryz.underlying230,rfl,rfl,rfl⟩,⟨_,_,Tryz.underlying230,rfl,rfl,rfl⟩,⟨_,_,Tryz.underlying230,rfl,rfl,rfl⟩,⟨_,_,Tryz.underlying230,rfl,rfl,rfl⟩,⟨_,_,Tryz.underlying230,rfl,rfl,rfl⟩,⟨_,_,Tryz.underlying230,rfl,rfl,rfl⟩,⟨_,_,Tryz.underlying230,rfl,rfl,rfl⟩,trivial⟩,
 ⟨⟨_,_,Tryz.underlying238,rfl,rfl,rfl⟩,⟨_,_,Tryz.underlying238,rfl,rfl,rfl⟩,⟨_,_,Tryz.underlying238,rfl,rfl,rfl⟩,trivial⟩,
 ⟨⟨_,_,Tryz.underlying253,rfl,rfl,rfl⟩,⟨_,_,Tryz.underlying253,rfl,rfl,rfl⟩,⟨_,_,Tryz.underlying253,rfl,rfl,rfl⟩,⟨_,_,Tryz.underlying253,rfl,rfl,rfl⟩,⟨_,_,Tryz.underlying253,rfl,rfl,rfl⟩,trivial⟩,
 ⟨⟨_,_,Tryz.underlying264,rfl,rfl,rfl⟩,⟨_,_,Tryz.underlying264,rfl,rfl,rfl⟩,⟨_,_,Tryz.underlying264,rfl,rfl,rfl⟩,trivial⟩,
 ⟨⟨_,_,Tryz.underlying273,rfl,rfl,rfl⟩,⟨_,_,Tryz.underlying273,rfl,rfl,rfl⟩,⟨_,_,Tryz.underlying273,rfl,rfl,rfl⟩,⟨_,_,Tryz.underlying273,rfl,rfl,rfl⟩,trivial⟩,trivial⟩
def tb:Gi Tryz.prog:=alo abj abk
theorem gT:BD Tryz.prog 30 [(0,1),(1,1),(2,1),(3,4),(7,4),(11,4)] #[.int .i64 0,.int .i64 0,bA,.int .i64 0,.int .i64 0,bA,bA,.int .i64 0,.int .i64 0,bA,bA,.int .i64 0,.int .i64 0,bA,bA]:=BD.of tb Tryz.underlying30 (by as_aux_lemma=>exact ⟨_,rfl,rfl⟩) rfl
theorem qE:BD Tryz.prog 82 [(0,15)] #[.int .i64 0,.int .i64 0,bA,.int .i64 0,.int .i64 0,bA,bA,.int .i64 0,.int .i64 0,bA,bA,.int .i64 0,.int .i64 0,bA,bA]:=BD.of tb Tryz.underlying82 (by as_aux_lemma=>exact ⟨_,rfl,rfl⟩) rfl
theorem eA:BD Tryz.prog 61 [(0,1),(1,1)] #[.int .i64 0,.int .i64 0]:=BD.of tb Tryz.underlying61 (by as_aux_lemma=>exact ⟨_,rfl,rfl⟩) rfl
theorem eM:BD Tryz.prog 28 [(0,1),(1,1),(2,1),(3,1)] #[.int .i64 0,.int .i64 0,bA,bA]:=BD.of tb Tryz.underlying28 (by as_aux_lemma=>exact ⟨_,rfl,rfl⟩) rfl
theorem pU:BD Tryz.prog 151 [(0,1),(1,1),(2,1)] #[.int .i64 0,.int .i64 0,bA]:=BD.of tb Tryz.underlying151 (by as_aux_lemma=>exact ⟨_,rfl,rfl⟩) rfl
theorem jQ:BD Tryz.prog 108 [(0,4),(4,1)] #[.int .i64 0,.int .i64 0,bA,bA,.nilFunc]:=BD.of tb Tryz.underlying108 (by as_aux_lemma=>exact ⟨_,rfl,rfl⟩) rfl
theorem bG:BD Tryz.prog 116 [(0,1),(1,1),(2,1),(3,1),(4,1)] #[.int .i64 0,.int .i64 0,.int .i64 0,.int .i64 0,.int .i64 0]:=BD.of tb Tryz.underlying116 (by as_aux_lemma=>exact ⟨_,rfl,rfl⟩) rfl
theorem dk:BD Tryz.prog 175 [(0,1),(1,1),(2,4)] #[bA,.int .i64 0,.int .i64 0,.int .i64 0,bA,bA]:=BD.of tb Tryz.underlying175 (by as_aux_lemma=>exact ⟨_,rfl,rfl⟩) rfl
theorem tJ:BD Tryz.prog 133 [(0,1),(1,1)] #[bA,bA]:=BD.of tb Tryz.underlying133 (by as_aux_lemma=>exact ⟨_,rfl,rfl⟩) rfl
theorem jR:BD Tryz.prog 168 [(0,1),(1,1)] #[.string ⟨#[]⟩,.nilFunc]:=BD.of tb Tryz.underlying168 (by as_aux_lemma=>exact ⟨_,rfl,rfl⟩) rfl
theorem qF:BD Tryz.prog 227 [(0,1),(1,1)] #[.map none,bA]:=BD.of tb Tryz.underlying227 (by as_aux_lemma=>exact ⟨_,rfl,rfl⟩) rfl
theorem rz:BD Tryz.prog 264 [(0,1),(1,1),(2,1)] #[.int .i64 0,bA,bA]:=BD.of tb Tryz.underlying264 (by as_aux_lemma=>exact ⟨_,rfl,rfl⟩) rfl
theorem rA:BD Tryz.prog 218 [(0,1),(1,1),(2,1),(3,1)] #[bA,.map none,.map none,.int .i64 0]:=BD.of tb Tryz.underlying218 (by as_aux_lemma=>exact ⟨_,rfl,rfl⟩) rfl
theorem eN:BD Tryz.prog 230 [(0,4),(4,1),(5,1),(6,1),(7,1),(8,1),(9,1)] #[.int .i64 0,.int .i64 0,bA,bA,bA,bA,bA,bA,bA,bA]:=BD.of tb Tryz.underlying230 (by as_aux_lemma=>exact ⟨_,rfl,rfl⟩) rfl
theorem sD:BD Tryz.prog 238 [(0,4),(4,1),(5,1)] #[.int .i64 0,.int .i64 0,bA,bA,bA,.int .i64 0]:=BD.of tb Tryz.underlying238 (by as_aux_lemma=>exact ⟨_,rfl,rfl⟩) rfl
theorem ju:BD Tryz.prog 253 [(0,1),(1,1),(2,1),(3,1),(4,1)] #[.nilFunc,.nilFunc,.nilFunc,.nilFunc,.nilFunc]:=BD.of tb Tryz.underlying253 (by as_aux_lemma=>exact ⟨_,rfl,rfl⟩) rfl
theorem tK:BD Tryz.prog 273 [(0,1),(1,1),(2,1),(3,1)] #[.int .i64 0,.int .i64 0,.int .i64 0,.int .i64 0]:=BD.of tb Tryz.underlying273 (by as_aux_lemma=>exact ⟨_,rfl,rfl⟩) rfl
section
variable {fn:Func} {R:Ending->World->Prop} {N:Nat} {w:World}
theorem dp {c:Code} {f:FuncId} {args:Array Value} (hf:Tryz.prog.funcs[f]?=some fn) (hb:fn.body=some c) (hn:fn.ntmps=N) (hz:Nat.ble args.size N=true) (h:St w w [] []->Mq ⟨tb,mixed,none,9,[],N,Gr Tryz.prog fn R,Rl⟩ w 999 (.code c) [] (T4 0 args.toList)):Calls Tryz.prog f args w R:=enE tb mixed hf hb hn hz h
end
def star (l:List PF):PF:=
 ⟨fun w=>(∀e∈l,e.P w)/\l.Pairwise fun e f=>∀b,e.di b->¬f.di b,fun b=>∃e∈l,e.di b,fun h ⟨e,he,hb⟩=>e.lt (h.1 e he) hb,
  fun h hs hk=>⟨fun e he=>e.oC (h.1 e he) hs fun b hb=>hk b ⟨e,he,hb⟩,h.2⟩⟩
section
variable {w0 w w':World} {own ps l:List PF} {o o':PF} {k:Nat}
theorem St.pack (h:St w0 w own ps) (n:Nat):St w0 w (star (own.take n)::own.drop n) ps:=by
 have rR:(own.take n++own.drop n).Pairwise fun e f=>∀b,e.di b->¬f.di b:=by rw [lX]; exact h.nd
 rw [List.pairwise_append] at rR
 refine ⟨h.below,fun e he=>?_,fun e he b hb=>?_,qe.2 ⟨fun f hf b h1 h2=>?_,rR.2.1⟩,h.pers,fun p hp e he b h1 h2=>?_⟩
 ·rcases dW.1 he with rfl | he
  ·exact ⟨fun e he=>h.mine e (lI he),rR.1⟩
  ·exact h.mine e (kj he)
 ·rcases dW.1 he with rfl | he
  ·obtain ⟨f,hf,hb⟩:=hb
   exact h.new f (lI hf) b hb
  ·exact h.new e (kj he) b hb
 ·obtain ⟨e,he,hb⟩:=h1
  exact rR.2.2 e he f hf b hb h2
 ·rcases dW.1 he with rfl | he
  ·obtain ⟨f,hf,hb⟩:=h1
   exact h.apart p hp f (lI hf) b hb h2
  ·exact h.apart p hp e (kj he) b h1 h2
theorem St.unpack (h:St w0 w (star l::own) ps):St w0 w (l++own) ps:=by
 have h1:(star l).P w:=h.mine _ (bS ..)
 have rR:=qe.1 h.nd
 refine ⟨h.below,fun e he=>?_,fun e he b hb=>?_,List.pairwise_append.2 ⟨h1.2,rR.2,fun e he f hf b hb h2=>rR.1 f hf b ⟨e,he,hb⟩ h2⟩,h.pers,fun p hp e he b hb h2=>?_⟩
 ·rcases b6.1 he with he | he
  ·exact h1.1 e he
  ·exact h.mine e (cO _ he)
 ·rcases b6.1 he with he | he
  ·exact h.new _ (bS ..) b ⟨e,he,hb⟩
  ·exact h.new e (cO _ he) b hb
 ·rcases b6.1 he with he | he
  ·exact h.apart p hp _ (bS ..) b ⟨e,he,hb⟩ h2
  ·exact h.apart p hp e (cO _ he) b hb h2
theorem St.j4 (h:St w0 w own ps) (hk:own[k]?=some o) (h':St w0 w' [o'] [bP w o]):St w0 w' (own.set k o') ps:=by
 obtain ⟨hs,hr⟩:=h'.pat (k:=0) rfl
 refine h.mf hk (h'.owns (k:=0) rfl) (fun b hb=>?_) (h'.below.os.trans h.below.os.symm) (h'.below.tape.trans h.below.tape.symm) (h'.below.output.trans h.below.output.symm) hs hr
 have h1:=h'.apart _ (bS ..) o' (bS ..) b hb
 rcases dr b w.heap.size with q | q
 ·exact .inl (qP fun hn=>h1 ⟨q,hn⟩)
 ·exact .inr q
end
section
set_option linter.unusedSectionVars false
variable {α:Type} [DecidableEq α]
def yo (x:α):List (α×Int)->Nat->Option (Nat×Int)
 | [],_=>none
 | p::r,i=>if p.1=x then some (i,p.2) else yo x r (i+1)
def Zp (r:Option (Nat×Int)):Option (Nat×Value):=r.map fun q=>(q.1,Value.int .i64 q.2)
def EI (x:α) (l:List (α×Int)):Int:=((yo x l 0).map (·.2)).getD 0
def rC (x:α) (l:List (α×Int)):Bool:=(yo x l 0).isSome
structure Sc (P:Program) (kt:TypeId) (enc:α->Value):Prop where
 chk:∀(b:Bool) x w,(Instr.checkKey b 10000 kt (enc x)).run P w=.ok () w
 find:∀x (es:List MapEntry) (l:List (α×Int)) w,es.map (fun e=>(e.key,e.val))=l.map (fun p=>(enc p.1,Value.int .i64 p.2))->(Instr.findKey kt (enc x) es).run P w=.ok (Zp (yo x l 0)) w
def qG (enc:α->Value) (g:Nat) (l:List (α×Int)):PF:=
 ⟨fun w=>∃es:Array MapEntry,w.heap[g]?=some (.map es es.size)/\es.toList.map (fun x=>(x.key,x.val))=l.map (fun p=>(enc p.1,Value.int .i64 p.2))/\∀(i:Nat) (e:MapEntry),es.toList[i]?=some e->e.born=i,fun b=>b=g,
  fun ⟨_,h,_⟩ e=>by subst e; exact lt_of_block h,fun ⟨es,h,h1,h2⟩ _ hk=>⟨es,(hk g rfl).trans h,h1,h2⟩⟩
section
variable {P:Program} {enc:α->Value} {kt e t g:Nat} {l:List (α×Int)} {w:World} {x:α}
theorem D7 (h:(qG enc g l).P w):∃es:Array MapEntry,w.heap[g]?=some (.map es es.size)/\es.toList.map (fun x=>(x.key,x.val))=l.map (fun p=>(enc p.1,Value.int .i64 p.2))/\(∀(i:Nat) (e:MapEntry),es.toList[i]?=some e->e.born=i)/\es.size=l.length:=by
 obtain ⟨es,h1,h2,h3⟩:=h
 refine ⟨es,h1,h2,h3,?_⟩
 have:=aM List.length h2
 simpa using this
theorem NJ (K:Sc P kt enc) (ht:P.underlying t=some (.map kt e)) (hz:(zeroValue e).run P w=.ok (.int .i64 0) w) (h:(qG enc g l).P w) (ok:Bool):(Instr.lookup t (.map (some g)) (enc x) ok).run P w=.ok (if ok then .tuple #[.int .i64 (EI x l),.bool (rC x l)] else .int .i64 (EI x l)) w:=by
 obtain ⟨es,h1,h2,_,_⟩:=D7 h
 have hf:=K.find x es.toList l w h2
 unfold EI rC
 cases hq:yo x l 0 with
 | none=>
  rw [hq] at hf
  simp only [Zp,ES] at hf
  cases ok<;>simp [Instr.lookup,run_underlying ht,MapKept.run_getObj_map h1,K.chk,hf,hz,Result.andThen]
 | some r=>
  rw [hq] at hf
  simp only [Zp,qQ] at hf
  cases ok<;>simp [Instr.lookup,run_underlying ht,MapKept.run_getObj_map h1,K.chk,hf,Result.andThen]
theorem LM {es:Array MapEntry} {v:Int} (h1:w.heap[g]?=some (.map es es.size)) (h2:es.toList.map (fun x=>(x.key,x.val))=l.map (fun p=>(enc p.1,Value.int .i64 p.2))) (h3:∀(i:Nat) (e:MapEntry),es.toList[i]?=some e->e.born=i):
  (qG enc g (l++[(x,v)])).P { w with heap:=w.heap.setIfInBounds g (.map (es.push { key:=enc x,val:=.int .i64 v,born:=es.size }) (es.size+1)) }:=by
 refine ⟨es.push { key:=enc x,val:=.int .i64 v,born:=es.size },?_,?_,fun i e hi=>?_⟩
 ·rw [Array.size_push]; exact (MapKept.heap_set h1).1
 ·rw [Array.toList_push,je,je,h2]; rfl
 ·rw [Array.toList_push,s9] at hi
  split at hi
  ·exact h3 i e hi
  ·rename_i hc
   rw [List.getElem?_singleton] at hi
   split at hi
   ·cases hi
    rename_i hd
    simp at hc hd ⊢
    omega
   ·cases hi
theorem Jq (K:Sc P kt enc) (ht:P.underlying t=some (.map kt e)) (hz:(zeroValue e).run P w=.ok (.int .i64 0) w) (h:(qG enc g l).P w) (hx:rC x l=false):∃w',(Instr.mapEntry t (.map (some g)) (enc x)).run P w=.ok (.tuple #[.int .i64 0,.int .i64 (l.length:Nat)]) w'/\(qG enc g (l++[(x,0)])).P w'/\w'.os=w.os/\w'.tape=w.tape/\w'.output=w.output/\w'.heap.size=w.heap.size/\∀b,b≠g->w'.heap[b]?=w.heap[b]?:=by
 obtain ⟨es,h1,h2,h3,h4⟩:=D7 h
 have hf:=K.find x es.toList l w h2
 have hq:yo x l 0=none:=by unfold rC at hx; cases hq:yo x l 0 with | none=>rfl | some _=>rw [hq] at hx; cases hx
 rw [hq] at hf
 simp only [Zp,ES] at hf
 refine ⟨_,?_,LM h1 h2 h3,rfl,rfl,rfl,by simp,fun b hb=>(MapKept.heap_set h1).2 b hb⟩
 rw [<- h4]
 simp [Instr.mapEntry,run_underlying ht,MapKept.run_getObj_map h1,MapKept.run_setObj_map _ h1,K.chk,hf,hz,Result.andThen,goInt]
theorem Sd (K:Sc P kt enc) (ht:P.underlying t=some (.map kt e)) (h:(qG enc g l).P w) (hx:rC x l=false) (v:Int):∃w',(Instr.mapUpdate t (.map (some g)) (enc x) (.int .i64 v)).run P w=.ok () w'/\(qG enc g (l++[(x,v)])).P w'/\w'.os=w.os/\w'.tape=w.tape/\w'.output=w.output/\w'.heap.size=w.heap.size/\∀b,b≠g->w'.heap[b]?=w.heap[b]?:=by
 obtain ⟨es,h1,h2,h3,h4⟩:=D7 h
 have hf:=K.find x es.toList l w h2
 have hq:yo x l 0=none:=by unfold rC at hx; cases hq:yo x l 0 with | none=>rfl | some _=>rw [hq] at hx; cases hx
 rw [hq] at hf
 simp only [Zp,ES] at hf
 refine ⟨_,?_,LM h1 h2 h3,rfl,rfl,rfl,by simp,fun b hb=>(MapKept.heap_set h1).2 b hb⟩
 simp [Instr.mapUpdate,run_underlying ht,MapKept.run_getObj_map h1,MapKept.run_setObj_map _ h1,K.chk,hf,Result.andThen]
theorem Jr (h:(qG enc g (l++[(x,0)])).P w) (v:Int):∃w',(Instr.entryStore t (.map (some g)) (.int .i64 (l.length:Nat)) (.int .i64 v)).run P w=.ok () w'/\(qG enc g (l++[(x,v)])).P w'/\w'.os=w.os/\w'.tape=w.tape/\w'.output=w.output/\w'.heap.size=w.heap.size/\∀b,b≠g->w'.heap[b]?=w.heap[b]?:=by
 obtain ⟨es,h1,h2,h3,h4⟩:=D7 h
 have hl:l.length<es.size:=by rw [h4]; simp
 have hi:es.findIdx? (fun e=>(e.born:Int)==(l.length:Nat))=some l.length:=by
  rw [Array.findIdx?_eq_some_iff_getElem]
  refine ⟨hl,?_,fun j hj=>?_⟩
  ·have:=h3 l.length es[l.length] (by simp [hl])
   simp [this]
  ·have:=h3 j es[j] (by simp<;>omega)
   simp [this]<;>omega
 refine ⟨{ w with heap:=w.heap.setIfInBounds g (.map (es.modify l.length fun e=>{ e with val:=.int .i64 v }) es.size) },?_,⟨es.modify l.length fun e=>{ e with val:=.int .i64 v },?_,?_,fun i e Z7=>?_⟩,rfl,rfl,rfl,by simp,fun b hb=>(MapKept.heap_set h1).2 b hb⟩
 ·simp [Instr.entryStore,MapKept.run_getObj_map h1,MapKept.run_setObj_map _ h1,Result.andThen,hi,asInt,asIntOf]
 ·rw [Array.size_modify]; exact (MapKept.heap_set h1).1
 ·apply kV
  intro i
  have h5:=aM (·[i]?) h2
  simp only [bo,k7] at h5 ⊢
  rw [sK]
  by_cases q:l.length=i
  ·subst q
   simp at h5 ⊢
   obtain ⟨a,ha,hk,_⟩:∃a,es[l.length]?=some a/\a.key=enc x/\True:=by
    refine ⟨es[l.length],by simp [hl],?_,trivial⟩
    have h6:es[l.length]?=some es[l.length]:=by simp [hl]
    rw [h6] at h5
    simp at h5
    exact h5.1
   exact ⟨a,ha,hk⟩
  ·rw [aQ q,h5,s9,s9]
   split
   ·rfl
   ·rw [dz (by simp; omega),dz (by simp; omega)]
 ·rw [k7,sK] at Z7
  split at Z7
  ·simp at Z7
   obtain ⟨a,ha,rfl⟩:=Z7
   exact h3 i a (by simpa using ha)
  ·exact h3 i e (by simpa using Z7)
end
end
section
variable {α:Type} [DecidableEq α] {P:Program} {X:Cx P} {w w0:World} {l:List (Nat×Value)} {own ps:List PF} {d:Nat} {C:World->List (Nat×Value)->Prop} {kt E T g:Nat} {m y z:Operand} {enc:α->Value} {lm:List (α×Int)} {x:α} {v:Int}
theorem mmE (enc:α->Value) (hs:St w0 w own ps) (e:Nat.blt d X.N=true) (h:∀w' g,St w0 w' (qG enc g []::own) ps->C w' ((d,.map (some g))::l)):WE X w l (.makeMap T none) (some d) C:=
 ⟨fun {a K Q ty pos af gd} h1 hC=>by
  have hr:(execOp a.eval ⟨some d,.makeMap T none,ty,pos,af,gd⟩).run P w=.ok (.value (.map (some w.heap.size))) (w.alloc (.map #[] 0)):=by
   simp only [execOp]; rfl
  unfold Oper.wp
  rw [hr]
  refine hC _ _ _ (h _ _ (hs.add ((Below.refl _ w).alloc (aY _) _) (qG enc w.heap.size []) ⟨#[],World.alloc_heap_new w _,rfl,fun i e hi=>by simp at hi⟩ fun b hb=>nY hb.symm)) (h1.put e _)⟩
theorem jD {N:Nat} {dq:List Deferred} {a:Act} {ty:TypeId} {pos:String} {af:Array Edge} {gd:Option (Nat×Bool)} (ok:Bool) (h:aW dq N a l) (K:Sc P kt enc) (ht:P.underlying T=some (.map kt E)) (hz:∀w,(zeroValue E).run P w=.ok (.int .i64 0) w) (hm:bV l m=some (.map (some g))) (hy:bV l y=some (enc x)) (hp:(qG enc g lm).P w):
  (execOp a.eval ⟨some d,.lookup T m y ok,ty,pos,af,gd⟩).run P w=.ok (.value (if ok then .tuple #[.int .i64 (EI x lm),.bool (rC x lm)] else .int .i64 (EI x lm))) w:=by
 have h1:=h.ev hm
 have h2:=h.ev hy
 have hr:=NJ (x:=x) K ht (hz w) hp ok
 simp only [execOp,h1,h2,Sem.run_bind,hr,Result.andThen]
 rfl
theorem meE (k:Nat) (x:α) (K:Sc P kt enc) (ht:P.underlying T=some (.map kt E)) (hz:∀w,(zeroValue E).run P w=.ok (.int .i64 0) w) (hs:St w0 w own ps) (e:(Nat.blt d X.N,bV l m,bV l y,own[k]?)=(true,some (.map (some g)),some (enc x),some (qG enc g lm))) (hx:rC x lm=false)
  (h:∀w',xB own k (qG enc g (lm++[(x,0)])) fun jP=>St w0 w' jP ps->C w' ((d,.tuple #[.int .i64 0,.int .i64 (lm.length:Nat)])::l)):WE X w l (.mapEntry T m y) (some d) C:=
 ⟨fun {a K' Q ty pos af gd} h1 hC=>by
  simp only [ji] at e
  obtain ⟨e1,e2,e3,e4⟩:=e
  obtain ⟨w',hr,h3,h4,h5,h6,h7,h8⟩:=Jq K ht (hz w) (hs.owns e4) hx
  have Hu:(execOp a.eval ⟨some d,.mapEntry T m y,ty,pos,af,gd⟩).run P w=.ok (.value (.tuple #[.int .i64 0,.int .i64 (lm.length:Nat)])) w':=by
   simp only [execOp,h1.ev e2,h1.ev e3,Sem.run_bind,hr,Result.andThen]; rfl
  unfold Oper.wp
  rw [Hu]
  exact hC _ _ _ (kQ _ _ _ _ (h w') (hs.mf e4 h3 (fun b hb=>.inl hb) h4 h5 h6 (nY h7.symm) fun b _ hb=>h8 b hb)) (h1.put e1 _)⟩
theorem msE (k:Nat) (x:α) (v:Int) (hs:St w0 w own ps) (e:(bV l m,bV l y,bV l z,own[k]?)=(some (.map (some g)),some (.int .i64 (lm.length:Nat)),some (.int .i64 v),some (qG enc g (lm++[(x,0)])))) (h:∀w',xB own k (qG enc g (lm++[(x,v)])) fun jP=>St w0 w' jP ps->C w' l):WE X w l (.entryStore T m y z) none C:=
 ⟨fun {a K' Q ty pos af gd} h1 hC=>by
  simp only [ji] at e
  obtain ⟨e2,e3,e5,e4⟩:=e
  obtain ⟨w',hr,h3,h4,h5,h6,h7,h8⟩:=Jr (P:=P) (t:=T) (hs.owns e4) v
  have Hu:(execOp a.eval ⟨none,.entryStore T m y z,ty,pos,af,gd⟩).run P w=.ok .skip w':=by
   simp only [execOp,h1.ev e2,h1.ev e3,h1.ev e5,Sem.run_bind,hr,Result.andThen]; rfl
  unfold Oper.wp
  rw [Hu]
  exact hC _ _ _ (kQ _ _ _ _ (h w') (hs.mf e4 h3 (fun b hb=>.inl hb) h4 h5 h6 (nY h7.symm) fun b _ hb=>h8 b hb)) (h1.E7 _)⟩
theorem muE (k:Nat) (x:α) (v:Int) (K:Sc P kt enc) (ht:P.underlying T=some (.map kt E)) (hs:St w0 w own ps) (e:(bV l m,bV l y,bV l z,own[k]?)=(some (.map (some g)),some (enc x),some (.int .i64 v),some (qG enc g lm))) (hx:rC x lm=false) (h:∀w',xB own k (qG enc g (lm++[(x,v)])) fun jP=>St w0 w' jP ps->C w' l):WE X w l (.mapUpdate T m y z) none C:=
 ⟨fun {a K' Q ty pos af gd} h1 hC=>by
  simp only [ji] at e
  obtain ⟨e2,e3,e5,e4⟩:=e
  obtain ⟨w',hr,h3,h4,h5,h6,h7,h8⟩:=Sd K ht (hs.owns e4) hx v
  have Hu:(execOp a.eval ⟨none,.mapUpdate T m y z,ty,pos,af,gd⟩).run P w=.ok .skip w':=by
   simp only [execOp,h1.ev e2,h1.ev e3,h1.ev e5,Sem.run_bind,hr,Result.andThen]; rfl
  unfold Oper.wp
  rw [Hu]
  exact hC _ _ _ (kQ _ _ _ _ (h w') (hs.mf e4 h3 (fun b hb=>.inl hb) h4 h5 h6 (nY h7.symm) fun b _ hb=>h8 b hb)) (h1.E7 _)⟩
end
theorem NK {P:Program} {X:Cx P} {w w0:World} {s:List wZ} {l:List (Nat×Value)} {own ps:List PF} {id:Nat} {os:List Oper} (Z is io jp:List Nat) (e:(v7 ⟨os⟩ Z is (Array.replicate os.length false),uU ⟨os⟩,decide (is.length=os.length),decide io.Nodup)=(true,true,true,true)) (hs:St w0 w own ps) (h:∀w',St w0 w' own ps->Mq X w' 999 (.Be (io.filterMap (own[·]?)) (jp.filterMap (ps[·]?)) Z os is (Array.replicate os.length false)) s l):jB X w (.code (.region id ⟨os⟩ true)) s l:=
 ⟨fun a he=>by
  have h1:=aM (·.1) e
  have h3:=bX (aM (·.2.2.1) e)
  have h4:io.Nodup:=bX (aM (·.2.2.2) e)
  refine uV (n:=os.length) (Hy Z (io.filterMap (own[·]?)) (jp.filterMap (ps[·]?))) X.mix rfl he hs (aM (·.2.1) e) (kP X s).og fun w' he' qq=>?_
  rw [<- h3]
  have:=(ib _ (h w' qq)).go a he' h1 fun _=>(qq.pick io jp h4).kn
  rw [<- h3] at this
  exact this⟩
theorem kyI {P:Program} {kt:TypeId} (hd:P.underlying kt=some (.int .i64)):Sc P kt (fun x:Int=>Value.int .i64 x):=by
 refine ⟨fun b x w=>MapKept.run_checkKey hd (by simp [MapKept.IsKey]) b 9999,fun x es l w h=>MapKept.run_findKey hd ?_⟩
 have:∀(es:List MapEntry) (l:List (Int×Int)) (i:Nat),es.map (fun e=>(e.key,e.val))=l.map (fun p=>(Value.int .i64 p.1,Value.int .i64 p.2))->Instr.findNow (.int .i64) (.int .i64 x) es i=some (Zp (yo x l i)):=by
  intro es
  induction es with
  | nil=>intro l i h; cases l with
   | nil=>rfl
   | cons p r=>simp at h
  | cons e es ih=>intro l i h; cases l with
   | nil=>simp at h
   | cons p r=>
    simp only [jJ,pf,ji] at h
    obtain ⟨⟨h1,h2⟩,h3⟩:=h
    unfold Instr.findNow yo
    rw [h1,h2]
    by_cases q:x=p.1
    ·rw [aR q.symm]; simp [Instr.sameNow,q,Zp]
    ·rw [aQ (fun z=>q z.symm)]
     have:(x==p.1)=false:=by simpa using q
     simp [Instr.sameNow,this,ih r (i+1) h3]
 exact this es l 0 h
theorem kyS {P:Program} {α:Type} [DecidableEq α] {kt:TypeId} {n:Nat} {fs:Array Field} (ls:α->List Int) (hI:Fk P kt n) (hd:P.underlying kt=some (.struct fs)) (hl:∀x,(ls x).length=n) (hj:∀x y,ls x=ls y->x=y) (hc:∀(b:Bool) x w,(Instr.checkKey b 10000 kt (.agg (ints (ls x)))).run P w=.ok () w):Sc P kt (fun x:α=>Value.agg (ints (ls x))):=by
 refine ⟨hc,fun x es l w h=>?_⟩
 have ask:∀(es:List MapEntry) (l:List (α×Int)) (i:Nat),es.map (fun e=>(e.key,e.val))=l.map (fun p=>(Value.agg (ints (ls p.1)),Value.int .i64 p.2))->(Instr.findAsking kt (.agg (ints (ls x))) es i).run P w=.ok (Zp (yo x l i)) w:=by
  intro es
  induction es with
  | nil=>intro l i h; cases l with
   | nil=>rfl
   | cons p r=>simp at h
  | cons e es ih=>intro l i h; cases l with
   | nil=>simp at h
   | cons p r=>
    simp only [jJ,pf,ji] at h
    obtain ⟨⟨h1,h2⟩,h3⟩:=h
    unfold Instr.findAsking yo
    rw [h1,h2]
    have he:(Op.equal kt (.agg (ints (ls x))) (.agg (ints (ls p.1)))).run P w=.ok (decide (ls x=ls p.1)) w:=re hI w _ _ (hl _) (hl _)
    simp only [Sem.run_bind,he,Result.andThen_ok]
    by_cases q:p.1=x
    ·rw [aR q,dU (by rw [q])]; rfl
    ·rw [aQ q,bR (fun z=>q (hj _ _ z).symm)]; exact ih r (i+1) h3
 unfold Instr.findKey
 simp only [Sem.run_bind,run_underlying hd,Result.andThen_ok]
 cases es with
 | nil=>cases l with
  | nil=>rfl
  | cons p r=>simp at h
 | cons e es=>exact ask (e::es) l 0 h
end Go.Proofs.YtgopcdagnicekaaGreatDoor.W
