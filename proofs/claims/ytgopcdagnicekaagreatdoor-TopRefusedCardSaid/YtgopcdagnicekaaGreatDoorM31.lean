/- Rows: slices whose elements have z cells each, and what is known of their elements. Over any program. No condition. -/
import Derived.Test.YtgopcdagnicekaaGreatDoorM29
import Derived.Test.YtgopcdagnicekaaGreatDoorM30
import Derived.Test.YtgopcdagnicekaaGreatDoorM8
set_option linter.all false
open Go.Proofs.Tryz
namespace Go.Proofs.YtgopcdagnicekaaGreatDoor.W
open Go.RowKit Anv Go.Lib
variable {i j c z n E p k b g m d:Nat} {q:Value->Bool} {w w' w0:World} {A B:Option Addr} {vs:List Value} {x y:Operand} {v first caps:Array Value} {zv:Value} {ps:List PF} {f:FuncId} {R:Ending->World->Prop}
section
variable {α:Type} {f:α->List Value} {z:Nat}
def fl (f:α->List Value):List α->List Value
 | []=>[]
 | e::es=>f e++fl f es
theorem yz (es es':List α):fl f (es++es')=fl f es++fl f es':=by
 induction es with
 | nil=>rfl
 | cons e es ih=>simp only [fl,ft,ih,aH]
theorem acr (e:α):fl f [e]=f e:=by simp [fl]
theorem EJ (es:List α) (e:α):fl f es++f e=fl f (es++[e]):=by rw [yz,acr]
theorem mq (hz:∀e,(f e).length=z) (es:List α):(fl f es).length=es.length*z:=by
 induction es with
 | nil=>simp [fl]
 | cons e es ih=>simp only [fl,ai,ih,hz,aR,cG]; omega
theorem RH (hz:∀e,(f e).length=z) {es:List α} {e:α} (he:es[i]?=some e) (hj:j<z):(fl f es)[i*z+j]?=(f e)[j]?:=by
 induction es generalizing i with
 | nil=>simp at he
 | cons e' es ih=>
  cases i with
  | zero=>
   have h:e'=e:=by simpa using he
   subst h
   rw [jP,bD,fl,bQ (by rw [hz]; exact hj)]
  | succ i=>
   have he':es[i]?=some e:=by simpa using he
   rw [fl,bU (by rw [hz,cG]; omega),hz,<- ih he',cG]
   congr 1
   omega
theorem acs (hz:∀e,(f e).length=z) {es:List α} (hi:i<es.length) (e:α):(fl f es).take (i*z)++f e++(fl f es).drop (i*z+z)=fl f (es.set i e):=by
 induction es generalizing i with
 | nil=>simp at hi
 | cons e' es ih=>
  cases i with
  | zero=>
   rw [List.set_cons_zero,jP,jI,cJ,bD,fl,fl,fR (by rw [hz]; exact ar _),bo (by rw [hz]; exact ar _),cJ]
  | succ i=>
   have LO:i<es.length:=by simpa using hi
   rw [j0,fl,fl,<- ih LO,cG]
   rw [List.take_append,List.drop_append,ax (by rw [hz]; omega),bo (by rw [hz]; omega),hz]
   rw [show i*z+z - z=i*z by omega,show i*z+z+z - z=i*z+z by omega]
   simp only [cJ,aH]
theorem J2 (hq:∀e,(f e).all q=true) (es:List α):(fl f es).all q=true:=by
 induction es with
 | nil=>rfl
 | cons e es ih=>rw [fl,jd,hq,ih]; rfl
theorem acu {c:Array Value} {e0:α} (hc:f e0=c.toList) (hz:c.size=z) (h0:0<z) (n:Nat):(madeCells c (n*z)).toList=fl f (List.replicate n e0):=by
 have hlen:∀n,(fl f (List.replicate n e0)).length=n*z:=by
  intro n
  induction n with
  | zero=>simp [fl]
  | succ n ih=>rw [fG,fl,ai,ih,hc,dV,hz,cG]; omega
 have G6:∀n i,i<n*z->(fl f (List.replicate n e0))[i]?=c.toList[i%z]?:=by
  intro n
  induction n with
  | zero=>intro i hi; omega
  | succ n ih=>
   intro i hi
   rw [fG,fl]
   rcases aV i z with h | h
   ·rw [bQ (by rw [hc,dV,hz]; exact h),hc,fu h]
   ·rw [bU (by rw [hc,dV,hz]; exact h),hc,dV,hz,ih (i - z) (by rw [cG] at hi; omega),Nat.mod_eq_sub_mod h]
 apply dG
 intro i
 rcases aV i (n*z) with h | h
 ·rw [G6 n i h]
  have hm:i%z<z:=dF _ h0
  have hm':i%z<c.size:=ae
  simp only [madeCells,fe,ay,Array.toList_range,bN h,fQ,hz]
  rw [getElem!_pos c _ hm',dm,gX hm']
 ·rw [bg (by rw [dV,size_madeCells]; exact h),bg (by rw [hlen]; exact h)]
end
structure Rd (z:Nat) (w:World) (A:Option Addr) (n c:Nat) (vs:List Value):Prop where
 len:vs.length=n*z
 cap:n<=c
 big:c<=maxLen
 cells:0<n->∃b off,A=some ⟨b,off,none⟩/\b<w.heap.size/\∀i,i<n*z->w.cell? ⟨b,off+i,none⟩=vs[i]?
theorem L9 (h:Rd z w A n c vs) (hk:∀b,(0<n/\∃off,A=some ⟨b,off,none⟩)->w'.heap[b]?=w.heap[b]?):Rd z w' A n c vs:=
 ⟨h.len,h.cap,h.big,fun hp=>by
  obtain ⟨b,off,rfl,fh,hc⟩:=h.cells hp
  have hb:=hk b ⟨hp,off,rfl⟩
  have Om:b<w'.heap.size:=by
   rcases aV b w'.heap.size with h1 | h1
   ·exact h1
   ·rw [eF h1] at hb
    rw [gX fh] at hb; cases hb
  exact ⟨b,off,I,Om,fun i hi=>(World.cell?_of_block hb).trans (hc i hi)⟩⟩
def G8 (z:Nat) (A:Option Addr) (n c:Nat) (vs:List Value):PF:=
 ⟨fun w=>Rd z w A n c vs,fun b=>0<n/\∃off,A=some ⟨b,off,none⟩,fun h ⟨hp,off,e⟩=>by
  obtain ⟨b,o,e',fh,_⟩:=h.cells hp
  rw [e] at e'; cases e'; exact fh,fun h _ hk=>L9 h hk⟩
theorem Xm (z:Nat) (w:World):Rd z w none 0 0 []:=⟨by simp,ar _,av _,fun h=>absurd h (Nat.lt_irrefl _)⟩
theorem Rd.ab (h:Rd z w A n c vs) (hn:0<n):A=some ⟨Go.Proofs.YtgopcdagnicekaaGreatDoor.ab A,ao A,none⟩:=by
 obtain ⟨b,off,rfl,_,_⟩:=h.cells hn
 rfl
theorem Rd.at {z:Nat} {w:World} {A:Option Addr} {n c:Nat} {vs:List Value} (h:Rd z w A n c vs) {i:Nat} (hi:i<n*z):w.cell? ⟨Go.Proofs.YtgopcdagnicekaaGreatDoor.ab A,ao A+i,none⟩=vs[i]?:=by
 obtain ⟨b,off,rfl,_,hc⟩:=h.cells (Nat.pos_of_ne_zero fun h=>by rw [h,jP] at hi; omega)
 exact hc i hi
def dW {α:Type} (F:α->PF) (es:List α):PF:=
 ⟨fun w=>∀e∈es,(F e).P w,fun b=>∃e∈es,(F e).gO b,fun h ⟨e,he,hf⟩=>(F e).lt (h e he) hf,
  fun h hs hk e he=>(F e).keep (h e he) hs fun b hb=>hk b ⟨e,he,hb⟩⟩
def bH {α:Type} (f:α->List Value) (F:α->PF) (z:Nat) (A:Option Addr) (n c:Nat) (es:List α):PF:=
 ⟨fun w=>Rd z w A n c (fl f es)/\es.length=n/\(dW F es).P w,fun b=>(G8 z A n c (fl f es)).gO b∨(dW F es).gO b,fun h hf=>by
   rcases hf with hf | hf
   ·exact (G8 z A n c (fl f es)).lt h.1 hf
   ·exact (dW F es).lt h.2.2 hf,fun h hs hk=>⟨L9 h.1 fun b hb=>hk b (.inl hb),h.2.1,(dW F es).keep h.2.2 hs fun b hb=>hk b (.inr hb)⟩⟩
theorem J3 {α:Type} (F:α->PF) (w:World):(dW F []).P w:=fun e h=>by cases h
theorem L' {α:Type} (f:α->List Value) (F:α->PF) (z:Nat) (w:World):(bH f F z none 0 0 []).P w:=⟨Xm z w,rfl,J3 F w⟩
section
variable {w w' w0:World} {own ps:List PF} {α:Type} {f:α->List Value} {F:α->PF} {z n c i j k:Nat} {A:Option Addr} {es:List α} {e:α}
theorem acv (h:(bH f F z A n c es).P w) (he:es[i]?=some e):(F e).P w:=h.2.2 e (ah he)
theorem St.elem (h:St w0 w own ps) (hk:ps[k]?=some (bH f F z A n c es)) (he:es[i]?=some e):St w0 w own (F e::ps):=
 h.l9 (F e) (acv (h.pat hk) he) fun o ho b h1 h2=>h.apart _ (ah hk) o ho b h1 (.inr ⟨e,ah he,h2⟩)
theorem St.tD (h:St w0 w own ps) (hk:ps[k]?=some (dW F es)) (he:es[i]?=some e):St w0 w own (F e::ps):=
 h.l9 (F e) (h.pat hk e (ah he)) fun o ho b h1 h2=>h.apart _ (ah hk) o ho b h1 ⟨e,ah he,h2⟩
theorem St.rA (h:St w0 w own ps) (F:α->PF):St w0 w own (dW F []::ps):=
 h.l9 _ (J3 F w) fun o ho b _ h2=>by obtain ⟨e,he,_⟩:=h2; cases he
theorem St.pX (h:St w0 w own ps) (hi:ps[i]?=some (dW F es)) (hj:ps[j]?=some (F e)):St w0 w own (dW F (es++[e])::ps):=
 h.l9 _ (fun x hx=>by
  rcases aK.1 hx with hx | hx
  ·exact h.pat hi x hx
  ·obtain rfl:=aL.1 hx
   exact h.pat hj) fun o ho b h1 ⟨x,hx,hf⟩=>by
  rcases aK.1 hx with hx | hx
  ·exact h.apart _ (ah hi) o ho b h1 ⟨x,hx,hf⟩
  ·obtain rfl:=aL.1 hx
   exact h.apart _ (ah hj) o ho b h1 hf
theorem rM {β:Type} {l:List β} {a x:β} (h:x∈l.set i a):x∈l∨x=a:=by
 rcases dz h with h | h
 ·exact .inl h
 ·exact .inr h
theorem St.tE (h:St w0 w own ps) (hi:ps[i]?=some (dW F es)) (hj:ps[j]?=some (F e)) (m:Nat):St w0 w own (dW F (es.set m e)::ps):=
 h.l9 _ (fun x hx=>by
  rcases rM hx with hx | rfl
  ·exact h.pat hi x hx
  ·exact h.pat hj) fun o ho b h1 ⟨x,hx,hf⟩=>by
  rcases rM hx with hx | rfl
  ·exact h.apart _ (ah hi) o ho b h1 ⟨x,hx,hf⟩
  ·exact h.apart _ (ah hj) o ho b h1 hf
theorem St.ahJ (h:St w0 w own ps) (hi:ps[i]?=some (bH f F z A n c es)):St w0 w own (dW F es::ps):=
 h.l9 _ (h.pat hi).2.2 fun o ho b h1 h2=>h.apart _ (ah hi) o ho b h1 (.inr h2)
theorem St.row (h:St w0 w own ps) (hi:ps[i]?=some (G8 z A n c (fl f es))) (hj:ps[j]?=some (dW F es)) (hl:es.length=n):St w0 w own (bH f F z A n c es::ps):=
 h.l9 _ ⟨h.pat hi,hl,h.pat hj⟩ fun o ho b h1 h2=>by
  rcases h2 with h2 | h2
  ·exact h.apart _ (ah hi) o ho b h1 h2
  ·exact h.apart _ (ah hj) o ho b h1 h2
theorem St.aY (h:St w0 w [] ps) (hr:(bH f F z A n c es).P w):St w0 w [] (bH f F z A n c es::ps):=h.l9 _ hr fun o ho=>by cases ho
end
section
variable {P:Program} {K:Act->World->Prop} {Q:Exit->Act->World->Prop} {N:Nat} {dq:List Deferred} {a:Act} {l:List (Nat×Value)} {w w0:World} {own ps:List PF}
variable {d:Nat} {ty:TypeId} {pos:String} {af:Array Edge} {gd:Option (Nat×Bool)}
theorem m7 {T:Nat} {k:IntKind} (h:b7 dq N a l) (hT:P.underlying T=some (.slice E)) (hE:∃j,P.info? E=some j/\j.size=z) (hx:eB l x=some (.slice A n c)) (hy:eB l y=some (.int k (i:Nat))) (hi:i<n) (hp:i*z=p) (hr:Rd z w A n c vs):
  (execOp a.eval ⟨some d,.indexAddr T x y,ty,pos,af,gd⟩).run P w=.ok (.value (.pointer (some ⟨Go.Proofs.YtgopcdagnicekaaGreatDoor.ab A,ao A+p,none⟩))) w:=by
 subst hp
 exact oo h hT hE (hx.trans (by rw [<- hr.ab ae])) hy hi
theorem BA (hi:i<n) (hj:j<z):i*z+j<n*z:=by
 have:(i+1)*z<=n*z:=bB _ hi
 rw [cG] at this
 omega
theorem cX {α:Type} {f:α->List Value} {T:Nat} {es:List α} {e:α} (h:b7 dq N a l) (hT:oh P T z) (hx:eB l x=some (.pointer (some ⟨Go.Proofs.YtgopcdagnicekaaGreatDoor.ab A,ao A+p,none⟩))) (hp:i*z=p) (hz:∀e,(f e).length=z) (hr:Rd z w A n c (fl f es)) (hn:i<n) (he:es[i]?=some e) (hv:(f e).toArray=v):
  (execOp a.eval ⟨some d,.load T x,ty,pos,af,gd⟩).run P w=.ok (.value (.agg v)) w:=by
 subst hp hv
 refine QX h hT hx (fun j v hv=>?_) (hz e)
 have hj:j<z:=by
  have:=(aE.1 hv).1
  rwa [hz] at this
 rw [eu,hr.at (BA hn hj),RH hz he hj,hv]
theorem bE {α:Type} {f:α->List Value} {T:Nat} {es:List α} {e:α} {v:Value} (h:b7 dq N a l) (hT:mM P T) (hx:eB l x=some (.pointer (some ⟨Go.Proofs.YtgopcdagnicekaaGreatDoor.ab A,ao A+p,none⟩))) (hp:i*z+j=p) (hz:∀e,(f e).length=z) (hj:j<z) (hr:Rd z w A n c (fl f es)) (hn:i<n) (he:es[i]?=some e) (hv:(f e)[j]?=some v):
  (execOp a.eval ⟨some d,.load T x,ty,pos,af,gd⟩).run P w=.ok (.value v) w:=by
 subst hp
 exact mN h hT hx (by rw [hr.at (BA hn hj),RH hz he hj,hv])
def fc (q:Value->Bool) (E z:Nat) (A:Option Addr) (n c:Nat) (vs:List Value):PF:=wJ q E z (.slice A n c) n vs
theorem aZ (h:(fc q E z A n c vs).P w):Rd z w A n c vs:=by
 have h1:w.ownsRow 0 E z (.slice A n c) n vs:=h.1
 refine ⟨h1.1,?_,?_,fun hp=>?_⟩
 ·rcases h1.2 with ⟨e,hn⟩ | ⟨g,cap,cur,e,_,_,Gu,_⟩
  ·omega
  ·cases e; exact Gu
 ·rcases h1.2 with ⟨e,hn⟩ | ⟨g,cap,cur,e,_,_,_,hb,_⟩
  ·cases e; exact av _
  ·cases e; exact hb
 ·rcases h1.2 with ⟨e,hn⟩ | ⟨g,cap,cur,e,_,hg,Gu,hb,mx,ht⟩
  ·omega
  ·cases e
   refine ⟨g,0,I,lt_of_block hg,fun i hi=>?_⟩
   rw [bD,cell_of_row w g i cur E (0,0) hg,<- ht,eM hi]
   simp
theorem ng (h:(fc q E z A n c vs).gO b):∃a,A=some a/\a.block=b:=by
 cases A with
 | none=>simp [fc,wJ,Value.ownBlock] at h
 | some a=>exact ⟨a,rfl,by simpa [fc,wJ,Value.ownBlock] using h⟩
theorem bX:NoU (fc dD E z A n c vs):=RA
theorem St.fp (h:St w0 w own ps) (q:Value->Bool) (E z:Nat):St w0 w (fc q E z none 0 0 []::own) ps:=h.Xi q E z
theorem St.acw (h:St w0 w own ps) (hk:own[k]?=some (fc q E z A n c vs)):St w0 w (own.eraseIdx k) (G8 z A n c vs::ps):=
 h.give hk (G8 z A n c vs) (aZ (h.owns hk)) fun b hb=>by
  obtain ⟨_,off,rfl⟩:=hb
  rfl
theorem St.vh {α:Type} {f:α->List Value} {F:α->PF} {es:List α} (h:St w0 w own ps) (hk:own[k]?=some (fc q E z A n c (fl f es))) (hj:ps[j]?=some (dW F es)) (hl:es.length=n):St w0 w (own.eraseIdx k) (bH f F z A n c es::G8 z A n c (fl f es)::ps):=
 (h.acw hk).row (i:=0) (j:=j+1) rfl hj hl
def sW {α:Type} (q:Value->Bool) (E z:Nat) (f:α->List Value) (F:α->PF) (B:Nat) (w:World) (A:Option Addr) (n c:Nat) (es:List α):Prop:=
 (fc q E z A n c (fl f es)).P w/\(dW F es).P w/\∀a,A=some a->B<=a.block
theorem St.pM {α:Type} {f:α->List Value} {F:α->PF} {es:List α} (h:St w0 w own ps) (hb:Below w.heap.size w w') (hr:sW q E z f F w.heap.size w' A n c es) (hE:∀o∈fc q E z A n c (fl f es)::own,∀b,o.gO b->o.P w'->¬(dW F es).gO b):St w0 w' (fc q E z A n c (fl f es)::own) (dW F es::ps):=by
 have h1:=h.add hb (fc q E z A n c (fl f es)) hr.1 fun b hb=>by
  obtain ⟨a,ha,rfl⟩:=ng hb
  exact hr.2.2 a ha
 exact h1.l9 _ hr.2.1 fun o ho b Dg=>hE o ho b Dg (h1.mine o ho)
theorem St.mB {α:Type} {f:α->List Value} {F:α->PF} {es:List α} (h:St w0 w own ps) (hb:Below w.heap.size w w') (hr:sW q E z f F w.heap.size w' A n c es) (hl:es.length=n) (hE:∀o∈own,∀b,o.gO b->o.P w'->¬(dW F es).gO b):St w0 w' own (bH f F z A n c es::ps):=by
 have h1:=h.call hb
 refine h1.l9 _ ⟨aZ hr.1,hl,hr.2.1⟩ fun o ho b Dg hff=>?_
 rcases hff with ⟨_,off,rfl⟩ | hff
 ·have h2:=hr.2.2 _ rfl
  have h3:=o.lt (h.mine o ho) Dg
  have h2:w.heap.size<=b:=h2
  omega
 ·exact hE o ho b Dg (h1.mine o ho) hff
theorem St.newRow {α:Type} {f:α->List Value} {F:α->PF} {es:List α} (h:St w0 w own ps) (hk:own[k]?=some (fc q E z A n c (fl f es))) (hj:ps[j]?=some (dW F es)):sW q E z f F w0.heap.size w A n c es:=
 ⟨h.owns hk,h.pat hj,fun a ha=>h.new _ (ah hk) _ (by subst ha; rfl)⟩
theorem sX {t bytes c0:Nat} {cs:Array Value} {E':TypeId} (h:b7 dq N a l) (hs:St w0 w own ps) (hd:Nat.blt d N=true) (hT:P.underlying t=some (.slice E))
 (hi:(P.info? E).map (fun i=>(i.zero,i.size,i.bytes))=some (some zv,z,bytes)) (RE:zv.cells.size=z) (mZ:Nat.blt 0 z=true) (hx:eB l x=some (.slice A n c0)) (hy:eB l y=some (.slice (cS g) m c))
 (hk:own[k]?=some (fc q E z A n c0 vs)) (hj:own[j]?=some (bk g cs E')) (hm:cs.size=m*z) (h1:cs.toList.all (·.oneCell')=true) (Di:cs.toList.all q=true) (RD:zv.cells.toList.all q=true) (Bt:Nat.blt 0 m=true) (hn:n+m<=maxLen) (hb:(n+m)*bytes<=140737488355328)
 (hK:∀a' w' g' c',b7 dq N a' ((d,.slice (cS g') (n+m) c')::l)->St w0 w' (own.set k (fc q E z (cS g') (n+m) c' (vs++cs.toList))) ps->K a' w'):
  Oper.wp P ⟨some d,.call ⟨.builtin .append,#[x,y],#[t,t]⟩,ty,pos,af,gd⟩ a w K Q:=
 J1 h hs hd hT hi RE mZ hx hy hk hj hm h1 Di RD Bt hn hb fun a' w' v' ha' rR=>by
  have We:k<own.length:=(aE.1 hk).1
  have nD:w'.ownsRow 0 E z v' (n+m) (vs++cs.toList):=(rR.owns (e:=wJ q E z v' (n+m) (vs++cs.toList)) (by rw [iM We])).1
  have qP:0<m:=dH Bt
  rcases nD.2 with ⟨rfl,hnm⟩ | ⟨g',cap,cur,rfl,_⟩
  ·omega
  ·exact hK a' w' g' cap ha' rR
theorem Xn (vs:List Value) (o:Nat) (c:Array Value) (h:o+vs.length<=c.size):(wr o vs c).toList=c.toList.take o++vs++c.toList.drop (o+vs.length):=by
 have hlen:(c.toList.take o).length=o:=by rw [bJ,dV]; exact cW ae
 apply dG
 intro i
 rw [dm,ahh vs o c i h]
 rcases aV i o with h1 | h1
 ·rw [ak ae,aH,bQ (by rw [hlen]; exact h1),eM h1,dm]
 ·rcases aV i (o+vs.length) with h2 | h2
  ·rw [au ⟨h1,h2⟩,aH,bU (by rw [hlen]; exact h1),hlen,bQ ae]
  ·rw [ak ae,bU (by rw [ai,hlen]; exact h2),ai,hlen,List.getElem?_drop,<- dm]
   congr 1
   omega
theorem yA {α:Type} {f:α->List Value} {T:Nat} {es:List α} {e:α} (h:b7 dq N a l) (hs:St w0 w own ps) (hi:∃j,P.info? T=some j/\j.size=z) (hx:eB l x=some (.pointer (some ⟨Go.Proofs.YtgopcdagnicekaaGreatDoor.ab A,ao A+p,none⟩))) (hy:eB l y=some (.agg v)) (hp:i*z=p)
 (hk:own[k]?=some (fc q E z A n c (fl f es))) (hz:∀e,(f e).length=z) (hn:i<n) (hl:es.length=n) (hv:(f e).toArray=v) (h1:v.toList.all (·.oneCell')=true) (hq:v.toList.all q=true)
 (hK:∀a' w',b7 dq N a' l->St w0 w' (own.set k (fc q E z A n c (fl f (es.set i e)))) ps->K a' w'):
  Oper.wp P ⟨none,.store T x y,ty,pos,af,gd⟩ a w K Q:=by
 subst hp hv
 have hP:=hs.owns hk
 have nD:w.ownsRow 0 E z (.slice A n c) n (fl f es):=hP.1
 rcases nD.2 with ⟨e0,pJ⟩ | ⟨g,cap,cur,e0,_,hg,Gu,GR,mx,wK⟩
 ·omega
 cases e0
 obtain ⟨Xk,vg,Di⟩:=hP.2 g rfl
 rw [hg] at vg
 cases vg
 have RI:eB l x=some (.pointer (some ⟨g,i*z,none⟩)):=by
  rw [hx]
  show some (Value.pointer (some ⟨g,0+i*z,none⟩))=_
  rw [bD]
 have hiz:i*z+z<=n*z:=by
  have:=bB z (show i+1<=n from hn)
  rwa [cG] at this
 have hzc:n*z<=cur.size:=by rw [mx]; exact bB _ Gu
 have ht:w.there g (i*z) (f e).toArray.size:=fun j hj=>⟨by
  rw [cell_of_row w _ _ _ _ _ hg]
  have Qa:j<z:=by simpa [hz] using hj
  simp; omega,by simp [World.frozen?,hg]⟩
 obtain ⟨ti,hti,RJ⟩:=hi
 have hr:(execOp a.eval ⟨none,.store T x y,ty,pos,af,gd⟩).run P w=.ok .skip (w.setCells g (i*z) (f e)):=by
  simp only [execOp,h.ev RI,h.ev hy]
  rw [Sem.run_bind,run_storeAt_mid w g (i*z) T (f e).toArray ht (by rw [hti]; simp [RJ,hz]) (by rw [Array.all_toList] at h1; exact h1)]
  rfl
 unfold Oper.wp
 rw [hr]
 have hu:=sP (f e) (i*z) w g cur E hg
 have u9:=Xn (f e) (i*z) cur (by rw [hz]; omega)
 rw [hz] at u9
 refine hK _ _ (h.GU _) (hs.pH hk (e':=fc q E z (cS g) n c (fl f (es.set i e))) ⟨⟨?_,.inr ⟨g,c,_,I,av _,hu.new,Gu,GR,by rw [W2]; exact mx,?_⟩⟩,fun g' vg=>?_⟩ (fun b hb=>.inl hb) hu.os hu.tape hu.output (ew hu.size.symm) fun b _ hb=>hu.old b fun e=>hb (aq some e.symm))
 ·rw [mq hz,aP,hl]
 ·have hLR:cur.toList=fl f es++cur.toList.drop (n*z):=by rw [<- wK,dU]
  have Wi:(fl f es).length=n*z:=by rw [mq hz,hl]
  have hX:(wr (i*z) (f e) cur).toList=fl f (es.set i e)++cur.toList.drop (n*z):=by
   rw [u9,<- acs hz ae]
   conv=>lhs; rw [hLR]
   rw [iu ae,fR ae]
   simp only [aH]
  rw [hX,iu (by rw [mq hz,aP,hl]; exact ar _),ax (by rw [mq hz,aP,hl]; exact ar _)]
 ·obtain rfl:g=g':=by simpa [Value.ownBlock] using vg
  refine ⟨_,hu.new,?_⟩
  rw [u9,jd,jd,bL,bL]
  refine ⟨⟨bp.2 fun u hu=>bp.1 Di u (dM hu),by simpa using hq⟩,bp.2 fun u hu=>bp.1 Di u (dx hu)⟩
theorem BB {α:Type} {f:α->List Value} {e0:α} {T bytes:Nat} {kl kc:IntKind} (h:b7 dq N a l) (hs:St w0 w own ps) (hd:Nat.blt d N=true) (hT:P.underlying T=some (.slice E))
 (hi:(P.info? E).map (fun i=>(i.zero,i.size,i.bytes))=some (some zv,z,bytes)) (RE:zv.cells.size=z) (mZ:Nat.blt 0 z=true) (hf:f e0=zv.cells.toList) (hq:zv.cells.toList.all q=true) (hx:eB l x=some (.int kl (n:Nat))) (hy:eB l y=some (.int kc (n:Nat))) (hb:bytes*n<=140737488355328) (hn:n<=maxLen)
 (hK:∀a' w' g,b7 dq N a' ((d,.slice (cS g) n n)::l)->St w0 w' (fc q E z (cS g) n n (fl f (List.replicate n e0))::own) ps->K a' w'):
  Oper.wp P ⟨some d,.makeSlice T x y,ty,pos,af,gd⟩ a w K Q:=by
 obtain ⟨i,Jw,xi⟩:=gJ.1 hi
 simp only [cP] at xi
 obtain ⟨hz,qZ,Jy⟩:=xi
 have po:0<z:=dH mZ
 have pK:=run_make w T E i zv hT Jw hz kl kc (n:Int) (n:Int) ae ae (by rw [Jy,<- eX]; omega) (by simp only [maxLen] at hn; omega)
 simp only [ed,qZ] at pK
 have hr:(execOp a.eval ⟨some d,.makeSlice T x y,ty,pos,af,gd⟩).run P w=.ok (.value (.slice (cS w.heap.size) n n)) (w.alloc (.cells (madeCells zv.cells (n*z)) E)):=by
  simp only [execOp,h.ev hx,h.ev hy]
  rw [Sem.run_bind,pK]
  rfl
 unfold Oper.wp
 rw [hr]
 have hl:=acu hf RE po n
 refine hK _ _ _ (h.put hd _) (hs.add (ue w _) _ ⟨⟨?_,.inr ⟨w.heap.size,n,_,I,av _,heap_alloc_new w _,ar _,hn,size_madeCells _ _,?_⟩⟩,fun g' vg=>?_⟩ fun b hb=>?_)
 ·rw [<- hl,dV,size_madeCells]
 ·rw [hl,ax]
  rw [<- hl,dV,size_madeCells]
  exact ar _
 ·obtain rfl:w.heap.size=g':=by simpa [Value.ownBlock] using vg
  refine ⟨_,heap_alloc_new w _,?_⟩
  rw [hl]
  refine bp.2 fun u hu=>?_
  have:∀n,∀u∈fl f (List.replicate n e0),u∈zv.cells.toList:=by
   intro n
   induction n with
   | zero=>intro u hu; cases hu
   | succ n ih=>
    intro u hu
    rw [fG,fl] at hu
    rcases aK.1 hu with hu | hu
    ·rwa [hf] at hu
    ·exact ih u hu
  exact bp.1 hq u (this n u hu)
 ·obtain ⟨a,ha,rfl⟩:=ng hb
  cases ha
  exact ar _
end
abbrev NE:=Option Addr×Nat×Int
abbrev zz (e:NE):Int:=e.2.2
def fN (e:NE):List Value:=[.bool (neg e.2.2),.slice e.1 (zl e.2.2) e.2.1]
def FN (e:NE):PF:=DJ e.1 e.2.1 e.2.2
theorem jV (e:NE):(fN e).length=2:=rfl
def fM (e:NE):List Value:=[.bool (neg e.2.2),.slice e.1 (dl e.2.2) e.2.1]
def FM (e:NE):PF:=pfR e.1 e.2.1 e.2.2
section
variable {w w0:World} {own ps:List PF} {es:List NE}
theorem ana {xs:List Nat} (hu:kp w A n c xs) (hn:tO own):∀o∈own,∀b,o.gO b->o.P w->¬(W4 A n c xs).gO b:=fun o ho b1 h1 hP ⟨hp,off,e⟩=>by
 obtain ⟨b,au9,e',_,hc⟩:=hu.cells hp
 rw [e] at e'
 cases e'
 exact hn.at o ho w _ _ _ hP h1 (hc 0 hp)
theorem oU (h:(dW FN es).P w) (hn:tO own):∀o∈own,∀b,o.gO b->o.P w->¬(dW FN es).gO b:=fun o ho b h1 hP ⟨e,he,hf⟩=>ana (h e he) hn o ho b h1 hP hf
theorem St.vX (h:St w0 w own ps) (he:(dW FN es).P w) (hn:tO own):St w0 w own (dW FN es::ps):=h.l9 _ he fun o ho b h1=>oU he hn o ho b h1 (h.mine o ho)
end
def kF:PF:=⟨fun _=>True,fun _=>False,fun _ h=>h.elim,fun _ _ _=>trivial⟩
abbrev FE:=List UInt8×List UInt8
def fF (e:FE):List Value:=[.string ⟨e.1.toArray⟩,.string ⟨e.2.toArray⟩]
def FF (_:FE):PF:=kF
theorem Ma {α:Type} {F:α->PF} (hF:∀e,F e=kF) (es:List α) (w:World):(dW F es).P w:=fun e _=>by rw [hF]; trivial
theorem xI {α:Type} {F:α->PF} (hF:∀e,F e=kF) {es:List α}:¬(dW F es).gO b:=fun ⟨e,_,h⟩=>by rw [hF] at h; exact h
theorem St.EK {α:Type} {f:α->List Value} {F:α->PF} {own:List PF} {c:Array Value} {t:TypeId} {es:List α} (h:St w0 w own ps) (hk:own[k]?=some (bk g c t)) (hc:c.toList=fl f es) (hz:∀e,(f e).length=z) (hl:es.length=n) (hm:n<=maxLen) (hE:(dW F es).P w) (hA:∀o∈own,∀b,o.gO b->¬(dW F es).gO b):St w0 w (own.eraseIdx k) (bH f F z (cS g) n n es::G8 z (cS g) n n (fl f es)::ps):=by
 have hg:=h.pV hk
 have hr:Rd z w (cS g) n n (fl f es):=⟨by rw [mq hz,hl],ar _,hm,fun _=>⟨g,0,rfl,lt_of_block hg,fun i _=>by rw [bD,cell_of_row w g i c t (0,0) hg,<- hc,dm]⟩⟩
 have h1:=h.give hk (G8 z (cS g) n n (fl f es)) hr fun b hb=>by
  obtain ⟨_,off,e⟩:=hb
  cases e
  rfl
 refine h1.l9 _ ⟨hr,hl,hE⟩ fun o ho b h2 h3=>?_
 rcases h3 with h3 | h3
 ·exact h1.apart _ (aJ ..) o ho b h2 h3
 ·exact hA o (iq ho) b h2 h3
section
variable {P:Program} {K:Act->World->Prop} {Q:Exit->Act->World->Prop} {N:Nat} {dq:List Deferred} {a:Act} {l:List (Nat×Value)} {w:World}
variable {d:Nat} {ty:TypeId} {pos:String} {af:Array Edge} {gd:Option (Nat×Bool)}
theorem xJ {xs:Array Operand} {Ts:Array TypeId} {vs:Array Value} (h:b7 dq N a l) (hd:Nat.blt d N=true)
 (hb:∀args w,(callFunc f args).run P w=.ok (.enter f args) w) (hy:eB l y=some (.func (.func f) first caps)) (hx:xs.toList.map (eB l)=vs.toList.map some) (hc:Calls P f (first++vs++caps) w R)
 (hK:∀e w',R e w'->∃v,e=.returned v/\∀a',b7 dq N a' ((d,v)::l)->K a' w'):
  Oper.wp P ⟨some d,.call ⟨.value y,xs,Ts⟩,ty,pos,af,gd⟩ a w K Q:=by
 have hv:=h.ev hy
 have he:xs.map a.eval=vs:=by
  apply jx
  rw [fe]
  generalize xs.toList=xl at hx ⊢
  generalize vs.toList=vl at hx ⊢
  induction xl generalizing vl with
  | nil=>cases vl with
   | nil=>rfl
   | cons=>simp at hx
  | cons x xl ih=>cases vl with
   | nil=>simp at hx
   | cons v vl=>
    simp only [dk,eY] at hx ⊢
    exact ⟨h.ev hx.1,ih vl hx.2⟩
 have hr:(execOp a.eval ⟨some d,.call ⟨.value y,xs,Ts⟩,ty,pos,af,gd⟩).run P w=.ok (.enter f (first++vs++caps)) w:=by
  simp only [execOp,resolve,he,hv,Sem.run_bind]
  simp [Deferred.ofValue,invoke,hb]
 unfold Oper.wp
 rw [hr]
 show Calls P f _ w _
 refine hc.mono fun e w' hR=>?_
 obtain ⟨v,rfl,hk⟩:=hK e w' hR
 exact hk _ (h.put hd v)
end
theorem rZ {P:Program} {vs us:Array Value} (h:first++vs++caps=us) (hc:Calls P f us w R):Calls P f (first++vs++caps) w R:=h ▸ hc
theorem take_one {α:Type} {l:List α} {x:α} (h:l[i]?=some x):l.take (i+1)=l.take i++[x]:=by
 rw [List.take_add_one,h]; rfl
def fI (x:Int):List Value:=[.int .i64 x]
def FI (_:Int):PF:=kF
theorem di (x:Int):(fI x).length=1:=rfl
def fS (s:List UInt8):List Value:=[.string ⟨s.toArray⟩]
def aAg (_:List UInt8):PF:=kF
theorem RK {α:Type} {f:α->List Value} {F:α->PF} {o:Nat} {es:List α} (hz:∀e,(f e).length=z) (h:(bH f F z (some ⟨b,o,none⟩) n c es).P w) (hm:m<=n):(bH f F z (some ⟨b,o+m*z,none⟩) (n - m) (c - m) (es.drop m)).P w:=by
 obtain ⟨hr,hl,hE⟩:=h
 refine ⟨⟨?_,by have:=hr.cap; omega,by have:=hr.big; omega,fun hp=>?_⟩,by rw [dp,hl],fun e he=>hE e (dx he)⟩
 ·rw [mq hz,dp,hl]
 ·obtain ⟨b',off,e,fh,hc⟩:=hr.cells ae
  cases e
  refine ⟨b,o+m*z,I,fh,fun i hi=>?_⟩
  have hmul:m*z+(n - m)*z=n*z:=by rw [<- j9]; congr 1; omega
  rw [eu,hc (m*z+i) ae]
  have h1:fl f es=fl f (es.take m)++fl f (es.drop m):=by rw [<- yz,dU]
  have h2:(fl f (es.take m)).length=m*z:=by rw [mq hz,bJ,hl,cW hm]
  rw [h1,bU ae,h2]
  congr 1
  omega
def jn:List (List UInt8)->List UInt8
 | []=>[]
 | s::r=>s++r.flatMap fun t=>32::t
def I64 (xs:List Int):Prop:=∀x∈xs,-9223372036854775808<=x/\x<=9223372036854775807
theorem I64.at {xs:List Int} (h:I64 xs) {x:Int} (hx:xs[i]?=some x):-9223372036854775808<=x/\x<=9223372036854775807:=h x (ah hx)
theorem EL {α β:Type} {f:α->β} {es:List α} {zs:List β} (h:es.map f=zs) (hn:zs.length=n):es.length=n:=by
 have:=aq List.length h
 rw [aw] at this
 omega
theorem St.lZ (h:St w0 w [] ps) (p:PF) (hp:p.P w):St w0 w [] (p::ps):=h.l9 p hp fun o ho=>by cases ho
def ZB (k:Nat) (es:List NE):Prop:=∀e∈es,zl (zz e)<=k
variable {es fs os:List NE}
theorem ZB.at (h:ZB k es) {z:Int} (he:es[i]?=some (A,c,z)):zl z<=k:=h _ (ah he)
theorem step_zip {g:Int->Int->Int} {C:Option Addr} {z y:Int} (ho:os.map zz=(List.zipWith g (es.map zz) (fs.map zz)).take j) (he:es[j]?=some (A,c,z)) (hf:fs[j]?=some (B,d,y)):(os++[(C,m,g z y)]).map zz=(List.zipWith g (es.map zz) (fs.map zz)).take (j+1):=by
 rw [cD,ho,take_one (by rw [List.getElem?_zipWith,ay,ay,he,hf]; rfl)]
 rfl
theorem Mb {g:Int->Int->Int} (h:es.length=n) (k:fs.length=n):(List.zipWith g (es.map zz) (fs.map zz)).length=n:=by
 rw [List.length_zipWith,aw,aw,h,k,Nat.min_self]
def tP (B:Nat) (w:World) (v:Value) (n:Nat) (zs:List Int):Prop:=∃A c es,v=.slice A n c/\sW dD 52 2 fN FN B w A n c es/\es.length=n/\es.map zz=zs
theorem step_map {g:Int->Int} {z:Int} (ho:os.map zz=((es.map zz).take j).map g) (he:es[j]?=some (A,c,z)):(os++[(B,d,g z)]).map zz=((es.map zz).take (j+1)).map g:=by
 rw [cD,ho,take_one (by rw [ay,he]; rfl),cD]
 rfl
abbrev IE:=Int×Int×Int×Int×Int
def fJ (e:IE):List Value:=[.int .i64 e.1,.int .i64 e.2.1,.int .i64 e.2.2.1,.int .i64 e.2.2.2.1,.int .i64 e.2.2.2.2]
def FJ (_:IE):PF:=kF
theorem lL (e:IE):(fJ e).length=5:=rfl
def B64 (x:Int):Prop:=-9223372036854775808<=x/\x<=9223372036854775807
def IB (e:IE):Prop:=B64 e.1/\B64 e.2.1/\B64 e.2.2.1/\B64 e.2.2.2.1/\B64 e.2.2.2.2
def IBs (es:List IE):Prop:=∀e∈es,IB e
theorem IBs.at {es:List IE} (h:IBs es) {e:IE} (hx:es[i]?=some e):IB e:=h e (ah hx)
end Go.Proofs.YtgopcdagnicekaaGreatDoor.W
namespace Go.Proofs.YtgopcdagnicekaaGreatDoor
open Go.RowKit Anv Go.ChangeShapes Go.WideShapes Go.ChangeAt Go.Joins W
section
variable {H:Type} {enc:TypeId×Value->H} {P:Program} {w:World} {base:Nat} {spare:Nat->Bool} {held:Bool}
end
theorem RL:prog.cellsOf 3=1:=by kernel_rfl
theorem Mc {H:Type} {enc:TypeId×Value->H} {W:World} {m:Nat} {v:Value} {y:DataW H×List MemPlace}
  (h:DataW.trod enc prog W 0 (fun _=>true) true m 3 [v]=some y):∃n,v=.int .i64 n/\B64 n:=by
 obtain ⟨n,e,_,hw⟩:=DataW.trod_int underlying3 h
 simp at e
 exact ⟨n,e,bounds_i64 hw⟩
end Go.Proofs.YtgopcdagnicekaaGreatDoor

/- All the rest of the world stands as it stood; a row with its spare room. Over any program. No condition. -/
namespace Go.Proofs.YtgopcdagnicekaaGreatDoor.W
open Go.RowKit Anv Go.Lib
def dA (w1:World) (o:PF):PF:=
 ⟨fun w=>w1.heap.size<=w.heap.size/\∀b,b<w1.heap.size->¬o.gO b->w.heap[b]?=w1.heap[b]?,fun b=>b<w1.heap.size/\¬o.gO b,
  fun h hb=>cl hb.1 h.1,fun h hs hk=>⟨aD h.1 hs,fun b hb hn=>(hk b ⟨hb,hn⟩).trans (h.2 b hb hn)⟩⟩
variable {w0 w w':World} {ps:List PF} {k g c T2 ty E n m z i c0:Nat} {o:PF} {t:TypeId} {cs vs:List Value} {P:Program} {B A:Option Addr} {x y:Operand} {q:Value->Bool}
theorem St.cF {own:List PF} (h:St w0 w own ps) (hk:own[k]?=some o) (js:List Nat):St w0 w [o] (dA w o::js.filterMap (ps[·]?)):=by
 have h1:=h.pick [k] js fW
 rw [show [k].filterMap (own[·]?)=[o] by simp [hk]] at h1
 refine h1.l9 _ ⟨ar _,fun _ _ _=>I⟩ fun e he b h2 h3=>?_
 rw [aL.1 he] at h2
 exact h3.2 h2
theorem St.rest {own:List PF} (h:St w0 w own ps) (hk:own[k]?=some o) (h':St w0 w' [] [dA w o]):St w0 w' (own.eraseIdx k) ps:=by
 obtain ⟨hs,hr⟩:=h'.pat (k:=0) rfl
 have hm:∀e∈own.eraseIdx k,∃j,j≠k/\own[j]?=some e:=fun e he=>List.mem_eraseIdx_iff_getElem?.1 he
 refine ⟨h'.below,fun e he=>?_,fun e he=>h.new e (iq he),h.nd.sublist (i' ..),fun p hp=>?_,fun p hp e he=>h.apart p hp e (iq he)⟩
 ·obtain ⟨j,hj,Gv⟩:=hm e he
  have h1:=h.mine e (iq he)
  exact e.keep h1 hs fun b hb=>hr b (e.lt h1 hb) (h.one Gv hk hj b hb)
 ·have h1:=h.pers p hp
  exact p.keep h1 hs fun b hb=>hr b (p.lt h1 hb) fun ho=>h.apart p hp o (ah hk) b ho hb
abbrev PE:=Value×Value
def fP (p:PE):List Value:=[p.1,p.2]
def FP (_:PE):PF:=kF
section
variable {P:Program} {N:Nat} {dq:List Deferred} {a:Act} {l:List (Nat×Value)} {w:World}
variable {d:Nat} {ty:TypeId} {pos:String} {af:Array Edge} {gd:Option (Nat×Bool)}
end
def asd (p q:PF):PF:=
 ⟨fun w=>p.P w/\q.P w,fun b=>p.gO b∨q.gO b,fun h hb=>hb.elim (p.lt h.1) (q.lt h.2),fun h hs hk=>⟨p.keep h.1 hs fun b hb=>hk b (.inl hb),q.keep h.2 hs fun b hb=>hk b (.inr hb)⟩⟩
theorem ou {c:Array Value} (h:(bk g c t).P w):w.heap[g]?=some (.cells c t (0,0)):=h
theorem St.Md {own:List PF} {c:Array Value} (h:St w0 w own ps) (hk:own[k]?=some (bk g c t)):St w0 w (own.eraseIdx k) (bk g c t::ps):=
 h.give hk _ (h.owns hk) fun _ hb=>hb
section
variable {P:Program} {N:Nat} {dq:List Deferred} {a:Act} {l:List (Nat×Value)} {w:World} {d:Nat} {ty:TypeId} {pos:String} {af:Array Edge} {gd:Option (Nat×Bool)}
theorem RM {xl:List Operand} {vl:List Value} (h:b7 dq N a l) (hx:xl.map (eB l)=vl.map some):xl.map a.eval=vl:=by
 induction xl generalizing vl with
 | nil=>cases vl with
  | nil=>rfl
  | cons=>simp at hx
 | cons x xl ih=>cases vl with
  | nil=>simp at hx
  | cons v vl=>
   simp only [dk,eY] at hx ⊢
   exact ⟨h.ev hx.1,ih hx.2⟩
theorem fi {f:FuncId} {fs cs:Array Operand} {us vs:Array Value} (h:b7 dq N a l) (hf:fs.toList.map (eB l)=us.toList.map some) (hx:cs.toList.map (eB l)=vs.toList.map some):
  (execOp a.eval ⟨some d,.makeFunc (.func f) fs cs,ty,pos,af,gd⟩).run P w=.ok (.value (.func (.func f) us vs)) w:=by
 have e1:fs.map a.eval=us:=jx (by rw [fe]; exact RM h hf)
 have e2:cs.map a.eval=vs:=jx (by rw [fe]; exact RM h hx)
 simp [execOp,Instr.makeFunc,e1,e2]
end
theorem J4 {cur:Array Value} (cs:Array Value) (hg:w.heap[g]?=some (.cells cur t (0,0))):Qg w (w.setRow g cs) g cs t:=
 ⟨rfl,rfl,rfl,by simp [World.setRow],setRow_heap w g cur cs t (0,0) hg,fun k hk=>setRow_other w g k cs hk⟩
theorem vi {α:Type} {f:α->List Value} {z:Nat} (hz:∀e,(f e).length=z):∀(es:List α) (k:Nat),fl f (es.take k)=(fl f es).take (k*z)
 | [],k=>by simp [fl]
 | e::es,0=>by simp [fl]
 | e::es,k+1=>by
  rw [iK,fl,fl,vi hz es k,cG,List.take_append,hz,show (f e).take (k*z+z)=f e from ax (by rw [hz]; omega),show k*z+z - z=k*z by omega]
theorem Me {α:Type} {f:α->List Value} {z:Nat} (hz:∀e,(f e).length=z):∀(es:List α) (k:Nat),fl f (es.drop k)=(fl f es).drop (k*z)
 | [],k=>by simp [fl]
 | e::es,0=>by simp
 | e::es,k+1=>by
  rw [List.drop_succ_cons,fl,Me hz es k,cG,List.drop_append,hz,show (f e).drop (k*z+z)=[] from bo (by rw [hz]; omega),show k*z+z - z=k*z by omega,cJ]
theorem G9 {β:Type} {l:List β} {x:β} (h:l[k]?=some x):l.set k x=l:=by
 obtain ⟨hk,rfl⟩:=aE.1 h
 exact ja hk
theorem vj (b o j:Nat):(⟨b,o,none⟩:Addr).add j=⟨b,o+j,none⟩:=by simp [Addr.add]
def Xo (A:Option Addr) (c m z:Nat):Option Addr:=if c=m then A else A.map (·.add (m*z))
theorem OL {T d2:Nat} (hT:P.underlying T=some (.slice E)) (qZ:(sizeOf E).run P w=.ok z w) (hf:(Builtin.firstCells z (min m n) (.slice B m d2)).run P w=.ok cs.toArray w):
  (Builtin.copy_ #[T,T2] ty #[.slice none n c,.slice B m d2]).run P w=.ok (.int .i64 (min m n:Nat)) w:=by
 have e5:Nat.min m n=min m n:=rfl
 simp [Builtin.copy_,run_underlying hT,Builtin.lenOf,qZ,e5,hf,goInt]
theorem OM {T d2:Nat} {A:Addr} (hT:P.underlying T=some (.slice E)) (qZ:(sizeOf E).run P w=.ok z w) (hf:(Builtin.firstCells z (min m n) (.slice B m d2)).run P w=.ok cs.toArray w) (σ:(storeCells A cs).run P w=.ok () w'):
  (Builtin.copy_ #[T,T2] ty #[.slice (some A) n c,.slice B m d2]).run P w=.ok (.int .i64 (min m n:Nat)) w':=by
 have e5:Nat.min m n=min m n:=rfl
 simp [Builtin.copy_,run_underlying hT,Builtin.lenOf,qZ,e5,hf,σ,goInt]
section
variable {P:Program} {K:Act->World->Prop} {Q:Exit->Act->World->Prop} {N:Nat} {dq:List Deferred} {a:Act} {l:List (Nat×Value)} {w w0:World} {own ps:List PF}
variable {d:Nat} {ty:TypeId} {pos:String} {af:Array Edge} {gd:Option (Nat×Bool)}
theorem RN {α:Type} {f:α->List Value} {T d2:Nat} {es jU:List α} (h:b7 dq N a l) (hs:St w0 w own ps) (hd:Nat.blt d N=true) (hT:P.underlying T=some (.slice E)) (hE:∃i,P.info? E=some i/\i.size=z)
 (hx:eB l x=some (.slice A n c)) (hy:eB l y=some (.slice B m d2)) (hk:own[k]?=some (fc dD E z A n c (fl f es))) (hr:Rd z w B m d2 (fl f jU)) (hz:∀e,(f e).length=z) (hl:es.length=n) (mr:jU.length=m) (hq:∀e,(f e).all dD=true) (h1:∀e,∀v∈f e,v.oneCell'=true)
 (hK:∀a' w',b7 dq N a' ((d,.int .i64 (min m n:Nat))::l)->St w0 w' (own.set k (fc dD E z A n c (fl f (jU.take n++es.drop m)))) ps->K a' w'):
  Oper.wp P ⟨some d,.call ⟨.builtin .copy,#[x,y],#[T,T2]⟩,ty,pos,af,gd⟩ a w K Q:=by
 have hv:=h.ev hx
 have Dj:=h.ev hy
 have hP:=hs.owns hk
 have nD:w.ownsRow 0 E z (.slice A n c) n (fl f es):=hP.1
 obtain ⟨ti,hti,RJ⟩:=hE
 have qZ:(sizeOf E).run P w=.ok z w:=run_sizeOf ⟨ti,hti,RJ⟩
 -- what is read
 have Ou:(fl f (jU.take (min m n))).length=min m n*z:=by rw [mq hz,bJ]; congr 1; omega
 have hfc:(Builtin.firstCells z (min m n) (.slice B m d2)).run P w=.ok (fl f (jU.take (min m n))).toArray w:=by
  rcases bu m with h0 | h0
  ·have e:fl f (jU.take (min m n))=[]:=dc (by rw [Ou,h0]; simp)
   rw [e]
   cases B with
   | none=>exact run_firstCells_none w z _ _ _
   | some b=>exact run_firstCells_some w z _ b _ _ [] (by rw [h0]; simp) fun j v hj=>by simp at hj
  ·have hB:=hr.ab h0
   rw [hB]
   refine run_firstCells_some w z _ _ _ _ _ Ou fun j v hj=>?_
   have Gv:j<min m n*z:=by have:=(aE.1 hj).1; omega
   have hmz:min m n*z<=m*z:=bB _ (Nat.min_le_left ..)
   have e1:(⟨Go.Proofs.YtgopcdagnicekaaGreatDoor.ab B,ao B,none⟩:Addr).add j=⟨Go.Proofs.YtgopcdagnicekaaGreatDoor.ab B,ao B+j,none⟩:=vj ..
   rw [e1,hr.at ae,<- hj,vi hz,eM Gv]
 rcases nD.2 with ⟨e0,pJ⟩ | ⟨g,cap,cur,e0,_,hg,Gu,GR,mx,wK⟩
 ·cases e0
  have Jz:(execOp a.eval ⟨some d,.call ⟨.builtin .copy,#[x,y],#[T,T2]⟩,ty,pos,af,gd⟩).run P w=.ok (.value (.int .i64 (min m 0:Nat))) w:=by
   simp only [execOp,resolve]
   generalize a.eval=ρ at hv Dj ⊢
   simp [hv,Dj,go_sem,OL hT qZ hfc]
  unfold Oper.wp
  rw [Jz]
  refine hK _ _ (h.put hd _) ?_
  have e:jU.take 0++es.drop m=es:=by rw [dc hl]; simp
  rw [e,G9 hk]
  exact hs
 ·cases e0
  obtain ⟨Xk,vg,Di⟩:=hP.2 g rfl
  rw [hg] at vg
  cases vg
  have hnz:min m n*z<=n*z:=bB _ (Nat.min_le_right ..)
  have hzc:n*z<=cur.size:=by rw [mx]; exact bB _ Gu
  have anb:∀v∈fl f (jU.take (min m n)),v.oneCell'=true:=by
   have:∀l:List α,∀v∈fl f l,v.oneCell'=true:=by
    intro l
    induction l with
    | nil=>intro v hv; cases hv
    | cons e l ih=>
     intro v hv
     rw [fl] at hv
     rcases aK.1 hv with hv | hv
     ·exact h1 e v hv
     ·exact ih v hv
   exact this _
  have σ:=run_storeCells_at P g 0 E (fl f (jU.take (min m n))) 0 cur w hg (by rw [Ou]; omega) anb
  have Jz:(execOp a.eval ⟨some d,.call ⟨.builtin .copy,#[x,y],#[T,T2]⟩,ty,pos,af,gd⟩).run P w=.ok (.value (.int .i64 (min m n:Nat))) (w.setRow g (cur.toList.take (0+0)++fl f (jU.take (min m n))++cur.toList.drop (0+0+(fl f (jU.take (min m n))).length)).toArray):=by
   simp only [execOp,resolve]
   generalize a.eval=ρ at hv Dj ⊢
   simp [hv,Dj,go_sem,OM hT qZ hfc σ]
  unfold Oper.wp
  rw [Jz]
  have hu:=J4 (cur.toList.take (0+0)++fl f (jU.take (min m n))++cur.toList.drop (0+0+(fl f (jU.take (min m n))).length)).toArray hg
  have hX:(cur.toList.take (0+0)++fl f (jU.take (min m n))++cur.toList.drop (0+0+(fl f (jU.take (min m n))).length))=fl f (jU.take n++es.drop m)++cur.toList.drop (n*z):=by
   have hLR:cur.toList=fl f es++cur.toList.drop (n*z):=by rw [<- wK,dU]
   have Wi:(fl f es).length=n*z:=by rw [mq hz,hl]
   rw [Ou,bD,bD,jI,cJ]
   conv=>lhs; rw [hLR]
   rw [fR ae,yz,<- Me hz,<- aH]
   congr 2
   ·congr 1
    rcases Nat.le_total m n with V9 | V9
    ·rw [cW V9,ax (by omega),ax (by omega)]
    ·rw [Nat.min_eq_right V9]
   ·rcases Nat.le_total m n with V9 | V9
    ·rw [cW V9]
    ·rw [Nat.min_eq_right V9,bo ae,bo ae]
  have Qf:(jU.take n++es.drop m).length=n:=by rw [ai,bJ,dp,hl,mr]; omega
  have hfn:(fl f (jU.take n++es.drop m)).length=n*z:=by rw [mq hz,Qf]
  refine hK _ _ (h.put hd _) (hs.pH hk (e':=fc dD E z (cS g) n c (fl f (jU.take n++es.drop m))) ⟨⟨hfn,.inr ⟨g,c,_,I,av _,hu.new,Gu,GR,?_,?_⟩⟩,fun g' vg=>?_⟩ (fun b hb=>.inl hb) hu.os hu.tape hu.output (ew hu.size.symm) fun b _ hb=>hu.old b fun e=>hb (aq some e.symm))
  ·rw [hX,List.size_toArray,ai,hfn,dp,dV,mx]
   have:=bB z Gu
   omega
  ·rw [hX,iu ae,ax (by omega)]
  ·obtain rfl:g=g':=by simpa [Value.ownBlock] using vg
   refine ⟨_,hu.new,?_⟩
   rw [hX,jd,J2 hq]
   exact bp.2 fun u hu=>bp.1 Di u (dx hu)
theorem OO {y2:Operand} {T:Nat} {k k2:IntKind} (h:b7 dq N a l) (hT:P.underlying T=some (.slice E)) (hE:∃j,P.info? E=some j/\j.size=z) (hx:eB l x=some (.slice A n c)) (hy:eB l y=some (.int k (m:Nat))) (hy2:eB l y2=some (.int k2 (m:Nat))) (hm:m<=c):
  (execOp a.eval ⟨some d,.slice T x none (some y) (some y2),ty,pos,af,gd⟩).run P w=.ok (.value (.slice A m m)) w:=by
 have hv:=h.ev hx
 have Dj:=h.ev hy
 have hv2:=h.ev hy2
 have he:P.elem T=E:=by simp [Program.elem,hT]
 have hr:=run_slice_hm w T A n c (by rw [he]; exact hT) k k2 (m:Int) (m:Int) ae ae ae
 rw [he,run_sizeOf hE] at hr
 simp only [execOp,j5,fQ,hv,Dj,hv2]
 rw [Sem.run_bind,run_sliceAt_slice _ _ _ _ _ _ (by rw [he]; exact hT),hr]
 have e:Option.map (fun x:Addr=>x.add 0) A=A:=by
  cases A with
  | none=>rfl
  | some ad=>simp [Addr.add]
 simp [sliced,Result.andThen,e]
theorem vY {T:Nat} {k:IntKind} (h:b7 dq N a l) (hT:P.underlying T=some (.slice E)) (hE:∃j,P.info? E=some j/\j.size=z) (hx:eB l x=some (.slice A n c)) (hy:eB l y=some (.int k (m:Nat))) (hm:m<=n):
  (execOp a.eval ⟨some d,.slice T x (some y) none none,ty,pos,af,gd⟩).run P w=.ok (.value (.slice (Xo A c m z) (n - m) (c - m))) w:=by
 have hv:=h.ev hx
 have Dj:=h.ev hy
 have he:P.elem T=E:=by simp [Program.elem,hT]
 have hr:=run_slice_l w T A n c (by rw [he]; exact hT) k (m:Int) ae ae
 rw [he,run_sizeOf hE] at hr
 simp only [execOp,j5,fQ,hv,Dj]
 rw [Sem.run_bind,run_sliceAt_slice _ _ _ _ _ _ (by rw [he]; exact hT),hr]
 simp [sliced,Result.andThen,Xo]
end
theorem RO {α:Type} {f:α->List Value} {F:α->PF} {es:List α} (hz:∀e,(f e).length=z) (h:(bH f F z A n c es).P w) (hm:m<=n):(bH f F z (Xo A c m z) (n - m) (c - m) (es.drop m)).P w:=by
 obtain ⟨hr,hl,hE⟩:=h
 have OG:=hr.cap
 have hE2:(dW F (es.drop m)).P w:=fun e he=>hE e (dx he)
 rcases bu (n - m) with h0 | h0
 ·refine ⟨⟨by rw [mq hz,dp,hl],by omega,by have:=hr.big; omega,fun hp=>ae⟩,by rw [dp,hl],hE2⟩
 ·obtain ⟨b,off,rfl,_⟩:=hr.cells ae
  have e:Xo (some ⟨b,off,none⟩) c m z=some ⟨b,off+m*z,none⟩:=by
   unfold Xo
   rw [ak ae]
   simp [Addr.add]
  rw [e]
  exact RK hz ⟨hr,hl,hE⟩ hm
theorem St.rowFrom {α:Type} {f:α->List Value} {F:α->PF} {own:List PF} {es:List α} (h:St w0 w own ps) (hi:ps[i]?=some (bH f F z A n c es)) (m:Nat) (hz:∀e,(f e).length=z) (hm:m<=n):St w0 w own (bH f F z (Xo A c m z) (n - m) (c - m) (es.drop m)::ps):=
 h.l9 _ (RO hz (h.pat hi) hm) fun e he b1 h1 h2=>h.apart _ (ah hi) e he b1 h1 (by
  rcases h2 with ⟨hp,off,e2⟩ | ⟨x,hx,hf⟩
  ·obtain ⟨b,o,rfl,_⟩:=(h.pat hi).1.cells ae
   have e3:Xo (some ⟨b,o,none⟩) c m z=some ⟨b,o+m*z,none⟩:=by
    unfold Xo
    rw [ak (by have:=(h.pat hi).1.cap; omega)]
    simp [Addr.add]
   rw [e3] at e2
   cases e2
   exact .inl ⟨by omega,o,rfl⟩
  ·exact .inr ⟨x,dx hx,hf⟩)
abbrev LE:=Option Addr×Nat×Nat×List NE
def fL (v:LE):List Value:=[.slice v.1 v.2.1 v.2.2.1]
def FL (v:LE):PF:=bH fN FN 2 v.1 v.2.1 v.2.2.1 v.2.2.2
theorem lM (v:LE):(fL v).length=1:=rfl
def lz (v:LE):List Int:=v.2.2.2.map zz
section
variable {P:Program} {a:Act} {w:World} {Q:Exit->Act->World->Prop}
end
section
variable {P:Program} {K:Act->World->Prop} {Q:Exit->Act->World->Prop} {N:Nat} {dq:List Deferred} {a:Act} {l:List (Nat×Value)} {w w0:World} {own ps:List PF}
variable {d:Nat} {ty:TypeId} {pos:String} {af:Array Edge} {gd:Option (Nat×Bool)}
theorem uA {T:Nat} (h:b7 dq N a l) (hs:St w0 w own ps) (hd:Nat.blt d N=true) (hT:P.underlying T=some (.slice E)) (hE:∃i,P.info? E=some i/\i.size=z)
 (hK:∀a' w' g,b7 dq N a' ((d,.slice (cS g) 0 0)::l)->St w0 w' (bk g #[] E::own) ps->K a' w'):
  Oper.wp P ⟨some d,.buildSlice T 0 #[],ty,pos,af,gd⟩ a w K Q:=by
 have hr:(execOp a.eval ⟨some d,.buildSlice T 0 #[],ty,pos,af,gd⟩).run P w=.ok (.value (.slice (cS w.heap.size) 0 0)) (w.alloc (.cells #[] E)):=by
  have hf:Instr.fill (fun i=>some (i*z,z)) (Array.map (fun x=>(#[]:Array Value)[x%(#[]:Array Value).size]!) (Array.range 0)) ((#[]:Array (Nat×Operand)).map fun x=>(x.fst,a.eval x.snd)).toList=some #[]:=by simp [Instr.fill]
  simp only [execOp,Instr.buildSlice,Sem.run_bind,run_underlying hT w,Result.andThen_ok,run_sizeOf hE,jP,ak (show ¬0>2 ^ 24 by omega),if_true,Sem.run_pure,hf]
  rfl
 unfold Oper.wp
 rw [hr]
 exact hK _ _ _ (h.put hd _) (hs.push _ _)
end
section
variable {P:Program} {K:Act->World->Prop} {Q:Exit->Act->World->Prop} {N:Nat} {dq:List Deferred} {a:Act} {l:List (Nat×Value)} {w w0:World} {own ps:List PF}
variable {d:Nat} {ty:TypeId} {pos:String} {af:Array Edge} {gd:Option (Nat×Bool)}
theorem BC {t bytes:Nat} {zv:Value} {us:List Value} (h:b7 dq N a l) (hs:St w0 w own ps) (hd:Nat.blt d N=true) (hT:P.underlying t=some (.slice E))
 (hi:(P.info? E).map (fun i=>(i.zero,i.size,i.bytes))=some (some zv,z,bytes)) (RE:zv.cells.size=z) (mZ:Nat.blt 0 z=true) (hx:eB l x=some (.slice A n c0)) (hy:eB l y=some (.slice B m c))
 (hk:own[k]?=some (fc q E z A n c0 vs)) (hr:Rd z w B m c us) (h1:us.all (·.oneCell')=true) (Di:us.all q=true) (RD:zv.cells.toList.all q=true) (Bt:0<m) (hn:n+m<=maxLen) (hb:(n+m)*bytes<=140737488355328)
 (hK:∀a' w' g' c',b7 dq N a' ((d,.slice (cS g') (n+m) c')::l)->St w0 w' (own.set k (fc q E z (cS g') (n+m) c' (vs++us))) ps->K a' w'):
  Oper.wp P ⟨some d,.call ⟨.builtin .append,#[x,y],#[t,t]⟩,ty,pos,af,gd⟩ a w K Q:=by
 obtain ⟨i,Jw,xi⟩:=gJ.1 hi
 simp only [cP] at xi
 obtain ⟨hz,qZ,Jy⟩:=xi
 have nD:(wJ q E z (.slice A n c0) n vs).P w:=hs.owns hk
 have hl:us.length=m*z:=hr.len
 obtain ⟨b,off,rfl,_,hc⟩:=hr.cells Bt
 have RG:∀(j:Nat) u,us[j]?=some u->w.cell? ((⟨b,off,none⟩:Addr).add j)=some u:=by
  intro j u hu
  rw [vj,hc j (by rw [<- hl]; exact (aE.1 hu).1)]
  exact hu
 have h1':∀u∈us,u.oneCell'=true:=fun u hu=>bp.1 h1 u hu
 obtain ⟨v',w',pK,L8,rY,_,G6⟩:=run_append_own_at w 0 t ty E i zv z bytes hT Jw hz qZ Jy RE (dH mZ) _ n vs nD.1 ⟨b,off,none⟩ m c us hl RG h1' hn hb (av _)
 have hq:Bx q w' E v':=by
  subst qZ Jy
  obtain ⟨v2,w2,G7,hq⟩:=xH q hT Jw hz nD.1 nD.2 hl RG h1' Di RD Bt hn hb
  rw [pK] at G7
  cases G7
  exact hq
 have hvx:=h.ev hx
 have hvy:=h.ev hy
 have hr:(execOp a.eval ⟨some d,.call ⟨.builtin .append,#[x,y],#[t,t]⟩,ty,pos,af,gd⟩).run P w=.ok (.value v') w':=by
  simp [execOp,resolve,invoke,builtin,hvx,hvy,pK]
 unfold Oper.wp
 rw [hr]
 have rR:St w0 w' (own.set k (wJ q E z v' (n+m) (vs++us))) ps:=hs.pH hk (e':=wJ q E z v' (n+m) (vs++us)) ⟨L8,hq⟩ (fun b hb=>by
  have Df:v'.ownBlock=some b:=hb
  rcases G6 with h2 | h2
  ·exact .inl (h2.symm.trans Df)
  ·rw [h2] at Df
   exact .inr (ew (aW Df))) rY.os rY.tape rY.output rY.size fun b hb hnf=>rY.block b hb fun e=>hnf e.symm
 rcases L8.2 with ⟨rfl,hnm⟩ | ⟨g',cap,cur,rfl,_⟩
 ·omega
 ·exact hK _ _ g' cap (h.put hd _) rR
theorem G' {t:Nat} (h:b7 dq N a l) (hs:St w0 w own ps) (hd:Nat.blt d N=true) (hT:P.underlying t=some (.slice E))
 (hE:∃i,P.info? E=some i/\i.size=z) (hx:eB l x=some (.slice A n c0)) (hy:eB l y=some (.slice B 0 c)) (hk:own[k]?=some (fc q E z A n c0 vs))
 (hK:∀a',b7 dq N a' ((d,.slice A n c0)::l)->K a' w):
  Oper.wp P ⟨some d,.call ⟨.builtin .append,#[x,y],#[t,t]⟩,ty,pos,af,gd⟩ a w K Q:=by
 obtain ⟨i,hi,hz⟩:=hE
 have hle:n<=c0:=(aZ (hs.owns hk)).cap
 have hvx:=h.ev hx
 have hvy:=h.ev hy
 have hf:(Builtin.firstCells i.size 0 (.slice B 0 c)).run P w=.ok (#[]:Array Value) w:=by
  cases B with
  | none=>exact run_firstCells_none w i.size _ _ _
  | some b=>exact run_firstCells_some w i.size 0 b 0 c [] fW fun j v hj=>by simp at hj
 have pK:(Builtin.append_ #[t,t] ty #[.slice A n c0,.slice B 0 c]).run P w=.ok (.slice A n c0) w:=by
  cases A<;>simp [Builtin.append_,run_underlying hT,sizeOf,typeInfo,hi,Builtin.lenOf,hle,hf,storeCells]
 have hr:(execOp a.eval ⟨some d,.call ⟨.builtin .append,#[x,y],#[t,t]⟩,ty,pos,af,gd⟩).run P w=.ok (.value (.slice A n c0)) w:=by
  simp [execOp,resolve,invoke,builtin,hvx,hvy,pK]
 unfold Oper.wp
 rw [hr]
 exact hK _ (h.put hd _)
end
theorem St.RQ {own:List PF} {E:TypeId} (h:St w0 w own ps) (hk:own[k]?=some (bk g #[] E)) (z:Nat):St w0 w (own.set k (fc dD E z (cS g) 0 0 [])) ps:=by
 have hg:w.heap[g]?=some (.cells #[] E (0,0)):=h.owns hk
 refine h.pH hk (e':=fc dD E z (cS g) 0 0 []) ⟨⟨by simp,.inr ⟨g,0,#[],rfl,av _,hg,ar _,av _,by simp,by simp⟩⟩,fun g' vg=>?_⟩ (fun b hb=>.inl ?_) I I I (ar _) fun _ _ _=>I
 ·obtain rfl:g=g':=by simpa [Value.ownBlock] using vg
  exact ⟨_,hg,I⟩
 ·obtain ⟨a,ha,rfl⟩:=ng hb
  cases ha
  rfl
theorem Xq {α:Type} {f:α->List Value} {F:α->PF} {es:List α} (hz:∀e,(f e).length=z) (h:(bH f F z A n c es).P w) (hm:m<=n):(bH f F z A m c (es.take m)).P w:=by
 obtain ⟨hr,hl,hE⟩:=h
 have h1:m*z<=n*z:=bB _ hm
 have h2:=hr.len
 refine ⟨⟨?_,aD hm hr.cap,hr.big,fun hp=>?_⟩,by rw [bJ,hl]; exact cW hm,fun e he=>hE e (dM he)⟩
 ·rw [vi hz,bJ]; omega
 ·obtain ⟨b,off,rfl,fh,hc⟩:=hr.cells ae
  exact ⟨b,off,I,fh,fun i hi=>by rw [hc i ae,vi hz,eM hi]⟩
theorem St.RR {α:Type} {f:α->List Value} {own:List PF} {es:List α} (h:St w0 w own ps) (hk:own[k]?=some (fc q E z A n c (fl f es))) (hl:es.length=n) (m:Nat) (hz:∀e,(f e).length=z) (hm:m<=n):St w0 w (own.set k (fc q E z A m c (fl f (es.take m)))) ps:=by
 have hP:=h.owns hk
 have hr:w.ownsRow 0 E z (.slice A n c) n (fl f es):=hP.1
 have qP:m*z<=n*z:=bB _ hm
 have hlen:(fl f (es.take m)).length=m*z:=by rw [mq hz,bJ,hl,cW hm]
 refine h.pH hk (e':=fc q E z A m c (fl f (es.take m))) ⟨⟨hlen,?_⟩,fun g hg=>?_⟩ (fun b hb=>.inl ?_) I I I (ar _) fun _ _ _=>I
 ·rcases hr.2 with ⟨e0,hn⟩ | ⟨g,cap,cur,e0,hb,hg,Gu,GR,mx,ht⟩
  ·cases e0
   exact .inl ⟨by rw [show m=0 by omega],by omega⟩
  ·cases e0
   exact .inr ⟨g,c,cur,I,hb,hg,aD hm Gu,GR,mx,by rw [vi hz,<- ht,List.take_take,cW qP]⟩
 ·obtain ⟨cur,h1,h2⟩:=hP.2 g (by
   cases A with
   | none=>simp [Value.ownBlock] at hg
   | some a=>simpa [Value.ownBlock] using hg)
  exact ⟨cur,h1,h2⟩
 ·obtain ⟨a,rfl,rfl⟩:=ng hb
  rfl
abbrev UE:=Bool×Option Addr×Nat×Nat×List Nat
def fU (e:UE):List Value:=[.bool e.1,.slice e.2.1 e.2.2.1 e.2.2.2.1]
def FU (e:UE):PF:=W4 e.2.1 e.2.2.1 e.2.2.2.1 e.2.2.2.2
def Sz (es:List UE):Prop:=∀e∈es,e.2.2.1<=35184372088832
theorem Sz.at {es:List UE} (h:Sz es) {e:UE} (hx:es[i]?=some e):e.2.2.1<=35184372088832:=h e (ah hx)
end Go.Proofs.YtgopcdagnicekaaGreatDoor.W
namespace Go.Proofs.YtgopcdagnicekaaGreatDoor
open Go.RowKit Anv Go.ChangeShapes Go.WideShapes Go.ChangeAt Go.Joins W
end Go.Proofs.YtgopcdagnicekaaGreatDoor

/- A value is stored into a row of the call's own whose elements have one cell. Over any program. No condition. -/
namespace Go.Proofs.YtgopcdagnicekaaGreatDoor.W
open Go.RowKit Anv Go.Lib
variable {v:Value} {P:Program} {w w0:World} {E i n c p N j F:Nat} {x:Operand} {A:Option Addr} {o:Oper} {dq:List Deferred} {ps:List PF} {l pv:List (Nat×Value)} {os:List Oper} {Z is:List Nat} {ls:Array Bool} {gd:Option (Nat×Bool)} {a:Act} {M:Prop} {f:FuncId} {args zc:Array Value} {e:PF} {fs:Array Field} {kt:TypeId}
theorem Ke (h1:v.oneCell'=true):v.cells=#[v]:=by cases v<;>simp_all [Value.cells,Value.oneCell']
theorem Kf {ad:Addr} {u:Value} (h1:v.oneCell'=true) (Ou:w.cell? ad=some u) (hf:w.frozen? ad=false):((store ad v).run P w)=.ok () (w.setCell ad v):=by
 cases v<;>simp_all [store,Sem.run,Value.oneCell']
theorem Hr {α:Type} {f:α->List Value} {e:α} {v:Value} (hz:∀e,(f e).length=1) (hv:f e=[v]):∀(es:List α) (i:Nat),(fl f es).set i v=fl f (es.set i e)
 | [],_=>rfl
 | x::es,0=>by
  match h:f x,hz x with
  | [u],_=>rw [fl,h,List.set_cons_zero,fl,hv]; rfl
 | x::es,i+1=>by
  match h:f x,hz x with
  | [u],_=>rw [fl,h,j0,fl,h,<- Hr hz hv es i]; rfl
section
variable {P:Program} {K:Act->World->Prop} {Q:Exit->Act->World->Prop} {N:Nat} {dq:List Deferred} {a:Act} {l:List (Nat×Value)} {w w0:World} {own ps:List PF}
variable {d:Nat} {ty:TypeId} {pos:String} {af:Array Edge} {gd:Option (Nat×Bool)}
theorem Kg {α:Type} {f:α->List Value} {q:Value->Bool} {T k:Nat} {y:Operand} {es:List α} {e:α} (h:b7 dq N a l) (hs:St w0 w own ps) (hi:∃j,P.info? T=some j/\j.size=1) (hx:eB l x=some (.pointer (some ⟨Go.Proofs.YtgopcdagnicekaaGreatDoor.ab A,ao A+p,none⟩))) (hy:eB l y=some v) (hp:i*1=p)
 (hk:own[k]?=some (fc q E 1 A n c (fl f es))) (hz:∀e,(f e).length=1) (hn:i<n) (hl:es.length=n) (hv:f e=[v]) (h1:v.oneCell'=true) (hq:q v=true)
 (hK:∀a' w',b7 dq N a' l->St w0 w' (own.set k (fc q E 1 A n c (fl f (es.set i e)))) ps->K a' w'):
  Oper.wp P ⟨none,.store T x y,ty,pos,af,gd⟩ a w K Q:=by
 subst hp
 have hP:=hs.owns hk
 have nD:w.ownsRow 0 E 1 (.slice A n c) n (fl f es):=hP.1
 rcases nD.2 with ⟨e0,pJ⟩ | ⟨g,cap,cur,e0,_,hg,Gu,GR,mx,wK⟩
 ·omega
 cases e0
 obtain ⟨Xk,vg,Di⟩:=hP.2 g rfl
 rw [hg] at vg
 cases vg
 have RI:eB l x=some (.pointer (some ⟨g,i,none⟩)):=by
  rw [hx]
  show some (Value.pointer (some ⟨g,0+i*1,none⟩))=_
  rw [bD,gH]
 have hic:i<cur.size:=ae
 obtain ⟨ti,hti,nz⟩:=hi
 have Ou:w.cell? ⟨g,i,none⟩=some cur[i]:=by rw [cell_of_row w _ _ _ _ _ hg]; simp [hic]
 have hf:w.frozen? ⟨g,i,none⟩=false:=by simp [World.frozen?,hg]
 have hvc:=Ke h1
 have hr:(execOp a.eval ⟨none,.store T x y,ty,pos,af,gd⟩).run P w=.ok .skip (w.setCell ⟨g,i,none⟩ v):=by
  simp only [execOp,h.ev RI,h.ev hy,Instr.storeAt,Instr.sureAddr,Sem.run_bind,Sem.run_pure,Result.andThen_ok,storeVar,run_sizeOf ⟨ti,hti,nz⟩,hvc]
  have h0:(⟨g,i,none⟩:Addr).add 0=⟨g,i,none⟩:=by rw [Addr.add_mid]; rfl
  have σ:=Kf (P:=P) h1 Ou hf
  simp [storeCells,h0,σ]
 unfold Oper.wp
 rw [hr]
 have hu:=pE (o:=i) v hg
 have Hs:(cur.setIfInBounds i v).toList=cur.toList.set i v:=by simp
 refine hK _ _ (h.GU _) (hs.pH hk (e':=fc q E 1 (cS g) n c (fl f (es.set i e))) ⟨⟨?_,.inr ⟨g,c,_,I,av _,hu.new,Gu,GR,by simpa using mx,?_⟩⟩,fun g' vg=>?_⟩ (fun b hb=>.inl hb) hu.os hu.tape hu.output (ew hu.size.symm) fun b _ hb=>hu.old b fun e=>hb (aq some e.symm))
 ·rw [mq hz,aP,hl]
 ·rw [Hs,List.take_set,wK,Hr hz hv]
 ·obtain rfl:g=g':=by simpa [Value.ownBlock] using vg
  refine ⟨_,hu.new,?_⟩
  rw [Hs]
  refine bp.2 fun u hu=>?_
  rcases dz hu with h2 | h2
  ·exact bp.1 Di u h2
  ·rw [h2]; exact hq
end
section
variable {P:Program} {ro:Option Nat} {m:Nat} {Q:Exit->Act->World->Prop} {ops:Array Oper} {K:Act->World->Prop} {a:Act} {w:World} {md:Region.Mode}
def xQ (ops:Array Oper):Bool:=ops.all fun o=>match o.op with | .defer _=>false | _=>true
theorem Ic (h:xQ ops=true) (hi:ops[i]?=some o) (c:Call):o.op≠.defer c:=fun e=>by
 unfold xQ at h
 rw [Array.all_eq_true'] at h
 have:=h o (iZ hi)
 rw [e] at this
 cases this
theorem Yc (h:xQ ops=true) (v7:∀a w,¬Q .outgrown a w) (hw:wpOp P ops Q i K a w):wpOpIn (WF ro) m P ops Q i K a w:=by
 unfold wpOp at hw
 unfold wpOpIn
 revert hw
 cases hi:ops[i]? with
 | none=>exact id
 | some o=>
  simp only
  split
  ·rintro (hw | ⟨_,a',w',hq⟩)
   ·exact zZ (Ic h hi) hw
   ·exact (v7 a' w' hq).elim
  ·intro hw; exact ⟨fun _ _=>trivial,hw⟩
theorem S8 (h:xQ ops=true) (v7:∀a w,¬Q .outgrown a w):∀(fuel:Nat) (listed:Array Bool) (a:Act) (w:World),wpAny P md ops Q fuel listed a w->wpAnyIn (WF ro) m P md ops Q fuel listed a w
 | 0,_,_,_,hw=>hw
 | fuel+1,_,_,_,hw=>⟨hw.1,fun i hi=>Yc h v7 (wpOp_mono (fun a' w' h'=>S8 h v7 fuel _ a' w' h') (hw.2 i hi))⟩
theorem xR {id:Nat} {own:List PF} (S:Nat->World->Prop) (hm:P.follows .mixedOrders=true) (hn:ops.size=n) (he:b7 dq N a l) (hs:St w0 w own ps) (hd:xQ ops=true) (v7:∀a w,¬Q .outgrown a w)
 (h:∀w',b7 dq N a l->St w0 w' own ps->nB P ops Q S n (Array.replicate n false) a w'):(Code.region id ops true).wpIn (WF ro) m P Q a w:=by
 subst hn
 exact wpIn_region_any hm (S8 hd v7 _ _ _ _ (zX _ _ _ _ (h _ he hs.drew)))
end
def Ie:List Value->Nat->Option Value
 | [],_=>none
 | v::_,0=>some v
 | _::l,n+1=>Ie l n
theorem xS:∀(l:List Value) (n:Nat),Ie l n=l[n]?
 | [],_=>rfl
 | _::_,0=>rfl
 | _::l,n+1=>xS l n
inductive Wq where
 | no
 | one
 | agg (n:Nat)
 | sl (E:Nat)
structure Ig (P:Program) where
 ty:Nat->Wq
 fd:Nat->Nat->Option (Nat×Nat)
 tyOk:∀T,match ty T with
  | .no=>True
  | .one=>mM P T
  | .agg n=>oh P T n
  | .sl E=>mM P T/\P.underlying T=some (.slice E)
 fdOk:∀S f off T,fd S f=some (off,T)->rG P S f off T
def M4 {α:Type}:List Value->Nat->(List Value->Option α)->Option α
 | _,0,k=>k []
 | [],_+1,_=>none
 | v::l,n+1,k=>M4 l n fun r=>k (v::r)
def Ih:List Value->Nat->List Value
 | l,0=>l
 | [],_+1=>[]
 | _::l,n+1=>Ih l n
def xT:List Oper->Nat->Option Oper
 | [],_=>none
 | o::_,0=>some o
 | _::l,n+1=>xT l n
section
variable {P:Program} (T:Ig P)
def vlM (l:List (Nat×Value)):Op->Option Value
 | .move x=>eB l x
 | .assign x=>eB l x
 | .pick c x y=>match eB l c with
  | some (.bool true)=>eB l x
  | some (.bool false)=>eB l y
  | _=>none
 | .extract x i=>match eB l x with
  | some (.tuple vs)=>Ie vs.toList i
  | _=>none
 | .fieldAddr S x f=>match eB l x with
  | some (.pointer (some ⟨g,o,none⟩))=>match T.fd S f with
   | some (off,F)=>match T.ty F with
    | .one=>some (.pointer (some ⟨g,o+off,none⟩))
    | .sl _=>some (.pointer (some ⟨g,o+off,none⟩))
    | .agg (_+1)=>some (.pointer (some ⟨g,o+off,none⟩))
    | _=>none
   | none=>none
  | _=>none
 | .field S x f=>match eB l x with
  | some (.agg cs)=>match T.fd S f with
   | some (off,F)=>match T.ty F with
    | .one=>Ie cs.toList off
    | .sl _=>Ie cs.toList off
    | .agg n=>M4 (Ih cs.toList off) n fun r=>some (.agg r.toArray)
    | .no=>none
   | none=>none
  | _=>none
 | .call ⟨.builtin .len,xs,Ts⟩=>match xs.toList,Ts.toList with
  | [x],[t]=>match T.ty t,eB l x with
   | .sl _,some (.slice _ n _)=>some (.int .i64 n)
   | _,_=>none
  | _,_=>none
 | .unOp .not _ x=>match eB l x with
  | some (.bool b)=>some (.bool (!b))
  | _=>none
 | .nilCheck x=>match eB l x with
  | some (.pointer (some p))=>some (.pointer (some p))
  | _=>none
 | _=>none
end
structure Ck (Q:Exit->Act->World->Prop):Prop where
 Ws:∀c a w,¬Q (.panic c) a w
 og:∀a w,¬Q .outgrown a w
structure Cx (P:Program) where
 T:Ig P
 mix:P.follows .mixedOrders=true
 ro:Option Nat
 m:Nat
 dq:List Deferred
 N:Nat
 Q:Exit->Act->World->Prop
 ok:Ck Q
inductive zh where
 | th (c:Code)
 | bl (i:Nat)
 | sc
 | q (K:Act->World->Prop)
inductive C' where
 | code (c:Code)
 | list (os rest:List Oper)
 | Da (own ps:List PF) (Z:List Nat) (os:List Oper) (is:List Nat) (ls:Array Bool)
 | fin (e:Exit)
section
variable {P:Program} (X:Cx P)
def tR:List zh->Exit->Act->World->Prop
 | []=>X.Q
 | .th c::s=>Exit.then (fun a w=>c.wpIn (WF X.ro) X.m P (tR s) a w) (tR s)
 | .bl i::s=>Exit.inBlock i (tR s)
 | .sc::s=>Exit.noGoto (tR s)
 | .q K::s=>Exit.then K (tR s)
def Ii (os:Array Oper) (i:Nat):List Nat:=(List.range os.size).foldl (fun T j=>if Nat.blt i j && (match os[j]? with
 | some oj=>oj.after.any fun e=>Region.binds .any e && (Nat.beq e.on i || T.contains e.on)
 | none=>false) then T++[j] else T) []
def yI (os:Array Oper) (Z:List Nat):List Nat->Array Bool->Bool
 | [],ls=>(Region.ready .any os ls).isEmpty
 | c::is,ls=>bif Nat.beq (c%4) 3 then true else ((match c%4 with
  | 0=>p' os ls (c / 4) (Ii os (c / 4))
  | 1=>p' os ls (c / 4) (Ii os (c / 4)) && Z.all fun z=>(Ii os (c / 4)).contains z
  | _=>decide (Region.ready .any os ls=[c / 4])) && yI os Z is (ls.setIfInBounds (c / 4) true))
theorem Fa {os:Array Oper} (h:yI os Z (c::is) ls=true) (hc:Nat.beq (c%4) 3=false):((match c%4 with
  | 0=>p' os ls (c / 4) (Ii os (c / 4))
  | 1=>p' os ls (c / 4) (Ii os (c / 4)) && Z.all fun z=>(Ii os (c / 4)).contains z
  | _=>decide (Region.ready .any os ls=[c / 4])) && yI os Z is (ls.setIfInBounds (c / 4) true))=true:=by
 unfold yI at h
 rw [hc] at h
 exact h
def zfB (Z:List Nat) (ls:Array Bool):Bool:=Z.all fun z=>!ls.getD z false
def JD (Z:List Nat) (own ps:List PF) (j:Nat) (w:World):Prop:=Z.contains j=true∨Kn w own ps
def raE:C'->List zh->Act->World->Prop
 | .code c,s=>c.wpIn (WF X.ro) X.m P (tR X s)
 | .list os rest,s=>wpListIn (WF X.ro) X.m P os.toArray (tR X s) rest
 | .Da own ps Z os is ls,s=>fun a w=>yI os.toArray Z is ls=true->(zfB Z ls=true->Kn w own ps)->nB P os.toArray (tR X s) (JD Z own ps) is.length ls a w
 | .fin e,s=>tR X s e
structure np (w:World) (k:C') (s:List zh) (l:List (Nat×Value)):Prop where
 go:∀a,b7 X.dq X.N a l->raE X k s a w
end
def dOk (N:Nat):Option Nat->Bool
 | some d=>Nat.blt d N
 | none=>true
def Yd:Op->Bool
 | .defer _=>false
 | _=>true
def JE (os:List Oper) (l:List (Nat×Value)):Option (Nat×Bool)->Option Bool
 | none=>some true
 | some (g,b)=>match xT os g with
  | some og=>match og.dst with
   | some t=>match look l t with
    | some u=>some (isB u b)
    | none=>none
   | none=>none
  | none=>none
def Fc (N:Nat) (l:List (Nat×Value)):C'->Option (Nat×Op×Bool×C')
 | .list os (⟨some d,op,_,_,_,gd⟩::rest)=>bif Nat.blt d N && Yd op then (match JE os l gd with
  | some b=>some (d,op,b,.list os rest)
  | none=>none) else none
 | .Da own ps Z os (c::is) ls=>match xT os (c / 4) with
  | some ⟨some d,op,_,_,_,gd⟩=>bif Nat.blt d N && (Yd op && !Nat.beq (c%4) 3) then (match JE os l gd with
   | some b=>some (d,op,b,.Da own ps Z os is (ls.setIfInBounds (c / 4) true))
   | none=>none) else none
  | _=>none
 | _=>none
def hdL (N:Nat) (l:List (Nat×Value)):C'->Option (Option Nat×Op×C')
 | .list os (⟨d,op,_,_,_,gd⟩::rest)=>bif Yd op && dOk N d then (match JE os l gd with
  | some true=>some (d,op,.list os rest)
  | _=>none) else none
 | _=>none
def hdZ (N:Nat) (l:List (Nat×Value)):C'->Option (Option Nat×Op×Nat×List Nat×List PF×List PF×C')
 | .Da own ps Z os (c::is) ls=>match xT os (c / 4) with
  | some ⟨d,op,_,_,_,gd⟩=>bif Nat.beq (c%4) 2 && dOk N d then (match JE os l gd with
   | some true=>some (d,op,c / 4,Z,own,ps,.Da own ps Z os is (ls.setIfInBounds (c / 4) true))
   | _=>none) else none
  | _=>none
 | _=>none
def hdK (N:Nat) (l:List (Nat×Value)):C'->Option (Nat×Op×List PF×List PF×C')
 | .Da own ps Z os (c::is) ls=>match xT os (c / 4) with
  | some ⟨some d,op,_,_,_,gd⟩=>bif Nat.beq (c%4) 1 && Nat.blt d N then (match JE os l gd with
   | some true=>some (d,op,own,ps,.Da own ps Z os is (ls.setIfInBounds (c / 4) true))
   | _=>none) else none
  | _=>none
 | _=>none
section
variable {P:Program} (T:Ig P)
def nxV (N:Nat) (k:C') (s:List zh) (l:List (Nat×Value)):Option (C'×List zh×List (Nat×Value)):=match Fc N l k with
 | some (d,op,true,k')=>match vlM T l op with
  | some v=>some (k',s,(d,v)::l)
  | none=>none
 | some (d,_,false,k')=>some (k',s,(d,undef)::l)
 | none=>none
def nxE (N:Nat):C'->List zh->List (Nat×Value)->Option (C'×List zh×List (Nat×Value))
 | .code c,s,l=>match c with
  | .seq x y=>some (.code x,.th y::s,l)
  | .region _ ⟨os⟩ false=>some (.list os os,s,l)
  | .skip=>some (.fin .normal,s,l)
  | .block i x=>some (.code x,.bl i::s,l)
  | .exit i=>some (.fin (.exit i),s,l)
  | .ret=>some (.fin .ret,s,l)
  | .label _=>some (.fin .normal,s,l)
  | _=>none
 | .fin e,s,l=>match s,e with
  | .th c::s,.normal=>some (.code c,s,l)
  | .bl _::s,.normal=>some (.fin .normal,s,l)
  | .sc::s,.normal=>some (.fin .normal,s,l)
  | .th _::s,.exit j=>some (.fin (.exit j),s,l)
  | .bl i::s,.exit j=>bif Nat.beq j i then some (.fin .normal,s,l) else some (.fin (.exit j),s,l)
  | .sc::s,.exit j=>some (.fin (.exit j),s,l)
  | .th _::s,.ret=>some (.fin .ret,s,l)
  | .bl _::s,.ret=>some (.fin .ret,s,l)
  | .sc::s,.ret=>some (.fin .ret,s,l)
  | .q _::s,.exit j=>some (.fin (.exit j),s,l)
  | .q _::s,.ret=>some (.fin .ret,s,l)
  | _,_=>none
 | .list os rest,s,l=>match rest with
  | []=>some (.fin .normal,s,l)
  | o::r=>nxV T N (.list os (o::r)) s l
 | .Da own ps Z os is ls,s,l=>match is with
  | []=>some (.fin .normal,s,l)
  | c::r=>nxV T N (.Da own ps Z os (c::r) ls) s l
def Mq (X:Cx P) (w:World):Nat->C'->List zh->List (Nat×Value)->Prop
 | 0,k,s,l=>np X w k s l
 | n+1,k,s,l=>match nxE X.T X.N k s l with
  | some (k,s,l)=>Mq X w n k s l
  | none=>np X w k s l
end
theorem AB:∀(l:List Oper) (n:Nat),xT l n=l[n]?
 | [],_=>rfl
 | _::_,0=>rfl
 | _::l,n+1=>AB l n
theorem Ij {α:Type}:∀(l:List Value) (n:Nat) (k:List Value->Option α) (v:α),M4 l n k=some v->k (l.take n)=some v
 | _,0,_,_,h=>by simpa [M4] using h
 | [],_+1,_,_,h=>by cases h
 | _::l,n+1,k,v,h=>by simpa using Ij l n _ v h
theorem Ik:∀(l:List Value) (n:Nat),Ih l n=l.drop n
 | _,0=>by simp [Ih]
 | [],_+1=>rfl
 | _::l,n+1=>by simpa [Ih] using Ik l n
section
variable {P:Program} {T:Ig P} {dq:List Deferred} {N:Nat} {w w0:World} {l:List (Nat×Value)} {a:Act} {d:Nat} {op:Op} {ty:TypeId} {pos:String} {af:Array Edge} {gd:Option (Nat×Bool)} {v:Value}
theorem Il {p:Addr} (h:b7 dq N a l) (hx:eB l x=some (.pointer (some p))):(execOp a.eval ⟨some d,.nilCheck x,ty,pos,af,gd⟩).run P w=.ok (.value (.pointer (some p))) w:=by
 simp [execOp,h.ev hx]
theorem adk (h:b7 dq N a l) (hv:vlM T l op=some v):(execOp a.eval ⟨some d,op,ty,pos,af,gd⟩).run P w=.ok (.value v) w:=by
 unfold vlM at hv
 split at hv
 ·exact ff h hv
 ·exact cf h hv
 ·split at hv
  ·next hc=>exact lU h hc (by simpa using hv)
  ·next hc=>exact lU h hc (by simpa using hv)
  ·cases hv
 ·split at hv
  ·next hx=>exact je h hx (by rw [xS,dm] at hv; exact hv)
  ·cases hv
 ·split at hv
  ·next hx=>
   split at hv
   ·next off F hf=>
    have ht:=T.tyOk F
    split at hv<;>first | (cases hv; done) | skip
    ·next e=>rw [e] at ht; cases hv; exact gF h (T.fdOk _ _ _ _ hf) ht.size ae hx
    ·next e=>rw [e] at ht; cases hv; exact gF h (T.fdOk _ _ _ _ hf) ht.1.size ae hx
    ·next e=>rw [e] at ht; cases hv; exact gF h (T.fdOk _ _ _ _ hf) ht.size ae hx
   ·cases hv
  ·cases hv
 ·split at hv
  ·next hx=>
   split at hv
   ·next off F hf=>
    have ht:=T.tyOk F
    split at hv
    ·next e=>rw [e] at ht; exact DG h (T.fdOk _ _ _ _ hf) ht hx (by rw [xS,dm] at hv; exact hv)
    ·next e=>rw [e] at ht; exact DG h (T.fdOk _ _ _ _ hf) ht.1 hx (by rw [xS,dm] at hv; exact hv)
    ·next n e=>
     rw [e] at ht
     have hq:=Ij _ _ _ _ hv
     cases hq
     have:=Oq (w:=w) (d:=d) (ty:=ty) (pos:=pos) (af:=af) (gd:=gd) h (T.fdOk _ _ _ _ hf) ht hx
     rw [this,Ik]
     congr 3
     apply jx
     simp [List.take_drop]
    ·cases hv
   ·cases hv
  ·cases hv
 ·next xs Ts=>
  split at hv
  ·next x t ex et=>
   split at hv
   ·next E A n c e1 e2=>
    have ht:=T.tyOk t
    rw [e1] at ht
    cases hv
    obtain ⟨xs⟩:=xs
    obtain ⟨Ts⟩:=Ts
    dsimp only at ex et
    subst ex et
    exact ky h ht.2 e2
   ·cases hv
  ·cases hv
 ·split at hv
  ·next hx=>cases hv; exact om h hx rfl
  ·cases hv
 ·split at hv
  ·next hx=>cases hv; exact Il h hx
  ·cases hv
 ·cases hv
theorem uF (h:JE os l gd=some true):gd=none∨∃g b og t,gd=some (g,b)/\os.toArray[g]?=some og/\og.dst=some t/\look l t=some (.bool b):=by
 unfold JE at h
 split at h
 ·exact .inl I
 ·split at h
  ·next og ho=>
   split at h
   ·next t ht=>
    split at h
    ·next u hu=>
     have hb:=aW h
     rw [AB] at ho
     refine .inr ⟨_,_,og,t,I,by simpa using ho,ht,?_⟩
     cases u<;>first | (cases hb; done) | skip
     rw [hu,eA.1 (show (_==_)=true from hb)]
    ·cases h
   ·cases h
  ·cases h
theorem D1 (h:JE os l gd=some false):∃g b og t u,gd=some (g,b)/\os.toArray[g]?=some og/\og.dst=some t/\look l t=some u/\isB u b=false:=by
 unfold JE at h
 split at h
 ·cases h
 ·split at h
  ·next og ho=>
   split at h
   ·next t ht=>
    split at h
    ·next u hu=>
     rw [AB] at ho
     exact ⟨_,_,og,t,u,I,by simpa using ho,ht,hu,aW h⟩
    ·cases h
   ·cases h
  ·cases h
theorem Fe {op:Op} (h:Yd op=true) (c:Call):op≠.defer c:=fun e=>by subst e; cases h
end
section
variable {P:Program} {X:Cx P} {w w0:World} {k k':C'} {s s':List zh} {l l':List (Nat×Value)} {d:Nat} {op:Op} {v:Value} {own ps:List PF} {Z:List Nat} {os rest:List Oper} {is:List Nat} {ls:Array Bool} {ty:TypeId} {pos:String} {af:Array Edge} {gd:Option (Nat×Bool)} {c:Nat} {dst:Option Nat}
theorem oE (X:Cx P):∀s,Ck (tR X s)
 | []=>X.ok
 | .th _::s=>⟨(oE X s).Ws,(oE X s).og⟩
 | .bl _::s=>⟨(oE X s).Ws,(oE X s).og⟩
 | .sc::s=>⟨(oE X s).Ws,(oE X s).og⟩
 | .q _::s=>⟨(oE X s).Ws,(oE X s).og⟩
abbrev PV (X:Cx P) (l:List (Nat×Value)) (op:Op) (v:Value):Prop:=∀{a:Act} {w:World} {d:Nat} {ty:TypeId} {pos:String} {af:Array Edge} {gd:Option (Nat×Bool)},b7 X.dq X.N a l->(execOp a.eval ⟨some d,op,ty,pos,af,gd⟩).run P w=.ok (.value v) w
abbrev KV (X:Cx P) (l:List (Nat×Value)) (own ps:List PF) (op:Op) (v:Value):Prop:=∀{a:Act} {w:World} {d:Nat} {ty:TypeId} {pos:String} {af:Array Edge} {gd:Option (Nat×Bool)},b7 X.dq X.N a l->Kn w own ps->(execOp a.eval ⟨some d,op,ty,pos,af,gd⟩).run P w=.ok (.value v) w
abbrev CV (X:Cx P) (w:World) (l:List (Nat×Value)) (op:Op) (v:Value):Prop:=∀{a:Act} {d:Nat} {ty:TypeId} {pos:String} {af:Array Edge} {gd:Option (Nat×Bool)},b7 X.dq X.N a l->(execOp a.eval ⟨some d,op,ty,pos,af,gd⟩).run P w=.ok (.value v) w
structure WE (X:Cx P) (w:World) (l:List (Nat×Value)) (op:Op) (dst:Option Nat) (C:World->List (Nat×Value)->Prop):Prop where
 go:∀{a:Act} {K:Act->World->Prop} {Q:Exit->Act->World->Prop} {ty:TypeId} {pos:String} {af:Array Edge} {gd:Option (Nat×Bool)},b7 X.dq X.N a l->(∀a' w' l',C w' l'->b7 X.dq X.N a' l'->K a' w')->Oper.wp P ⟨dst,op,ty,pos,af,gd⟩ a w K Q
theorem Ff (h:zfB Z (ls.setIfInBounds i true)=true):zfB Z ls=true:=by
 unfold zfB at h ⊢
 rw [bp] at h ⊢
 intro z hz
 have h1:=h z hz
 cases h2:ls.getD z false with
 | false=>rfl
 | true=>rw [getD_set_true h2] at h1; cases h1
theorem zi (h:xT os i=some o):os.toArray[i]?=some o:=by rw [AB] at h; simpa using h
theorem Cm (T:List Nat) (G:World->Prop) (ho:xT os (c / 4)=some ⟨some d,op,ty,pos,af,gd⟩) (hd:Nat.blt d X.N=true) (hg:JE os l gd=some true) (ht:p' os.toArray ls (c / 4) T=true) (hs:yI os.toArray Z is (ls.setIfInBounds (c / 4) true)=true)
  (hG:∀j w',j ∉ T->JD Z own ps j w'->G w') (hGw:G w) (hz:zfB Z ls=true->Kn w own ps) (hr:∀{a:Act} {w:World} {d:Nat} {ty:TypeId} {pos:String} {af:Array Edge} {gd:Option (Nat×Bool)},b7 X.dq X.N a l->G w->(execOp a.eval ⟨some d,op,ty,pos,af,gd⟩).run P w=.ok (.value v) w)
  (hK:np X w (.Da own ps Z os is (ls.setIfInBounds (c / 4) true)) s ((d,v)::l)) (a:Act) (e:b7 X.dq X.N a l):nB P os.toArray (tR X s) (JD Z own ps) (is.length+1) ls a w:=by
 have hQ:∀c (a:Act) w,tR X s (.panic c) (a.put (some d) v) w->tR X s (.panic c) a w:=fun c a w h=>absurd h ((oE X s).Ws _ _ _)
 have hk:∀a',b7 X.dq X.N a' ((d,v)::l)->nB P os.toArray (tR X s) (JD Z own ps) is.length (ls.setIfInBounds (c / 4) true) a' w:=fun a' e'=>hK.go a' e' hs fun h=>hz (Ff h)
 rcases uF hg with rfl | ⟨g,b,og,t,rfl,h1,h2,h3⟩
 ·exact kV T G (zi ho) ht hQ hG e hd hGw (fun w' hw=>hr e hw) hk
 ·exact JS T G (zi ho) ht hQ hG e hd h1 h2 h3 hGw (fun w' hw=>hr e hw) hk
theorem M5 (hr:Region.ready .any os.toArray ls=[i]) (ho:xT os i=some o) (hg:JE os l o.guard=some true) (e:b7 X.dq X.N a l)
 (h:o.wp P a w (fun a' w'=>(w'=w∨JD Z own ps i w')/\nB P os.toArray (tR X s) (JD Z own ps) is.length (ls.setIfInBounds i true) a' w') (tR X s)):nB P os.toArray (tR X s) (JD Z own ps) (is.length+1) ls a w:=by
 rcases uF hg with h0 | ⟨g,b,og,t,h0,h1,h2,h3⟩
 ·exact qL hr (zi ho) h0 h
 ·exact Ov hr (zi ho) h0 e h1 h2 h3 h
theorem S9 (OW:Nat.beq (c%4) 3=false) (ho:xT os (c / 4)=some ⟨some d,op,ty,pos,af,gd⟩) (hd:Nat.blt d X.N=true) (hg:JE os l gd=some false) (hs:yI os.toArray Z (c::is) ls=true) (hz:zfB Z ls=true->Kn w own ps)
  (hK:np X w (.Da own ps Z os is (ls.setIfInBounds (c / 4) true)) s ((d,undef)::l)) (a:Act) (e:b7 X.dq X.N a l):nB P os.toArray (tR X s) (JD Z own ps) (is.length+1) ls a w:=by
 obtain ⟨g,b,og,t,u,rfl,h1,h2,h3,h4⟩:=D1 hg
 replace hs:=Fa hs OW
 rw [bL] at hs
 have hQ:∀c (a:Act) w,tR X s (.panic c) (a.put (some d) undef) w->tR X s (.panic c) a w:=fun c a w h=>absurd h ((oE X s).Ws _ _ _)
 have hk:∀a',b7 X.dq X.N a' ((d,undef)::l)->nB P os.toArray (tR X s) (JD Z own ps) is.length (ls.setIfInBounds (c / 4) true) a' w:=fun a' e'=>hK.go a' e' hs.2 fun h=>hz (Ff h)
 have h5:=hs.1
 split at h5
 ·exact Bo _ (zi ho) h5 hQ e hd h1 h2 h3 h4 hk
 ·rw [bL] at h5
  exact Bo _ (zi ho) h5.1 hQ e hd h1 h2 h3 h4 hk
 ·have h6:=aN h5
  refine ⟨fun h0=>(by rw [h6] at h0; cases h0),fun j hj=>?_⟩
  rw [h6] at hj
  obtain rfl:j=c / 4:=by simpa using hj
  unfold wpOp
  simp only [zi ho]
  rw [ak (by rw [sO h1 e h2 h3 h4]; decide)]
  exact ⟨.inl trivial,hk _ (e.put hd undef)⟩
theorem Im {b:Bool} (h:Fc X.N l k=some (d,op,b,k')):(∃os rest ty pos af gd,k=.list os (⟨some d,op,ty,pos,af,gd⟩::rest)/\k'=.list os rest/\Nat.blt d X.N=true/\Yd op=true/\JE os l gd=some b)∨
  ∃own ps Z os c is ls ty pos af gd,k=.Da own ps Z os (c::is) ls/\k'=.Da own ps Z os is (ls.setIfInBounds (c / 4) true)/\xT os (c / 4)=some ⟨some d,op,ty,pos,af,gd⟩/\Nat.blt d X.N=true/\JE os l gd=some b/\Nat.beq (c%4) 3=false:=by
 unfold Fc at h
 split at h
 ·next os d' Mt ty pos af gd rest=>
  cases hb:(Nat.blt d' X.N && Yd Mt) with
  | false=>rw [hb] at h; cases h
  | true=>
   rw [hb] at h
   dsimp only [cond_true] at h
   rw [bL] at hb
   split at h
   ·next b' hg=>cases h; exact .inl ⟨_,_,_,_,_,_,rfl,rfl,hb.1,hb.2,hg⟩
   ·cases h
 ·next own ps Z os c is ls=>
  split at h
  ·next d' Mt ty pos af gd ho=>
   cases hb:(Nat.blt d' X.N && (Yd Mt && !Nat.beq (c%4) 3)) with
   | false=>rw [hb] at h; cases h
   | true=>
    rw [hb] at h
    dsimp only [cond_true] at h
    rw [bL,bL] at hb
    split at h
    ·next b' hg=>cases h; exact .inr ⟨_,_,_,_,_,_,_,_,_,_,_,rfl,rfl,ho,hb.1,hg,by simpa using hb.2.2⟩
    ·cases h
  ·cases h
 ·cases h
theorem np.val (hn:Fc X.N l k=some (d,op,true,k')) (h:PV X l op v) (hK:np X w k' s ((d,v)::l)):np X w k s l:=by
 rcases Im hn with ⟨os,rest,ty,pos,af,gd,rfl,rfl,hd,ve,hg⟩ | ⟨own,ps,Z,os,c,is,ls,ty,pos,af,gd,rfl,rfl,ho,hd,hg,OW⟩
 ·refine ⟨fun a e=>?_⟩
  rcases uF hg with rfl | ⟨g,b,og,t,rfl,h1,h2,h3⟩
  ·exact lg I (Fe ve) (cH e hd (h e) fun a' e'=>hK.go a' e')
  ·exact ahB h1 e h2 h3 (Fe ve) (cH e hd (h e) fun a' e'=>hK.go a' e')
 ·refine ⟨fun a e hs hz=>?_⟩
  replace hs:=Fa hs OW
  rw [bL] at hs
  have h5:=hs.1
  split at h5
  ·exact Cm _ (fun _=>True) ho hd hg h5 hs.2 (fun _ _ _ _=>trivial) trivial hz (fun e _=>h e) hK a e
  ·rw [bL] at h5
   exact Cm _ (fun _=>True) ho hd hg h5.1 hs.2 (fun _ _ _ _=>trivial) trivial hz (fun e _=>h e) hK a e
  ·exact M5 (aN h5) ho hg e (cH e hd (h e) fun a' e'=>⟨.inl I,hK.go a' e' hs.2 fun h=>hz (Ff h)⟩)
theorem np.skip (hn:Fc X.N l k=some (d,op,false,k')) (hK:np X w k' s ((d,undef)::l)):np X w k s l:=by
 rcases Im hn with ⟨os,rest,ty,pos,af,gd,rfl,rfl,hd,ve,hg⟩ | ⟨own,ps,Z,os,c,is,ls,ty,pos,af,gd,rfl,rfl,ho,hd,hg,OW⟩
 ·refine ⟨fun a e=>?_⟩
  obtain ⟨g,b,og,t,u,rfl,h1,h2,h3,h4⟩:=D1 hg
  exact Xh h1 e h2 h3 hd h4 fun a' e'=>hK.go a' e'
 ·exact ⟨fun a e hs hz=>S9 OW ho hd hg hs hz hK a e⟩
theorem Ta (hn:nxV X.T X.N k s l=some (k',s',l')) (h:np X w k' s' l'):np X w k s l:=by
 unfold nxV at hn
 split at hn
 ·next hx=>
  split at hn
  ·next hv=>cases hn; exact h.val hx fun e=>adk e hv
  ·cases hn
 ·next hx=>cases hn; exact h.skip hx
 ·cases hn
theorem adl (hn:nxE X.T X.N k s l=some (k',s',l')) (h:np X w k' s' l'):np X w k s l:=by
 unfold nxE at hn
 split at hn
 ·split at hn<;>first | (cases hn; done) | skip
  ·cases hn; exact ⟨fun a e=>wpIn_seq (h.go a e)⟩
  ·cases hn; exact ⟨fun a e=>vf (h.go a e)⟩
  ·cases hn; exact ⟨fun a e=>wpIn_skip (h.go a e)⟩
  ·cases hn; exact ⟨fun a e=>wpIn_block (h.go a e)⟩
  ·cases hn; exact ⟨fun a e=>wpIn_exit (h.go a e)⟩
  ·cases hn; exact ⟨fun a e=>wpIn_ret (h.go a e)⟩
  ·cases hn; exact ⟨fun a e=>wpIn_label (h.go a e)⟩
 ·split at hn<;>first | (cases hn; done) | skip
  ·cases hn; exact ⟨h.go⟩
  ·cases hn; exact ⟨h.go⟩
  ·cases hn; exact ⟨h.go⟩
  ·cases hn; exact ⟨h.go⟩
  ·cases hb:Nat.beq _ _ with
   | true=>
    rw [hb] at hn
    cases hn
    have:=dI hb
    subst this
    exact ⟨fun a e=>wz (h.go a e)⟩
   | false=>
    rw [hb] at hn
    cases hn
    exact ⟨fun a e=>ahl hb (h.go a e)⟩
  ·cases hn; exact ⟨h.go⟩
  ·cases hn; exact ⟨h.go⟩
  ·cases hn; exact ⟨h.go⟩
  ·cases hn; exact ⟨h.go⟩
  ·cases hn; exact ⟨h.go⟩
  ·cases hn; exact ⟨h.go⟩
 ·split at hn
  ·cases hn; exact ⟨h.go⟩
  ·exact Ta hn h
 ·split at hn
  ·cases hn
   refine ⟨fun a e hs _=>u7 ?_ (h.go a e) _⟩
   unfold yI at hs
   exact List.isEmpty_iff.1 hs
  ·exact Ta hn h
theorem lR:∀(n:Nat) {k:C'} {s:List zh} {l:List (Nat×Value)},Mq X w n k s l->np X w k s l
 | 0,_,_,_,h=>h
 | n+1,k,s,l,h=>by
  unfold Mq at h
  split at h
  ·next hn=>exact adl hn (lR n h)
  ·exact h
end
def isT (P:Program) (F:Nat):Wq->Prop
 | .no=>True
 | .one=>mM P F
 | .agg n=>oh P F n
 | .sl E=>mM P F/\P.underlying F=some (.slice E)
def okT (P:Program):List (Nat×Wq)->Prop
 | []=>True
 | e::r=>isT P e.1 e.2/\okT P r
def okG (P:Program) (S:Nat):Nat->List (Nat×Nat)->Prop
 | _,[]=>True
 | i,e::r=>rG P S i e.1 e.2/\okG P S (i+1) r
def okF (P:Program):List (Nat×List (Nat×Nat))->Prop
 | []=>True
 | e::r=>okG P e.1 0 e.2/\okF P r
def lkT:List (Nat×Wq)->Nat->Wq
 | [],_=>.no
 | (T,i)::r,F=>bif Nat.beq T F then i else lkT r F
def lkG:List (Nat×Nat)->Nat->Option (Nat×Nat)
 | [],_=>none
 | e::_,0=>some e
 | _::r,n+1=>lkG r n
def lkF:List (Nat×List (Nat×Nat))->Nat->Nat->Option (Nat×Nat)
 | [],_,_=>none
 | (T,fs)::r,S,f=>bif Nat.beq T S then lkG fs f else lkF r S f
theorem Tc {P:Program}:∀(L:List (Nat×Wq)),okT P L->∀F,isT P F (lkT L F)
 | [],_,_=>trivial
 | (T,i)::r,h,F=>by
  unfold lkT
  cases hb:Nat.beq T F with
  | true=>rw [<- dI hb]; exact h.1
  | false=>exact Tc r h.2 F
theorem Td {P:Program} {S:Nat}:∀(L:List (Nat×Nat)) (i n:Nat) (p:Nat×Nat),okG P S i L->lkG L n=some p->rG P S (i+n) p.1 p.2
 | [],_,_,_,_,h=>by cases h
 | _::_,_,0,_,h,e=>by cases e; exact h.1
 | _::r,i,n+1,p,h,e=>by
  have:=Td r (i+1) n p h.2 e
  rw [show i+(n+1)=i+1+n by omega]
  exact this
theorem Te {P:Program}:∀(L:List (Nat×List (Nat×Nat))),okF P L->∀S f p,lkF L S f=some p->rG P S f p.1 p.2
 | [],_,_,_,_,h=>by cases h
 | (T,fs)::r,h,S,f,p,e=>by
  unfold lkF at e
  cases hb:Nat.beq T S with
  | true=>
   rw [hb] at e
   have:=Td fs 0 f p h.1 e
   rw [<- dI hb]
   rw [bD] at this
   exact this
  | false=>rw [hb] at e; exact Te r h.2 S f p e
def anG {P:Program} {L:List (Nat×Wq)} {F:List (Nat×List (Nat×Nat))} (h:okT P L) (k:okF P F):Ig P where
 ty:=lkT L
 fd:=lkF F
 tyOk T:=by
  have:=Tc L h T
  revert this
  cases lkT L T<;>exact id
 fdOk _ _ _ _ e:=Te F k _ _ _ e
def Tf:Wq->Bool
 | .one=>true
 | .sl _=>true
 | _=>false
def Io:Wq->Nat
 | .one=>1
 | .sl _=>1
 | .agg n=>n
 | .no=>0
def adm (v:Value) (k:Array Value->Prop):Prop:=match v with
 | .agg cs=>k cs
 | v=>k #[v]
theorem M6 {k:Array Value->Prop} (h:adm v k):k v.cells:=by cases v<;>exact h
def Fg:List Value->Nat->List Value->(List Value->Prop)->Prop
 | c,_,[],k=>k c
 | [],_,_::_,_=>False
 | _::c,0,u::us,k=>Fg c 0 us fun r=>k (u::r)
 | v::c,o+1,us,k=>Fg c o us fun r=>k (v::r)
def zM:List PF->Nat->PF->(List PF->Prop)->Prop
 | [],_,_,k=>k []
 | _::l,0,b,k=>k (b::l)
 | e::l,n+1,b,k=>zM l n b fun r=>k (e::r)
theorem oF:∀(l:List PF) (n:Nat) (b:PF) (k:List PF->Prop),zM l n b k->k (l.set n b)
 | [],_,_,_,h=>h
 | _::_,0,_,_,h=>h
 | _::l,n+1,_,_,h=>oF l n _ _ h
theorem Fh (v:Value):∀(vs c:List Value) (o:Nat),wr (o+1) vs (v::c).toArray=(v::(wr o vs c.toArray).toList).toArray
 | [],c,o=>by simp [wr]
 | u::vs,c,o=>by
  unfold wr
  have:((v::c).toArray).setIfInBounds (o+1) u=(v::(c.set o u)).toArray:=by simp
  rw [this,Fh v vs (c.set o u) (o+1)]
  simp
theorem AD:∀(c:List Value) (o:Nat) (us:List Value) (k:List Value->Prop),Fg c o us k->o+us.length<=c.length/\k (wr o us c.toArray).toList∨(us=[]/\k c)
 | c,o,[],k,h=>.inr ⟨rfl,by unfold Fg at h; exact h⟩
 | [],_,_::_,_,h=>by unfold Fg at h; exact h.elim
 | v::c,0,u::us,k,h=>.inl (by
  unfold Fg at h
  rcases AD c 0 us _ h with ⟨h1,h2⟩ | ⟨h1,h2⟩
  ·refine ⟨by simp at h1 ⊢; omega,?_⟩
   unfold wr
   have:((v::c).toArray).setIfInBounds 0 u=(u::c).toArray:=by simp
   rw [this,Fh]
   exact h2
  ·subst h1
   refine ⟨by simp,?_⟩
   simp only [wr]
   have:((v::c).toArray).setIfInBounds 0 u=(u::c).toArray:=by simp
   rw [this]
   exact h2)
 | v::c,o+1,u::us,k,h=>.inl (by
  unfold Fg at h
  rcases AD c o (u::us) _ h with ⟨h1,h2⟩ | ⟨h1,h2⟩
  ·refine ⟨by simp at h1 ⊢; omega,?_⟩
   rw [Fh]
   exact h2
  ·cases h1)
section
variable {P:Program} {X:Cx P} {w w0:World} {k k':C'} {s:List zh} {l l':List (Nat×Value)} {own ps:List PF} {os rest:List Oper} {d i:Nat} {dst:Option Nat} {op:Op} {v:Value} {x y:Operand} {Z:List Nat} {C:World->List (Nat×Value)->Prop}
theorem vE (hn:Fc X.N l k=some (d,op,true,k')) (h:PV X l op v) (hK:Mq X w 999 k' s ((d,v)::l)):np X w k s l:=(lR _ hK).val hn h
theorem Kv (hn:hdL X.N l k=some (dst,op,k')):∃os rest ty pos af gd,k=.list os (⟨dst,op,ty,pos,af,gd⟩::rest)/\k'=.list os rest/\Yd op=true/\JE os l gd=some true/\∀d,dst=some d->Nat.blt d X.N=true:=by
 unfold hdL at hn
 split at hn
 ·next os d' Mt ty pos af gd rest=>
  cases hb:(Yd Mt && dOk X.N d') with
  | false=>rw [hb] at hn; cases hn
  | true=>
   rw [hb] at hn
   dsimp only [cond_true] at hn
   rw [bL] at hb
   split at hn
   ·next hg=>cases hn; exact ⟨_,_,_,_,_,_,rfl,rfl,hb.1,hg,fun d h=>by have:=hb.2; rw [h] at this; exact this⟩
   ·cases hn
 ·cases hn
theorem adn (hn:hdZ X.N l k=some (dst,op,i,Z,own,ps,k')):∃os c is ls ty pos af gd,k=.Da own ps Z os (c::is) ls/\k'=.Da own ps Z os is (ls.setIfInBounds i true)/\i=c / 4/\c%4=2/\xT os i=some ⟨dst,op,ty,pos,af,gd⟩/\JE os l gd=some true/\∀d,dst=some d->Nat.blt d X.N=true:=by
 unfold hdZ at hn
 split at hn
 ·next nu ps' Z' os c is ls=>
  split at hn
  ·next d' Mt ty pos af gd ho=>
   cases hb:(Nat.beq (c%4) 2 && dOk X.N d') with
   | false=>rw [hb] at hn; cases hn
   | true=>
    rw [hb] at hn
    dsimp only [cond_true] at hn
    rw [bL] at hb
    split at hn
    ·next hg=>cases hn; exact ⟨_,_,_,_,_,_,_,_,rfl,rfl,rfl,dI hb.1,ho,hg,fun d h=>by have:=hb.2; rw [h] at this; exact this⟩
    ·cases hn
  ·cases hn
 ·cases hn
theorem eE (hn:hdL X.N l k=some (dst,op,k')) (h:WE X w l op dst fun w' l'=>Mq X w' 999 k' s l'):np X w k s l:=by
 obtain ⟨os,rest,ty,pos,af,gd,rfl,rfl,ve,hg,_⟩:=Kv hn
 refine ⟨fun a e=>?_⟩
 rcases uF hg with rfl | ⟨g,b,og,t,rfl,h1,h2,h3⟩
 ·exact lg I (Fe ve) (h.go e fun a' w' l' hM e'=>(lR _ hM).go a' e')
 ·exact ahB h1 e h2 h3 (Fe ve) (h.go e fun a' w' l' hM e'=>(lR _ hM).go a' e')
theorem eS (hn:hdZ X.N l k=some (dst,op,i,Z,own,ps,k')) (h:WE X w l op dst fun w' l'=>JD Z own ps i w'/\Mq X w' 999 k' s l'):np X w k s l:=by
 obtain ⟨os,c,is,ls,ty,pos,af,gd,rfl,rfl,rfl,hc,ho,hg,_⟩:=adn hn
 refine ⟨fun a e hs hz=>?_⟩
 replace hs:=Fa hs (by rw [hc]; rfl)
 rw [bL,hc] at hs
 refine M5 (aN hs.1) ho hg e (h.go e fun a' w' l' hM e'=>⟨.inr hM.1,(lR _ hM.2).go a' e' hs.2 fun hz'=>hM.1.resolve_left fun hq=>?_⟩)
 have h1:=bp.1 hz' _ (List.contains_iff_mem.1 hq)
 have h2:Region.ready .any os.toArray ls=[c / 4]:=aN hs.1
 have h3:=(mem_ready.1 (show c / 4∈Region.ready .any os.toArray ls by rw [h2]; simp)).1
 rcases aV (c / 4) ls.size with fh | yo
 ·rw [cU,gT fh] at h1
  cases h1
 ·rw [cU,eF yo] at h3
  cases h3
theorem WE.val (hd:Nat.blt d X.N=true) (h:CV X w l op v) (hK:C w ((d,v)::l)):WE X w l op (some d) C:=⟨fun e hC=>cH e hd (h e) fun a' e'=>hC a' w _ hK e'⟩
theorem cE (hn:hdL X.N l k=some (some d,op,k')) (h:CV X w l op v) (hK:Mq X w 999 k' s ((d,v)::l)):np X w k s l:=by
 obtain ⟨_,_,_,_,_,_,_,_,_,_,hd⟩:=Kv hn
 exact eE hn (WE.val (hd d I) h hK)
theorem sE (hn:hdK X.N l k=some (d,op,own,ps,k')) (h:KV X l own ps op v) (hK:Mq X w 999 k' s ((d,v)::l)):np X w k s l:=by
 unfold hdK at hn
 split at hn
 ·next nu ps' Z os c is ls=>
  split at hn
  ·next d' Mt ty pos af gd ho=>
   cases hb:(Nat.beq (c%4) 1 && Nat.blt d' X.N) with
   | false=>rw [hb] at hn; cases hn
   | true=>
    rw [hb] at hn
    dsimp only [cond_true] at hn
    rw [bL] at hb
    split at hn
    ·next hg=>
     cases hn
     refine ⟨fun a e hs hz=>?_⟩
     have hc:=dI hb.1
     replace hs:=Fa hs (by rw [hc]; rfl)
     rw [bL,hc] at hs
     replace hs:((p' os.toArray ls (c / 4) (Ii os.toArray (c / 4)) && Z.all fun z=>(Ii os.toArray (c / 4)).contains z)=true)/\_:=hs
     rw [bL] at hs
     obtain ⟨⟨ht,hZ⟩,hs⟩:=hs
     have hZ':=bp.1 hZ
     have hf:zfB Z ls=true:=bp.2 fun z po=>by
      have ht':=ht
      unfold p' at ht'
      simp only [bL] at ht'
      obtain ⟨⟨⟨⟨_,h2⟩,h3⟩,_⟩,h5⟩:=ht'
      have h6:c / 4∈Region.ready .any os.toArray ls:=by simpa using h5
      rw [((qm h2).no (xA h3) (LZ (mem_ready.1 h6).1) (z+1) z ae (by simpa using hZ' z po)).1]
      rfl
     exact Cm _ (fun w=>Kn w own ps) ho hb.2 hg ht hs (fun j w' hj hS=>hS.resolve_left fun hq=>hj (by simpa using hZ' j (by simpa using hq))) (hz hf) hz (fun e hw=>h e hw) (lR _ hK) a e
    ·cases hn
  ·cases hn
 ·cases hn
theorem sk (h:Kn w own ps) (hM:M):JD Z own ps i w/\M:=⟨.inr h,hM⟩
theorem sz (h:Z.contains i=true) (hM:M):JD Z own ps i w/\M:=⟨.inl h,hM⟩
theorem St.kd (h:St w0 w own ps) (i j:Nat):Kn w (own.drop i) (ps.drop j):=⟨fun e he=>h.mine e (dx he),fun p hp=>h.pers p (dx hp)⟩
section
variable {ik:IntKind} {m n:Int} {Ty yt:Nat}
theorem il (e:(Fc X.N l k,eB l x,eB l y)=(some (d,.binOp .lss Ty x y yt,true,k'),some (.int ik m),some (.int ik n))) (hK:Mq X w 999 k' s ((d,.bool (decide (m<n)))::l)):np X w k s l:=vE (aq (·.1) e) (fun h=>cV h (aq (·.2.1) e) (aq (·.2.2) e) (by cases ik<;>cases x<;>cases y<;>rfl)) hK
theorem Dn (e:(Fc X.N l k,eB l x,eB l y)=(some (d,.binOp .leq Ty x y yt,true,k'),some (.int ik m),some (.int ik n))) (hK:Mq X w 999 k' s ((d,.bool (decide (m<=n)))::l)):np X w k s l:=vE (aq (·.1) e) (fun h=>cV h (aq (·.2.1) e) (aq (·.2.2) e) (by cases ik<;>cases x<;>cases y<;>rfl)) hK
theorem sG (e:(Fc X.N l k,eB l x,eB l y)=(some (d,.binOp .gtr Ty x y yt,true,k'),some (.int ik m),some (.int ik n))) (hK:Mq X w 999 k' s ((d,.bool (decide (m>n)))::l)):np X w k s l:=vE (aq (·.1) e) (fun h=>cV h (aq (·.2.1) e) (aq (·.2.2) e) (by cases ik<;>cases x<;>cases y<;>rfl)) hK
theorem xo (e:(Fc X.N l k,eB l x,eB l y)=(some (d,.binOp .geq Ty x y yt,true,k'),some (.int ik m),some (.int ik n))) (hK:Mq X w 999 k' s ((d,.bool (decide (m>=n)))::l)):np X w k s l:=vE (aq (·.1) e) (fun h=>cV h (aq (·.2.1) e) (aq (·.2.2) e) (by cases ik<;>cases x<;>cases y<;>rfl)) hK
theorem gj (e:(Fc X.N l k,eB l x,eB l y)=(some (d,.binOp .eql Ty x y yt,true,k'),some (.int ik m),some (.int ik n))) (hK:Mq X w 999 k' s ((d,.bool (m==n))::l)):np X w k s l:=vE (aq (·.1) e) (fun h=>cV h (aq (·.2.1) e) (aq (·.2.2) e) (by cases ik<;>cases x<;>cases y<;>rfl)) hK
theorem lK (e:(Fc X.N l k,eB l x,eB l y)=(some (d,.binOp .neq Ty x y yt,true,k'),some (.int ik m),some (.int ik n))) (hK:Mq X w 999 k' s ((d,.bool (m !=n))::l)):np X w k s l:=vE (aq (·.1) e) (fun h=>cV h (aq (·.2.1) e) (aq (·.2.2) e) (by cases ik<;>cases x<;>cases y<;>rfl)) hK
theorem Tg (e:(Fc X.N l k,eB l x,eB l y)=(some (d,.binOp .add Ty x y yt,true,k'),some (.int .i64 m),some (.int .i64 n))) (hw:-9223372036854775808<=m+n/\m+n<=9223372036854775807) (hK:Mq X w 999 k' s ((d,.int .i64 (m+n))::l)):np X w k s l:=vE (aq (·.1) e) (fun h=>lY h (aq (·.2.1) e) (aq (·.2.2) e) (IntWalk.i64_in _ ae)) hK
theorem xq (e:(Fc X.N l k,eB l x,eB l y)=(some (d,.binOp .sub Ty x y yt,true,k'),some (.int .i64 m),some (.int .i64 n))) (hw:-9223372036854775808<=m - n/\m - n<=9223372036854775807) (hK:Mq X w 999 k' s ((d,.int .i64 (m - n))::l)):np X w k s l:=vE (aq (·.1) e) (fun h=>uh h (aq (·.2.1) e) (aq (·.2.2) e) (IntWalk.i64_in _ ae)) hK
theorem ym (e:(Fc X.N l k,eB l x,eB l y)=(some (d,.binOp .mul Ty x y yt,true,k'),some (.int .i64 m),some (.int .i64 n))) (hw:-9223372036854775808<=m*n/\m*n<=9223372036854775807) (hK:Mq X w 999 k' s ((d,.int .i64 (m*n))::l)):np X w k s l:=vE (aq (·.1) e) (fun h=>Bm h (aq (·.2.1) e) (aq (·.2.2) e) (IntWalk.i64_in _ ae)) hK
theorem can (e:(Fc X.N l k,eB l x,eB l y)=(some (d,.binOp .add Ty x y yt,true,k'),some (.int .i64 (i:Nat)),some (.int .i64 (j:Nat)))) (hw:i+j<=9223372036854775807) (hK:Mq X w 999 k' s ((d,.int .i64 ((i+j:Nat):Int))::l)):np X w k s l:=vE (aq (·.1) e) (fun h=>lY h (aq (·.2.1) e) (aq (·.2.2) e) (by rw [IntWalk.i64_in _ ae]; omega)) hK
theorem zN (e:(Fc X.N l k,eB l x,eB l y)=(some (d,.binOp .sub Ty x y yt,true,k'),some (.int .i64 (i:Nat)),some (.int .i64 (j:Nat)))) (hw:j<=i/\i<=9223372036854775807) (hK:Mq X w 999 k' s ((d,.int .i64 ((i - j:Nat):Int))::l)):np X w k s l:=vE (aq (·.1) e) (fun h=>uh h (aq (·.2.1) e) (aq (·.2.2) e) (by rw [IntWalk.i64_in _ ae]; omega)) hK
theorem cmn (e:(Fc X.N l k,eB l x,eB l y)=(some (d,.binOp .mul Ty x y yt,true,k'),some (.int .i64 (i:Nat)),some (.int .i64 (j:Nat)))) (hw:i*j<=9223372036854775807) (hK:Mq X w 999 k' s ((d,.int .i64 ((i*j:Nat):Int))::l)):np X w k s l:=vE (aq (·.1) e) (fun h=>Bm h (aq (·.2.1) e) (aq (·.2.2) e) (by rw [IntWalk.i64_in _ (by rw [<- eX]; omega),eX])) hK
theorem Ye (e:(Fc X.N l k,eB l x)=(some (d,.unOp .neg Ty x,true,k'),some (.int .i64 m))) (hw:-9223372036854775807<=m/\m<=9223372036854775807) (hK:Mq X w 999 k' s ((d,.int .i64 (-m))::l)):np X w k s l:=vE (aq (·.1) e) (fun h=>om h (aq (·.2) e) (by
 have e:IntKind.i64.wrap (-m)=-m:=IntWalk.i64_in _ ae
 simp [Op.unary,Op.intArith,e])) hK
end
section
variable {T:Ig P}
theorem M7 (h:Tf (T.ty F)=true):mM P F:=by
 have:=T.tyOk F
 cases e:T.ty F with
 | no=>rw [e] at h; cases h
 | one=>rw [e] at this; exact this
 | agg n=>rw [e] at h; cases h
 | sl E=>rw [e] at this; exact this.1
theorem aa3 (h:T.ty F=.agg n):oh P F n:=by
 have:=T.tyOk F
 rw [h] at this; exact this
theorem Th (h:Io (T.ty F)=n+1):∃i,P.info? F=some i/\i.size=n+1:=by
 have:=T.tyOk F
 cases e:T.ty F with
 | no=>rw [e] at h; cases h
 | one=>rw [e] at this h; rw [<- h]; exact this.size
 | agg n=>rw [e] at this h; rw [<- h]; exact this.size
 | sl E=>rw [e] at this h; rw [<- h]; exact this.1.size
end
section
variable {F g o n:Nat} {c cs:Array Value} {t:TypeId}
theorem Ti (h:Ie c.toList o=some v):c[o]?=some v:=by rw [xS,dm] at h; exact h
theorem lE (j:Nat) (hs:St w0 w own ps) (e:(hdL X.N l k,Tf (X.T.ty F),eB l x,own[j]?,Ie c.toList o)=(some (some d,.load F x,k'),true,some (.pointer (some ⟨g,o,none⟩)),some (bk g c t),some v)) (hK:Mq X w 999 k' s ((d,v)::l)):np X w k s l:=
 cE (aq (·.1) e) (fun h=>cC h (M7 (aq (·.2.1) e)) (aq (·.2.2.1) e) (hs.pV (aq (·.2.2.2.1) e)) (Ti (aq (·.2.2.2.2) e))) hK
theorem gE (j:Nat) (hs:St w0 w own ps) (e:(hdL X.N l k,X.T.ty F,eB l x,own[j]?,c.size)=(some (some d,.load F x,k'),.agg n,some (cY g),some (bk g c t),n)) (hK:Mq X w 999 k' s ((d,.agg c)::l)):np X w k s l:=
 cE (aq (·.1) e) (fun h=>jz h (aa3 (aq (·.2.1) e)) (aq (·.2.2.1) e) (hs.pV (aq (·.2.2.2.1) e)) (aq (·.2.2.2.2) e)) hK
theorem Kn.bk (h:Kn w own ps) (hk:own[j]?=some (W.bk g c t)):w.heap[g]?=some (.cells c t (0,0)):=h.1 _ (ah hk)
theorem lS (j:Nat) (e:(hdK X.N l k,Tf (X.T.ty F),eB l x,own[j]?,Ie c.toList o)=(some (d,.load F x,own,ps,k'),true,some (.pointer (some ⟨g,o,none⟩)),some (bk g c t),some v)) (hK:Mq X w 999 k' s ((d,v)::l)):np X w k s l:=
 sE (aq (·.1) e) (fun h hk=>cC h (M7 (aq (·.2.1) e)) (aq (·.2.2.1) e) (hk.bk (aq (·.2.2.2.1) e)) (Ti (aq (·.2.2.2.2) e))) hK
theorem gS (j:Nat) (e:(hdK X.N l k,X.T.ty F,eB l x,own[j]?,c.size)=(some (d,.load F x,own,ps,k'),.agg n,some (cY g),some (bk g c t),n)) (hK:Mq X w 999 k' s ((d,.agg c)::l)):np X w k s l:=
 sE (aq (·.1) e) (fun h hk=>jz h (aa3 (aq (·.2.1) e)) (aq (·.2.2.1) e) (hk.bk (aq (·.2.2.2.1) e)) (aq (·.2.2.2.2) e)) hK
theorem ll (hs:St w0 w own ps) (e:(Nat.blt d X.N,eB l x)=(true,some v)) (h:adm v fun c=>∀w' g,St w0 w' (bk g c F::own) ps->C w' ((d,cY g)::l)):WE X w l (.box F x) (some d) C:=
 ⟨fun h1 hC=>ns h1 hs (aq (·.1) e) (aq (·.2) e) rfl fun a' w' g h' rR=>hC a' w' _ (M6 h w' g rR) h'⟩
theorem iR (hz:∃i,P.info? F=some i/\i.zero=some v) (hs:St w0 w own ps) (e:Nat.blt d X.N=true) (h:adm v fun c=>∀w' g,St w0 w' (bk g c F::own) ps->C w' ((d,cY g)::l)):WE X w l (.alloc F) (some d) C:=
 ⟨fun h1 hC=>kQ h1 hs e hz rfl fun a' w' g h' rR=>hC a' w' _ (M6 h w' g rR) h'⟩
theorem mK (j:Nat) (hs:St w0 w own ps) (e:(Tf (X.T.ty F),eB l x,eB l y,own[j]?,v.oneCell')=(true,some (.pointer (some ⟨g,o,none⟩)),some v,some (bk g c t),true)) (h:Fg c.toList o [v] fun c'=>zM own j (bk g c'.toArray t) fun nu=>∀w',St w0 w' nu ps->C w' l):WE X w l (.store F x y) none C:=by
 rcases AD _ _ _ _ h with ⟨h1,h2⟩ | ⟨h1,_⟩
 ·have h3:=oF _ _ _ _ h2
  refine ⟨fun hh hC=>u6 hh hs (M7 (aq (·.1) e)).size (aq (·.2.1) e) (aq (·.2.2.1) e) (aq (·.2.2.2.1) e) (by simp at h1; omega) (aq (·.2.2.2.2) e) rfl fun a' w' h' rR=>hC a' w' _ (h3 w' ?_) h'⟩
  rw [show (wr o [v] c.toList.toArray).toList.toArray=c.setIfInBounds o v from rfl]
  exact rR
 ·cases h1
theorem fB (j:Nat) (hs:St w0 w own ps) (e:(Io (X.T.ty F),eB l x,eB l y,own[j]?,cs.size,cs.toList.all (·.oneCell'))=(n+1,some (.pointer (some ⟨g,o,none⟩)),some (.agg cs),some (bk g c t),n+1,true)) (h:Fg c.toList o cs.toList fun c'=>zM own j (bk g c'.toArray t) fun nu=>∀w',St w0 w' nu ps->C w' l):WE X w l (.store F x y) none C:=by
 have hz:=aq (·.2.2.2.2.1) e
 dsimp only at hz
 rcases AD _ _ _ _ h with ⟨h1,h2⟩ | ⟨h1,_⟩
 ·have h3:=oF _ _ _ _ h2
  refine ⟨fun hh hC=>kZ hh hs (Th (aq (·.1) e)) (aq (·.2.1) e) (aq (·.2.2.1) e) (aq (·.2.2.2.1) e) hz (by simpa using h1) (aq (·.2.2.2.2.2) e) I fun a' w' h' rR=>hC a' w' _ (h3 w' ?_) h'⟩
  simpa using rR
 ·rw [<- dV,h1] at hz; cases hz
end
section
variable {f:FuncId} {xs:Array Operand} {Ts:Array TypeId} {vs:Array Value} {R:Ending->World->Prop}
theorem gV (hb:∀args w,(callFunc f args).run P w=.ok (.enter f args) w) (hc:Calls P f vs w fun e w'=>e=.returned v/\Below w.heap.size w w') (hs:St w0 w own ps) (e:(Nat.blt d X.N,xs.toList.map (eB l))=(true,vs.toList.map some)) (h:∀w',St w0 w' own ps->C w' ((d,v)::l)):WE X w l (.call ⟨.value (.func f),xs,Ts⟩) (some d) C:=
 ⟨fun h1 hC=>gG h1 (aq (·.1) e) hb (aq (·.2) e) hc fun _ w' ⟨he,hB⟩=>⟨v,he,fun a' h'=>hC a' w' _ (h w' (hs.call hB)) h'⟩⟩
theorem fk (hb:∀args w,(callFunc f args).run P w=.ok (.enter f args) w) (hc:Calls P f vs w R) (e:(Nat.blt d X.N,xs.toList.map (eB l))=(true,vs.toList.map some)) (h:∀e w',R e w'->∃v,e=.returned v/\C w' ((d,v)::l)):WE X w l (.call ⟨.value (.func f),xs,Ts⟩) (some d) C:=
 ⟨fun h1 hC=>gG h1 (aq (·.1) e) hb (aq (·.2) e) hc fun e w' hr=>by
  obtain ⟨v,he,hk⟩:=h e w' hr
  exact ⟨v,he,fun a' h'=>hC a' w' _ hk h'⟩⟩
end
section
variable {z:Operand} {b b':Bool} {c1 c2:Code} {p:Prop} [Decidable p] {m n:Int} {N:Nat}
theorem iE (hz:eB l z=some (.bool b)) (ht:b=true->Mq X w 999 (.code c1) s l) (hf:b=false->Mq X w 999 (.code c2) s l):np X w (.code (.cond z c1 c2)) s l:=⟨fun a h=>J0 h hz (fun e=>(lR _ (ht e)).go a h) fun e=>(lR _ (hf e)).go a h⟩
theorem iT (hz:eB l z=some (.bool b)) (hb:b=true) (ht:Mq X w 999 (.code c1) s l):np X w (.code (.cond z c1 c2)) s l:=⟨fun a h=>Rv h hz hb ((lR _ ht).go a h)⟩
theorem iF (hz:eB l z=some (.bool b)) (hb:b=false) (hf:Mq X w 999 (.code c2) s l):np X w (.code (.cond z c1 c2)) s l:=⟨fun a h=>Rx h hz hb ((lR _ hf).go a h)⟩
theorem dE (hz:eB l z=some (.bool (decide p))) (ht:p->Mq X w 999 (.code c1) s l) (hf:¬p->Mq X w 999 (.code c2) s l):np X w (.code (.cond z c1 c2)) s l:=iE hz (fun h=>ht (aN h)) fun h=>hf (bP h)
theorem dN (hz:eB l z=some (.bool (!decide p))) (ht:¬p->Mq X w 999 (.code c1) s l) (hf:p->Mq X w 999 (.code c2) s l):np X w (.code (.cond z c1 c2)) s l:=iE hz (fun h=>ht (by simpa using h)) fun h=>hf (by simpa using h)
theorem kB (hb:b=b') (h:Mq X w N k s ((d,.bool b')::l)):Mq X w N k s ((d,.bool b)::l):=by subst hb; exact h
theorem wB (ht:b=true->Mq X w N k s ((d,.bool true)::l)) (hf:b=false->Mq X w N k s ((d,.bool false)::l)):Mq X w N k s ((d,.bool b)::l):=by cases b; exact hf rfl; exact ht rfl
theorem wD (ht:p->Mq X w N k s ((d,.bool true)::l)) (hf:¬p->Mq X w N k s ((d,.bool false)::l)):Mq X w N k s ((d,.bool (decide p))::l):=wB (fun h=>ht (aN h)) fun h=>hf (bP h)
theorem wQ (ht:m=n->Mq X w N k s ((d,.bool true)::l)) (hf:m≠n->Mq X w N k s ((d,.bool false)::l)):Mq X w N k s ((d,.bool (m==n))::l):=wB (fun h=>ht (eq_of_beq h)) fun h=>hf (ne_of_beq_false h)
theorem wN (ht:m≠n->Mq X w N k s ((d,.bool true)::l)) (hf:m=n->Mq X w N k s ((d,.bool false)::l)):Mq X w N k s ((d,.bool (m !=n))::l):=wB (fun h=>ht (by simpa using h)) fun h=>hf (by simpa using h)
theorem M8 {v':Value} (hv:v=v') (h:Mq X w N k s ((d,v')::l)):Mq X w N k s ((d,v)::l):=by subst hv; exact h
end
def KJ (X:Cx P) (J:Nat->List (Nat×Value)->World->Prop) (mz:Nat) (a:Act) (w:World):Prop:=∃m',m'<mz/\∃l',b7 X.dq X.N a l'/\J m' l' w
def KC (X:Cx P) (J:List (Nat×Value)->World->Prop) (a:Act) (w:World):Prop:=∃l',b7 X.dq X.N a l'/\J l' w
section
variable {c:Code} {mz m':Nat} {l0:List (Nat×Value)}
theorem ks (J:Nat->List (Nat×Value)->World->Prop) (h0:J m' l0 w) (hs:Bl l l0) (hb:∀mz l w,J mz l w->Mq X w 999 (.code c) (.q (KJ X J mz)::s) l):np X w (.code (.loop c)) s l:=
 ⟨fun _ e=>EI (fun mz a w=>∃l',b7 X.dq X.N a l'/\J mz l' w) m' ⟨l0,e.sub hs,h0⟩ fun mz a w ⟨l',e',hJ⟩=>(lR _ (hb mz l' w hJ)).go a e'⟩
theorem gI {J:Nat->List (Nat×Value)->World->Prop} (hJ:J m' l' w) (hs:Bl l l') (fh:m'<mz):np X w (.fin .normal) (.q (KJ X J mz)::s) l:=⟨fun _ e=>⟨m',fh,l',e.sub hs,hJ⟩⟩
def Yf:Nat->List zh->(Act->World->Prop)->List zh
 | _,[],_=>[]
 | 0,_::s,K=>.q K::s
 | n+1,f::s,K=>f::Yf n s K
def ado:Nat->List zh->Option (Code×List zh)
 | 0,.th c::s=>some (c,s)
 | n+1,_::s=>ado n s
 | _,_=>none
theorem Tj {K:Act->World->Prop} {c2:Code} {s2:List zh}:∀(n:Nat) (s:List zh),ado n s=some (c2,s2)->(∀a w,K a w->c2.wpIn (WF X.ro) X.m P (tR X s2) a w)->∀e a w,tR X (Yf n s K) e a w->tR X s e a w
 | 0,.th c::s,h,hK,e,a,w,hq=>by
  cases h
  cases e<;>first | exact hK a w hq | exact hq
 | n+1,f::s,h,hK,e,a,w,hq=>by
  have ih:=Tj n s (by cases f<;>exact h) hK
  cases f with
  | th c=>cases e<;>first | exact wpIn_mono hq ih | exact ih _ _ _ hq
  | bl i=>
   cases e<;>first | exact ih _ _ _ hq | skip
   next j=>
    show Exit.inBlock i (tR X s) (.exit j) a w
    have hq':Exit.inBlock i (tR X (Yf n s K)) (.exit j) a w:=hq
    unfold Exit.inBlock at hq' ⊢
    dsimp only at hq' ⊢
    split at hq'
    ·next h=>rw [au h]; exact ih _ _ _ hq'
    ·next h=>rw [ak h]; exact ih _ _ _ hq'
  | sc=>cases e<;>first | exact ih _ _ _ hq | exact hq
  | q K'=>cases e<;>first | exact hq | exact ih _ _ _ hq
theorem zj {F:Fence} {m:Nat} {K K':Act->World->Prop} {Q Q':Exit->Act->World->Prop} (hQ:Ck Q) (h:∀a w,K a w->K' a w) (hh:o.wpIn F m P a w K Q):o.wpIn F m P a w K' Q':=by
 refine ⟨hh.1,?_⟩
 have hh:=hh.2
 generalize (o.semAt F.round a.eval).run P w=r at*
 have ho:¬LetsOut Q:=fun ⟨_,_,q⟩=>hQ.og _ _ q
 cases r with
 | ok n w'=>
  cases n<;>simp only [Oper.uponIn] at hh ⊢<;>
   first
    | exact h _ _ hh
    | exact ⟨hh.1,CallsIn.mono hh.2 (fun e w'' he=>by cases e<;>first | exact h _ _ he | exact (hQ.Ws _ _ _ he).elim | exact (ho he).elim)⟩
    | exact ⟨hh.1,RowsIn.mono hh.2 (fun _ _ he=>h _ _ he)⟩
    | exact ⟨hh.1,RoundIn.mono hh.2 (fun e w'' he=>by cases e<;>first | exact h _ _ he | exact (hQ.Ws _ _ _ he).elim | exact (ho he).elim)⟩
 | halt x w'=>cases x<;>simp only [Oper.uponIn] at hh ⊢<;>first | exact (hQ.Ws _ _ _ hh).elim | exact hh
theorem uG {F:Fence} {m:Nat} {ops:Array Oper} {Q Q':Exit->Act->World->Prop} (hQ:Ck Q) (hq:∀e a w,Q e a w->Q' e a w):∀(rest:List Oper) {a:Act} {w:World},wpListIn F m P ops Q rest a w->wpListIn F m P ops Q' rest a w
 | [],_,_,h=>hq _ _ _ h
 | o::rest,a,w,h=>by
  unfold wpListIn at h ⊢
  split at h
  ·next hw=>rw [au hw]; exact zj hQ (fun a w h=>uG hQ hq rest h) h
  ·next hw=>rw [ak hw]; exact ⟨h.1,uG hQ hq rest h.2⟩
def ckE:C'->Bool
 | .code _=>true
 | .list _ _=>true
 | .fin _=>true
 | _=>false
theorem Wt {k:C'} {c2:Code} {s2:List zh} (n:Nat) (J:List (Nat×Value)->World->Prop) (hn:(ado n s,ckE k)=(some (c2,s2),true)) (h:Mq X w 999 k (Yf n s (KC X J)) l) (hb:∀l w,J l w->Mq X w 999 (.code c2) s2 l):np X w k s l:=
 ⟨fun a e=>by
  have h1:=(lR _ h).go a e
  have hq:=Tj n s (aq (·.1) hn) (K:=KC X J) fun a w ⟨l',e',hJ⟩=>(lR _ (hb l' w hJ)).go a e'
  cases k with
  | code c=>exact wpIn_mono h1 hq
  | list os rest=>exact uG (oE X _) hq rest h1
  | fin x=>exact hq _ _ _ h1
  | Da=>exact absurd (aq (·.2) hn) (by simp [ckE])⟩
theorem xu {J:List (Nat×Value)->World->Prop} (hJ:J l' w) (hs:Bl l l'):np X w (.fin .normal) (.q (KC X J)::s) l:=⟨fun _ e=>⟨l',e.sub hs,hJ⟩⟩
end
theorem Wu {c:Code} (hr:X.ro=none) (h:Mq X w 999 (.code c) (.sc::s) l):np X w (.code (.scope c)) s l:=⟨fun a e=>by
 have h1:=(lR _ h).go a e
 show (Code.scope c).wpIn (WF X.ro) X.m P (tR X s) a w
 have h2:c.wpIn (WF X.ro) X.m P (Exit.noGoto (tR X s)) a w:=h1
 rw [hr] at h2 ⊢
 exact (wpIn_wide).2 (wp_scope_straight ((wpIn_wide).1 h2))⟩
def brG (X:Cx P) (w:World) (own ps:List PF) (Z:List Nat) (os:List Oper) (n:Nat) (ls:Array Bool) (s:List zh) (l:List (Nat×Value)):List (Nat×List Nat)->Prop
 | []=>True
 | (i,is)::r=>((∃dst op ty pos af,xT os i=some ⟨dst,op,ty,pos,af,none⟩/\WE X w l op dst fun w' l'=>JD Z own ps i w'/\Mq X w' 999 (.Da own ps Z os is (ls.setIfInBounds i true)) s l')/\yI ⟨os⟩ Z is (ls.setIfInBounds i true)=true/\is.length=n)/\brG X w own ps Z os n ls s l r
theorem Tk {own ps:List PF} {Z:List Nat} {os:List Oper} {n:Nat} {ls:Array Bool}:∀(r:List (Nat×List Nat)),brG X w own ps Z os n ls s l r->∀i∈r.map (·.1),∃is,(∃dst op ty pos af,xT os i=some ⟨dst,op,ty,pos,af,none⟩/\WE X w l op dst fun w' l'=>JD Z own ps i w'/\Mq X w' 999 (.Da own ps Z os is (ls.setIfInBounds i true)) s l')/\yI ⟨os⟩ Z is (ls.setIfInBounds i true)=true/\is.length=n
 | [],_,i,hi=>by cases hi
 | (j,is)::r,h,i,hi=>by
  rcases bf.1 hi with rfl | hi
  ·exact ⟨is,h.1⟩
  ·exact Tk r h.2 i hi
theorem Wv {own:List PF} (r:List (Nat×List Nat)) (hr:decide (Region.ready .any ⟨os⟩ ls=r.map (·.1))=true) (u5:r.map (·.1)≠[]) (h:brG X w own ps Z os is.length ls s l r):np X w (.Da own ps Z os (c::is) ls) s l:=by
 refine ⟨fun a e _ hz=>⟨fun h0=>absurd ((aN hr).symm.trans h0) u5,fun i hi=>?_⟩⟩
 have hr':Region.ready .any os.toArray ls=r.map (·.1):=aN hr
 have LO:=hi
 rw [hr'] at LO
 obtain ⟨is',⟨dst,op,ty,pos,af,ho,hw⟩,hs,hl⟩:=Tk r h i LO
 unfold wpOp
 simp only [zi ho]
 rw [au (by simp [Region.wanted])]
 refine .inl (hw.go e fun a' w' l' hM e'=>⟨.inr hM.1,?_⟩)
 rw [<- hl]
 refine (lR _ hM.2).go a' e' hs fun hz'=>hM.1.resolve_left fun hq=>?_
 have h1:=bp.1 hz' _ (List.contains_iff_mem.1 hq)
 have h3:=(mem_ready.1 hi).1
 rcases aV i ls.size with fh | yo
 ·rw [cU,gT fh] at h1
  cases h1
 ·rw [cU,eF yo] at h3
  cases h3
theorem lj {id:Nat} (Z is:List Nat) (e:(yI ⟨os⟩ Z is (Array.replicate os.length false),xQ ⟨os⟩,decide (is.length=os.length))=(true,true,true)) (hs:St w0 w own ps) (h:∀w',St w0 w' own ps->Mq X w' 999 (.Da own ps Z os is (Array.replicate os.length false)) s l):np X w (.code (.region id ⟨os⟩ true)) s l:=
 ⟨fun a he=>by
  have h1:=aq (·.1) e
  have h3:=aN (aq (·.2.2) e)
  refine xR (n:=os.length) (JD Z own ps) X.mix I he hs (aq (·.2.1) e) (oE X s).og fun w' he' rR=>?_
  rw [<- h3]
  have:=(lR _ (h w' rR)).go a he' h1 fun _=>rR.kn
  rw [<- h3] at this
  exact this⟩
end
section
variable {P:Program} {fn:Func} {R:Ending->World->Prop} {T:Ig P} {mix:P.follows .mixedOrders=true} {N:Nat} {w w0:World} {l:List (Nat×Value)} {v v1 v2 v3 v4:Value} {t1 t2 t3 t4:Nat}
def Ip (P:Program) (fn:Func) (R:Ending->World->Prop):Exit->Act->World->Prop
 | .normal,a,w=>a.defers=[]/\∃v,(results fn a.tmps).run P w=.ok v w/\R (.returned v) w
 | .ret,a,w=>a.defers=[]/\∃v,(results fn a.tmps).run P w=.ok v w/\R (.returned v) w
 | _,_,_=>False
theorem Tm:Ck (Ip P fn R):=⟨fun _ _ _ h=>h,fun _ _ h=>h⟩
theorem enE {c:Code} (T:Ig P) (mix:P.follows .mixedOrders=true) (hf:P.funcs[f]?=some fn) (hb:fn.body=some c) (hn:fn.ntmps=N) (hz:Nat.ble args.size N=true) (h:St w w [] []->Mq ⟨T,mix,none,9,[],N,Ip P fn R,Tm⟩ w 999 (.code c) [] (Wc 0 args.toList)):Calls P f args w R:=
 enter hf hb hn hz fun a h1 h2=>(wpIn_wide (n:=9)).1 (wpIn_mono ((lR _ (h h2)).go a h1) fun e a w hq=>by cases e<;>first | exact hq | exact hq.elim)
theorem oR {ok:Ck (Ip P fn R)} (hr:∀{a:Act},b7 [] N a l->(results fn a.tmps).run P w=.ok v w) (hR:R (.returned v) w):np ⟨T,mix,none,9,[],N,Ip P fn R,ok⟩ w (.fin .ret) [] l:=⟨fun _ e=>⟨e.defers,v,hr e,hR⟩⟩
theorem oN {ok:Ck (Ip P fn R)} (hr:∀{a:Act},b7 [] N a l->(results fn a.tmps).run P w=.ok v w) (hR:R (.returned v) w):np ⟨T,mix,none,9,[],N,Ip P fn R,ok⟩ w (.fin .normal) [] l:=⟨fun _ e=>⟨e.defers,v,hr e,hR⟩⟩
theorem o0 {ok:Ck (Ip P fn R)} (h:fn.results=#[]) (hR:R (.returned (.tuple #[])) w):np ⟨T,mix,none,9,[],N,Ip P fn R,ok⟩ w (.fin .ret) [] l:=oR (fun _=>Ow h) hR
theorem Dp {ok:Ck (Ip P fn R)} (h:fn.results=#[]) (hR:R (.returned (.tuple #[])) w):np ⟨T,mix,none,9,[],N,Ip P fn R,ok⟩ w (.fin .normal) [] l:=oN (fun _=>Ow h) hR
theorem o1 {ok:Ck (Ip P fn R)} (h:fn.results=#[.tmp t1]) (h1:look l t1=some v1) (hR:R (.returned v1) w):np ⟨T,mix,none,9,[],N,Ip P fn R,ok⟩ w (.fin .ret) [] l:=oR (fun e=>iJ h (RV.tmp e h1)) hR
theorem o2 {ok:Ck (Ip P fn R)} (h:fn.results=#[.tmp t1,.tmp t2]) (h1:(look l t1,look l t2)=(some v1,some v2)) (hR:R (.returned (.tuple #[v1,v2])) w):np ⟨T,mix,none,9,[],N,Ip P fn R,ok⟩ w (.fin .ret) [] l:=oR (fun e=>lk h (RV.tmp e (aq (·.1) h1)) (RV.tmp e (aq (·.2) h1))) hR
theorem o3 {ok:Ck (Ip P fn R)} (h:fn.results=#[.tmp t1,.tmp t2,.tmp t3]) (h1:(look l t1,look l t2,look l t3)=(some v1,some v2,some v3)) (hR:R (.returned (.tuple #[v1,v2,v3])) w):np ⟨T,mix,none,9,[],N,Ip P fn R,ok⟩ w (.fin .ret) [] l:=oR (fun e=>ahk h (RV.tmp e (aq (·.1) h1)) (RV.tmp e (aq (·.2.1) h1)) (RV.tmp e (aq (·.2.2) h1))) hR
end
section
variable {P:Program} {X:Cx P} {w w0:World} {k k':C'} {s:List zh} {l l':List (Nat×Value)} {own ps:List PF} {os rest:List Oper} {d i:Nat} {dst:Option Nat} {op:Op} {v:Value} {x y:Operand} {Z:List Nat} {C:World->List (Nat×Value)->Prop}
theorem Kn.ow (h:Kn w own ps) (hk:own[j]?=some e):e.P w:=h.1 _ (ah hk)
theorem Kn.pt (h:Kn w own ps) (hk:ps[j]?=some e):e.P w:=h.2 _ (ah hk)
section
variable {N:Nat} {dq:List Deferred} {a:Act} {ty:TypeId} {pos:String} {af:Array Edge} {gd:Option (Nat×Bool)}
theorem aX {w1:World} {T z:Nat} {vs:List Value} {k:IntKind} (h:b7 dq N a l) (hT:P.underlying T=some (.slice E)) (hE:∃j,P.info? E=some j/\j.size=z) (hx:eB l x=some (.slice A n c)) (hy:eB l y=some (.int k (i:Nat))) (hi:i<n) (hp:i*z=p) (hr:Rd z w1 A n c vs):
  (execOp a.eval ⟨some d,.indexAddr T x y,ty,pos,af,gd⟩).run P w=.ok (.value (.pointer (some ⟨Go.Proofs.YtgopcdagnicekaaGreatDoor.ab A,ao A+p,none⟩))) w:=by
 subst hp
 exact oo h hT hE (hx.trans (by rw [<- hr.ab ae])) hy hi
def BD (P:Program) (T:Nat) (pl:List (Nat×Nat)) (zc:Array Value):Prop:=(∃fs,P.underlying T=some (.struct fs)/\∀w,(fs.mapM fun f=>do pure (f.offset,<- sizeOf f.type):Sem (Array (Nat×Nat))).run P w=.ok pl.toArray w)/\∃i,P.info? T=some i/\i.zero=some (.agg zc)
def evP (l:List (Nat×Value)):List (Nat×Operand)->Option (List (Nat×Value))
 | []=>some []
 | (i,x)::r=>match eB l x with
  | some v=>match evP l r with
   | some q=>some ((i,v)::q)
   | none=>none
  | none=>none
theorem Kw:∀(r:List (Nat×Operand)) (q:List (Nat×Value)),evP l r=some q->r.map (fun p=>(p.1,eB l p.2))=q.map (fun p=>(p.1,some p.2))
 | [],_,h=>by cases h; rfl
 | (i,x)::r,q,h=>by
  unfold evP at h
  split at h
  ·next v hv=>
   split at h
   ·next q' hq=>
    cases h
    rw [dk,dk,Kw r q' hq,hv]
   ·cases h
  ·cases h
theorem eV {T:Nat} {pl:List (Nat×Nat)} {c:Array Value} {parts:Array (Nat×Operand)} (hb:BD P T pl zc) (h:b7 dq N a l) (hp':evP l parts.toList=some pv) (hf:Instr.fill (pl.toArray[·]?) zc pv=some c):
  (execOp a.eval ⟨some d,.build T parts,ty,pos,af,gd⟩).run P w=.ok (.value (.agg c)) w:=by
 have hp:=Kw _ _ hp'
 have he:(parts.map (fun (i,x)=>(i,a.eval x))).toList=pv:=by
  rw [fe]
  clear hf hp'
  generalize parts.toList=xl at hp ⊢
  induction xl generalizing pv with
  | nil=>cases pv with
   | nil=>rfl
   | cons=>simp at hp
  | cons x xl ih=>cases pv with
   | nil=>simp at hp
   | cons v pv=>
    simp only [dk,eY,cP] at hp ⊢
    refine ⟨?_,ih hp.2⟩
    obtain ⟨i,x⟩:=x
    obtain ⟨j,v⟩:=v
    have h1:i=j:=hp.1.1
    have h2:=h.ev hp.1.2
    subst h1
    exact Prod.ext I h2
 obtain ⟨⟨fs,hu,hm⟩,i,hi,hz⟩:=hb
 have Q5:(zeroValue T).run P w=.ok (.agg zc) w:=by simp [zeroValue,typeInfo,hi,hz]
 simp only [execOp,Instr.build,Sem.run_bind,Q5,Result.andThen_ok,run_underlying hu w,hm w,Value.cells,he,hf]
 rfl
end
theorem BD.of (T:Ig P) {Ty:Nat} {pl:List (Nat×Nat)} (hu:P.underlying Ty=some (.struct fs)) (hz:∃i,P.info? Ty=some i/\i.zero=some (.agg zc)) (e:(fs.toList.map (fun f=>(f.offset,Io (T.ty f.type))),pl.all fun p=>Nat.blt 0 p.2)=(pl,true)):BD P Ty pl zc:=by
 refine ⟨⟨fs,hu,fun w=>?_⟩,hz⟩
 have e1:=aq (·.1) e
 have e2:=aq (·.2) e
 dsimp only at e1 e2
 obtain ⟨fl⟩:=fs
 dsimp only at e1
 have hm:∀(l:List Field) (p:List (Nat×Nat)),l.map (fun f=>(f.offset,Io (T.ty f.type)))=p->(p.all fun p=>Nat.blt 0 p.2)=true->(l.mapM fun f=>do pure (f.offset,<- sizeOf f.type):Sem (List (Nat×Nat))).run P w=.ok p w:=by
  intro l
  induction l with
  | nil=>intro p h _; subst h; simp
  | cons f l ih=>
   intro p h h0
   subst h
   simp only [dk,List.all_cons,bL] at h0
   have h1:0<Io (T.ty f.type):=dH h0.1
   obtain ⟨n,hn⟩:∃n,Io (T.ty f.type)=n+1:=⟨Io (T.ty f.type) - 1,by omega⟩
   have hz:=run_sizeOf (P:=P) (w:=w) (Th hn)
   simp only [ku,Sem.run_bind,hz,Result.andThen_ok,Sem.run_pure,ih _ rfl h0.2,dk,hn]
 have:=hm fl pl e1 e2
 simp only [ju,map_eq_pure_bind,Sem.run_bind]
 rw [this]
 rfl
section
variable {α:Type} {f:α->List Value} {q:Value->Bool} {t E n z bytes g m c c0 T p:Nat} {A:Option Addr} {zv:Value} {es new:List α} {cs va:Array Value} {E':TypeId} {e0 ez:α}
theorem oO (j r:Nat) (hs:St w0 w own ps) (hi:(P.info? E).map (fun i=>(i.zero,i.size,i.bytes))=some (some zv,z,bytes))
  (e:(Nat.blt d X.N,X.T.ty t,eB l x,eB l y,own[j]?,own[r]?,zv.cells.size,Nat.blt 0 z,cs.size,cs.toList.all (·.oneCell'),cs.toList.all q,zv.cells.toList.all q,Nat.blt 0 m,cs.toList)=(true,.sl E,some (.slice A n c0),some (.slice (cS g) m c),some (fc q E z A n c0 (fl f es)),some (bk g cs E'),z,true,m*z,true,true,true,true,fl f new))
  (hn:n+m<=maxLen) (hb:(n+m)*bytes<=140737488355328)
  (h:∀w' g' c',zM own j (fc q E z (cS g') (n+m) c' (fl f (es++new))) fun nu=>St w0 w' nu ps->C w' ((d,.slice (cS g') (n+m) c')::l)):WE X w l (.call ⟨.builtin .append,#[x,y],#[t,t]⟩) (some d) C:=by
 have ht:=X.T.tyOk t
 simp only [cP] at e
 obtain ⟨e1,e2,e3,e4,e5,e6,e7,e8,e9,e10,e11,e12,e13,e14⟩:=e
 rw [e2] at ht
 exact ⟨fun h1 hC=>sX h1 hs e1 ht.2 hi e7 e8 e3 e4 e5 e6 e9 e10 e11 e12 e13 hn hb fun a' w' g' c' h' rR=>hC a' w' _ (oF _ _ _ _ (h w' g' c') (by rw [yz,<- e14]; exact rR)) h'⟩
theorem aRE (j:Nat) {B:Option Addr} (hs:St w0 w own ps) (hi:(P.info? E).map (fun i=>(i.zero,i.size,i.bytes))=some (some zv,z,bytes)) (hr:Rd z w B m c (fl f new)) (h1:(fl f new).all (·.oneCell')=true) (Di:(fl f new).all q=true)
 (e:(Nat.blt d X.N,X.T.ty t,eB l x,eB l y,own[j]?,zv.cells.size,Nat.blt 0 z,zv.cells.toList.all q)=(true,.sl E,some (.slice A n c0),some (.slice B m c),some (fc q E z A n c0 (fl f es)),z,true,true))
 (hm:0<m) (hn:n+m<=maxLen) (hb:(n+m)*bytes<=140737488355328)
 (h:∀w' g' c',zM own j (fc q E z (cS g') (n+m) c' (fl f (es++new))) fun nu=>St w0 w' nu ps->C w' ((d,.slice (cS g') (n+m) c')::l)):WE X w l (.call ⟨.builtin .append,#[x,y],#[t,t]⟩) (some d) C:=by
 have ht:=X.T.tyOk t
 simp only [cP] at e
 obtain ⟨e1,e2,e3,e4,e5,e7,e8,e12⟩:=e
 rw [e2] at ht
 exact ⟨fun h0 hC=>BC h0 hs e1 ht.2 hi e7 e8 e3 e4 e5 hr h1 Di e12 hm hn hb fun a' w' g' c' h' rR=>hC a' w' _ (oF _ _ _ _ (h w' g' c') (by rw [yz]; exact rR)) h'⟩
theorem Cn (f:α->List Value) (e0:α) (q:Value->Bool) {kl kc:IntKind} (hs:St w0 w own ps) (hi:(P.info? E).map (fun i=>(i.zero,i.size,i.bytes))=some (some zv,z,bytes))
 (e:(Nat.blt d X.N,X.T.ty T,eB l x,eB l y,zv.cells.size,Nat.blt 0 z,f e0,zv.cells.toList.all q)=(true,.sl E,some (.int kl (n:Nat)),some (.int kc (n:Nat)),z,true,zv.cells.toList,true)) (hb:bytes*n<=140737488355328) (hn:n<=maxLen)
 (h:∀w' g,St w0 w' (fc q E z (cS g) n n (fl f (List.replicate n e0))::own) ps->C w' ((d,.slice (cS g) n n)::l)):WE X w l (.makeSlice T x y) (some d) C:=by
 have ht:=X.T.tyOk T
 simp only [cP] at e
 obtain ⟨e1,e2,e3,e4,e5,e6,e7,e8⟩:=e
 rw [e2] at ht
 exact ⟨fun h1 hC=>BB h1 hs e1 ht.2 hi e5 e6 e7 e8 e3 e4 hb hn fun a' w' g h' rR=>hC a' w' _ (h w' g rR) h'⟩
theorem srE (j i:Nat) {e1:α} (hz:∀e,(f e).length=z) (hs:St w0 w own ps) (e:(Io (X.T.ty T),eB l x,eB l y,own[j]?,(f e1).toArray,va.toList.all (·.oneCell'),va.toList.all q)=(z,some (.pointer (some ⟨Go.Proofs.YtgopcdagnicekaaGreatDoor.ab A,ao A+p,none⟩)),some (.agg va),some (fc q E z A n c (fl f es)),va,true,true)) (hp:i*z=p) (mZ:0<z) (hn:i<n) (hl:es.length=n)
  (h:∀w',zM own j (fc q E z A n c (fl f (es.set i e1))) fun nu=>St w0 w' nu ps->C w' l):WE X w l (.store T x y) none C:=by
 obtain ⟨z,rfl⟩:∃y,z=y+1:=⟨z - 1,by omega⟩
 simp only [cP] at e
 obtain ⟨a1,a2,a3,a4,a5,a6,a7⟩:=e
 exact ⟨fun h1 hC=>yA h1 hs (Th a1) a2 a3 hp a4 hz hn hl a5 a6 a7 fun a' w' h' rR=>hC a' w' _ (oF _ _ _ _ (h w') rR) h'⟩
theorem uH (j i:Nat) {e1:α} (hz:∀e,(f e).length=1) (hs:St w0 w own ps) (e:(Tf (X.T.ty T),eB l x,eB l y,own[j]?,f e1,v.oneCell',q v)=(true,some (.pointer (some ⟨Go.Proofs.YtgopcdagnicekaaGreatDoor.ab A,ao A+p,none⟩)),some v,some (fc q E 1 A n c (fl f es)),[v],true,true)) (hp:i*1=p) (hn:i<n) (hl:es.length=n)
  (h:∀w',zM own j (fc q E 1 A n c (fl f (es.set i e1))) fun nu=>St w0 w' nu ps->C w' l):WE X w l (.store T x y) none C:=by
 simp only [cP] at e
 obtain ⟨a1,a2,a3,a4,a5,a6,a7⟩:=e
 exact ⟨fun h1 hC=>Kg h1 hs (M7 a1).size a2 a3 hp a4 hz hn hl a5 a6 a7 fun a' w' h' rR=>hC a' w' _ (oF _ _ _ _ (h w') rR) h'⟩
theorem mi {parts:Array (Nat×Operand)} (c:Array Value) (hs:St w0 w own ps) (hE:∃i,P.info? E=some i/\i.size=z) (hz:∃i,P.info? E=some i/\i.zero=some zv) (e:(Nat.blt d X.N,X.T.ty T,Nat.ble (n*z) 1000000,Nat.blt 0 (n*z),evP l parts.toList)=(true,.sl E,true,true,some pv))
 (hf:Instr.fill (fun i=>some (i*z,z)) ((Array.range (n*z)).map (zv.cells[·%zv.cells.size]!)) pv=some c) (h:∀w' g,St w0 w' (bk g c E::own) ps->C w' ((d,.slice (cS g) n n)::l)):WE X w l (.buildSlice T n parts) (some d) C:=by
 have ht:=X.T.tyOk T
 simp only [cP] at e
 obtain ⟨e1,e2,e3,e4,e5⟩:=e
 rw [e2] at ht
 exact ⟨fun h1 hC=>nC h1 hs e1 ht.2 hE hz (dH e3) (by have:=dH e4; omega) (by simpa using Kw _ _ e5) hf fun a' w' g h' rR=>hC a' w' _ (h w' g rR) h'⟩
end
def evA (l:List (Nat×Value)):List Operand->Option (List Value)
 | []=>some []
 | x::r=>match eB l x with
  | some v=>match evA l r with
   | some q=>some (v::q)
   | none=>none
  | none=>none
section
variable {fn:FuncId} {xs:Array Operand} {Ts:Array TypeId} {vs first caps:Array Value} {R:Ending->World->Prop}
theorem Tn:∀(r:List Operand) (q:List Value),evA l r=some q->r.map (eB l)=q.map some
 | [],_,h=>by cases h; rfl
 | x::r,q,h=>by
  unfold evA at h
  split at h
  ·next v hv=>
   split at h
   ·next q' hq=>cases h; rw [dk,dk,Tn r q' hq,hv]
   ·cases h
  ·cases h
theorem sH {us:Array Value} {vl:List Value} (hb:∀args w,(callFunc fn args).run P w=.ok (.enter fn args) w) (e:(Nat.blt d X.N,eB l y,evA l xs.toList)=(true,some (.func (.func fn) first caps),some vl)) (hc:Calls P fn us w R) (hu:first.toList++vl++caps.toList=us.toList) (h:∀e w',R e w'->∃v,e=.returned v/\C w' ((d,v)::l)):WE X w l (.call ⟨.value y,xs,Ts⟩) (some d) C:=
 ⟨fun h1 hC=>xJ h1 (aq (·.1) e) hb (aq (·.2.1) e) (by simpa using Tn _ _ (aq (·.2.2) e)) (by rw [show first++vl.toArray++caps=us from jx (by simpa using hu)]; exact hc) fun e w' hr=>by
  obtain ⟨v,he,hk⟩:=h e w' hr
  exact ⟨v,he,fun a' h'=>hC a' w' _ hk h'⟩⟩
end
end
open Go.RowKit
set_option maxRecDepth 100000
def tyL:List (Nat×Wq):=[(2,.one),
 (3,.one),
 (4,.one),
 (5,.one),
 (9,.one),
 (22,.sl 61),
 (23,.sl 2),
 (25,.sl 116),
 (26,.sl 3),
 (28,.agg 4),
 (30,.agg 15),
 (31,.one),
 (35,.one),
 (39,.agg 4),
 (43,.sl 52),
 (50,.sl 98),
 (52,.agg 2),
 (61,.agg 2),
 (65,.sl 5),
 (69,.agg 2),
 (74,.sl 77),
 (76,.one),
 (77,.one),
 (79,.one),
 (82,.agg 15),
 (90,.one),
 (91,.agg 2),
 (92,.agg 4),
 (96,.one),
 (98,.one),
 (99,.one),
 (104,.sl 108),
 (106,.one),
 (108,.agg 5),
 (112,.agg 3),
 (116,.agg 5),
 (128,.sl 133),
 (131,.sl 43),
 (133,.agg 2),
 (136,.one),
 (142,.one),
 (146,.one),
 (151,.agg 3),
 (155,.one),
 (157,.agg 3),
 (158,.one),
 (161,.one),
 (168,.agg 2),
 (169,.sl 168),
 (174,.agg 2),
 (175,.agg 6),
 (176,.agg 12),
 (206,.one),
 (212,.one),
 (216,.one),
 (218,.agg 4),
 (219,.sl 4),
 (224,.one),
 (225,.one),
 (227,.agg 2),
 (230,.agg 10),
 (231,.agg 2),
 (233,.one),
 (238,.agg 6),
 (248,.one),
 (249,.one),
 (250,.one),
 (251,.one),
 (253,.agg 5),
 (255,.one),
 (262,.one),
 (264,.agg 3),
 (273,.agg 4),
 (290,.agg 32),
 (291,.agg 64),
 (297,.one),
 (300,.one),
 (311,.one),
 (315,.one)]
def fdL:List (Nat×List (Nat×Nat)):=[(28,[(0,3),(1,3),(2,25),(3,26)]),
 (30,[(0,3),(1,3),(2,22),(3,28),(7,28),(11,28)]),
 (39,[(0,3),(1,3),(2,3),(3,3)]),
 (52,[(0,4),(1,50)]),
 (61,[(0,3),(1,3)]),
 (69,[(0,31),(1,3)]),
 (82,[(0,30)]),
 (108,[(0,28),(4,106)]),
 (116,[(0,3),(1,3),(2,3),(3,3),(4,3)]),
 (133,[(0,43),(1,43)]),
 (151,[(0,3),(1,3),(2,22)]),
 (157,[(0,65),(1,3),(2,4)]),
 (168,[(0,9),(1,79)]),
 (175,[(0,43),(1,3),(2,28)]),
 (218,[(0,26),(1,216),(2,216),(3,3)]),
 (227,[(0,225),(1,219)]),
 (230,[(0,28),(4,219),(5,26),(6,26),(7,26),(8,26),(9,26)]),
 (238,[(0,28),(4,131),(5,3)]),
 (253,[(0,248),(1,249),(2,249),(3,250),(4,251)]),
 (264,[(0,3),(1,25),(2,22)]),
 (273,[(0,3),(1,3),(2,3),(3,3)])]
theorem adp:okT prog tyL:=⟨⟨⟨_,underlying2,rfl⟩,by kernel_rfl⟩,
 ⟨⟨_,underlying3,rfl⟩,by kernel_rfl⟩,
 ⟨⟨_,underlying4,rfl⟩,by kernel_rfl⟩,
 ⟨⟨_,underlying5,rfl⟩,by kernel_rfl⟩,
 ⟨⟨_,underlying9,rfl⟩,by kernel_rfl⟩,
 ⟨⟨⟨_,underlying22,rfl⟩,by kernel_rfl⟩,underlying22⟩,
 ⟨⟨⟨_,underlying23,rfl⟩,by kernel_rfl⟩,underlying23⟩,
 ⟨⟨⟨_,underlying25,rfl⟩,by kernel_rfl⟩,underlying25⟩,
 ⟨⟨⟨_,underlying26,rfl⟩,by kernel_rfl⟩,underlying26⟩,
 ⟨⟨_,underlying28,rfl⟩,by kernel_rfl⟩,
 ⟨⟨_,underlying30,rfl⟩,by kernel_rfl⟩,
 ⟨⟨_,underlying31,rfl⟩,by kernel_rfl⟩,
 ⟨⟨_,underlying35,rfl⟩,by kernel_rfl⟩,
 ⟨⟨_,underlying39,rfl⟩,by kernel_rfl⟩,
 ⟨⟨⟨_,underlying43,rfl⟩,by kernel_rfl⟩,underlying43⟩,
 ⟨⟨⟨_,underlying50,rfl⟩,by kernel_rfl⟩,underlying50⟩,
 ⟨⟨_,underlying52,rfl⟩,by kernel_rfl⟩,
 ⟨⟨_,underlying61,rfl⟩,by kernel_rfl⟩,
 ⟨⟨⟨_,underlying65,rfl⟩,by kernel_rfl⟩,underlying65⟩,
 ⟨⟨_,underlying69,rfl⟩,by kernel_rfl⟩,
 ⟨⟨⟨_,underlying74,rfl⟩,by kernel_rfl⟩,underlying74⟩,
 ⟨⟨_,underlying76,rfl⟩,by kernel_rfl⟩,
 ⟨⟨_,underlying77,rfl⟩,by kernel_rfl⟩,
 ⟨⟨_,underlying79,rfl⟩,by kernel_rfl⟩,
 ⟨⟨_,underlying82,rfl⟩,by kernel_rfl⟩,
 ⟨⟨_,underlying90,rfl⟩,by kernel_rfl⟩,
 ⟨⟨_,underlying91,rfl⟩,by kernel_rfl⟩,
 ⟨⟨_,underlying92,rfl⟩,by kernel_rfl⟩,
 ⟨⟨_,underlying96,rfl⟩,by kernel_rfl⟩,
 ⟨⟨_,underlying98,rfl⟩,by kernel_rfl⟩,
 ⟨⟨_,underlying99,rfl⟩,by kernel_rfl⟩,
 ⟨⟨⟨_,underlying104,rfl⟩,by kernel_rfl⟩,underlying104⟩,
 ⟨⟨_,underlying106,rfl⟩,by kernel_rfl⟩,
 ⟨⟨_,underlying108,rfl⟩,by kernel_rfl⟩,
 ⟨⟨_,underlying112,rfl⟩,by kernel_rfl⟩,
 ⟨⟨_,underlying116,rfl⟩,by kernel_rfl⟩,
 ⟨⟨⟨_,underlying128,rfl⟩,by kernel_rfl⟩,underlying128⟩,
 ⟨⟨⟨_,underlying131,rfl⟩,by kernel_rfl⟩,underlying131⟩,
 ⟨⟨_,underlying133,rfl⟩,by kernel_rfl⟩,
 ⟨⟨_,underlying136,rfl⟩,by kernel_rfl⟩,
 ⟨⟨_,underlying142,rfl⟩,by kernel_rfl⟩,
 ⟨⟨_,underlying146,rfl⟩,by kernel_rfl⟩,
 ⟨⟨_,underlying151,rfl⟩,by kernel_rfl⟩,
 ⟨⟨_,underlying155,rfl⟩,by kernel_rfl⟩,
 ⟨⟨_,underlying157,rfl⟩,by kernel_rfl⟩,
 ⟨⟨_,underlying158,rfl⟩,by kernel_rfl⟩,
 ⟨⟨_,underlying161,rfl⟩,by kernel_rfl⟩,
 ⟨⟨_,underlying168,rfl⟩,by kernel_rfl⟩,
 ⟨⟨⟨_,underlying169,rfl⟩,by kernel_rfl⟩,underlying169⟩,
 ⟨⟨_,underlying174,rfl⟩,by kernel_rfl⟩,
 ⟨⟨_,underlying175,rfl⟩,by kernel_rfl⟩,
 ⟨⟨_,underlying176,rfl⟩,by kernel_rfl⟩,
 ⟨⟨_,underlying206,rfl⟩,by kernel_rfl⟩,
 ⟨⟨_,underlying212,rfl⟩,by kernel_rfl⟩,
 ⟨⟨_,underlying216,rfl⟩,by kernel_rfl⟩,
 ⟨⟨_,underlying218,rfl⟩,by kernel_rfl⟩,
 ⟨⟨⟨_,underlying219,rfl⟩,by kernel_rfl⟩,underlying219⟩,
 ⟨⟨_,underlying224,rfl⟩,by kernel_rfl⟩,
 ⟨⟨_,underlying225,rfl⟩,by kernel_rfl⟩,
 ⟨⟨_,underlying227,rfl⟩,by kernel_rfl⟩,
 ⟨⟨_,underlying230,rfl⟩,by kernel_rfl⟩,
 ⟨⟨_,underlying231,rfl⟩,by kernel_rfl⟩,
 ⟨⟨_,underlying233,rfl⟩,by kernel_rfl⟩,
 ⟨⟨_,underlying238,rfl⟩,by kernel_rfl⟩,
 ⟨⟨_,underlying248,rfl⟩,by kernel_rfl⟩,
 ⟨⟨_,underlying249,rfl⟩,by kernel_rfl⟩,
 ⟨⟨_,underlying250,rfl⟩,by kernel_rfl⟩,
 ⟨⟨_,underlying251,rfl⟩,by kernel_rfl⟩,
 ⟨⟨_,underlying253,rfl⟩,by kernel_rfl⟩,
 ⟨⟨_,underlying255,rfl⟩,by kernel_rfl⟩,
 ⟨⟨_,underlying262,rfl⟩,by kernel_rfl⟩,
 ⟨⟨_,underlying264,rfl⟩,by kernel_rfl⟩,
 ⟨⟨_,underlying273,rfl⟩,by kernel_rfl⟩,
 ⟨⟨_,underlying290,rfl⟩,by kernel_rfl⟩,
 ⟨⟨_,underlying291,rfl⟩,by kernel_rfl⟩,
 ⟨⟨_,underlying297,rfl⟩,by kernel_rfl⟩,
 ⟨⟨_,underlying300,rfl⟩,by kernel_rfl⟩,
 ⟨⟨_,underlying311,rfl⟩,by kernel_rfl⟩,
 ⟨⟨_,underlying315,rfl⟩,by kernel_rfl⟩,trivial⟩
theorem adq:okF prog fdL:=⟨⟨⟨_,_,underlying28,rfl,rfl,rfl⟩,⟨_,_,underlying28,rfl,rfl,rfl⟩,⟨_,_,underlying28,rfl,rfl,rfl⟩,⟨_,_,underlying28,rfl,rfl,rfl⟩,trivial⟩,
 ⟨⟨_,_,underlying30,rfl,rfl,rfl⟩,⟨_,_,underlying30,rfl,rfl,rfl⟩,⟨_,_,underlying30,rfl,rfl,rfl⟩,⟨_,_,underlying30,rfl,rfl,rfl⟩,⟨_,_,underlying30,rfl,rfl,rfl⟩,⟨_,_,underlying30,rfl,rfl,rfl⟩,trivial⟩,
 ⟨⟨_,_,underlying39,rfl,rfl,rfl⟩,⟨_,_,underlying39,rfl,rfl,rfl⟩,⟨_,_,underlying39,rfl,rfl,rfl⟩,⟨_,_,underlying39,rfl,rfl,rfl⟩,trivial⟩,
 ⟨⟨_,_,underlying52,rfl,rfl,rfl⟩,⟨_,_,underlying52,rfl,rfl,rfl⟩,trivial⟩,
 ⟨⟨_,_,underlying61,rfl,rfl,rfl⟩,⟨_,_,underlying61,rfl,rfl,rfl⟩,trivial⟩,
 ⟨⟨_,_,underlying69,rfl,rfl,rfl⟩,⟨_,_,underlying69,rfl,rfl,rfl⟩,trivial⟩,
 ⟨⟨_,_,underlying82,rfl,rfl,rfl⟩,trivial⟩,
 ⟨⟨_,_,underlying108,rfl,rfl,rfl⟩,⟨_,_,underlying108,rfl,rfl,rfl⟩,trivial⟩,
 ⟨⟨_,_,underlying116,rfl,rfl,rfl⟩,⟨_,_,underlying116,rfl,rfl,rfl⟩,⟨_,_,underlying116,rfl,rfl,rfl⟩,⟨_,_,underlying116,rfl,rfl,rfl⟩,⟨_,_,underlying116,rfl,rfl,rfl⟩,trivial⟩,
 ⟨⟨_,_,underlying133,rfl,rfl,rfl⟩,⟨_,_,underlying133,rfl,rfl,rfl⟩,trivial⟩,
 ⟨⟨_,_,underlying151,rfl,rfl,rfl⟩,⟨_,_,underlying151,rfl,rfl,rfl⟩,⟨_,_,underlying151,rfl,rfl,rfl⟩,trivial⟩,
 ⟨⟨_,_,underlying157,rfl,rfl,rfl⟩,⟨_,_,underlying157,rfl,rfl,rfl⟩,⟨_,_,underlying157,rfl,rfl,rfl⟩,trivial⟩,
 ⟨⟨_,_,underlying168,rfl,rfl,rfl⟩,⟨_,_,underlying168,rfl,rfl,rfl⟩,trivial⟩,
 ⟨⟨_,_,underlying175,rfl,rfl,rfl⟩,⟨_,_,underlying175,rfl,rfl,rfl⟩,⟨_,_,underlying175,rfl,rfl,rfl⟩,trivial⟩,
 ⟨⟨_,_,underlying218,rfl,rfl,rfl⟩,⟨_,_,underlying218,rfl,rfl,rfl⟩,⟨_,_,underlying218,rfl,rfl,rfl⟩,⟨_,_,underlying218,rfl,rfl,rfl⟩,trivial⟩,
 ⟨⟨_,_,underlying227,rfl,rfl,rfl⟩,⟨_,_,underlying227,rfl,rfl,rfl⟩,trivial⟩,
 ⟨⟨_,_,underlying230,rfl,rfl,rfl⟩,⟨_,_,underlying230,rfl,rfl,rfl⟩,⟨_,_,underlying230,rfl,rfl,rfl⟩,⟨_,_,underlying230,rfl,rfl,rfl⟩,⟨_,_,underlying230,rfl,rfl,rfl⟩,⟨_,_,underlying230,rfl,rfl,rfl⟩,⟨_,_,underlying230,rfl,rfl,rfl⟩,trivial⟩,
 ⟨⟨_,_,underlying238,rfl,rfl,rfl⟩,⟨_,_,underlying238,rfl,rfl,rfl⟩,⟨_,_,underlying238,rfl,rfl,rfl⟩,trivial⟩,
 ⟨⟨_,_,underlying253,rfl,rfl,rfl⟩,⟨_,_,underlying253,rfl,rfl,rfl⟩,⟨_,_,underlying253,rfl,rfl,rfl⟩,⟨_,_,underlying253,rfl,rfl,rfl⟩,⟨_,_,underlying253,rfl,rfl,rfl⟩,trivial⟩,
 ⟨⟨_,_,underlying264,rfl,rfl,rfl⟩,⟨_,_,underlying264,rfl,rfl,rfl⟩,⟨_,_,underlying264,rfl,rfl,rfl⟩,trivial⟩,
 ⟨⟨_,_,underlying273,rfl,rfl,rfl⟩,⟨_,_,underlying273,rfl,rfl,rfl⟩,⟨_,_,underlying273,rfl,rfl,rfl⟩,⟨_,_,underlying273,rfl,rfl,rfl⟩,trivial⟩,trivial⟩
def tb:Ig prog:=anG adp adq
theorem jo:BD prog 30 [(0,1),(1,1),(2,1),(3,4),(7,4),(11,4)] #[.int .i64 0,.int .i64 0,bM,.int .i64 0,.int .i64 0,bM,bM,.int .i64 0,.int .i64 0,bM,bM,.int .i64 0,.int .i64 0,bM,bM]:=BD.of tb underlying30 (by as_aux_lemma=>exact ⟨_,rfl,rfl⟩) rfl
theorem oG:BD prog 69 [(0,1),(1,1)] #[.int .i64 0,.int .i64 0]:=BD.of tb underlying69 (by as_aux_lemma=>exact ⟨_,rfl,rfl⟩) rfl
theorem tS:BD prog 82 [(0,15)] #[.int .i64 0,.int .i64 0,bM,.int .i64 0,.int .i64 0,bM,bM,.int .i64 0,.int .i64 0,bM,bM,.int .i64 0,.int .i64 0,bM,bM]:=BD.of tb underlying82 (by as_aux_lemma=>exact ⟨_,rfl,rfl⟩) rfl
theorem iO:BD prog 61 [(0,1),(1,1)] #[.int .i64 0,.int .i64 0]:=BD.of tb underlying61 (by as_aux_lemma=>exact ⟨_,rfl,rfl⟩) rfl
theorem jq:BD prog 28 [(0,1),(1,1),(2,1),(3,1)] #[.int .i64 0,.int .i64 0,bM,bM]:=BD.of tb underlying28 (by as_aux_lemma=>exact ⟨_,rfl,rfl⟩) rfl
theorem tm:BD prog 151 [(0,1),(1,1),(2,1)] #[.int .i64 0,.int .i64 0,bM]:=BD.of tb underlying151 (by as_aux_lemma=>exact ⟨_,rfl,rfl⟩) rfl
theorem nv:BD prog 108 [(0,4),(4,1)] #[.int .i64 0,.int .i64 0,bM,bM,.nilFunc]:=BD.of tb underlying108 (by as_aux_lemma=>exact ⟨_,rfl,rfl⟩) rfl
theorem uI:BD prog 157 [(0,1),(1,1),(2,1)] #[bM,.int .i64 0,.bool false]:=BD.of tb underlying157 (by as_aux_lemma=>exact ⟨_,rfl,rfl⟩) rfl
theorem dg:BD prog 116 [(0,1),(1,1),(2,1),(3,1),(4,1)] #[.int .i64 0,.int .i64 0,.int .i64 0,.int .i64 0,.int .i64 0]:=BD.of tb underlying116 (by as_aux_lemma=>exact ⟨_,rfl,rfl⟩) rfl
theorem ir:BD prog 175 [(0,1),(1,1),(2,4)] #[bM,.int .i64 0,.int .i64 0,.int .i64 0,bM,bM]:=BD.of tb underlying175 (by as_aux_lemma=>exact ⟨_,rfl,rfl⟩) rfl
theorem wS:BD prog 133 [(0,1),(1,1)] #[bM,bM]:=BD.of tb underlying133 (by as_aux_lemma=>exact ⟨_,rfl,rfl⟩) rfl
theorem nw:BD prog 168 [(0,1),(1,1)] #[.string ⟨#[]⟩,.nilFunc]:=BD.of tb underlying168 (by as_aux_lemma=>exact ⟨_,rfl,rfl⟩) rfl
theorem tT:BD prog 227 [(0,1),(1,1)] #[.map none,bM]:=BD.of tb underlying227 (by as_aux_lemma=>exact ⟨_,rfl,rfl⟩) rfl
theorem uJ:BD prog 264 [(0,1),(1,1),(2,1)] #[.int .i64 0,bM,bM]:=BD.of tb underlying264 (by as_aux_lemma=>exact ⟨_,rfl,rfl⟩) rfl
theorem uK:BD prog 218 [(0,1),(1,1),(2,1),(3,1)] #[bM,.map none,.map none,.int .i64 0]:=BD.of tb underlying218 (by as_aux_lemma=>exact ⟨_,rfl,rfl⟩) rfl
theorem j7:BD prog 230 [(0,4),(4,1),(5,1),(6,1),(7,1),(8,1),(9,1)] #[.int .i64 0,.int .i64 0,bM,bM,bM,bM,bM,bM,bM,bM]:=BD.of tb underlying230 (by as_aux_lemma=>exact ⟨_,rfl,rfl⟩) rfl
theorem vR:BD prog 238 [(0,4),(4,1),(5,1)] #[.int .i64 0,.int .i64 0,bM,bM,bM,.int .i64 0]:=BD.of tb underlying238 (by as_aux_lemma=>exact ⟨_,rfl,rfl⟩) rfl
theorem mV:BD prog 253 [(0,1),(1,1),(2,1),(3,1),(4,1)] #[.nilFunc,.nilFunc,.nilFunc,.nilFunc,.nilFunc]:=BD.of tb underlying253 (by as_aux_lemma=>exact ⟨_,rfl,rfl⟩) rfl
theorem wT:BD prog 273 [(0,1),(1,1),(2,1),(3,1)] #[.int .i64 0,.int .i64 0,.int .i64 0,.int .i64 0]:=BD.of tb underlying273 (by as_aux_lemma=>exact ⟨_,rfl,rfl⟩) rfl
section
variable {fn:Func} {R:Ending->World->Prop} {N:Nat} {w:World}
theorem gQ {c:Code} (hf:prog.funcs[f]?=some fn) (hb:fn.body=some c) (hn:fn.ntmps=N) (hz:Nat.ble args.size N=true) (h:St w w [] []->Mq ⟨tb,mixed,none,9,[],N,Ip prog fn R,Tm⟩ w 999 (.code c) [] (Wc 0 args.toList)):Calls prog f args w R:=enE tb mixed hf hb hn hz h
end
def star (l:List PF):PF:=
 ⟨fun w=>(∀e∈l,e.P w)/\l.Pairwise fun e f=>∀b,e.gO b->¬f.gO b,fun b=>∃e∈l,e.gO b,fun h ⟨e,he,hb⟩=>e.lt (h.1 e he) hb,
  fun h hs hk=>⟨fun e he=>e.keep (h.1 e he) hs fun b hb=>hk b ⟨e,he,hb⟩,h.2⟩⟩
section
variable {w0 w w':World} {own ps l:List PF} {o o':PF} {k:Nat}
theorem St.pack (h:St w0 w own ps) (n:Nat):St w0 w (star (own.take n)::own.drop n) ps:=by
 have ve:(own.take n++own.drop n).Pairwise fun e f=>∀b,e.gO b->¬f.gO b:=by rw [dU]; exact h.nd
 rw [jy] at ve
 refine ⟨h.below,fun e he=>?_,fun e he b hb=>?_,dR.2 ⟨fun f hf b h1 h2=>?_,ve.2.1⟩,h.pers,fun p hp e he b h1 h2=>?_⟩
 ·rcases bf.1 he with rfl | he
  ·exact ⟨fun e he=>h.mine e (dM he),ve.1⟩
  ·exact h.mine e (dx he)
 ·rcases bf.1 he with rfl | he
  ·obtain ⟨f,hf,hb⟩:=hb
   exact h.new f (dM hf) b hb
  ·exact h.new e (dx he) b hb
 ·obtain ⟨e,he,hb⟩:=h1
  exact ve.2.2 e he f hf b hb h2
 ·rcases bf.1 he with rfl | he
  ·obtain ⟨f,hf,hb⟩:=h1
   exact h.apart p hp f (dM hf) b hb h2
  ·exact h.apart p hp e (dx he) b h1 h2
theorem St.unpack (h:St w0 w (star l::own) ps):St w0 w (l++own) ps:=by
 have h1:(star l).P w:=h.mine _ (aJ ..)
 have ve:=dR.1 h.nd
 refine ⟨h.below,fun e he=>?_,fun e he b hb=>?_,jy.2 ⟨h1.2,ve.2,fun e he f hf b hb h2=>ve.1 f hf b ⟨e,he,hb⟩ h2⟩,h.pers,fun p hp e he b hb h2=>?_⟩
 ·rcases aK.1 he with he | he
  ·exact h1.1 e he
  ·exact h.mine e (aQ _ he)
 ·rcases aK.1 he with he | he
  ·exact h.new _ (aJ ..) b ⟨e,he,hb⟩
  ·exact h.new e (aQ _ he) b hb
 ·rcases aK.1 he with he | he
  ·exact h.apart p hp _ (aJ ..) b ⟨e,he,hb⟩ h2
  ·exact h.apart p hp e (aQ _ he) b hb h2
theorem St.kL (h:St w0 w own ps) (hk:own[k]?=some o) (h':St w0 w' [o'] [dA w o]):St w0 w' (own.set k o') ps:=by
 obtain ⟨hs,hr⟩:=h'.pat (k:=0) rfl
 refine h.pH hk (h'.owns (k:=0) I) (fun b hb=>?_) (h'.below.os.trans h.below.os.symm) (h'.below.tape.trans h.below.tape.symm) (h'.below.output.trans h.below.output.symm) hs hr
 have h1:=h'.apart _ (aJ ..) o' (aJ ..) b hb
 rcases aV b w.heap.size with q | q
 ·exact .inl (jl fun hn=>h1 ⟨q,hn⟩)
 ·exact .inr q
end
section
set_option linter.unusedSectionVars false
variable {α:Type} [DecidableEq α]
def AM (x:α):List (α×Int)->Nat->Option (Nat×Int)
 | [],_=>none
 | p::r,i=>if p.1=x then some (i,p.2) else AM x r (i+1)
def mpv (r:Option (Nat×Int)):Option (Nat×Value):=r.map fun q=>(q.1,Value.int .i64 q.2)
def Gy (x:α) (l:List (α×Int)):Int:=((AM x l 0).map (·.2)).getD 0
def uP (x:α) (l:List (α×Int)):Bool:=(AM x l 0).isSome
structure Uc (P:Program) (kt:TypeId) (enc:α->Value):Prop where
 chk:∀(b:Bool) x w,(Instr.checkKey b 10000 kt (enc x)).run P w=.ok () w
 find:∀x (es:List MapEntry) (l:List (α×Int)) w,es.map (fun e=>(e.key,e.val))=l.map (fun p=>(enc p.1,Value.int .i64 p.2))->(Instr.findKey kt (enc x) es).run P w=.ok (mpv (AM x l 0)) w
def tV (enc:α->Value) (g:Nat) (l:List (α×Int)):PF:=
 ⟨fun w=>∃es:Array MapEntry,w.heap[g]?=some (.map es es.size)/\es.toList.map (fun x=>(x.key,x.val))=l.map (fun p=>(enc p.1,Value.int .i64 p.2))/\∀(i:Nat) (e:MapEntry),es.toList[i]?=some e->e.born=i,fun b=>b=g,
  fun ⟨_,h,_⟩ e=>by subst e; exact lt_of_block h,fun ⟨es,h,h1,h2⟩ _ hk=>⟨es,(hk g rfl).trans h,h1,h2⟩⟩
section
variable {P:Program} {enc:α->Value} {kt e t g:Nat} {l:List (α×Int)} {w:World} {x:α}
theorem Fx (h:(tV enc g l).P w):∃es:Array MapEntry,w.heap[g]?=some (.map es es.size)/\es.toList.map (fun x=>(x.key,x.val))=l.map (fun p=>(enc p.1,Value.int .i64 p.2))/\(∀(i:Nat) (e:MapEntry),es.toList[i]?=some e->e.born=i)/\es.size=l.length:=by
 obtain ⟨es,h1,h2,h3⟩:=h
 refine ⟨es,h1,h2,h3,?_⟩
 have:=aq List.length h2
 simpa using this
theorem Py (K:Uc P kt enc) (ht:P.underlying t=some (.map kt e)) (hz:(zeroValue e).run P w=.ok (.int .i64 0) w) (h:(tV enc g l).P w) (ok:Bool):(Instr.lookup t (.map (some g)) (enc x) ok).run P w=.ok (if ok then .tuple #[.int .i64 (Gy x l),.bool (uP x l)] else .int .i64 (Gy x l)) w:=by
 obtain ⟨es,h1,h2,_,_⟩:=Fx h
 have hf:=K.find x es.toList l w h2
 unfold Gy uP
 cases hq:AM x l 0 with
 | none=>
  rw [hq] at hf
  simp only [mpv,j5] at hf
  cases ok<;>simp [Instr.lookup,run_underlying ht,MapKept.run_getObj_map h1,K.chk,hf,hz,Result.andThen]
 | some r=>
  rw [hq] at hf
  simp only [mpv,fQ] at hf
  cases ok<;>simp [Instr.lookup,run_underlying ht,MapKept.run_getObj_map h1,K.chk,hf,Result.andThen]
theorem Ns {es:Array MapEntry} {v:Int} (h1:w.heap[g]?=some (.map es es.size)) (h2:es.toList.map (fun x=>(x.key,x.val))=l.map (fun p=>(enc p.1,Value.int .i64 p.2))) (h3:∀(i:Nat) (e:MapEntry),es.toList[i]?=some e->e.born=i):
  (tV enc g (l++[(x,v)])).P { w with heap:=w.heap.setIfInBounds g (.map (es.push { key:=enc x,val:=.int .i64 v,born:=es.size }) (es.size+1)) }:=by
 refine ⟨es.push { key:=enc x,val:=.int .i64 v,born:=es.size },?_,?_,fun i e hi=>?_⟩
 ·rw [Array.size_push]; exact (MapKept.heap_set h1).1
 ·rw [Array.toList_push,cD,cD,h2]; rfl
 ·rw [Array.toList_push,gn] at hi
  split at hi
  ·exact h3 i e hi
  ·rename_i hc
   rw [List.getElem?_singleton] at hi
   split at hi
   ·cases hi
    rename_i hd
    simp at hc hd ⊢
    omega
   ·cases hi
theorem K5 (K:Uc P kt enc) (ht:P.underlying t=some (.map kt e)) (hz:(zeroValue e).run P w=.ok (.int .i64 0) w) (h:(tV enc g l).P w) (hx:uP x l=false):∃w',(Instr.mapEntry t (.map (some g)) (enc x)).run P w=.ok (.tuple #[.int .i64 0,.int .i64 (l.length:Nat)]) w'/\(tV enc g (l++[(x,0)])).P w'/\w'.os=w.os/\w'.tape=w.tape/\w'.output=w.output/\w'.heap.size=w.heap.size/\∀b,b≠g->w'.heap[b]?=w.heap[b]?:=by
 obtain ⟨es,h1,h2,h3,h4⟩:=Fx h
 have hf:=K.find x es.toList l w h2
 have hq:AM x l 0=none:=by unfold uP at hx; cases hq:AM x l 0 with | none=>rfl | some _=>rw [hq] at hx; cases hx
 rw [hq] at hf
 simp only [mpv,j5] at hf
 refine ⟨_,?_,Ns h1 h2 h3,I,I,I,by simp,fun b hb=>(MapKept.heap_set h1).2 b hb⟩
 rw [<- h4]
 simp [Instr.mapEntry,run_underlying ht,MapKept.run_getObj_map h1,MapKept.run_setObj_map _ h1,K.chk,hf,hz,Result.andThen,goInt]
theorem Ud (K:Uc P kt enc) (ht:P.underlying t=some (.map kt e)) (h:(tV enc g l).P w) (hx:uP x l=false) (v:Int):∃w',(Instr.mapUpdate t (.map (some g)) (enc x) (.int .i64 v)).run P w=.ok () w'/\(tV enc g (l++[(x,v)])).P w'/\w'.os=w.os/\w'.tape=w.tape/\w'.output=w.output/\w'.heap.size=w.heap.size/\∀b,b≠g->w'.heap[b]?=w.heap[b]?:=by
 obtain ⟨es,h1,h2,h3,h4⟩:=Fx h
 have hf:=K.find x es.toList l w h2
 have hq:AM x l 0=none:=by unfold uP at hx; cases hq:AM x l 0 with | none=>rfl | some _=>rw [hq] at hx; cases hx
 rw [hq] at hf
 simp only [mpv,j5] at hf
 refine ⟨_,?_,Ns h1 h2 h3,I,I,I,by simp,fun b hb=>(MapKept.heap_set h1).2 b hb⟩
 simp [Instr.mapUpdate,run_underlying ht,MapKept.run_getObj_map h1,MapKept.run_setObj_map _ h1,K.chk,hf,Result.andThen]
theorem K6 (h:(tV enc g (l++[(x,0)])).P w) (v:Int):∃w',(Instr.entryStore t (.map (some g)) (.int .i64 (l.length:Nat)) (.int .i64 v)).run P w=.ok () w'/\(tV enc g (l++[(x,v)])).P w'/\w'.os=w.os/\w'.tape=w.tape/\w'.output=w.output/\w'.heap.size=w.heap.size/\∀b,b≠g->w'.heap[b]?=w.heap[b]?:=by
 obtain ⟨es,h1,h2,h3,h4⟩:=Fx h
 have hl:l.length<es.size:=by rw [h4]; simp
 have hi:es.findIdx? (fun e=>(e.born:Int)==(l.length:Nat))=some l.length:=by
  rw [Array.findIdx?_eq_some_iff_getElem]
  refine ⟨hl,?_,fun j hj=>?_⟩
  ·have:=h3 l.length es[l.length] (by simp [hl])
   simp [this]
  ·have:=h3 j es[j] (by simp<;>omega)
   simp [this]<;>omega
 refine ⟨{ w with heap:=w.heap.setIfInBounds g (.map (es.modify l.length fun e=>{ e with val:=.int .i64 v }) es.size) },?_,⟨es.modify l.length fun e=>{ e with val:=.int .i64 v },?_,?_,fun i e hie=>?_⟩,rfl,rfl,rfl,by simp,fun b hb=>(MapKept.heap_set h1).2 b hb⟩
 ·simp [Instr.entryStore,MapKept.run_getObj_map h1,MapKept.run_setObj_map _ h1,Result.andThen,hi,asInt,asIntOf]
 ·rw [Array.size_modify]; exact (MapKept.heap_set h1).1
 ·apply dG
  intro i
  have h5:=aq (·[i]?) h2
  simp only [ay,dm] at h5 ⊢
  rw [eO]
  by_cases q:l.length=i
  ·subst q
   simp at h5 ⊢
   obtain ⟨a,ha,hk,_⟩:∃a,es[l.length]?=some a/\a.key=enc x/\True:=by
    refine ⟨es[l.length],by simp [hl],?_,trivial⟩
    have h6:es[l.length]?=some es[l.length]:=by simp [hl]
    rw [h6] at h5
    simp at h5
    exact h5.1
   exact ⟨a,ha,hk⟩
  ·rw [ak q,h5,gn,gn]
   split
   ·rfl
   ·rw [bg (by simp; omega),bg (by simp; omega)]
 ·rw [dm,eO] at hie
  split at hie
  ·simp at hie
   obtain ⟨a,ha,rfl⟩:=hie
   exact h3 i a (by simpa using ha)
  ·exact h3 i e (by simpa using hie)
end
end
section
variable {α:Type} [DecidableEq α] {P:Program} {X:Cx P} {w w0:World} {l:List (Nat×Value)} {own ps:List PF} {d:Nat} {C:World->List (Nat×Value)->Prop} {kt E T g:Nat} {m y z:Operand} {enc:α->Value} {lm:List (α×Int)} {x:α} {v:Int}
theorem mmE (enc:α->Value) (hs:St w0 w own ps) (e:Nat.blt d X.N=true) (h:∀w' g,St w0 w' (tV enc g []::own) ps->C w' ((d,.map (some g))::l)):WE X w l (.makeMap T none) (some d) C:=
 ⟨fun {a K Q ty pos af gd} h1 hC=>by
  have hr:(execOp a.eval ⟨some d,.makeMap T none,ty,pos,af,gd⟩).run P w=.ok (.value (.map (some w.heap.size))) (w.alloc (.map #[] 0)):=by
   simp only [execOp]; rfl
  unfold Oper.wp
  rw [hr]
  refine hC _ _ _ (h _ _ (hs.add ((Below.refl _ w).alloc (ar _) _) (tV enc w.heap.size []) ⟨#[],World.alloc_heap_new w _,I,fun i e hi=>by simp at hi⟩ fun b hb=>ew hb.symm)) (h1.put e _)⟩
theorem nm {ty:TypeId} {pos:String} {af:Array Edge} (ok:Bool) (h:b7 dq N a l) (K:Uc P kt enc) (ht:P.underlying T=some (.map kt E)) (hz:∀w,(zeroValue E).run P w=.ok (.int .i64 0) w) (hm:eB l m=some (.map (some g))) (hy:eB l y=some (enc x)) (hp:(tV enc g lm).P w):
  (execOp a.eval ⟨some d,.lookup T m y ok,ty,pos,af,gd⟩).run P w=.ok (.value (if ok then .tuple #[.int .i64 (Gy x lm),.bool (uP x lm)] else .int .i64 (Gy x lm))) w:=by
 have h1:=h.ev hm
 have h2:=h.ev hy
 have hr:=Py (x:=x) K ht (hz w) hp ok
 simp only [execOp,h1,h2,Sem.run_bind,hr,Result.andThen]
 rfl
theorem meE (k:Nat) (x:α) (K:Uc P kt enc) (ht:P.underlying T=some (.map kt E)) (hz:∀w,(zeroValue E).run P w=.ok (.int .i64 0) w) (hs:St w0 w own ps) (e:(Nat.blt d X.N,eB l m,eB l y,own[k]?)=(true,some (.map (some g)),some (enc x),some (tV enc g lm))) (hx:uP x lm=false)
  (h:∀w',zM own k (tV enc g (lm++[(x,0)])) fun nu=>St w0 w' nu ps->C w' ((d,.tuple #[.int .i64 0,.int .i64 (lm.length:Nat)])::l)):WE X w l (.mapEntry T m y) (some d) C:=
 ⟨fun {a K' Q ty pos af gd} h1 hC=>by
  simp only [cP] at e
  obtain ⟨e1,e2,e3,e4⟩:=e
  obtain ⟨w',hr,h3,h4,h5,h6,h7,h8⟩:=K5 K ht (hz w) (hs.owns e4) hx
  have Jz:(execOp a.eval ⟨some d,.mapEntry T m y,ty,pos,af,gd⟩).run P w=.ok (.value (.tuple #[.int .i64 0,.int .i64 (lm.length:Nat)])) w':=by
   simp only [execOp,h1.ev e2,h1.ev e3,Sem.run_bind,hr,Result.andThen]; rfl
  unfold Oper.wp
  rw [Jz]
  exact hC _ _ _ (oF _ _ _ _ (h w') (hs.pH e4 h3 (fun b hb=>.inl hb) h4 h5 h6 (ew h7.symm) fun b _ hb=>h8 b hb)) (h1.put e1 _)⟩
theorem msE (k:Nat) (x:α) (v:Int) (hs:St w0 w own ps) (e:(eB l m,eB l y,eB l z,own[k]?)=(some (.map (some g)),some (.int .i64 (lm.length:Nat)),some (.int .i64 v),some (tV enc g (lm++[(x,0)])))) (h:∀w',zM own k (tV enc g (lm++[(x,v)])) fun nu=>St w0 w' nu ps->C w' l):WE X w l (.entryStore T m y z) none C:=
 ⟨fun {a K' Q ty pos af gd} h1 hC=>by
  simp only [cP] at e
  obtain ⟨e2,e3,e5,e4⟩:=e
  obtain ⟨w',hr,h3,h4,h5,h6,h7,h8⟩:=K6 (P:=P) (t:=T) (hs.owns e4) v
  have Jz:(execOp a.eval ⟨none,.entryStore T m y z,ty,pos,af,gd⟩).run P w=.ok .skip w':=by
   simp only [execOp,h1.ev e2,h1.ev e3,h1.ev e5,Sem.run_bind,hr,Result.andThen]; rfl
  unfold Oper.wp
  rw [Jz]
  exact hC _ _ _ (oF _ _ _ _ (h w') (hs.pH e4 h3 (fun b hb=>.inl hb) h4 h5 h6 (ew h7.symm) fun b _ hb=>h8 b hb)) (h1.GU _)⟩
theorem muE (k:Nat) (x:α) (v:Int) (K:Uc P kt enc) (ht:P.underlying T=some (.map kt E)) (hs:St w0 w own ps) (e:(eB l m,eB l y,eB l z,own[k]?)=(some (.map (some g)),some (enc x),some (.int .i64 v),some (tV enc g lm))) (hx:uP x lm=false) (h:∀w',zM own k (tV enc g (lm++[(x,v)])) fun nu=>St w0 w' nu ps->C w' l):WE X w l (.mapUpdate T m y z) none C:=
 ⟨fun {a K' Q ty pos af gd} h1 hC=>by
  simp only [cP] at e
  obtain ⟨e2,e3,e5,e4⟩:=e
  obtain ⟨w',hr,h3,h4,h5,h6,h7,h8⟩:=Ud K ht (hs.owns e4) hx v
  have Jz:(execOp a.eval ⟨none,.mapUpdate T m y z,ty,pos,af,gd⟩).run P w=.ok .skip w':=by
   simp only [execOp,h1.ev e2,h1.ev e3,h1.ev e5,Sem.run_bind,hr,Result.andThen]; rfl
  unfold Oper.wp
  rw [Jz]
  exact hC _ _ _ (oF _ _ _ _ (h w') (hs.pH e4 h3 (fun b hb=>.inl hb) h4 h5 h6 (ew h7.symm) fun b _ hb=>h8 b hb)) (h1.GU _)⟩
end
theorem JI {P:Program} {X:Cx P} {s:List zh} {own:List PF} {id:Nat} (Z is io jp:List Nat) (e:(yI ⟨os⟩ Z is (Array.replicate os.length false),xQ ⟨os⟩,decide (is.length=os.length),decide io.Nodup)=(true,true,true,true)) (hs:St w0 w own ps) (h:∀w',St w0 w' own ps->Mq X w' 999 (.Da (io.filterMap (own[·]?)) (jp.filterMap (ps[·]?)) Z os is (Array.replicate os.length false)) s l):np X w (.code (.region id ⟨os⟩ true)) s l:=
 ⟨fun a he=>by
  have h1:=aq (·.1) e
  have h3:=aN (aq (·.2.2.1) e)
  have h4:io.Nodup:=aN (aq (·.2.2.2) e)
  refine xR (n:=os.length) (JD Z (io.filterMap (own[·]?)) (jp.filterMap (ps[·]?))) X.mix I he hs (aq (·.2.1) e) (oE X s).og fun w' he' rR=>?_
  rw [<- h3]
  have:=(lR _ (h w' rR)).go a he' h1 fun _=>(rR.pick io jp h4).kn
  rw [<- h3] at this
  exact this⟩
theorem kyI (hd:P.underlying kt=some (.int .i64)):Uc P kt (fun x:Int=>Value.int .i64 x):=by
 refine ⟨fun b x w=>MapKept.run_checkKey hd (by simp [MapKept.IsKey]) b 9999,fun x es l w h=>MapKept.run_findKey hd ?_⟩
 have:∀(es:List MapEntry) (l:List (Int×Int)) (i:Nat),es.map (fun e=>(e.key,e.val))=l.map (fun p=>(Value.int .i64 p.1,Value.int .i64 p.2))->Instr.findNow (.int .i64) (.int .i64 x) es i=some (mpv (AM x l i)):=by
  intro es
  induction es with
  | nil=>intro l i h; cases l with
   | nil=>rfl
   | cons p r=>simp at h
  | cons e es ih=>intro l i h; cases l with
   | nil=>simp at h
   | cons p r=>
    simp only [dk,eY,cP] at h
    obtain ⟨⟨h1,h2⟩,h3⟩:=h
    unfold Instr.findNow AM
    rw [h1,h2]
    by_cases q:x=p.1
    ·rw [au q.symm]; simp [Instr.sameNow,q,mpv]
    ·rw [ak (fun z=>q z.symm)]
     have:(x==p.1)=false:=by simpa using q
     simp [Instr.sameNow,this,ih r (i+1) h3]
 exact this es l 0 h
theorem kyS {α:Type} [DecidableEq α] (ls:α->List Int) (hI:G5 P kt n) (hd:P.underlying kt=some (.struct fs)) (hl:∀x,(ls x).length=n) (hj:∀x y,ls x=ls y->x=y) (hc:∀(b:Bool) x w,(Instr.checkKey b 10000 kt (.agg (ints (ls x)))).run P w=.ok () w):Uc P kt (fun x:α=>Value.agg (ints (ls x))):=by
 refine ⟨hc,fun x es l w h=>?_⟩
 have ask:∀(es:List MapEntry) (l:List (α×Int)) (i:Nat),es.map (fun e=>(e.key,e.val))=l.map (fun p=>(Value.agg (ints (ls p.1)),Value.int .i64 p.2))->(Instr.findAsking kt (.agg (ints (ls x))) es i).run P w=.ok (mpv (AM x l i)) w:=by
  intro es
  induction es with
  | nil=>intro l i h; cases l with
   | nil=>rfl
   | cons p r=>simp at h
  | cons e es ih=>intro l i h; cases l with
   | nil=>simp at h
   | cons p r=>
    simp only [dk,eY,cP] at h
    obtain ⟨⟨h1,h2⟩,h3⟩:=h
    unfold Instr.findAsking AM
    rw [h1,h2]
    have he:(Op.equal kt (.agg (ints (ls x))) (.agg (ints (ls p.1)))).run P w=.ok (decide (ls x=ls p.1)) w:=ux hI w _ _ (hl _) (hl _)
    simp only [Sem.run_bind,he,Result.andThen_ok]
    by_cases q:p.1=x
    ·rw [au q,a8 (by rw [q])]; rfl
    ·rw [ak q,aC (fun z=>q (hj _ _ z).symm)]; exact ih r (i+1) h3
 unfold Instr.findKey
 simp only [Sem.run_bind,run_underlying hd,Result.andThen_ok]
 cases es with
 | nil=>cases l with
  | nil=>rfl
  | cons p r=>simp at h
 | cons e es=>exact ask (e::es) l 0 h
end Go.Proofs.YtgopcdagnicekaaGreatDoor.W
