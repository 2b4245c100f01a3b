/- Blocks of numbers that the call made itself; a make, as a law that leaves a world without a shape. No condition. -/
import Derived.Test.YtgopcdagnicekaaGreatDoorM2
import Derived.Deep.OwnRows
import Derived.Deep.DeepCutAuto
import Derived.BigQuiet
import Derived.Laws.CopyOwn
set_option linter.all false
open Go.Proofs.Tryz
namespace Go.Proofs.YtgopcdagnicekaaGreatDoor
open Go.RowKit Anv
def qJ (k:IntKind) (os:List Nat):Array Value:=(os.map fun n=>Value.int k (n:Nat)).toArray
theorem WO (k:IntKind) (os:List Nat) (i:Nat) (h:i<os.length):(qJ k os)[i]?=some (.int k (os.getD i 0:Nat)):=by
 simp [qJ,List.getD,h]
theorem QE (k:IntKind) (os:List Nat) (i v:Nat):(qJ k os).setIfInBounds i (.int k (v:Nat))=qJ k (os.set i v):=by
 simp [qJ,fz]
def sD (k:IntKind) (t:TypeId) (w:World) (g:Nat) (os:List Nat):Prop:=w.heap[g]?=some (.cells (qJ k os) t (0,0))
section
variable {k:IntKind} {t:TypeId} {w w':World} {g:Nat} {os:List Nat}
theorem sD.lt (h:sD k t w g os):g<w.heap.size:=by
 rcases aV g w.heap.size with fh | yo
 ·exact fh
 ·unfold sD at h; rw [eF yo] at h; cases h
theorem sD.cell (h:sD k t w g os) (i:Nat) (hi:i<os.length):w.cell? ⟨g,i,none⟩=some (.int k (os.getD i 0:Nat)):=by
 rw [cell_of_row w g i _ t (0,0) h,WO k os i hi]
theorem sD.frozen (h:sD k t w g os) (i:Nat):w.frozen? ⟨g,i,none⟩=false:=by
 unfold sD at h
 simp [World.frozen?,h]
theorem sD.alloc (h:sD k t w g os) (o:Obj):sD k t (w.alloc o) g os:=(Below.heap_alloc w o g h.lt).trans h
theorem sD.set (h:sD k t w g os) (i v:Nat):sD k t (w.setCell ⟨g,i,none⟩ (.int k (v:Nat))) g (os.set i v):=by
 unfold sD at h ⊢
 simp [World.setCell,eO,h,QE]
theorem sD.tJ (h:sD k t w g os) (i:Nat) (x:Int) (v:Nat) (hv:x=(v:Nat)):sD k t (w.setCell ⟨g,i,none⟩ (.int k x)) g (os.set i v):=by
 rw [hv]; exact h.set i v
theorem sD.far (h:sD k t w g os) {p:Addr} (hp:g≠p.block) (u:Value):sD k t (w.setCell p u) g os:=(Below.heap_setCell w p u g hp).trans h
theorem sD.below {B:Nat} (h:sD k t w g os) (hb:Below B w w') (hg:g<B):sD k t w' g os:=(hb.block g hg).trans h
end
variable {B A:Option Addr} {w:World} {n c m d N M q s:Nat} {P:Program} {ops:Array Oper} {rest:List Oper} {o:Oper} {a:Act} {Q:Exit->Act->World->Prop}
theorem sD.u32 {t:TypeId} {g:Nat} {os:List Nat} (h:sD .u32 t w g os) (hl:dZ 4294967296 os) (hn:os.length=n) (hm:n<=maxLen):kp w (cS g) n n os:=
 ⟨hn,ar _,hm,hl,fun _=>⟨g,0,rfl,h.lt,fun i hi=>by rw [bD]; exact h.cell i ae⟩⟩
theorem Ol (k:IntKind) (n:Nat):madeCells #[.int k 0] n=qJ k (List.replicate n 0):=by
 apply Array.ext
 ·simp [size_madeCells,qJ]
 ·intro i h1 h2
  simp [madeCells,qJ,Nat.mod_one]
theorem jR (w:World) 
 (hg:o.guard=none) (l c:Operand) (t:TypeId) (hop:o.op=Op.makeSlice t l c)
 (e:TypeId) (k:IntKind) (bytes:Nat) (ht:P.underlying t=some (.slice e)) (hi:(P.info? e).map (fun i=>(i.zero,i.size,i.bytes))=some (some (.int k 0),1,bytes))
 (kl kc:IntKind) (N M:Int) (n:Nat) (hl:a.eval l=.int kl N) (hc:a.eval c=.int kc M) (hN:N=(n:Nat)) (hM:M=(n:Nat)) (yp:bytes*n<=281474976710656) (Eu:n<=9223372036854775807)
 (hK:∀w1,sD k e w1 w.heap.size (List.replicate n 0)->Below w.heap.size w w1->w1.heap.size=w.heap.size+1->wpList P ops Q rest (a.put o.dst (.slice (cS w.heap.size) n n)) w1):
  wpList P ops Q (o::rest) a w:=by
 subst hN hM
 obtain ⟨i,Jw,xi⟩:=gJ.1 hi
 simp only [cP] at xi
 obtain ⟨hz,hs,hb⟩:=xi
 refine wpList_make_row w hg l c t hop e i _ ht Jw hz hs I kl kc n hl hc (by rw [hb]; exact yp) Eu ?_
 refine hK _ ?_ ((Below.refl _ _).alloc (ar _) _) fW
 show (w.alloc _).heap[w.heap.size]?=_
 rw [heap_alloc_new,Ol]
theorem yq (zD:o.guard=none) (d s:Operand) (dT sT:TypeId)
 (ho:o.op=.call { callee:=.builtin .copy,args:=#[d,s],argTypes:=#[dT,sT] }) (elem:TypeId) (hu:P.underlying dT=some (.slice elem)) (qZ:(P.info? elem).map (·.size)=some 1)
 (g n m c:Nat) (A:Option Addr) (os xs:List Nat) (t:TypeId) (hd:a.eval d=.slice (cS g) n m) (hs:a.eval s=.slice A n c)
 (hA:sD .u32 t w g os) (Oj:os.length=n) (hx:kp w A n c xs) (B:Nat) (w0:World) (hb:Below B w0 w) (hBg:B<=g)
 (h:∀w',sD .u32 t w' g xs->Below B w0 w'->wpList P ops Q rest (a.put o.dst (goInt n)) w'):
  wpList P ops Q (o::rest) a w:=by
 have hl:(xs.map fun n=>Value.int .u32 (n:Nat)).length=n:=by rw [aw,hx.len]
 refine wpList_copy_splice zD d s dT sT ho elem hu qZ _ _ _ _ _ _ hd hs g 0 (os.map fun n=>Value.int .u32 (n:Nat)) t hA (xs.map fun n=>Value.int .u32 (n:Nat)) (by rw [hl]; simp) ?_ (by simp [Oj,hx.len]) ?_ B w0 hb hBg ?_
 ·intro hp
  obtain ⟨b,off,rfl,rh,hc⟩:=hx.cells ae
  refine ⟨I,_,I,fun j v hj=>?_⟩
  have Qa:j<n:=by
   rcases aV j n with h1 | h1
   ·exact h1
   ·rw [bg (by rw [hl]; exact h1)] at hj; cases hj
  have e:(⟨b,off,none⟩:Addr).add j=⟨b,off+j,none⟩:=by unfold Addr.add; split<;>simp_all
  rw [e,hc j Qa,<- hj]
  simp [List.getD,hx.len,Qa]
 ·intro v hv
  obtain ⟨y,_,rfl⟩:=bG.1 hv
  rfl
 ·intro w' hH hB'
  rw [hl]
  refine h w' ?_ hB'
  have h2:=hH.out
  have e:splice (os.map fun n=>Value.int .u32 (n:Nat)) 0 (xs.map fun n=>Value.int .u32 (n:Nat))=xs.map fun n=>Value.int .u32 (n:Nat):=by
   simp [splice,Oj,hx.len]
  rw [e] at h2
  exact h2
theorem QF:(prog.info? 98).map (·.size)=some 1:=by kernel_rfl
theorem oe:(prog.info? 98).map (fun i=>(i.zero,i.size,i.bytes))=some (some (.int .u32 0),1,4):=by kernel_rfl
theorem WQ (A B:Option Addr) (n c m d:Nat) (xs ys:List Nat) (w:World) (h:kp w A n c xs) (k:kp w B m d ys) (hn:n<=1000000) (hm:m<=1000000):
  Calls prog 105 #[.slice A n c,.slice B m d] w fun e w'=>∃v,e=.returned v/\n8 w.heap.size w' v (val 4294967296 xs+val 4294967296 ys)/\Below w.heap.size w w':=by
 go_enter func105,ntmps105
 go_upto_if 13 with fail
 go_cut [0,1] (fun s0 s1 wx=>wx=w/\∃(A' B':Option Addr) (n' c' m' d':Nat) (xs' ys':List Nat),s0=.slice A' n' c'/\s1=.slice B' m' d'/\Hid (kp w A' n' c' xs'/\kp w B' m' d' ys')/\m'<=n'/\n'<=1000000/\Hid (val 4294967296 xs'+val 4294967296 ys'=val 4294967296 xs+val 4294967296 ys))
 case first=>
  by_cases fh:n<m
  ·go_wp2
   go_meet
   case rel=>exact ⟨rfl,B,A,m,d,n,c,ys,xs,rfl,rfl,⟨k,h⟩,by omega,by omega,Nat.add_comm _ _⟩
  ·go_wp2
   go_meet
   case rel=>exact ⟨rfl,A,B,n,c,m,d,xs,ys,rfl,rfl,⟨h,k⟩,by omega,by omega,rfl⟩
 case rest=>
  obtain ⟨rfl,A',B',n',c',m',d',xs',ys',rfl,rfl,hu,V9,hn',HS⟩:=hcut
  go_wp2_with (at_make; refine jR _ rfl _ _ 50 rfl 98 .u32 4 underlying50 oe _ _ _ _ (n'+1) rfl rfl ae ae ae ae ?_; intro w1 Be De po)
  have HA:=Lib.hid Be
  have HB:=Lib.hid De
  go_loopw [6,22] (fun cy i wr=>∃(k cc:Nat) (os:List Nat),k<=n'/\i=.int .i64 k/\cy=.int .u64 cc/\cc<=1/\
    Hid (os.length=n'+1/\dZ 4294967296 os/\val 4294967296 (os.take k)+4294967296 ^ k*cc=val 4294967296 (xs'.take k)+val 4294967296 (ys'.take k))/\
    Hid (sD .u32 98 wr wc.heap.size os)/\Hid (Below wc.heap.size wc wr)) (fun _ i _=>n' - (intOf i).toNat)
  case atStart=>exact ⟨0,0,_,av _,rfl,rfl,by omega,⟨by simp,dZ.AZ ae _,by simp⟩,HA.out,HB.out⟩
  case round=>
   obtain ⟨k,cc,os,hk,rfl,rfl,QG,HI,HR,HW⟩:=hrel
   by_cases fh:k<n'
   ·obtain ⟨b,off,rfl,rh,mx⟩:=hu.out.1.cells ae
    have Qb:=(HW.out.cell rh).trans (mx k fh)
    have ri:=hu.out.1.lt.get ae k
    generalize hx:xs'.getD k 0=x at Qb ri
    have HX:=Lib.hid hx
    have Qc:=HR.out.cell k (by rw [HI.out.1]; omega)
    have hfo:=HR.out.frozen k
    by_cases WR:k<m'
    ·obtain ⟨b2,Ev,rfl,GQ,mx⟩:=hu.out.2.cells ae
     have V':=(HW.out.cell GQ).trans (mx k WR)
     have zF:=hu.out.2.lt.get ae k
     generalize hy:ys'.getD k 0=y at V' zF
     have HY:=Lib.hid hy
     go_wp2
     go_roundw
     case rel=>
      have h3:=HI.out
      have h4:=Ba 4294967296 xs' ys' os k cc ae h3.2.2
      rw [HX.out,HY.out] at h4
      exact ⟨k+1,(cc+x+y) / 4294967296,os.set k ((cc+x+y)%4294967296),by omega,by go_num,int_eq ae,by omega,⟨by simp; exact h3.1,h3.2.1.set k ae,h4⟩,HR.out.tJ k _ _ ae,HW.out.setCell (ar _) _⟩
     case measure=>simp [intOf]; omega
    ·have hy:ys'.getD k 0=0:=qj (by rw [hu.out.2.len]; omega)
     have HY:=Lib.hid hy
     go_wp2
     go_roundw
     case rel=>
      have h3:=HI.out
      have h4:=Ba 4294967296 xs' ys' os k cc ae h3.2.2
      rw [HX.out,HY.out,dr] at h4
      exact ⟨k+1,(cc+x) / 4294967296,os.set k ((cc+x)%4294967296),by omega,by go_num,int_eq ae,by omega,⟨by simp; exact h3.1,h3.2.1.set k ae,h4⟩,HR.out.tJ k _ _ ae,HW.out.setCell (ar _) _⟩
     case measure=>simp [intOf]; omega
   ·have Qc:=HR.out.cell n' (by rw [HI.out.1]; omega)
    have hfo:=HR.out.frozen n'
    go_wp2_with fail
    have h3:=HI.out
    obtain rfl:k=n':=ae
    have WS:=HR.out.set k cc
    have Om:dZ 4294967296 (os.set k cc):=h3.2.1.set k ae
    have hU:=WS.u32 Om (by simp; exact h3.1) (by simp only [maxLen]; omega)
    have hv:val 4294967296 (os.set k cc)=val 4294967296 xs+val 4294967296 ys:=by
     have h5:=nZ 4294967296 os k cc ae
     rw [ax (by simp; omega),h3.2.2,ax (by rw [hu.out.1.len]; omega),ax (by rw [hu.out.2.len]; omega),HS.out] at h5
     exact h5
    have hB2:=HW.out.setCell (p:=⟨wc.heap.size,k,none⟩) (ar _) (.int .u32 (cc:Nat))
    have hT:=hU.trim
    rw [hv] at hT
    have hl:=abS Om
    rw [hv] at hl
    refine (GN _ _ _ _ _ hU).mono ?_
    rintro e w' ⟨rfl,rfl⟩
    rw [hl] at hT ⊢
    have HT:=Lib.hid hT
    have HB2:=Lib.hid hB2
    go_wp2
    go_ret
    exact ⟨_,I,⟨_,_,I,HT.out,fun a ha=>by cases ha; exact ar _⟩,HB2.out⟩
theorem WT (h:NumIn w A n c N) (k:NumIn w B m d M) (hn:n<=1000000) (hm:m<=1000000):
  Calls prog 105 #[.slice A n c,.slice B m d] w fun e w'=>∃v,e=.returned v/\n8 w.heap.size w' v (N+M)/\Below w.heap.size w w':=by
 obtain ⟨xs,hx,rfl⟩:=h
 obtain ⟨ys,hy,rfl⟩:=k
 exact WQ A B n c m d xs ys w hx hy hn hm
theorem LR (h:NumIn w A n c N) (h':NumIn w B m d M):
  Calls prog 106 #[.slice A n c,.slice B m d] w fun e w'=>e=.returned (.int .i64 (qH N M))/\∃q,w'=w.drewN q:=by
 go_enter func106,ntmps106
 go_wp2_with fail
 refine (lX _ _ _ _ _ h).mono ?_
 rintro e w' ⟨rfl,hU,rfl⟩
 go_wp2_with fail
 refine (lX _ _ _ _ _ h').mono ?_
 rintro e w' ⟨rfl,kU,rfl⟩
 have sK:=hU.big
 have amz:=kU.big
 unfold maxLen at sK amz
 by_cases h1:nl N<nl M
 ·go_wp2
  go_ret
  exact ⟨by rw [LP (Bc ae h1)]; rfl,0,rfl⟩
 ·by_cases h2:nl M<nl N
  ·go_wp2
   go_ret
   exact ⟨by rw [LQ (Bc ae h2)]; rfl,0,rfl⟩
  ·have h3:nl N=nl M:=ae
   have H3:=Lib.hid h3
   clear h3
   go_wp2
   go_loopw [5] (fun i wr=>∃k:Nat,k<=nl N/\i=.int .i64 ((k:Int) - 1)/\Hid ((L N).drop k=(L M).drop k)/\Hid (∃q,wr=w.drewN q)) (fun i _=>(intOf i+1).toNat)
   case atStart=>exact ⟨nl N,ar _,rfl,by show (L N).drop (nl N)=(L M).drop (nl N); rw [uc (n:=nl N) (ar _),uc (by rw [H3.out]; exact ar _)],0,rfl⟩
   case round=>
    obtain ⟨k,hk,rfl,HD,HQ⟩:=hrel
    obtain ⟨q,rfl⟩:=HQ.out
    rcases k with _ | k
    ·go_wp2
     go_ret
     refine ⟨?_,q,I⟩
     have h4:=HD.out
     rw [ie,ie] at h4
     have h5:N=M:=by rw [<- qG N,<- qG M,h4]
     rw [h5,WN]; rfl
    ·rw [show (((k+1:Nat):Int) - 1)=(k:Int) from ae]
     obtain ⟨b,off,rfl,rh,mx⟩:=hU.cells ae
     have Qb:=mx k ae
     obtain ⟨b2,Ev,rfl,GQ,amA⟩:=kU.cells ae
     have V':=amA k ae
     generalize hx:(L N).getD k 0=x at Qb
     generalize hy:(L M).getD k 0=y at V'
     have HX:=Lib.hid hx
     have HY:=Lib.hid hy
     have WU:k<(L N).length:=by show k<nl N; omega
     have Wa:k<(L M).length:=by show k<nl M; omega
     by_cases hxy:x<y
     ·go_wp2_with fail
      go_quiet (fail)
      go_wp2_with fail
      go_ret
      refine ⟨?_,by simp only [World.drewN_drewN]; exact ⟨_,rfl⟩⟩
      rw [LP]
      ·rfl
      ·rw [<- qG N,<- qG M]
       exact DA _ _ k (zC N) HD.out WU (by rw [HX.out,HY.out]; exact hxy) Wa
     ·by_cases hyx:y<x
      ·go_wp2_with fail
       go_quiet (fail)
       go_wp2_with fail
       go_quiet (fail)
       go_wp2_with fail
       go_ret
       refine ⟨?_,by simp only [World.drewN_drewN]; exact ⟨_,rfl⟩⟩
       rw [LQ]
       ·rfl
       ·rw [<- qG N,<- qG M]
        exact DA _ _ k (zC M) HD.out.symm Wa (by rw [HX.out,HY.out]; exact hyx) WU
      ·go_wp2_with fail
       go_quiet (fail)
       go_wp2_with fail
       go_quiet (fail)
       go_wp2_with fail
       go_roundw
       case rel=>exact ⟨k,by omega,rfl,by show (L N).drop k=(L M).drop k; rw [DB _ k WU,DB _ k Wa,HX.out,HY.out,HD.out,show x=y from ae],by show ∃q,_=_; exact ⟨_,rfl⟩⟩
       case measure=>simp [intOf]
theorem qK (h:NumIn w A n c N) (h':NumIn w B m d M):
  Calls prog 106 #[.slice A n c,.slice B m d] w fun e w'=>e=.returned (.int .i64 (qH N M))/\Below w.heap.size w w':=by
 refine (LR h h').mono ?_
 rintro e w' ⟨rfl,q,rfl⟩
 exact ⟨I,sJ w q⟩
theorem LS (h:NumIn w A n c N) (h':NumIn w B m d M) (hn:n<=1000000) (hNM:M<=N):
  Calls prog 107 #[.slice A n c,.slice B m d] w fun e w'=>∃v,e=.returned (.tuple #[v,.int .i64 0])/\n8 w.heap.size w' v (N - M)/\Below w.heap.size w w':=by
 have vK:=rU N M
 have GR:=rq N M
 have vW:¬qH N M<0:=ae
 go_enter func107,ntmps107
 go_wp2_with fail
 refine (LR h h').mono ?_
 rintro e w' ⟨rfl,q,rfl⟩
 have HH:=Lib.hid (And.intro h h')
 obtain ⟨xs,hx,hxv⟩:=HH.out.1
 obtain ⟨ys,hy,hyv⟩:=HH.out.2
 have HV:=Lib.hid (And.intro hxv hyv)
 have qZ:(w.drewN q).heap.size=w.heap.size:=rfl
 go_wp2_with (at_make; refine jR _ rfl _ _ 50 rfl 98 .u32 4 underlying50 oe _ _ _ _ n rfl rfl ae ae ae ae ?_; intro w1 Be De po)
 have HA:=Lib.hid Be
 have HB:=Lib.hid De
 go_loopw [7,21] (fun cy i wr=>∃(k r:Nat) (os:List Nat),k<=n/\i=.int .i64 k/\cy=.int .u64 r/\r<=1/\
    Hid (os.length=n/\dZ 4294967296 os/\val 4294967296 (os.take k)+val 4294967296 (ys.take k)=val 4294967296 (xs.take k)+4294967296 ^ k*r)/\
    Hid (sD .u32 98 wr w.heap.size os)/\Hid (Below w.heap.size w wr)) (fun _ i _=>n - (intOf i).toNat)
 case atStart=>exact ⟨0,0,_,av _,rfl,rfl,by omega,⟨by simp,dZ.AZ ae _,by simp⟩,HA.out,(sJ w q).trans HB.out⟩
 case round=>
   obtain ⟨k,r,os,hk,rfl,rfl,hr,HI,HR,HW⟩:=hrel
   by_cases fh:k<n
   ·obtain ⟨b,off,rfl,rh,mx⟩:=hx.cells ae
    have Qb:=(HW.out.cell rh).trans (mx k fh)
    have ri:=hx.lt.get ae k
    generalize hx:xs.getD k 0=x at Qb ri
    have HX:=Lib.hid hx
    have Qc:=HR.out.cell k (by rw [HI.out.1]; omega)
    have hfo:=HR.out.frozen k
    by_cases WR:k<m
    ·obtain ⟨b2,Ev,rfl,GQ,mx⟩:=hy.cells ae
     have V':=(HW.out.cell GQ).trans (mx k WR)
     have zF:=hy.lt.get ae k
     clear mx
     generalize hy:ys.getD k 0=y at V' zF
     have HY:=Lib.hid hy
     clear hy
     by_cases hxy:x<r+y
     ·have hb:=Bd x (r+y) ri ae ae
      rw [show (((r+y:Nat)):Int)=(r:Int)+y from ae] at hb
      have HB:=Lib.hid hb
      clear hb
      go_wp2
      go_roundw
      case rel=>
       have h3:=HI.out
       have h4:=xy 4294967296 xs ys os k r (x+4294967296 - (r+y)) 1 ae h3.2.2 (by rw [HX.out,HY.out]; omega)
       exact ⟨k+1,1,os.set k (x+4294967296 - (r+y)),by omega,by go_num,int_eq HB.out.1,by omega,⟨by simp; exact h3.1,h3.2.1.set k ae,h4⟩,HR.out.tJ k _ _ HB.out.2,HW.out.setCell (ar _) _⟩
      case measure=>simp [intOf]; omega
     ·have hb:=DC x (r+y) ri ae
      rw [show (((r+y:Nat)):Int)=(r:Int)+y from ae] at hb
      have HB:=Lib.hid hb
      clear hb
      go_wp2
      go_roundw
      case rel=>
       have h3:=HI.out
       have h4:=xy 4294967296 xs ys os k r (x - (r+y)) 0 ae h3.2.2 (by rw [HX.out,HY.out]; omega)
       exact ⟨k+1,0,os.set k (x - (r+y)),by omega,by go_num,int_eq HB.out.1,by omega,⟨by simp; exact h3.1,h3.2.1.set k ae,h4⟩,HR.out.tJ k _ _ HB.out.2,HW.out.setCell (ar _) _⟩
      case measure=>simp [intOf]; omega
    ·have hy:ys.getD k 0=0:=qj (by rw [hy.len]; omega)
     have HY:=Lib.hid hy
     clear hy
     by_cases hxy:x<r
     ·have hb:=Bd x r ri ae ae
      have HB:=Lib.hid hb
      clear hb
      go_wp2
      go_roundw
      case rel=>
       have h3:=HI.out
       have h4:=xy 4294967296 xs ys os k r (x+4294967296 - r) 1 ae h3.2.2 (by rw [HX.out,HY.out]; omega)
       exact ⟨k+1,1,os.set k (x+4294967296 - r),by omega,by go_num,int_eq HB.out.1,by omega,⟨by simp; exact h3.1,h3.2.1.set k ae,h4⟩,HR.out.tJ k _ _ HB.out.2,HW.out.setCell (ar _) _⟩
      case measure=>simp [intOf]; omega
     ·have hb:=DC x r ri ae
      have HB:=Lib.hid hb
      clear hb
      go_wp2
      go_roundw
      case rel=>
       have h3:=HI.out
       have h4:=xy 4294967296 xs ys os k r (x - r) 0 ae h3.2.2 (by rw [HX.out,HY.out]; omega)
       exact ⟨k+1,0,os.set k (x - r),by omega,by go_num,int_eq HB.out.1,by omega,⟨by simp; exact h3.1,h3.2.1.set k ae,h4⟩,HR.out.tJ k _ _ HB.out.2,HW.out.setCell (ar _) _⟩
      case measure=>simp [intOf]; omega
   ·go_wp2_with fail
    have h3:=HI.out
    obtain rfl:k=n:=ae
    have hU:=HR.out.u32 h3.2.1 h3.1 (by simp only [maxLen]; omega)
    have hv:val 4294967296 os=N - M:=by
     rw [<- HV.out.1,<- HV.out.2]
     exact Oi xs ys os k r h3.2.1 h3.1 hx.len hx.lt hr h3.2.2 (by rw [HV.out.1,HV.out.2]; exact hNM)
    have hN:NumIn wr (cS w.heap.size) k k (N - M):=⟨os,hU,hv⟩
    refine (lX _ _ _ _ _ hN).mono ?_
    rintro e w' ⟨rfl,hT,rfl⟩
    have HT:=Lib.hid hT
    clear hT hv hU h3 hN
    go_wp2
    go_ret2
    exact ⟨_,I,⟨_,_,I,HT.out,fun a ha=>by cases ha; exact ar _⟩,HW.out⟩
theorem WV (A B:Option Addr) (n c m d:Nat) (xs ys:List Nat) (w:World) (hx:kp w A n c xs) (hy:kp w B m d ys) (hn:n<=1000000) (hm:m<=1000000):
  Calls prog 146 #[.slice A n c,.slice B m d] w fun e w'=>∃v,e=.returned v/\n8 w.heap.size w' v (val 4294967296 xs*val 4294967296 ys)/\Below w.heap.size w w':=by
 go_enter func146,ntmps146
 go_wp2_with (at_make; refine jR _ rfl _ _ 50 rfl 98 .u32 4 underlying50 oe _ _ _ _ (n+m) rfl rfl ae ae ae ae ?_; intro w1 Be De po)
 have HA:=Lib.hid Be
 have HB:=Lib.hid De
 go_loopw [19] (fun i wr=>∃(k:Nat) (os:List Nat),k<=n/\i=.int .i64 k/\
    Hid (os.length=n+m/\dZ 4294967296 os/\val 4294967296 os=val 4294967296 (xs.take k)*val 4294967296 ys/\∀j,k+m<=j->os.getD j 0=0)/\
    Hid (sD .u32 98 wr w.heap.size os)/\Hid (Below w.heap.size w wr)) (fun i _=>n - (intOf i).toNat)
 case atStart=>exact ⟨0,_,av _,rfl,⟨by simp,dZ.AZ ae _,by simp [u3],fun j _=>wu _ _⟩,HA.out,HB.out⟩
 case round=>
  obtain ⟨k,os,hk,rfl,HI,HR,HW⟩:=hrel
  by_cases fh:k<n
  ·obtain ⟨b,off,rfl,rh,mx⟩:=hx.cells ae
   have Qb:=(HW.out.cell rh).trans (mx k fh)
   have ri:=hx.lt.get ae k
   generalize hx:xs.getD k 0=x at Qb ri
   have HX:=Lib.hid hx
   go_wp2
   obtain ⟨wo,rfl⟩:∃wo:World,wo=wr:=⟨_,rfl⟩
   go_loopw [8,26] (fun cy i wr=>∃(q cc:Nat) (os:List Nat),q<=m/\i=.int .i64 q/\cy=.int .u64 cc/\cc<4294967296/\
    Hid (os.length=n+m/\dZ 4294967296 os/\val 4294967296 os+4294967296 ^ (k+q)*cc=val 4294967296 (xs.take k)*val 4294967296 ys+4294967296 ^ k*(x*val 4294967296 (ys.take q))/\∀j,k+m<=j->os.getD j 0=0)/\
    Hid (sD .u32 98 wr w.heap.size os)/\Hid (Below w.heap.size w wr)) (fun _ i _=>m - (intOf i).toNat)
   case atStart=>exact ⟨0,0,os,av _,rfl,rfl,by omega,⟨HI.out.1,HI.out.2.1,by simp [HI.out.2.2.1],HI.out.2.2.2⟩,HR.out,HW.out⟩
   case round=>
    obtain ⟨q,cc,os,hq,rfl,rfl,QG,HI,HR,HW⟩:=hrel
    by_cases hqm:q<m
    ·obtain ⟨b2,Ev,rfl,GQ,mx⟩:=hy.cells ae
     have V':=(HW.out.cell (p:=⟨b2,Ev+q,none⟩) GQ).trans (mx q hqm)
     have zF:=hy.lt.get ae q
     generalize hy:ys.getD q 0=y at V' zF
     have HY:=Lib.hid hy
     have Qc:=HR.out.cell (k+q) (by rw [HI.out.1]; omega)
     have hfo:=HR.out.frozen (k+q)
     have abW:=HI.out.2.1.get ae (k+q)
     generalize ho:os.getD (k+q) 0=o at Qc abW
     have HO:=Lib.hid ho
     have hmc:=Dy 4294967296 cc x y o ae QG ri zF abW
     go_wp2
     go_roundw
     case rel=>
      have h3:=HI.out
      have h4:=QB 4294967296 ys os k q cc x _ ae h3.2.2.1
      rw [HY.out,HO.out] at h4
      exact ⟨q+1,(cc+x*y+o) / 4294967296,os.set (k+q) ((cc+x*y+o)%4294967296),by omega,by go_num,int_eq ae,by omega,⟨by simp; exact h3.1,h3.2.1.set _ ae,h4,fun j hj=>by rw [pn ae]; exact h3.2.2.2 j hj⟩,HR.out.tJ _ _ _ ae,HW.out.setCell (ar _) _⟩
     case measure=>simp [intOf]; omega
    ·obtain rfl:q=m:=ae
     have Qc:=HR.out.cell (k+q) (by rw [HI.out.1]; omega)
     have hfo:=HR.out.frozen (k+q)
     rw [HI.out.2.2.2 (k+q) (ar _)] at Qc
     go_wp2
     go_roundw
     case rel=>
      have h3:=HI.out
      have h4:=xx 4294967296 os (k+q) cc ae (h3.2.2.2 _ (ar _))
      have h5:=h3.2.2.1
      rw [ax (l:=ys) (by rw [hy.len]; exact ar _)] at h5
      refine ⟨k+1,os.set (k+q) cc,by omega,by go_num,⟨by simp; exact h3.1,h3.2.1.set _ QG,?_,fun j hj=>by rw [pn ae]; exact h3.2.2.2 j ae⟩,HR.out.set _ _,HW.out.setCell (ar _) _⟩
      rw [h4,h5,iQ,HX.out,j9,cN]
     case measure=>simp [intOf]; omega
  ·go_wp2_with fail
   have h3:=HI.out
   obtain rfl:k=n:=ae
   have hU:=HR.out.u32 h3.2.1 h3.1 (by simp only [maxLen]; omega)
   have hv:val 4294967296 os=val 4294967296 xs*val 4294967296 ys:=by
    rw [h3.2.2.1,ax (by rw [hx.len]; exact ar _)]
   have hN:NumIn wr (cS w.heap.size) (k+m) (k+m) (val 4294967296 xs*val 4294967296 ys):=⟨os,hU,hv⟩
   refine (lX _ _ _ _ _ hN).mono ?_
   rintro e w' ⟨rfl,hT,rfl⟩
   have HT:=Lib.hid hT
   go_wp2
   go_ret
   exact ⟨_,I,⟨_,_,I,HT.out,fun a ha=>by cases ha; exact ar _⟩,HW.out⟩
theorem WW (h:NumIn w A n c N) (k:NumIn w B m d M) (hn:n<=1000000) (hm:m<=1000000):
  Calls prog 146 #[.slice A n c,.slice B m d] w fun e w'=>∃v,e=.returned v/\n8 w.heap.size w' v (N*M)/\Below w.heap.size w w':=by
 obtain ⟨xs,hx,rfl⟩:=h
 obtain ⟨ys,hy,rfl⟩:=k
 exact WV A B n c m d xs ys w hx hy hn hm
theorem Bf (h:NumIn w A n c N) (hN:nl N<=1000000):
  Calls prog 65 #[.slice A n c] w fun e w'=>∃v,e=.returned v/\n8 w.heap.size w' v N/\Below w.heap.size w w':=by
 go_enter func65,ntmps65
 go_wp2_with fail
 refine (lX _ _ _ _ _ h).mono ?_
 rintro e w' ⟨rfl,hU,rfl⟩
 have HU:=Lib.hid hU
 go_wp2_with (first | (at_make; refine jR _ rfl _ _ 50 rfl 98 .u32 4 underlying50 oe _ _ _ _ (nl N) rfl rfl ae ae ae ae ?_; intro w1 Be De po; have HA:=Lib.hid Be; have HB:=Lib.hid De; clear Be De po) | (with_reducible refine yq rfl (.tmp 9) (.tmp 10) _ _ rfl _ underlying50 QF _ _ _ _ _ _ _ _ rfl rfl HA.out fW (HU.out.below HB.out) _ _ HB.out (ar _) ?_; intro w2 QH hB2; have HA2:=Lib.hid QH; have HB2:=Lib.hid hB2; clear QH hB2))
 go_ret
 exact ⟨_,I,⟨_,_,I,HA2.out.u32 (zC N) I (by show nl N<=_; simp only [maxLen]; omega),fun a ha=>by cases ha; exact ar _⟩,HB2.out⟩
theorem ED (x y:Nat) (hx:x<4294967296) (hy:y<4294967296):bits .or .u64 ((y:Int)*4294967296) (x:Int)=((y*4294967296+x:Nat):Int):=by
 have h:=u64_or_nat (y*4294967296) x ae ae
 rw [eX] at h
 rw [show ((4294967296:Nat):Int)=4294967296 from rfl] at h
 rw [h]
 have:=Q6 32 y x ae
 rw [show (2:Nat) ^ 32=4294967296 from rfl] at this
 rw [this]
theorem Rl {xs:List Nat} (hx:kp w A n c xs) (hn:n<=1000000) (W9:0<q) (hq:q<4294967296):
  Calls prog 152 #[.slice A n c,.int .u32 q] w fun e w'=>∃v,e=.returned (.tuple #[v,.int .u32 ((val 4294967296 xs%q:Nat):Int),.int .i64 0])/\n8 w.heap.size w' v (val 4294967296 xs / q)/\Below w.heap.size w w':=by
 have Wf:((q:Int)==0)=false:=by simp; omega
 go_enter func152,ntmps152
 go_wp2_with (at_make; refine jR _ rfl _ _ 50 rfl 98 .u32 4 underlying50 oe _ _ _ _ n rfl rfl ae ae ae ae ?_; intro w1 Be De po)
 have HA:=Lib.hid Be
 have HB:=Lib.hid De
 clear Be De po
 go_loopw [8,9] (fun rs ix wr=>∃(k r:Nat) (os:List Nat),k<=n/\ix=.int .i64 ((k:Int) - 1)/\rs=.int .u64 r/\r<q/\
    Hid (os.length=n/\dZ 4294967296 os/\val 4294967296 (os.drop k)*q+r=val 4294967296 (xs.drop k))/\
    Hid (sD .u32 98 wr w.heap.size os)/\Hid (Below w.heap.size w wr)) (fun _ ix _=>(intOf ix+1).toNat)
 case atStart=>exact ⟨n,0,_,ar _,rfl,rfl,W9,⟨by simp,dZ.AZ ae _,by rw [uc fW,uc (by rw [hx.len]; exact ar _)]; simp⟩,HA.out,HB.out⟩
 case round=>
  obtain ⟨k,r,os,hk,rfl,rfl,hr,HI,HR,HW⟩:=hrel
  rcases k with _ | k
  ·go_wp2_with fail
   have h3:=HI.out
   have hU:=HR.out.u32 h3.2.1 h3.1 (by simp only [maxLen]; omega)
   have h4:=h3.2.2
   rw [ie,ie] at h4
   have h5:=DK (a:=val 4294967296 xs) (b:=q) (q:=val 4294967296 os) (r:=r) (by rw [cO]; omega) hr
   have hN:NumIn wr (cS w.heap.size) n n (val 4294967296 xs / q):=⟨os,hU,h5.1.symm⟩
   have HE:=Lib.hid h5.2
   refine (lX _ _ _ _ _ hN).mono ?_
   rintro e w' ⟨rfl,hT,rfl⟩
   have HT:=Lib.hid hT
   clear hT hU h3 h4 h5 hN
   go_wp2
   refine bodyPost_ret (v:=.tuple #[.slice (cS w.heap.size) (nl (val 4294967296 xs / q)) (nl (val 4294967296 xs / q)),.int .u32 r,.int .i64 0]) (by simp [results,results152,go_sem]) I ?_
   exact ⟨_,by rw [HE.out]; rfl,⟨_,_,rfl,HT.out,fun a ha=>by cases ha; exact ar _⟩,HW.out⟩
  ·rw [show (((k+1:Nat):Int) - 1)=(k:Int) from ae]
   obtain ⟨b,off,rfl,rh,mx⟩:=hx.cells ae
   have Qb:=(HW.out.cell (p:=⟨b,off+k,none⟩) rh).trans (mx k ae)
   have ri:=hx.lt.get ae k
   have hfo:=HR.out.frozen k
   have Qc:=HR.out.cell k (by rw [HI.out.1]; omega)
   have σ:=yn 4294967296 xs os k q r (by rw [HI.out.1]; omega) HI.out.2.2
   have HS:=Lib.hid σ
   have hor:=ED (xs.getD k 0) r ri ae
   have hdl:(r*4294967296+xs.getD k 0) / q<4294967296:=(ia W9).2 (by have:=bB 4294967296 (show r+1<=q from hr); rw [cO 4294967296 q]; omega)
   have DL:(r*4294967296+xs.getD k 0)%q<q:=dF _ W9
   have hTb:r*4294967296+xs.getD k 0<18446744073709551616:=ae
   generalize hT:r*4294967296+xs.getD k 0=T at*
   generalize xs.getD k 0=x at*
   have HH:=Lib.hid (show IntKind.u64.wrap ((T:Int) / (q:Int))%4294967296=((T / q:Nat):Int) by rw [<- Int.natCast_ediv,IntKind.wrap_u64]; generalize T / q=Z at*; omega)
   have HM:=Lib.hid DL
   have HD:=Lib.hid hdl
   have JY:(0:Int)<=(k:Int):=ae
   go_wp2
   go_roundw
   case rel=>exact ⟨k,T%q,_,by omega,rfl,rfl,HM.out,⟨by rw [aP]; exact HI.out.1,HI.out.2.1.set k HD.out,HS.out⟩,HR.out.tJ k _ _ HH.out,HW.out.setCell (ar _) _⟩
   case measure=>simp [intOf]
theorem Rm (h:NumIn w A n c N) (hn:n<=1000000) (W9:0<q) (hq:q<4294967296):
  Calls prog 152 #[.slice A n c,.int .u32 q] w fun e w'=>∃v,e=.returned (.tuple #[v,.int .u32 ((N%q:Nat):Int),.int .i64 0])/\n8 w.heap.size w' v (N / q)/\Below w.heap.size w w':=by
 obtain ⟨xs,hx,rfl⟩:=h
 exact Rl hx hn W9 hq
theorem Xa (x r:Nat) (hx:x<4294967296) (hr:r<32):x*2 ^ r<9223372036854775808:=by
 have h1:2 ^ r<=2 ^ 31:=bS ae ae
 have h2:=bR (show x<=4294967295 by omega) h1
 omega
theorem Xb (A:Option Addr) (n c:Nat) (xs:List Nat) (s:Nat) (w:World) (hx:kp w A n c xs) (hn:n<=1000000) (hs:s<=65536):
  Calls prog 102 #[.slice A n c,.int .i64 s] w fun e w'=>∃g,e=.returned (.tuple #[.slice (cS g) (nl (val 4294967296 xs*2 ^ s)) (nl (val 4294967296 xs*2 ^ s)),.int .i64 0])/\w.heap.size<=g/\kp w' (cS g) (nl (val 4294967296 xs*2 ^ s)) (nl (val 4294967296 xs*2 ^ s)) (L (val 4294967296 xs*2 ^ s))/\Below w.heap.size w w':=by
 obtain ⟨d,hd⟩:∃d,d=s / 32:=⟨_,rfl⟩
 obtain ⟨r,hr⟩:∃r,r=s%32:=⟨_,rfl⟩
 have LW:(s:Int) / 32=d:=ae
 have hr1:(s:Int)%32=r:=ae
 have Jz:r<32:=ae
 have hd2:d<=2048:=ae
 have HP:=Lib.hid (show 2 ^ s=2 ^ r*4294967296 ^ d by rw [show (4294967296:Nat)=2 ^ 32 from rfl,<- Nat.pow_mul,<- eh]; congr 1; omega)
 clear hd hr
 go_enter func102,ntmps102
 go_wp2_with (at_make; refine jR _ rfl _ _ 50 rfl 98 .u32 4 underlying50 oe _ _ _ _ (n+d+1) rfl rfl ae ae ae ae ?_; intro w1 Be De po)
 have HA:=Lib.hid Be
 have HB:=Lib.hid De
 clear Be De po
 go_loopw [26] (fun i wr=>∃(k:Nat) (os:List Nat),k<=n/\i=.int .i64 k/\
    Hid (os.length=n+d+1/\dZ 4294967296 os/\val 4294967296 os=val 4294967296 (xs.take k)*2 ^ r*4294967296 ^ d/\os.getD (k+d) 0<2 ^ r/\∀j,k+d<j->os.getD j 0=0)/\
    Hid (sD .u32 98 wr w.heap.size os)/\Hid (Below w.heap.size w wr)) (fun i _=>n - (intOf i).toNat)
 case atStart=>exact ⟨0,_,av _,rfl,⟨by simp,dZ.AZ ae _,by simp [u3],by rw [wu]; exact fq r,fun j _=>wu _ _⟩,HA.out,HB.out⟩
 case round=>
  obtain ⟨k,os,hk,rfl,HI,HR,HW⟩:=hrel
  by_cases fh:k<n
  ·obtain ⟨b,off,rfl,rh,mx⟩:=hx.cells ae
   have Qb:=(HW.out.cell rh).trans (mx k fh)
   have ri:=hx.lt.get ae k
   have h3:=HI.out
   have σ:=Q8 4294967296 (2 ^ r) (2 ^ (32 - r)) (by rw [<- eh,show r+(32 - r)=32 by omega]) (fq r) xs os k d ri ae h3.2.2.1 h3.2.2.2.1 h3.2.2.2.2 h3.2.1
   have vW:=HR.out.cell (k+d) (by rw [h3.1]; omega)
   have Qd:=HR.out.frozen (k+d)
   have zG:=HR.out.cell (k+d+1) (by rw [h3.1]; omega)
   have Rp:=HR.out.frozen (k+d+1)
   rw [h3.2.2.2.2 (k+d+1) ae] at zG
   have abW:=h3.2.1.get ae (k+d)
   have hsh:=Xa (xs.getD k 0) r ri Jz
   have hoP:=h3.2.2.2.1
   clear mx h3
   generalize hxx:xs.getD k 0=x at*
   generalize hoo:os.getD (k+d) 0=o at*
   clear hxx hoo
   have hw:IntKind.u64.wrap ((x:Int)*2 ^ r)=((x*2 ^ r:Nat):Int):=by
    have e:(x:Int)*2 ^ r=((x*2 ^ r:Nat):Int):=by rw [eX,Int.natCast_pow]; rfl
    rw [e,IntKind.wrap_u64]; omega
   have H1:bits .or .u32 (o:Int) (IntKind.u64.wrap ((x:Int)*2 ^ r)%4294967296)=((o+x*2 ^ r%4294967296:Nat):Int):=by
    rw [hw,show ((x*2 ^ r:Nat):Int)%4294967296=((x*2 ^ r%4294967296:Nat):Int) from rfl,u32_or_nat o _ ae ae,σ.2.2.2.1,Q7 r _ o hoP]
   have H2:bits .or .u32 0 (IntKind.u64.wrap ((x:Int)*2 ^ r) / 4294967296%4294967296)=((x*2 ^ r / 4294967296:Nat):Int):=by
    have e:((x*2 ^ r:Nat):Int) / 4294967296%4294967296=((x*2 ^ r / 4294967296:Nat):Int):=ae
    have e2:=u32_or_nat 0 (x*2 ^ r / 4294967296) ae ae
    rw [Nat.zero_or] at e2
    rw [hw,e]
    exact e2
   have HS:=Lib.hid σ
   have HH1:=Lib.hid H1
   have HH2:=Lib.hid H2
   clear σ H1 H2 hw hsh hoP
   go_wp2
   go_roundw
   case rel=>
    have h3:=HI.out
    have h4:=HS.out
    refine ⟨k+1,_,by omega,by go_num,⟨by rw [aP,aP]; exact h3.1,h4.1,h4.2.1,?_,fun j hj=>?_⟩,(HR.out.tJ _ _ _ HH1.out).tJ _ _ _ HH2.out,(HW.out.setCell (ar _) _).setCell (ar _) _⟩
    ·rw [show k+1+d=k+d+1 by omega,Et (by rw [aP]; omega)]; exact h4.2.2.1
    ·rw [pn ae,pn ae]; exact h3.2.2.2.2 j ae
   case measure=>simp [intOf]; omega
  ·go_wp2_with fail
   have h3:=HI.out
   obtain rfl:k=n:=ae
   have hU:=HR.out.u32 h3.2.1 h3.1 (by simp only [maxLen]; omega)
   have hv:val 4294967296 os=val 4294967296 xs*2 ^ s:=by
    rw [h3.2.2.1,ax (by rw [hx.len]; exact ar _),HP.out,cN]
   have hN:NumIn wr (cS w.heap.size) (k+d+1) (k+d+1) (val 4294967296 xs*2 ^ s):=⟨os,hU,hv⟩
   refine (lX _ _ _ _ _ hN).mono ?_
   rintro e w' ⟨rfl,hT,rfl⟩
   have HT:=Lib.hid hT
   clear hT hv hU h3 hN
   go_wp2
   go_ret2
   exact ⟨_,I,ar _,HT.out,HW.out⟩
theorem Bu (h:NumIn w A n c N) (hn:n<=1000000) (hs:s<=65536):
  Calls prog 102 #[.slice A n c,.int .i64 s] w fun e w'=>∃g,e=.returned (.tuple #[.slice (cS g) (nl (N*2 ^ s)) (nl (N*2 ^ s)),.int .i64 0])/\w.heap.size<=g/\kp w' (cS g) (nl (N*2 ^ s)) (nl (N*2 ^ s)) (L (N*2 ^ s))/\Below w.heap.size w w':=by
 obtain ⟨xs,hx,rfl⟩:=h
 exact Xb A n c xs s w hx hn hs
theorem Xc (h:NumIn w A n c N) (hn:n<=1000000) (hs:s<=65536):
  Calls prog 102 #[.slice A n c,.int .i64 s] w fun e w'=>∃v,e=.returned (.tuple #[v,.int .i64 0])/\n8 w.heap.size w' v (N*2 ^ s)/\Below w.heap.size w w':=by
 refine (Bu h hn hs).mono ?_
 rintro e w' ⟨g,rfl,hg,hU,hb⟩
 exact ⟨_,I,⟨_,_,I,hU,fun a ha=>by cases ha; exact hg⟩,hb⟩
end Go.Proofs.YtgopcdagnicekaaGreatDoor
