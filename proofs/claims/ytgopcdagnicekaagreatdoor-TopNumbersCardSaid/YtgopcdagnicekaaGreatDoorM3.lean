/- Blocks of numbers that the call made itself; a make, as a law that leaves a world without a shape. No condition. -/
import Derived.Test.YtgopcdagnicekaaGreatDoorM1
import Derived.Test.YtgopcdagnicekaaGreatDoorM2
import Derived.Deep.OwnRows
import Derived.Deep.DeepCutAuto
import Derived.Deep.QuietTactic
import Derived.BigQuiet
import Derived.LoopTactic
import Derived.Laws.CopyOwn

set_option linter.unusedVariables false
set_option linter.unusedSimpArgs false
set_option linter.all false
namespace Go.Proofs.YtgopcdagnicekaaGreatDoor
open Go.RowKit Anv
def mW (k:IntKind) (os:List Nat):Array Value:=(os.map fun n=>Value.int k (n:Nat)).toArray
theorem UD (k:IntKind) (os:List Nat) (i:Nat) (h:i<os.length):(mW k os)[i]?=some (.int k (os.getD i 0:Nat)):=by
 simp [mW,List.getD,h]
theorem ON (k:IntKind) (os:List Nat) (i v:Nat):(mW k os).setIfInBounds i (.int k (v:Nat))=mW k (os.set i v):=by
 simp [mW,qK]
def oY (k:IntKind) (t:TypeId) (w:World) (g:Nat) (os:List Nat):Prop:=w.heap[g]?=some (.cells (mW k os) t (0,0))
section
variable {k:IntKind} {t:TypeId} {w w':World} {g:Nat} {os:List Nat}
theorem oY.lt (h:oY k t w g os):g<w.heap.size:=by
 rcases dr g w.heap.size with cD | vG
 ·exact cD
 ·unfold oY at h; rw [mQ vG] at h; cases h
theorem oY.cell (h:oY k t w g os) (i:Nat) (hi:i<os.length):w.cell? ⟨g,i,none⟩=some (.int k (os.getD i 0:Nat)):=by
 rw [cell_of_row w g i _ t (0,0) h,UD k os i hi]
theorem oY.frozen (h:oY k t w g os) (i:Nat):w.frozen? ⟨g,i,none⟩=false:=by
 unfold oY at h
 simp [World.frozen?,h]
theorem oY.alloc (h:oY k t w g os) (o:Obj):oY k t (w.alloc o) g os:=(Below.heap_alloc w o g h.lt).trans h
theorem oY.set (h:oY k t w g os) (i v:Nat):oY k t (w.setCell ⟨g,i,none⟩ (.int k (v:Nat))) g (os.set i v):=by
 unfold oY at h ⊢
 simp [World.setCell,sK,h,ON]
theorem oY.qz (h:oY k t w g os) (i:Nat) (x:Int) (v:Nat) (hv:x=(v:Nat)):oY k t (w.setCell ⟨g,i,none⟩ (.int k x)) g (os.set i v):=by
 rw [hv]; exact h.set i v
theorem oY.far (h:oY k t w g os) {p:Addr} (hp:g≠p.block) (u:Value):oY k t (w.setCell p u) g os:=(Below.heap_setCell w p u g hp).trans h
theorem oY.below {B:Nat} (h:oY k t w g os) (hb:Below B w w') (hg:g<B):oY k t w' g os:=(hb.block g hg).trans h
end
theorem oY.u32 {t:TypeId} {w:World} {g:Nat} {os:List Nat} (h:oY .u32 t w g os) (hl:bN 4294967296 os) {n:Nat} (hn:os.length=n) (hm:n<=maxLen):eT w (bh g) n n os:=
 ⟨hn,aY _,hm,hl,fun _=>⟨g,0,rfl,h.lt,fun i hi=>by rw [fz]; exact h.cell i ae⟩⟩
theorem MB (k:IntKind) (n:Nat):madeCells #[.int k 0] n=mW k (List.replicate n 0):=by
 apply Array.ext
 ·simp [size_madeCells,mW]
 ·intro i h1 h2
  simp [madeCells,mW,Nat.mod_one]
theorem eB {P:Program} (w:World) {ops:Array Oper} {rest:List Oper} {o:Oper} {a:Act} {Q:Exit->Act->World->Prop}
  (hg:o.guard=none) (l c:Operand) (t:TypeId) (ZQ:o.op=Op.makeSlice t l c)
  (e:TypeId) (k:IntKind) (bytes:Nat) (ht:P.underlying t=some (.slice e)) (hi:(P.info? e).map (fun i=>(i.zero,i.size,i.bytes))=some (some (.int k 0),1,bytes))
  (kl kc:IntKind) (N M:Int) (n:Nat) (hl:a.eval l=.int kl N) (hc:a.eval c=.int kc M) (hN:N=(n:Nat)) (hM:M=(n:Nat)) (vH:bytes*n<=281474976710656) (C9:n<=9223372036854775807)
  (hK:∀w1,oY k e w1 w.heap.size (List.replicate n 0)->Below w.heap.size w w1->w1.heap.size=w.heap.size+1->wpList P ops Q rest (a.put o.dst (.slice (bh w.heap.size) n n)) w1):
  wpList P ops Q (o::rest) a w:=by
 subst hN hM
 obtain ⟨i,J7,vI⟩:=yA.1 hi
 simp only [ji] at vI
 obtain ⟨hz,hs,hb⟩:=vI
 refine wpList_make_row w hg l c t ZQ e i _ ht J7 hz hs rfl kl kc n hl hc (by rw [hb]; exact vH) C9 ?_
 refine hK _ ?_ ((Below.refl _ _).alloc (aY _) _) cT
 show (w.alloc _).heap[w.heap.size]?=_
 rw [heap_alloc_new,MB]
theorem vJ {P:Program} {w:World} {ops:Array Oper} {rest:List Oper} {o:Oper} {a:Act} {Q:Exit->Act->World->Prop} (xu:o.guard=none) (d s:Operand) (dT sT:TypeId)
  (ho:o.op=.call { callee:=.builtin .copy,args:=#[d,s],argTypes:=#[dT,sT] }) (elem:TypeId) (hu:P.underlying dT=some (.slice elem)) (mn:(P.info? elem).map (·.size)=some 1)
  (g n m c:Nat) (A:Option Addr) (os xs:List Nat) (t:TypeId) (hd:a.eval d=.slice (bh g) n m) (hs:a.eval s=.slice A n c)
  (hA:oY .u32 t w g os) (Bi:os.length=n) (hx:eT w A n c xs) (B:Nat) (w0:World) (hb:Below B w0 w) (hBg:B<=g)
  (h:∀w',oY .u32 t w' g xs->Below B w0 w'->wpList P ops Q rest (a.put o.dst (goInt n)) w'):
  wpList P ops Q (o::rest) a w:=by
 have hl:(xs.map fun n=>Value.int .u32 (n:Nat)).length=n:=by rw [aZ,hx.len]
 refine wpList_copy_splice xu d s dT sT ho elem hu mn _ _ _ _ _ _ hd hs g 0 (os.map fun n=>Value.int .u32 (n:Nat)) t hA (xs.map fun n=>Value.int .u32 (n:Nat)) (by rw [hl]; simp) ?_ (by simp [Bi,hx.len]) ?_ B w0 hb hBg ?_
 ·intro hp
  obtain ⟨b,off,rfl,nB,hc⟩:=hx.cells ae
  refine ⟨rfl,_,rfl,fun j v hj=>?_⟩
  have Od:j<n:=by
   rcases dr j n with h1 | h1
   ·exact h1
   ·rw [dz (by rw [hl]; exact h1)] at hj; cases hj
  have e:(⟨b,off,none⟩:Addr).add j=⟨b,off+j,none⟩:=by unfold Addr.add; split<;>simp_all
  rw [e,hc j Od,<- hj]
  simp [List.getD,hx.len,Od]
 ·intro v hv
  obtain ⟨y,_,rfl⟩:=ff.1 hv
  rfl
 ·intro w' hH hB'
  rw [hl]
  refine h w' ?_ hB'
  have h2:=hH.out
  have e:splice (os.map fun n=>Value.int .u32 (n:Nat)) 0 (xs.map fun n=>Value.int .u32 (n:Nat))=xs.map fun n=>Value.int .u32 (n:Nat):=by
   simp [splice,Bi,hx.len]
  rw [e] at h2
  exact h2
theorem OO:(Tryz.prog.info? 98).map (·.size)=some 1:=by kernel_rfl
theorem kE:(Tryz.prog.info? 98).map (fun i=>(i.zero,i.size,i.bytes))=some (some (.int .u32 0),1,4):=by kernel_rfl
theorem UF (A B:Option Addr) (n c m d:Nat) (xs ys:List Nat) (w:World) (h:eT w A n c xs) (k:eT w B m d ys) (hn:n<=1000000) (hm:m<=1000000):
  Calls Tryz.prog 105 #[.slice A n c,.slice B m d] w fun e w'=>∃v,e=.returned v/\kC w.heap.size w' v (val 4294967296 xs+val 4294967296 ys)/\Below w.heap.size w w':=by
 go_enter Tryz.func105,Tryz.ntmps105
 go_upto_if 13 with fail
 go_cut [0,1] (fun s0 s1 wx=>wx=w/\∃(A' B':Option Addr) (n' c' m' d':Nat) (ZR Yq:List Nat),s0=.slice A' n' c'/\s1=.slice B' m' d'/\Hid (eT w A' n' c' ZR/\eT w B' m' d' Yq)/\m'<=n'/\n'<=1000000/\Hid (val 4294967296 ZR+val 4294967296 Yq=val 4294967296 xs+val 4294967296 ys))
 case first=>
  by_cases cD:n<m
  ·go_wp2
   go_meet
   case rel=>exact ⟨rfl,B,A,m,d,n,c,ys,xs,rfl,rfl,⟨k,h⟩,by omega,by omega,Nat.add_comm _ _⟩
  ·go_wp2
   go_meet
   case rel=>exact ⟨rfl,A,B,n,c,m,d,xs,ys,rfl,rfl,⟨h,k⟩,by omega,by omega,rfl⟩
 case rest=>
  obtain ⟨rfl,A',B',n',c',m',d',ZR,Yq,rfl,rfl,hu,TZ,Yr,HS⟩:=hcut
  go_wp2_with (at_make; refine eB _ rfl _ _ 50 rfl 98 .u32 4 Tryz.underlying50 kE _ _ _ _ (n'+1) rfl rfl ae ae ae ae ?_; intro w1 vi vj ld)
  have HA:=Lib.hid vi
  have HB:=Lib.hid vj
  go_loopw [6,22] (fun cy i wr=>∃(k cc:Nat) (os:List Nat),k<=n'/\i=.int .i64 k/\cy=.int .u64 cc/\cc<=1/\
    Hid (os.length=n'+1/\bN 4294967296 os/\val 4294967296 (os.take k)+4294967296 ^ k*cc=val 4294967296 (ZR.take k)+val 4294967296 (Yq.take k))/\
    Hid (oY .u32 98 wr wc.heap.size os)/\Hid (Below wc.heap.size wc wr)) (fun _ i _=>n' - (intOf i).toNat)
  case atStart=>exact ⟨0,0,_,bm _,rfl,rfl,by omega,⟨by simp,bN.yM ae _,by simp⟩,HA.out,HB.out⟩
  case round=>
   obtain ⟨k,cc,os,hk,rfl,rfl,OP,HI,HR,HW⟩:=hrel
   by_cases cD:k<n'
   ·obtain ⟨b,off,rfl,nB,ia⟩:=hu.out.1.cells ae
    have Oe:=(HW.out.cell nB).trans (ia k cD)
    have nC:=hu.out.1.lt.get ae k
    generalize hx:ZR.getD k 0=x at Oe nC
    have HX:=Lib.hid hx
    have Of:=HR.out.cell k (by rw [HI.out.1]; omega)
    have Ht:=HR.out.frozen k
    by_cases UG:k<m'
    ·obtain ⟨b2,MC,rfl,E5,ia⟩:=hu.out.2.cells ae
     have T0:=(HW.out.cell E5).trans (ia k UG)
     have xw:=hu.out.2.lt.get ae k
     generalize hy:Yq.getD k 0=y at T0 xw
     have HY:=Lib.hid hy
     go_wp2
     go_roundw
     case rel=>
      have h3:=HI.out
      have h4:=yN 4294967296 ZR Yq os k cc ae h3.2.2
      rw [HX.out,HY.out] at h4
      exact ⟨k+1,(cc+x+y) / 4294967296,os.set k ((cc+x+y)%4294967296),by omega,by go_num,int_eq ae,by omega,⟨by simp; exact h3.1,h3.2.1.set k ae,h4⟩,HR.out.qz k _ _ ae,HW.out.setCell (aY _) _⟩
     case measure=>simp [intOf]; omega
    ·have hy:Yq.getD k 0=0:=ml (by rw [hu.out.2.len]; omega)
     have HY:=Lib.hid hy
     go_wp2
     go_roundw
     case rel=>
      have h3:=HI.out
      have h4:=yN 4294967296 ZR Yq os k cc ae h3.2.2
      rw [HX.out,HY.out,j7] at h4
      exact ⟨k+1,(cc+x) / 4294967296,os.set k ((cc+x)%4294967296),by omega,by go_num,int_eq ae,by omega,⟨by simp; exact h3.1,h3.2.1.set k ae,h4⟩,HR.out.qz k _ _ ae,HW.out.setCell (aY _) _⟩
     case measure=>simp [intOf]; omega
   ·have Of:=HR.out.cell n' (by rw [HI.out.1]; omega)
    have Ht:=HR.out.frozen n'
    go_wp2_with fail
    have h3:=HI.out
    obtain rfl:k=n':=ae
    have UH:=HR.out.set k cc
    have MD:bN 4294967296 (os.set k cc):=h3.2.1.set k ae
    have hU:=UH.u32 MD (by simp; exact h3.1) (by simp only [maxLen]; omega)
    have hv:val 4294967296 (os.set k cc)=val 4294967296 xs+val 4294967296 ys:=by
     have h5:=kz 4294967296 os k cc ae
     rw [bD (by simp; omega),h3.2.2,bD (by rw [hu.out.1.len]; omega),bD (by rw [hu.out.2.len]; omega),HS.out] at h5
     exact h5
    have hB2:=HW.out.setCell (p:=⟨wc.heap.size,k,none⟩) (aY _) (.int .u32 (cc:Nat))
    have hT:=hU.trim
    rw [hv] at hT
    have hl:=ZP MD
    rw [hv] at hl
    refine (E4 _ _ _ _ _ hU).mono ?_
    rintro e w' ⟨rfl,rfl⟩
    rw [hl] at hT ⊢
    have HT:=Lib.hid hT
    have ZS:=Lib.hid hB2
    go_wp2
    go_ret
    exact ⟨_,rfl,⟨_,_,rfl,HT.out,fun a ha=>by cases ha; exact aY _⟩,ZS.out⟩
theorem UI {A B:Option Addr} {n c m d N M:Nat} {w:World} (h:cM w A n c N) (k:cM w B m d M) (hn:n<=1000000) (hm:m<=1000000):
  Calls Tryz.prog 105 #[.slice A n c,.slice B m d] w fun e w'=>∃v,e=.returned v/\kC w.heap.size w' v (N+M)/\Below w.heap.size w w':=by
 obtain ⟨xs,hx,rfl⟩:=h
 obtain ⟨ys,hy,rfl⟩:=k
 exact UF A B n c m d xs ys w hx hy hn hm
theorem J8 {A B:Option Addr} {n c m d N M:Nat} {w:World} (h:cM w A n c N) (h':cM w B m d M):
  Calls Tryz.prog 106 #[.slice A n c,.slice B m d] w fun e w'=>e=.returned (.int .i64 (mU N M))/\∃q,w'=w.drewN q:=by
 go_enter Tryz.func106,Tryz.ntmps106
 go_wp2_with fail
 refine (il _ _ _ _ _ h).mono ?_
 rintro e w' ⟨rfl,hU,rfl⟩
 go_wp2_with fail
 refine (il _ _ _ _ _ h').mono ?_
 rintro e w' ⟨rfl,kU,rfl⟩
 have vK:=hU.big
 have akh:=kU.big
 unfold maxLen at vK akh
 by_cases h1:nl N<nl M
 ·go_wp2
  go_ret
  exact ⟨by rw [J5 (yP ae h1)]; rfl,0,rfl⟩
 ·by_cases h2:nl M<nl N
  ·go_wp2
   go_ret
   exact ⟨by rw [J6 (yP ae h2)]; rfl,0,rfl⟩
  ·have h3:nl N=nl M:=ae
   have H3:=Lib.hid h3
   clear h3
   go_wp2
   go_loopw [5] (fun i wr=>∃k:Nat,k<=nl N/\i=.int .i64 ((k:Int) - 1)/\Hid ((L N).drop k=(L M).drop k)/\Hid (∃q,wr=w.drewN q)) (fun i _=>(intOf i+1).toNat)
   case atStart=>exact ⟨nl N,aY _,rfl,by show (L N).drop (nl N)=(L M).drop (nl N); rw [qS (n:=nl N) (aY _),qS (by rw [H3.out]; exact aY _)],0,rfl⟩
   case round=>
    obtain ⟨k,hk,rfl,HD,HQ⟩:=hrel
    obtain ⟨q,rfl⟩:=HQ.out
    rcases k with _ | k
    ·go_wp2
     go_ret
     refine ⟨?_,q,rfl⟩
     have h4:=HD.out
     rw [vv,vv] at h4
     have h5:N=M:=by rw [<- mT N,<- mT M,h4]
     rw [h5,UC]; rfl
    ·rw [show (((k+1:Nat):Int) - 1)=(k:Int) from ae]
     obtain ⟨b,off,rfl,nB,ia⟩:=hU.cells ae
     have Oe:=ia k ae
     obtain ⟨b2,MC,rfl,E5,aki⟩:=kU.cells ae
     have T0:=aki k ae
     generalize hx:(L N).getD k 0=x at Oe
     generalize hy:(L M).getD k 0=y at T0
     have HX:=Lib.hid hx
     have HY:=Lib.hid hy
     have UJ:k<(L N).length:=by show k<nl N; omega
     have UK:k<(L M).length:=by show k<nl M; omega
     by_cases Ys:x<y
     ·go_wp2_with fail
      go_quiet (fail)
      go_wp2_with fail
      go_ret
      refine ⟨?_,by simp only [World.drewN_drewN]; exact ⟨_,rfl⟩⟩
      rw [J5]
      ·rfl
      ·rw [<- mT N,<- mT M]
       exact BM _ _ k (xq N) HD.out UJ (by rw [HX.out,HY.out]; exact Ys) UK
     ·by_cases hyx:y<x
      ·go_wp2_with fail
       go_quiet (fail)
       go_wp2_with fail
       go_quiet (fail)
       go_wp2_with fail
       go_ret
       refine ⟨?_,by simp only [World.drewN_drewN]; exact ⟨_,rfl⟩⟩
       rw [J6]
       ·rfl
       ·rw [<- mT N,<- mT M]
        exact BM _ _ k (xq M) HD.out.symm UK (by rw [HX.out,HY.out]; exact hyx) UJ
      ·go_wp2_with fail
       go_quiet (fail)
       go_wp2_with fail
       go_quiet (fail)
       go_wp2_with fail
       go_roundw
       case rel=>exact ⟨k,by omega,rfl,by show (L N).drop k=(L M).drop k; rw [BN _ k UJ,BN _ k UK,HX.out,HY.out,HD.out,show x=y from ae],by show ∃q,_=_; exact ⟨_,rfl⟩⟩
       case measure=>simp [intOf]
theorem mX {A B:Option Addr} {n c m d N M:Nat} {w:World} (h:cM w A n c N) (h':cM w B m d M):
  Calls Tryz.prog 106 #[.slice A n c,.slice B m d] w fun e w'=>e=.returned (.int .i64 (mU N M))/\Below w.heap.size w w':=by
 refine (J8 h h').mono ?_
 rintro e w' ⟨rfl,q,rfl⟩
 exact ⟨rfl,pg w q⟩
theorem J9 {A B:Option Addr} {n c m d N M:Nat} {w:World} (h:cM w A n c N) (h':cM w B m d M) (hn:n<=1000000) (hNM:M<=N):
  Calls Tryz.prog 107 #[.slice A n c,.slice B m d] w fun e w'=>∃v,e=.returned (.tuple #[v,.int .i64 0])/\kC w.heap.size w' v (N - M)/\Below w.heap.size w w':=by
 have rL:=oB N M
 have E6:=nK N M
 have sP:¬mU N M<0:=ae
 go_enter Tryz.func107,Tryz.ntmps107
 go_wp2_with fail
 refine (J8 h h').mono ?_
 rintro e w' ⟨rfl,q,rfl⟩
 have HH:=Lib.hid (And.intro h h')
 obtain ⟨xs,hx,hxv⟩:=HH.out.1
 obtain ⟨ys,hy,hyv⟩:=HH.out.2
 have HV:=Lib.hid (And.intro hxv hyv)
 have mn:(w.drewN q).heap.size=w.heap.size:=rfl
 go_wp2_with (at_make; refine eB _ rfl _ _ 50 rfl 98 .u32 4 Tryz.underlying50 kE _ _ _ _ n rfl rfl ae ae ae ae ?_; intro w1 vi vj ld)
 have HA:=Lib.hid vi
 have HB:=Lib.hid vj
 go_loopw [7,21] (fun cy i wr=>∃(k r:Nat) (os:List Nat),k<=n/\i=.int .i64 k/\cy=.int .u64 r/\r<=1/\
    Hid (os.length=n/\bN 4294967296 os/\val 4294967296 (os.take k)+val 4294967296 (ys.take k)=val 4294967296 (xs.take k)+4294967296 ^ k*r)/\
    Hid (oY .u32 98 wr w.heap.size os)/\Hid (Below w.heap.size w wr)) (fun _ i _=>n - (intOf i).toNat)
 case atStart=>exact ⟨0,0,_,bm _,rfl,rfl,by omega,⟨by simp,bN.yM ae _,by simp⟩,HA.out,(pg w q).trans HB.out⟩
 case round=>
   obtain ⟨k,r,os,hk,rfl,rfl,hr,HI,HR,HW⟩:=hrel
   by_cases cD:k<n
   ·obtain ⟨b,off,rfl,nB,ia⟩:=hx.cells ae
    have Oe:=(HW.out.cell nB).trans (ia k cD)
    have nC:=hx.lt.get ae k
    generalize hx:xs.getD k 0=x at Oe nC
    have HX:=Lib.hid hx
    have Of:=HR.out.cell k (by rw [HI.out.1]; omega)
    have Ht:=HR.out.frozen k
    by_cases UG:k<m
    ·obtain ⟨b2,MC,rfl,E5,ia⟩:=hy.cells ae
     have T0:=(HW.out.cell E5).trans (ia k UG)
     have xw:=hy.lt.get ae k
     clear ia
     generalize hy:ys.getD k 0=y at T0 xw
     have HY:=Lib.hid hy
     clear hy
     by_cases Ys:x<r+y
     ·have hb:=yQ x (r+y) nC ae ae
      rw [show (((r+y:Nat)):Int)=(r:Int)+y from ae] at hb
      have HB:=Lib.hid hb
      clear hb
      go_wp2
      go_roundw
      case rel=>
       have h3:=HI.out
       have h4:=uz 4294967296 xs ys os k r (x+4294967296 - (r+y)) 1 ae h3.2.2 (by rw [HX.out,HY.out]; omega)
       exact ⟨k+1,1,os.set k (x+4294967296 - (r+y)),by omega,by go_num,int_eq HB.out.1,by omega,⟨by simp; exact h3.1,h3.2.1.set k ae,h4⟩,HR.out.qz k _ _ HB.out.2,HW.out.setCell (aY _) _⟩
      case measure=>simp [intOf]; omega
     ·have hb:=BO x (r+y) nC ae
      rw [show (((r+y:Nat)):Int)=(r:Int)+y from ae] at hb
      have HB:=Lib.hid hb
      clear hb
      go_wp2
      go_roundw
      case rel=>
       have h3:=HI.out
       have h4:=uz 4294967296 xs ys os k r (x - (r+y)) 0 ae h3.2.2 (by rw [HX.out,HY.out]; omega)
       exact ⟨k+1,0,os.set k (x - (r+y)),by omega,by go_num,int_eq HB.out.1,by omega,⟨by simp; exact h3.1,h3.2.1.set k ae,h4⟩,HR.out.qz k _ _ HB.out.2,HW.out.setCell (aY _) _⟩
      case measure=>simp [intOf]; omega
    ·have hy:ys.getD k 0=0:=ml (by rw [hy.len]; omega)
     have HY:=Lib.hid hy
     clear hy
     by_cases Ys:x<r
     ·have hb:=yQ x r nC ae ae
      have HB:=Lib.hid hb
      clear hb
      go_wp2
      go_roundw
      case rel=>
       have h3:=HI.out
       have h4:=uz 4294967296 xs ys os k r (x+4294967296 - r) 1 ae h3.2.2 (by rw [HX.out,HY.out]; omega)
       exact ⟨k+1,1,os.set k (x+4294967296 - r),by omega,by go_num,int_eq HB.out.1,by omega,⟨by simp; exact h3.1,h3.2.1.set k ae,h4⟩,HR.out.qz k _ _ HB.out.2,HW.out.setCell (aY _) _⟩
      case measure=>simp [intOf]; omega
     ·have hb:=BO x r nC ae
      have HB:=Lib.hid hb
      clear hb
      go_wp2
      go_roundw
      case rel=>
       have h3:=HI.out
       have h4:=uz 4294967296 xs ys os k r (x - r) 0 ae h3.2.2 (by rw [HX.out,HY.out]; omega)
       exact ⟨k+1,0,os.set k (x - r),by omega,by go_num,int_eq HB.out.1,by omega,⟨by simp; exact h3.1,h3.2.1.set k ae,h4⟩,HR.out.qz k _ _ HB.out.2,HW.out.setCell (aY _) _⟩
      case measure=>simp [intOf]; omega
   ·go_wp2_with fail
    have h3:=HI.out
    obtain rfl:k=n:=ae
    have hU:=HR.out.u32 h3.2.1 h3.1 (by simp only [maxLen]; omega)
    have hv:val 4294967296 os=N - M:=by
     rw [<- HV.out.1,<- HV.out.2]
     exact MA xs ys os k r h3.2.1 h3.1 hx.len hx.lt hr h3.2.2 (by rw [HV.out.1,HV.out.2]; exact hNM)
    have hN:cM wr (bh w.heap.size) k k (N - M):=⟨os,hU,hv⟩
    refine (il _ _ _ _ _ hN).mono ?_
    rintro e w' ⟨rfl,hT,rfl⟩
    have HT:=Lib.hid hT
    clear hT hv hU h3 hN
    go_wp2
    go_ret2
    exact ⟨_,rfl,⟨_,_,rfl,HT.out,fun a ha=>by cases ha; exact aY _⟩,HW.out⟩
theorem UL (A B:Option Addr) (n c m d:Nat) (xs ys:List Nat) (w:World) (hx:eT w A n c xs) (hy:eT w B m d ys) (hn:n<=1000000) (hm:m<=1000000):
  Calls Tryz.prog 146 #[.slice A n c,.slice B m d] w fun e w'=>∃v,e=.returned v/\kC w.heap.size w' v (val 4294967296 xs*val 4294967296 ys)/\Below w.heap.size w w':=by
 go_enter Tryz.func146,Tryz.ntmps146
 go_wp2_with (at_make; refine eB _ rfl _ _ 50 rfl 98 .u32 4 Tryz.underlying50 kE _ _ _ _ (n+m) rfl rfl ae ae ae ae ?_; intro w1 vi vj ld)
 have HA:=Lib.hid vi
 have HB:=Lib.hid vj
 go_loopw [19] (fun i wr=>∃(k:Nat) (os:List Nat),k<=n/\i=.int .i64 k/\
    Hid (os.length=n+m/\bN 4294967296 os/\val 4294967296 os=val 4294967296 (xs.take k)*val 4294967296 ys/\∀j,k+m<=j->os.getD j 0=0)/\
    Hid (oY .u32 98 wr w.heap.size os)/\Hid (Below w.heap.size w wr)) (fun i _=>n - (intOf i).toNat)
 case atStart=>exact ⟨0,_,bm _,rfl,⟨by simp,bN.yM ae _,by simp [rJ],fun j _=>tn _ _⟩,HA.out,HB.out⟩
 case round=>
  obtain ⟨k,os,hk,rfl,HI,HR,HW⟩:=hrel
  by_cases cD:k<n
  ·obtain ⟨b,off,rfl,nB,ia⟩:=hx.cells ae
   have Oe:=(HW.out.cell nB).trans (ia k cD)
   have nC:=hx.lt.get ae k
   generalize hx:xs.getD k 0=x at Oe nC
   have HX:=Lib.hid hx
   go_wp2
   obtain ⟨wo,rfl⟩:∃wo:World,wo=wr:=⟨_,rfl⟩
   go_loopw [8,26] (fun cy i wr=>∃(q cc:Nat) (os:List Nat),q<=m/\i=.int .i64 q/\cy=.int .u64 cc/\cc<4294967296/\
    Hid (os.length=n+m/\bN 4294967296 os/\val 4294967296 os+4294967296 ^ (k+q)*cc=val 4294967296 (xs.take k)*val 4294967296 ys+4294967296 ^ k*(x*val 4294967296 (ys.take q))/\∀j,k+m<=j->os.getD j 0=0)/\
    Hid (oY .u32 98 wr w.heap.size os)/\Hid (Below w.heap.size w wr)) (fun _ i _=>m - (intOf i).toNat)
   case atStart=>exact ⟨0,0,os,bm _,rfl,rfl,by omega,⟨HI.out.1,HI.out.2.1,by simp [HI.out.2.2.1],HI.out.2.2.2⟩,HR.out,HW.out⟩
   case round=>
    obtain ⟨q,cc,os,hq,rfl,rfl,OP,HI,HR,HW⟩:=hrel
    by_cases hqm:q<m
    ·obtain ⟨b2,MC,rfl,E5,ia⟩:=hy.cells ae
     have T0:=(HW.out.cell (p:=⟨b2,MC+q,none⟩) E5).trans (ia q hqm)
     have xw:=hy.lt.get ae q
     generalize hy:ys.getD q 0=y at T0 xw
     have HY:=Lib.hid hy
     have Of:=HR.out.cell (k+q) (by rw [HI.out.1]; omega)
     have Ht:=HR.out.frozen (k+q)
     have ZT:=HI.out.2.1.get ae (k+q)
     generalize ho:os.getD (k+q) 0=o at Of ZT
     have HO:=Lib.hid ho
     have hmc:=BK 4294967296 cc x y o ae OP nC xw ZT
     go_wp2
     go_roundw
     case rel=>
      have h3:=HI.out
      have h4:=OK 4294967296 ys os k q cc x _ ae h3.2.2.1
      rw [HY.out,HO.out] at h4
      exact ⟨q+1,(cc+x*y+o) / 4294967296,os.set (k+q) ((cc+x*y+o)%4294967296),by omega,by go_num,int_eq ae,by omega,⟨by simp; exact h3.1,h3.2.1.set _ ae,h4,fun j hj=>by rw [lA ae]; exact h3.2.2.2 j hj⟩,HR.out.qz _ _ _ ae,HW.out.setCell (aY _) _⟩
     case measure=>simp [intOf]; omega
    ·obtain rfl:q=m:=ae
     have Of:=HR.out.cell (k+q) (by rw [HI.out.1]; omega)
     have Ht:=HR.out.frozen (k+q)
     rw [HI.out.2.2.2 (k+q) (aY _)] at Of
     go_wp2
     go_roundw
     case rel=>
      have h3:=HI.out
      have h4:=uy 4294967296 os (k+q) cc ae (h3.2.2.2 _ (aY _))
      have h5:=h3.2.2.1
      rw [bD (l:=ys) (by rw [hy.len]; exact aY _)] at h5
      refine ⟨k+1,os.set (k+q) cc,by omega,by go_num,⟨by simp; exact h3.1,h3.2.1.set _ OP,?_,fun j hj=>by rw [lA ae]; exact h3.2.2.2 j ae⟩,HR.out.set _ _,HW.out.setCell (aY _) _⟩
      rw [h4,h5,dD,HX.out,EV,iK]
     case measure=>simp [intOf]; omega
  ·go_wp2_with fail
   have h3:=HI.out
   obtain rfl:k=n:=ae
   have hU:=HR.out.u32 h3.2.1 h3.1 (by simp only [maxLen]; omega)
   have hv:val 4294967296 os=val 4294967296 xs*val 4294967296 ys:=by
    rw [h3.2.2.1,bD (by rw [hx.len]; exact aY _)]
   have hN:cM wr (bh w.heap.size) (k+m) (k+m) (val 4294967296 xs*val 4294967296 ys):=⟨os,hU,hv⟩
   refine (il _ _ _ _ _ hN).mono ?_
   rintro e w' ⟨rfl,hT,rfl⟩
   have HT:=Lib.hid hT
   go_wp2
   go_ret
   exact ⟨_,rfl,⟨_,_,rfl,HT.out,fun a ha=>by cases ha; exact aY _⟩,HW.out⟩
theorem UM {A B:Option Addr} {n c m d N M:Nat} {w:World} (h:cM w A n c N) (k:cM w B m d M) (hn:n<=1000000) (hm:m<=1000000):
  Calls Tryz.prog 146 #[.slice A n c,.slice B m d] w fun e w'=>∃v,e=.returned v/\kC w.heap.size w' v (N*M)/\Below w.heap.size w w':=by
 obtain ⟨xs,hx,rfl⟩:=h
 obtain ⟨ys,hy,rfl⟩:=k
 exact UL A B n c m d xs ys w hx hy hn hm
theorem yR {A:Option Addr} {n c N:Nat} {w:World} (h:cM w A n c N) (hN:nl N<=1000000):
  Calls Tryz.prog 65 #[.slice A n c] w fun e w'=>∃v,e=.returned v/\kC w.heap.size w' v N/\Below w.heap.size w w':=by
 go_enter Tryz.func65,Tryz.ntmps65
 go_wp2_with fail
 refine (il _ _ _ _ _ h).mono ?_
 rintro e w' ⟨rfl,hU,rfl⟩
 have HU:=Lib.hid hU
 go_wp2_with (first | (at_make; refine eB _ rfl _ _ 50 rfl 98 .u32 4 Tryz.underlying50 kE _ _ _ _ (nl N) rfl rfl ae ae ae ae ?_; intro w1 vi vj ld; have HA:=Lib.hid vi; have HB:=Lib.hid vj; clear vi vj ld) | (with_reducible refine vJ rfl (.tmp 9) (.tmp 10) _ _ rfl _ Tryz.underlying50 OO _ _ _ _ _ _ _ _ rfl rfl HA.out cT (HU.out.below HB.out) _ _ HB.out (aY _) ?_; intro w2 OQ hB2; have HA2:=Lib.hid OQ; have ZS:=Lib.hid hB2; clear OQ hB2))
 go_ret
 exact ⟨_,rfl,⟨_,_,rfl,HA2.out.u32 (xq N) rfl (by show nl N<=_; simp only [maxLen]; omega),fun a ha=>by cases ha; exact aY _⟩,ZS.out⟩
theorem Di (x y:Nat) (hx:x<4294967296) (hy:y<4294967296):bits .or .u64 ((y:Int)*4294967296) (x:Int)=((y*4294967296+x:Nat):Int):=by
 have h:=u64_or_nat (y*4294967296) x ae ae
 rw [oz] at h
 rw [show ((4294967296:Nat):Int)=4294967296 from rfl] at h
 rw [h]
 have:=Pb 32 y x ae
 rw [show (2:Nat) ^ 32=4294967296 from rfl] at this
 rw [this]
theorem Pr {A:Option Addr} {n c q:Nat} {xs:List Nat} {w:World} (hx:eT w A n c xs) (hn:n<=1000000) (U1:0<q) (hq:q<4294967296):
  Calls Tryz.prog 152 #[.slice A n c,.int .u32 q] w fun e w'=>∃v,e=.returned (.tuple #[v,.int .u32 ((val 4294967296 xs%q:Nat):Int),.int .i64 0])/\kC w.heap.size w' v (val 4294967296 xs / q)/\Below w.heap.size w w':=by
 have Om:((q:Int)==0)=false:=by simp; omega
 go_enter Tryz.func152,Tryz.ntmps152
 go_wp2_with (at_make; refine eB _ rfl _ _ 50 rfl 98 .u32 4 Tryz.underlying50 kE _ _ _ _ n rfl rfl ae ae ae ae ?_; intro w1 vi vj ld)
 have HA:=Lib.hid vi
 have HB:=Lib.hid vj
 clear vi vj ld
 go_loopw [8,9] (fun rs ix wr=>∃(k r:Nat) (os:List Nat),k<=n/\ix=.int .i64 ((k:Int) - 1)/\rs=.int .u64 r/\r<q/\
    Hid (os.length=n/\bN 4294967296 os/\val 4294967296 (os.drop k)*q+r=val 4294967296 (xs.drop k))/\
    Hid (oY .u32 98 wr w.heap.size os)/\Hid (Below w.heap.size w wr)) (fun _ ix _=>(intOf ix+1).toNat)
 case atStart=>exact ⟨n,0,_,aY _,rfl,rfl,U1,⟨by simp,bN.yM ae _,by rw [qS cT,qS (by rw [hx.len]; exact aY _)]; simp⟩,HA.out,HB.out⟩
 case round=>
  obtain ⟨k,r,os,hk,rfl,rfl,hr,HI,HR,HW⟩:=hrel
  rcases k with _ | k
  ·go_wp2_with fail
   have h3:=HI.out
   have hU:=HR.out.u32 h3.2.1 h3.1 (by simp only [maxLen]; omega)
   have h4:=h3.2.2
   rw [vv,vv] at h4
   have h5:=BX (a:=val 4294967296 xs) (b:=q) (q:=val 4294967296 os) (r:=r) (by rw [iO]; omega) hr
   have hN:cM wr (bh w.heap.size) n n (val 4294967296 xs / q):=⟨os,hU,h5.1.symm⟩
   have HE:=Lib.hid h5.2
   refine (il _ _ _ _ _ hN).mono ?_
   rintro e w' ⟨rfl,hT,rfl⟩
   have HT:=Lib.hid hT
   clear hT hU h3 h4 h5 hN
   go_wp2
   refine bodyPost_ret (v:=.tuple #[.slice (bh w.heap.size) (nl (val 4294967296 xs / q)) (nl (val 4294967296 xs / q)),.int .u32 r,.int .i64 0]) (by simp [results,Tryz.results152,go_sem]) rfl ?_
   exact ⟨_,by rw [HE.out]; rfl,⟨_,_,rfl,HT.out,fun a ha=>by cases ha; exact aY _⟩,HW.out⟩
  ·rw [show (((k+1:Nat):Int) - 1)=(k:Int) from ae]
   obtain ⟨b,off,rfl,nB,ia⟩:=hx.cells ae
   have Oe:=(HW.out.cell (p:=⟨b,off+k,none⟩) nB).trans (ia k ae)
   have nC:=hx.lt.get ae k
   have Ht:=HR.out.frozen k
   have Of:=HR.out.cell k (by rw [HI.out.1]; omega)
   have σ:=vF 4294967296 xs os k q r (by rw [HI.out.1]; omega) HI.out.2.2
   have HS:=Lib.hid σ
   have YA:=Di (xs.getD k 0) r nC ae
   have hdl:(r*4294967296+xs.getD k 0) / q<4294967296:=(ux U1).2 (by have:=eh 4294967296 (show r+1<=q from hr); rw [iO 4294967296 q]; omega)
   have BZ:(r*4294967296+xs.getD k 0)%q<q:=kx _ U1
   have hTb:r*4294967296+xs.getD k 0<18446744073709551616:=ae
   generalize hT:r*4294967296+xs.getD k 0=T at*
   generalize xs.getD k 0=x at*
   have HH:=Lib.hid (show IntKind.u64.wrap ((T:Int) / (q:Int))%4294967296=((T / q:Nat):Int) by rw [<- Int.natCast_ediv,IntKind.wrap_u64]; generalize T / q=Z at*; omega)
   have HM:=Lib.hid BZ
   have HD:=Lib.hid hdl
   have Ii:(0:Int)<=(k:Int):=ae
   go_wp2
   go_roundw
   case rel=>exact ⟨k,T%q,_,by omega,rfl,rfl,HM.out,⟨by rw [cH]; exact HI.out.1,HI.out.2.1.set k HD.out,HS.out⟩,HR.out.qz k _ _ HH.out,HW.out.setCell (aY _) _⟩
   case measure=>simp [intOf]
theorem Ps {A:Option Addr} {n c q N:Nat} {w:World} (h:cM w A n c N) (hn:n<=1000000) (U1:0<q) (hq:q<4294967296):
  Calls Tryz.prog 152 #[.slice A n c,.int .u32 q] w fun e w'=>∃v,e=.returned (.tuple #[v,.int .u32 ((N%q:Nat):Int),.int .i64 0])/\kC w.heap.size w' v (N / q)/\Below w.heap.size w w':=by
 obtain ⟨xs,hx,rfl⟩:=h
 exact Pr hx hn U1 hq
theorem U2 (x r:Nat) (hx:x<4294967296) (hr:r<32):x*2 ^ r<9223372036854775808:=by
 have h1:2 ^ r<=2 ^ 31:=fE ae ae
 have h2:=fG (show x<=4294967295 by omega) h1
 omega
theorem U3 (A:Option Addr) (n c:Nat) (xs:List Nat) (s:Nat) (w:World) (hx:eT w A n c xs) (hn:n<=1000000) (hs:s<=65536):
  Calls Tryz.prog 102 #[.slice A n c,.int .i64 s] w fun e w'=>∃g,e=.returned (.tuple #[.slice (bh g) (nl (val 4294967296 xs*2 ^ s)) (nl (val 4294967296 xs*2 ^ s)),.int .i64 0])/\w.heap.size<=g/\eT w' (bh g) (nl (val 4294967296 xs*2 ^ s)) (nl (val 4294967296 xs*2 ^ s)) (L (val 4294967296 xs*2 ^ s))/\Below w.heap.size w w':=by
 obtain ⟨d,hd⟩:∃d,d=s / 32:=⟨_,rfl⟩
 obtain ⟨r,hr⟩:∃r,r=s%32:=⟨_,rfl⟩
 have Kc:(s:Int) / 32=d:=ae
 have hr1:(s:Int)%32=r:=ae
 have Hu:r<32:=ae
 have hd2:d<=2048:=ae
 have HP:=Lib.hid (show 2 ^ s=2 ^ r*4294967296 ^ d by rw [show (4294967296:Nat)=2 ^ 32 from rfl,<- Nat.pow_mul,<- mM]; congr 1; omega)
 clear hd hr
 go_enter Tryz.func102,Tryz.ntmps102
 go_wp2_with (at_make; refine eB _ rfl _ _ 50 rfl 98 .u32 4 Tryz.underlying50 kE _ _ _ _ (n+d+1) rfl rfl ae ae ae ae ?_; intro w1 vi vj ld)
 have HA:=Lib.hid vi
 have HB:=Lib.hid vj
 clear vi vj ld
 go_loopw [26] (fun i wr=>∃(k:Nat) (os:List Nat),k<=n/\i=.int .i64 k/\
    Hid (os.length=n+d+1/\bN 4294967296 os/\val 4294967296 os=val 4294967296 (xs.take k)*2 ^ r*4294967296 ^ d/\os.getD (k+d) 0<2 ^ r/\∀j,k+d<j->os.getD j 0=0)/\
    Hid (oY .u32 98 wr w.heap.size os)/\Hid (Below w.heap.size w wr)) (fun i _=>n - (intOf i).toNat)
 case atStart=>exact ⟨0,_,bm _,rfl,⟨by simp,bN.yM ae _,by simp [rJ],by rw [tn]; exact qi r,fun j _=>tn _ _⟩,HA.out,HB.out⟩
 case round=>
  obtain ⟨k,os,hk,rfl,HI,HR,HW⟩:=hrel
  by_cases cD:k<n
  ·obtain ⟨b,off,rfl,nB,ia⟩:=hx.cells ae
   have Oe:=(HW.out.cell nB).trans (ia k cD)
   have nC:=hx.lt.get ae k
   have h3:=HI.out
   have σ:=Pe 4294967296 (2 ^ r) (2 ^ (32 - r)) (by rw [<- mM,show r+(32 - r)=32 by omega]) (qi r) xs os k d nC ae h3.2.2.1 h3.2.2.2.1 h3.2.2.2.2 h3.2.1
   have sP:=HR.out.cell (k+d) (by rw [h3.1]; omega)
   have Oh:=HR.out.frozen (k+d)
   have xx:=HR.out.cell (k+d+1) (by rw [h3.1]; omega)
   have On:=HR.out.frozen (k+d+1)
   rw [h3.2.2.2.2 (k+d+1) ae] at xx
   have ZT:=h3.2.1.get ae (k+d)
   have hsh:=U2 (xs.getD k 0) r nC Hu
   have hoP:=h3.2.2.2.1
   clear ia h3
   generalize hxx:xs.getD k 0=x at*
   generalize hoo:os.getD (k+d) 0=o at*
   clear hxx hoo
   have hw:IntKind.u64.wrap ((x:Int)*2 ^ r)=((x*2 ^ r:Nat):Int):=by
    have e:(x:Int)*2 ^ r=((x*2 ^ r:Nat):Int):=by rw [oz,Int.natCast_pow]; rfl
    rw [e,IntKind.wrap_u64]; omega
   have H1:bits .or .u32 (o:Int) (IntKind.u64.wrap ((x:Int)*2 ^ r)%4294967296)=((o+x*2 ^ r%4294967296:Nat):Int):=by
    rw [hw,show ((x*2 ^ r:Nat):Int)%4294967296=((x*2 ^ r%4294967296:Nat):Int) from rfl,u32_or_nat o _ ae ae,σ.2.2.2.1,Pc r _ o hoP]
   have H2:bits .or .u32 0 (IntKind.u64.wrap ((x:Int)*2 ^ r) / 4294967296%4294967296)=((x*2 ^ r / 4294967296:Nat):Int):=by
    have e:((x*2 ^ r:Nat):Int) / 4294967296%4294967296=((x*2 ^ r / 4294967296:Nat):Int):=ae
    have e2:=u32_or_nat 0 (x*2 ^ r / 4294967296) ae ae
    rw [Nat.zero_or] at e2
    rw [hw,e]
    exact e2
   have HS:=Lib.hid σ
   have HH1:=Lib.hid H1
   have HH2:=Lib.hid H2
   clear σ H1 H2 hw hsh hoP
   go_wp2
   go_roundw
   case rel=>
    have h3:=HI.out
    have h4:=HS.out
    refine ⟨k+1,_,by omega,by go_num,⟨by rw [cH,cH]; exact h3.1,h4.1,h4.2.1,?_,fun j hj=>?_⟩,(HR.out.qz _ _ _ HH1.out).qz _ _ _ HH2.out,(HW.out.setCell (aY _) _).setCell (aY _) _⟩
    ·rw [show k+1+d=k+d+1 by omega,C8 (by rw [cH]; omega)]; exact h4.2.2.1
    ·rw [lA ae,lA ae]; exact h3.2.2.2.2 j ae
   case measure=>simp [intOf]; omega
  ·go_wp2_with fail
   have h3:=HI.out
   obtain rfl:k=n:=ae
   have hU:=HR.out.u32 h3.2.1 h3.1 (by simp only [maxLen]; omega)
   have hv:val 4294967296 os=val 4294967296 xs*2 ^ s:=by
    rw [h3.2.2.1,bD (by rw [hx.len]; exact aY _),HP.out,iK]
   have hN:cM wr (bh w.heap.size) (k+d+1) (k+d+1) (val 4294967296 xs*2 ^ s):=⟨os,hU,hv⟩
   refine (il _ _ _ _ _ hN).mono ?_
   rintro e w' ⟨rfl,hT,rfl⟩
   have HT:=Lib.hid hT
   clear hT hv hU h3 hN
   go_wp2
   go_ret2
   exact ⟨_,rfl,aY _,HT.out,HW.out⟩
theorem y8 {A:Option Addr} {n c N s:Nat} {w:World} (h:cM w A n c N) (hn:n<=1000000) (hs:s<=65536):
  Calls Tryz.prog 102 #[.slice A n c,.int .i64 s] w fun e w'=>∃g,e=.returned (.tuple #[.slice (bh g) (nl (N*2 ^ s)) (nl (N*2 ^ s)),.int .i64 0])/\w.heap.size<=g/\eT w' (bh g) (nl (N*2 ^ s)) (nl (N*2 ^ s)) (L (N*2 ^ s))/\Below w.heap.size w w':=by
 obtain ⟨xs,hx,rfl⟩:=h
 exact U3 A n c xs s w hx hn hs
theorem U4 {A:Option Addr} {n c N s:Nat} {w:World} (h:cM w A n c N) (hn:n<=1000000) (hs:s<=65536):
  Calls Tryz.prog 102 #[.slice A n c,.int .i64 s] w fun e w'=>∃v,e=.returned (.tuple #[v,.int .i64 0])/\kC w.heap.size w' v (N*2 ^ s)/\Below w.heap.size w w':=by
 refine (y8 h hn hs).mono ?_
 rintro e w' ⟨g,rfl,hg,hU,hb⟩
 exact ⟨_,rfl,⟨_,_,rfl,hU,fun a ha=>by cases ha; exact hg⟩,hb⟩
end Go.Proofs.YtgopcdagnicekaaGreatDoor
