/- A block whose first cells are numbers, written to in place; what a call may change beside it. No condition. -/
import Derived.Test.YtgopcdagnicekaaGreatDoorM1
import Derived.Test.YtgopcdagnicekaaGreatDoorM5
import Derived.ArgAppend

set_option linter.unusedVariables false
set_option linter.unusedSimpArgs false
set_option linter.all false
namespace Go.Proofs.YtgopcdagnicekaaGreatDoor
open Go.RowKit Anv
theorem xP (pre win post:List Nat) (k i v:Nat) (hk:pre.length=k) (hi:i<win.length):(pre++win++post).set (k+i) v=pre++win.set i v++post:=by
 rw [cG,<- hk,EX _ _ ae,Nat.add_sub_cancel_left,List.set_append_left _ _ hi,cG]
theorem rP (pre win post:List Nat) (k i:Nat) (hk:pre.length=k) (hi:i<win.length):(pre++win++post).getD (k+i) 0=win.getD i 0:=by
 rw [cG,<- hk]
 simp [List.getD,s9,hi,show ¬pre.length+i<pre.length by omega]
def rQ (w:World) (g:Nat) (os:List Nat):Prop:=∃cur,w.heap[g]?=some (.cells cur 98 (0,0))/\∀i,i<os.length->cur[i]?=some (.int .u32 (os.getD i 0:Nat))
section
variable {w w':World} {g:Nat} {os:List Nat}
theorem rQ.lt (h:rQ w g os):g<w.heap.size:=by
 obtain ⟨cur,h,_⟩:=h
 exact (uf.1 h).1
theorem rQ.cell (h:rQ w g os) (i:Nat) (hi:i<os.length):w.cell? ⟨g,i,none⟩=some (.int .u32 (os.getD i 0:Nat)):=by
 obtain ⟨cur,h,hc⟩:=h
 rw [cell_of_row w g i _ _ (0,0) h,hc i hi]
theorem rQ.frozen (h:rQ w g os) (i:Nat):w.frozen? ⟨g,i,none⟩=false:=by
 obtain ⟨cur,h,_⟩:=h
 simp [World.frozen?,h]
theorem rQ.set (h:rQ w g os) (i v:Nat):rQ (w.setCell ⟨g,i,none⟩ (.int .u32 (v:Nat))) g (os.set i v):=by
 obtain ⟨cur,h,hc⟩:=h
 refine ⟨cur.setIfInBounds i (.int .u32 (v:Nat)),by simp [World.setCell,sK,h],fun j hj=>?_⟩
 rw [cH] at hj
 have h1:=hc j hj
 by_cases O6:i=j
 ·subst O6
  rw [C8 hj]
  have:=(uf.1 h1).1
  simp [this]
 ·rw [lA O6,<- h1]
  simp [O6]
theorem rQ.qz (h:rQ w g os) (i:Nat) (x:Int) (v:Nat) (hv:x=(v:Nat)):rQ (w.setCell ⟨g,i,none⟩ (.int .u32 x)) g (os.set i v):=by
 rw [hv]; exact h.set i v
theorem rQ.oC (h:rQ w g os) (hb:w'.heap[g]?=w.heap[g]?):rQ w' g os:=by
 obtain ⟨cur,h,hc⟩:=h
 exact ⟨cur,hb.trans h,hc⟩
theorem rQ.below (h:rQ w g os) {B:Nat} (hb:Below B w w') (hg:g<B):rQ w' g os:=h.oC (hb.block g hg)
theorem rQ.take (h:rQ w g os) (n:Nat):rQ w g (os.take n):=by
 obtain ⟨cur,h,hc⟩:=h
 refine ⟨cur,h,fun i hi=>?_⟩
 rw [fg] at hi
 rw [hc i ae]
 congr 3
 simp [List.getD,show i<n by omega]
theorem rQ.u32 (h:rQ w g os) {pre win post:List Nat} {k n c:Nat} (e:os=pre++win++post) (hk:pre.length=k) (hn:win.length=n) (hc:n<=c) (hm:c<=maxLen) (hl:bN 4294967296 win):eT w (some ⟨g,k,none⟩) n c win:=
 ⟨hn,hc,hm,hl,fun _=>⟨g,k,rfl,h.lt,fun i hi=>by
  rw [h.cell (k+i) (by rw [e]; simp; omega),e,rP pre win post k i hk ae]⟩⟩
theorem rQ.whole (h:rQ w g os) {n c:Nat} (hn:os.length=n) (hc:n<=c) (hm:c<=maxLen) (hl:bN 4294967296 os):eT w (bh g) n c os:=
 h.u32 (pre:=[]) (post:=[]) cT rfl hn hc hm hl
end
theorem Own.lst {B:Nat} {w:World} {v:Value} {xs:List Nat} (h:Own B 98 w v xs) (h0:0<xs.length):∃g c,v=.slice (bh g) xs.length c/\xs.length<=c/\c<=maxLen/\B<=g/\rQ w g xs:=by
 obtain ⟨h1,h2⟩:=h
 rcases h2 with ⟨_,hn⟩ | ⟨g,cap,cur,hv,hB,hg,hc,hm,hs,ht⟩
 ·omega
 ·refine ⟨g,cap,hv,hc,hm,hB,cur,hg,fun i hi=>?_⟩
  have h3:(cur.toList.take (xs.length*1))[i]?=(xs.map fun n=>Value.int .u32 (n:Nat))[i]?:=by rw [ht]
  rw [yC,aR ae,k7] at h3
  rw [h3]
  simp [List.getD,hi]
structure vm (g:Nat) (w w':World):Prop where
 os:w'.os=w.os
 tape:w'.tape=w.tape
 output:w'.output=w.output
 size:w.heap.size<=w'.heap.size
 block:∀k,k<w.heap.size->k≠g->w'.heap[k]?=w.heap[k]?
section
variable {w w' w'':World} {g:Nat}
theorem vm.refl (g:Nat) (w:World):vm g w w:=⟨rfl,rfl,rfl,aY _,fun _ _ _=>rfl⟩
theorem vm.trans (h:vm g w w') (k:vm g w' w''):vm g w w'':=
 ⟨k.os.trans h.os,k.tape.trans h.tape,k.output.trans h.output,bq h.size k.size,fun i hi hg=>(k.block i (gw hi h.size) hg).trans (h.block i hi hg)⟩
theorem vm.set (h:vm g w w') {p:Addr} (hp:p.block=g) (u:Value):vm g w (w'.setCell p u):=
 h.trans ⟨rfl,rfl,rfl,by simp [World.setCell],fun k _ hk=>Below.heap_setCell _ _ _ _ ae⟩
theorem vm.drew (h:vm g w w'):vm g w w'.drew:=⟨h.os,h.tape,h.output,h.size,h.block⟩
theorem vm.drewN (h:vm g w w') (n:Nat):vm g w (w'.drewN n):=⟨h.os,h.tape,h.output,h.size,h.block⟩
theorem vm.below {B:Nat} {w0:World} (h:vm g w w') (hb:Below B w0 w) (hg:B<=g) (hs:B<=w.heap.size):Below B w0 w':=
 hb.trans ⟨h.os,h.tape,h.output,h.size,fun k hk=>h.block k ae ae⟩
theorem vm.u32 (h:vm g w w') {A:Option Addr} {n c:Nat} {xs:List Nat} (hx:eT w A n c xs) (hA:∀a,A=some a->a.block≠g):eT w' A n c xs:=
 ⟨hx.len,hx.cap,hx.big,hx.lt,fun hp=>by
  obtain ⟨b,off,rfl,cD,hc⟩:=hx.cells hp
  have hk:=h.block b cD (hA _ rfl)
  exact ⟨b,off,rfl,gw cD h.size,fun i hi=>by rw [<- hc i hi]; exact World.cell?_of_block hk⟩⟩
theorem vm.arr (h:vm g w w') {k:IntKind} {t:TypeId} {g':Nat} {os:List Nat} (ha:oY k t w g' os) (hg:g'≠g):oY k t w' g' os:=(h.block g' ha.lt hg).trans ha
end
theorem eT.far {w:World} {b n c:Nat} {xs:List Nat} (h:eT w (bh b) n c xs) {p:Addr} (hp:b≠p.block) (u:Value):eT (w.setCell p u) (bh b) n c xs:=
 ⟨h.len,h.cap,h.big,h.lt,fun h0=>by
  obtain ⟨b',off,e,cD,hc⟩:=h.cells h0
  cases e
  exact ⟨b,0,rfl,by simp [World.setCell]; exact cD,fun i hi=>by rw [<- hc i hi]; exact World.cell?_of_block (Below.heap_setCell _ _ _ _ hp)⟩⟩
theorem tC {P:Program} {ops:Array Oper} {rest:List Oper} {o:Oper} {a:Act} {Q:Exit->Act->World->Prop} (w:World) (xu:o.guard=none) (s x:Operand) (t:TypeId)
  (ho:o.op=.call { callee:=.builtin .append,args:=#[s,x],argTypes:=#[t,t] })
  (e:TypeId) (bytes:Nat) (ht:P.underlying t=some (.slice e)) (hi:(P.info? e).map (fun i=>(i.zero,i.size,i.bytes))=some (some (.int .u32 0),1,bytes))
  (b n:Nat) (xs:List Nat) (hU:eT w (bh b) n n xs) (m:Nat) (cs:Array Value) (ys:List Nat) (ia:cs=mW .u32 ys) (hm:ys.length=m) (Bn:0<m)
  (hs:a.eval s=.slice (bh b) n n) (hx:a.eval x=.slice (bh w.heap.size) m m)
  (C9:n+m<=maxLen) (vH:(n+m)*bytes<=140737488355328)
  (h:∀v' w',Own (w.heap.size+1) e w' v' (xs++ys)->Below w.heap.size w w'->w.heap.size+1<=w'.heap.size->wpList P ops Q rest (a.put o.dst v') w'):
  wpList P ops Q (o::rest) a (w.alloc (.cells cs e)):=by
 subst ia
 obtain ⟨i,J7,vI⟩:=yA.1 hi
 simp only [ji] at vI
 obtain ⟨hz,mn,Ih⟩:=vI
 have afj:(w.alloc (.cells (mW .u32 ys) e)).heap.size=w.heap.size+1:=by simp
 obtain ⟨v',w',mr,r1,r2⟩:=run_append_arg_grows (w.alloc (.cells (mW .u32 ys) e)) t o.type e i _ 1 bytes ht J7 hz mn Ih rfl ae ⟨b,0,none⟩ n n (xs.map fun n=>Value.int .u32 (n:Nat)) (by simp [hU.len])
  (fun j u hj=>by
   have Od:j<n:=by
    rcases dr j n with h1 | h1
    ·exact h1
    ·rw [dz (by rw [aZ,hU.len]; exact h1)] at hj; cases hj
   obtain ⟨b',off,hA,cD,hc⟩:=hU.cells ae
   cases hA
   have e1:(⟨b,0,none⟩:Addr).add j=⟨b,0+j,none⟩:=by unfold Addr.add; split<;>simp_all
   rw [e1,World.cell?_alloc_lt w _ ⟨b,0+j,none⟩ cD,hc j Od,<- hj]
   simp [List.getD,hU.len,Od])
  ⟨w.heap.size,0,none⟩ m m (ys.map fun n=>Value.int .u32 (n:Nat)) (by simp [hm]) (MF w e ys) ae C9 vH
 refine wpList_plain xu fun K hK=>?_
 unfold Oper.wp
 simp [execOp,ho,resolve,invoke,builtin,hs,hx,mr,Result.andThen]
 refine hK _ _ (h v' w' ?_ ?_ ?_)
 ·rw [afj] at r1
  unfold Own
  rw [je,aP,hU.len,hm]
  exact r1
 ·exact ((Below.refl _ _).alloc (aY _) _).grown r2 ae (fun k hk=>by cases hk)
 ·have:=r2.size; omega
theorem Pn (S:Nat) (h:S<18446744073709551616):bits .and .u64 (S:Int) 4294967295=((S%4294967296:Nat):Int):=by
 rw [show (4294967295:Int)=((4294967295:Nat):Int) from rfl,u64_and_nat S 4294967295 h ae]
 congr 1
 exact Nat.and_two_pow_sub_one_eq_mod S 32
theorem Kk (x lo r:Nat) (hx:x<4294967296) (Dh:lo<4294967296) (hr:r<=1):∃dd r':Nat,IntKind.u64.wrap (IntKind.u64.wrap ((x:Int) - lo) - r)%4294967296=dd/\bits .and .u64 (IntKind.u64.wrap (IntKind.u64.wrap ((x:Int) - lo) - r) / 4294967296) 1=r'/\dd<4294967296/\r'<=1/\dd+lo+r=x+4294967296*r':=by
 rw [IntKind.wrap_u64,IntKind.wrap_u64]
 by_cases h:x<lo+r
 ·refine ⟨x+4294967296 - (lo+r),1,by omega,?_,by omega,by omega,by omega⟩
  rw [xM _ ae ae]
  omega
 ·refine ⟨x - (lo+r),0,by omega,?_,by omega,by omega,by omega⟩
  rw [xM _ ae ae]
  omega
def Po (w:World) (g m:Nat) (pre post:List Nat) (W T:Nat) (e:Ending) (w':World):Prop:=
 ∃os,((T<=W/\e=.returned (.bool false)/\val 4294967296 os+T=W)∨(W<T/\e=.returned (.bool true)/\val 4294967296 os+T=W+4294967296 ^ m))/\
  os.length=m/\bN 4294967296 os/\rQ w' g (pre++os++post)/\vm g w w'
theorem Pp {g k m n c d t:Nat} {A:Option Addr} {pre win post vs:List Nat} {w:World} (hL:rQ w g (pre++win++post)) (hk:pre.length=k) (hm:win.length=m) (hc:m<=c) (hkc:k+c<=maxLen)
  (rO:bN 4294967296 win) (hv:eT w A n d vs) (hA:∀a,A=some a->a.block≠g) (hn:n+1=m) (ht:t<4294967296):
  Calls Tryz.prog 189 #[.slice (some ⟨g,k,none⟩) m c,.slice A n d,.int .u64 t] w (Po w g m pre post (val 4294967296 win) (t*val 4294967296 vs)):=by
 have HK:=Lib.hid (And.intro hk hm)
 have HL:=Lib.hid hL
 have HWL:=Lib.hid rO
 have HV:=Lib.hid hv
 have HAA:=Lib.hid hA
 have hvl:=hv.len
 have HVL:=Lib.hid hvl
 unfold maxLen at hkc
 clear hk hm hL rO hv hA hvl
 go_enter Tryz.func189,Tryz.ntmps189
 go_wp2
 go_loopw [7,8,13] (fun cy br ix wr=>∃(i cc r:Nat) (os:List Nat),i<=m/\ix=.int .i64 i/\cy=.int .u64 cc/\br=.int .u64 r/\cc<4294967296/\r<=1/\
    Hid (os.length=m/\bN 4294967296 os/\(∀j,i<=j->os.getD j 0=win.getD j 0)/\val 4294967296 (os.take i)+t*val 4294967296 (vs.take i)=val 4294967296 (win.take i)+4294967296 ^ i*(cc+r)/\(n<i->cc=0))/\
    Hid (rQ wr g (pre++os++post))/\Hid (vm g w wr)) (fun _ _ ix _=>m - (intOf ix).toNat)
 case atStart=>exact ⟨0,0,0,win,bm _,rfl,rfl,rfl,by omega,by omega,⟨HK.out.2,HWL.out,fun _ _=>rfl,by simp,fun _=>rfl⟩,HL.out,vm.refl _ _⟩
 case round=>
  obtain ⟨i,cc,r,os,hi,rfl,rfl,rfl,OP,hr,HI,HR,HW⟩:=hrel
  by_cases cD:i<m
  ·have U0:i<os.length:=by rw [HI.out.1]; exact cD
   have Oe:wr.cell? ⟨g,k+i,none⟩=some (.int .u32 ((win.getD i 0:Nat):Int)):=by
    rw [HR.out.cell (k+i) (by rw [aP,aP,HK.out.1]; omega),rP pre os post k i HK.out.1 U0,HI.out.2.2.1 i (aY _)]
   have Ht:=HR.out.frozen (k+i)
   have nC:=HWL.out.get ae i
   clear U0
   by_cases wJ:i<n
   ·obtain ⟨b2,MC,rfl,E5,ia⟩:=(HW.out.u32 HV.out HAA.out).cells ae
    have T0:=ia i wJ
    have xw:=HV.out.lt.get ae i
    clear ia
    have hmc:=BK 4294967296 cc (vs.getD i 0) t 0 ae OP xw ht ae
    rw [j7] at hmc
    have hmk:=Pn (cc+vs.getD i 0*t) ae
    obtain ⟨dd,r',ou,gx,hdd,Z5,hde⟩:=Kk (win.getD i 0) ((cc+vs.getD i 0*t)%4294967296) r nC (kx _ ae) hr
    have HS:=fun h=>BL 4294967296 win vs os i t cc r dd r' (by rw [HI.out.1]; exact cD) h hde
    have HS2:=Lib.hid (HS HI.out.2.2.2.1)
    have HB1:=Lib.hid ou
    have ZS:=Lib.hid gx
    rw [Int.natCast_add,oz] at hmk
    clear HS ou gx hde
    generalize win.getD i 0=x at*
    generalize vs.getD i 0=y at*
    generalize (cc+y*t)%4294967296=lo at*
    go_wp2
    go_roundw
    case rel=>
     have h3:=HI.out
     exact ⟨i+1,(cc+y*t) / 4294967296,r',os.set i dd,by omega,by go_num,int_eq (by rw [Int.natCast_ediv,Int.natCast_add,oz]; rfl),int_eq ZS.out,by omega,Z5,⟨by rw [cH]; exact h3.1,h3.2.1.set i hdd,fun j hj=>by rw [lA ae]; exact h3.2.2.1 j ae,HS2.out,fun h=>ae⟩,by rw [<- xP pre os post k i dd HK.out.1 (by rw [h3.1]; exact cD)]; exact HR.out.qz _ _ _ HB1.out,HW.out.set rfl _⟩
    case measure=>simp [intOf]; omega
   ·have hmk:=Pn cc ae
    rw [sN OP] at hmk
    obtain ⟨dd,r',ou,gx,hdd,Z5,hde⟩:=Kk (win.getD i 0) cc r nC OP hr
    have HS:=fun h=>BL 4294967296 win vs os i t cc r dd r' (by rw [HI.out.1]; exact cD) h (by rw [ml (by rw [HVL.out]; omega),J3,j7,sN OP]; exact hde)
    have HS2:=Lib.hid (HS HI.out.2.2.2.1)
    rw [ml (by rw [HVL.out]; omega),J3,j7 cc,qk OP] at HS2
    have HB1:=Lib.hid ou
    have ZS:=Lib.hid gx
    clear HS ou gx hde
    generalize win.getD i 0=x at*
    go_wp2
    go_roundw
    case rel=>
     have h3:=HI.out
     exact ⟨i+1,0,r',os.set i dd,by omega,by go_num,int_eq ae,int_eq ZS.out,by omega,Z5,⟨by rw [cH]; exact h3.1,h3.2.1.set i hdd,fun j hj=>by rw [lA ae]; exact h3.2.2.1 j ae,HS2.out,fun _=>rfl⟩,by rw [<- xP pre os post k i dd HK.out.1 (by rw [h3.1]; exact cD)]; exact HR.out.qz _ _ _ HB1.out,HW.out.set rfl _⟩
    case measure=>simp [intOf]; omega
  ·have h3:=HI.out
   obtain rfl:i=m:=ae
   have h4:=h3.2.2.2.1
   have h5:=k8 h3.2.1
   rw [h3.2.2.2.2 ae,fz,bD (by rw [h3.1]; exact aY _),bD (by rw [HVL.out]; omega),bD (by rw [HK.out.2]; exact aY _)] at h4
   rw [h3.1] at h5
   have HF:=Lib.hid (And.intro h3.1 (And.intro h3.2.1 (And.intro h4 h5)))
   clear h3 h4 h5 HI
   rcases (show r=0∨r=1 by omega) with rfl | rfl
   ·go_wp2
    go_ret
    have h:=HF.out
    exact ⟨os,.inl ⟨by have:=h.2.2.1; omega,rfl,by have:=h.2.2.1; omega⟩,h.1,h.2.1,HR.out,HW.out⟩
   ·go_wp2
    go_ret
    have h:=HF.out
    exact ⟨os,.inr ⟨by have:=h.2.2.1; have:=h.2.2.2; omega,rfl,by have:=h.2.2.1; omega⟩,h.1,h.2.1,HR.out,HW.out⟩
end Go.Proofs.YtgopcdagnicekaaGreatDoor
