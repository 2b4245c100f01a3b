/- A block whose first cells are numbers, written to in place; what a call may change beside it. No condition. -/
import Derived.Test.YtgopcdagnicekaaGreatDoorM5
set_option linter.all false
open Go.Proofs.Tryz
namespace Go.Proofs.YtgopcdagnicekaaGreatDoor
open Go.RowKit Anv
theorem zY (pre win post:List Nat) (k i v:Nat) (hk:pre.length=k) (hi:i<win.length):(pre++win++post).set (k+i) v=pre++win.set i v++post:=by
 rw [aH,<- hk,kg _ _ ae,Nat.add_sub_cancel_left,List.set_append_left _ _ hi,aH]
theorem vc (pre win post:List Nat) (k i:Nat) (hk:pre.length=k) (hi:i<win.length):(pre++win++post).getD (k+i) 0=win.getD i 0:=by
 rw [aH,<- hk]
 simp [List.getD,gn,hi,show ¬pre.length+i<pre.length by omega]
def vd (w:World) (g:Nat) (os:List Nat):Prop:=∃cur,w.heap[g]?=some (.cells cur 98 (0,0))/\∀i,i<os.length->cur[i]?=some (.int .u32 (os.getD i 0:Nat))
variable {B k n c:Nat} {pre win post xs:List Nat} {w:World} {p:Addr} {A:Option Addr}
section
variable {w w':World} {g:Nat} {os:List Nat}
theorem vd.lt (h:vd w g os):g<w.heap.size:=by
 obtain ⟨cur,h,_⟩:=h
 exact (gK.1 h).1
theorem vd.cell (h:vd w g os) (i:Nat) (hi:i<os.length):w.cell? ⟨g,i,none⟩=some (.int .u32 (os.getD i 0:Nat)):=by
 obtain ⟨cur,h,hc⟩:=h
 rw [cell_of_row w g i _ _ (0,0) h,hc i hi]
theorem vd.frozen (h:vd w g os) (i:Nat):w.frozen? ⟨g,i,none⟩=false:=by
 obtain ⟨cur,h,_⟩:=h
 simp [World.frozen?,h]
theorem vd.set (h:vd w g os) (i v:Nat):vd (w.setCell ⟨g,i,none⟩ (.int .u32 (v:Nat))) g (os.set i v):=by
 obtain ⟨cur,h,hc⟩:=h
 refine ⟨cur.setIfInBounds i (.int .u32 (v:Nat)),by simp [World.setCell,eO,h],fun j hj=>?_⟩
 rw [aP] at hj
 have h1:=hc j hj
 by_cases QZ:i=j
 ·subst QZ
  rw [Et hj]
  have:=(gK.1 h1).1
  simp [this]
 ·rw [pn QZ,<- h1]
  simp [QZ]
theorem vd.tJ (h:vd w g os) (i:Nat) (x:Int) (v:Nat) (hv:x=(v:Nat)):vd (w.setCell ⟨g,i,none⟩ (.int .u32 x)) g (os.set i v):=by
 rw [hv]; exact h.set i v
theorem vd.keep (h:vd w g os) (hb:w'.heap[g]?=w.heap[g]?):vd w' g os:=by
 obtain ⟨cur,h,hc⟩:=h
 exact ⟨cur,hb.trans h,hc⟩
theorem vd.below (h:vd w g os) (hb:Below B w w') (hg:g<B):vd w' g os:=h.keep (hb.block g hg)
theorem vd.take (h:vd w g os) (n:Nat):vd w g (os.take n):=by
 obtain ⟨cur,h,hc⟩:=h
 refine ⟨cur,h,fun i hi=>?_⟩
 rw [bJ] at hi
 rw [hc i ae]
 congr 3
 simp [List.getD,show i<n by omega]
theorem vd.u32 (h:vd w g os) (e:os=pre++win++post) (hk:pre.length=k) (hn:win.length=n) (hc:n<=c) (hm:c<=maxLen) (hl:dZ 4294967296 win):kp w (some ⟨g,k,none⟩) n c win:=
 ⟨hn,hc,hm,hl,fun _=>⟨g,k,rfl,h.lt,fun i hi=>by
  rw [h.cell (k+i) (by rw [e]; simp; omega),e,vc pre win post k i hk ae]⟩⟩
theorem vd.whole (h:vd w g os) (hn:os.length=n) (hc:n<=c) (hm:c<=maxLen) (hl:dZ 4294967296 os):kp w (cS g) n c os:=
 h.u32 (pre:=[]) (post:=[]) fW rfl hn hc hm hl
end
theorem Own.lst {v:Value} (h:Own B 98 w v xs) (h0:0<xs.length):∃g c,v=.slice (cS g) xs.length c/\xs.length<=c/\c<=maxLen/\B<=g/\vd w g xs:=by
 obtain ⟨h1,h2⟩:=h
 rcases h2 with ⟨_,hn⟩ | ⟨g,cap,cur,hv,hB,hg,hc,hm,hs,ht⟩
 ·omega
 ·refine ⟨g,cap,hv,hc,hm,hB,cur,hg,fun i hi=>?_⟩
  have h3:(cur.toList.take (xs.length*1))[i]?=(xs.map fun n=>Value.int .u32 (n:Nat))[i]?:=by rw [ht]
  rw [jZ,au ae,dm] at h3
  rw [h3]
  simp [List.getD,hi]
structure yh (g:Nat) (w w':World):Prop where
 os:w'.os=w.os
 tape:w'.tape=w.tape
 output:w'.output=w.output
 size:w.heap.size<=w'.heap.size
 block:∀k,k<w.heap.size->k≠g->w'.heap[k]?=w.heap[k]?
section
variable {w w' w'':World} {g:Nat}
theorem yh.refl (g:Nat) (w:World):yh g w w:=⟨rfl,rfl,rfl,ar _,fun _ _ _=>rfl⟩
theorem yh.trans (h:yh g w w') (k:yh g w' w''):yh g w w'':=
 ⟨k.os.trans h.os,k.tape.trans h.tape,k.output.trans h.output,aD h.size k.size,fun i hi hg=>(k.block i (cl hi h.size) hg).trans (h.block i hi hg)⟩
theorem yh.set (h:yh g w w') (hp:p.block=g) (u:Value):yh g w (w'.setCell p u):=
 h.trans ⟨rfl,rfl,rfl,by simp [World.setCell],fun k _ hk=>Below.heap_setCell _ _ _ _ ae⟩
theorem yh.drew (h:yh g w w'):yh g w w'.drew:=⟨h.os,h.tape,h.output,h.size,h.block⟩
theorem yh.drewN (h:yh g w w') (n:Nat):yh g w (w'.drewN n):=⟨h.os,h.tape,h.output,h.size,h.block⟩
theorem yh.below {w0:World} (h:yh g w w') (hb:Below B w0 w) (hg:B<=g) (hs:B<=w.heap.size):Below B w0 w':=
 hb.trans ⟨h.os,h.tape,h.output,h.size,fun k hk=>h.block k ae ae⟩
theorem yh.u32 (h:yh g w w') (hx:kp w A n c xs) (hA:∀a,A=some a->a.block≠g):kp w' A n c xs:=
 ⟨hx.len,hx.cap,hx.big,hx.lt,fun hp=>by
  obtain ⟨b,off,rfl,fh,hc⟩:=hx.cells hp
  have hk:=h.block b fh (hA _ rfl)
  exact ⟨b,off,I,cl fh h.size,fun i hi=>by rw [<- hc i hi]; exact World.cell?_of_block hk⟩⟩
theorem yh.arr (h:yh g w w') {k:IntKind} {t:TypeId} {g':Nat} {os:List Nat} (ha:sD k t w g' os) (hg:g'≠g):sD k t w' g' os:=(h.block g' ha.lt hg).trans ha
end
theorem kp.far {b:Nat} (h:kp w (cS b) n c xs) (hp:b≠p.block) (u:Value):kp (w.setCell p u) (cS b) n c xs:=
 ⟨h.len,h.cap,h.big,h.lt,fun h0=>by
  obtain ⟨b',off,e,fh,hc⟩:=h.cells h0
  cases e
  exact ⟨b,0,I,by simp [World.setCell]; exact fh,fun i hi=>by rw [<- hc i hi]; exact World.cell?_of_block (Below.heap_setCell _ _ _ _ hp)⟩⟩
theorem wH {P:Program} {ops:Array Oper} {rest:List Oper} {o:Oper} {a:Act} {Q:Exit->Act->World->Prop} (w:World) (zD:o.guard=none) (s x:Operand) (t:TypeId)
 (ho:o.op=.call { callee:=.builtin .append,args:=#[s,x],argTypes:=#[t,t] })
 (e:TypeId) (bytes:Nat) (ht:P.underlying t=some (.slice e)) (hi:(P.info? e).map (fun i=>(i.zero,i.size,i.bytes))=some (some (.int .u32 0),1,bytes))
 (b n:Nat) (xs:List Nat) (hU:kp w (cS b) n n xs) (m:Nat) (cs:Array Value) (ys:List Nat) (mx:cs=qJ .u32 ys) (hm:ys.length=m) (Bt:0<m)
 (hs:a.eval s=.slice (cS b) n n) (hx:a.eval x=.slice (cS w.heap.size) m m)
 (Eu:n+m<=maxLen) (yp:(n+m)*bytes<=140737488355328)
 (h:∀v' w',Own (w.heap.size+1) e w' v' (xs++ys)->Below w.heap.size w w'->w.heap.size+1<=w'.heap.size->wpList P ops Q rest (a.put o.dst v') w'):
  wpList P ops Q (o::rest) a (w.alloc (.cells cs e)):=by
 subst mx
 obtain ⟨i,Jw,xi⟩:=gJ.1 hi
 simp only [cP] at xi
 obtain ⟨hz,qZ,Jy⟩:=xi
 have aho:(w.alloc (.cells (qJ .u32 ys) e)).heap.size=w.heap.size+1:=by simp
 obtain ⟨v',w',pK,r1,r2⟩:=run_append_arg_grows (w.alloc (.cells (qJ .u32 ys) e)) t o.type e i _ 1 bytes ht Jw hz qZ Jy rfl ae ⟨b,0,none⟩ n n (xs.map fun n=>Value.int .u32 (n:Nat)) (by simp [hU.len])
  (fun j u hj=>by
   have Qa:j<n:=by
    rcases aV j n with h1 | h1
    ·exact h1
    ·rw [bg (by rw [aw,hU.len]; exact h1)] at hj; cases hj
   obtain ⟨b',off,hA,fh,hc⟩:=hU.cells ae
   cases hA
   have e1:(⟨b,0,none⟩:Addr).add j=⟨b,0+j,none⟩:=by unfold Addr.add; split<;>simp_all
   rw [e1,World.cell?_alloc_lt w _ ⟨b,0+j,none⟩ fh,hc j Qa,<- hj]
   simp [List.getD,hU.len,Qa])
  ⟨w.heap.size,0,none⟩ m m (ys.map fun n=>Value.int .u32 (n:Nat)) (by simp [hm]) (On w e ys) ae Eu yp
 refine wpList_plain zD fun K hK=>?_
 unfold Oper.wp
 simp [execOp,ho,resolve,invoke,builtin,hs,hx,pK,Result.andThen]
 refine hK _ _ (h v' w' ?_ ?_ ?_)
 ·rw [aho] at r1
  unfold Own
  rw [cD,ai,hU.len,hm]
  exact r1
 ·exact ((Below.refl _ _).alloc (ar _) _).grown r2 ae (fun k hk=>by cases hk)
 ·have:=r2.size; omega
theorem Rh (S:Nat) (h:S<18446744073709551616):bits .and .u64 (S:Int) 4294967295=((S%4294967296:Nat):Int):=by
 rw [show (4294967295:Int)=((4294967295:Nat):Int) from rfl,u64_and_nat S 4294967295 h ae]
 congr 1
 exact Nat.and_two_pow_sub_one_eq_mod S 32
theorem L3 (x lo r:Nat) (hx:x<4294967296) (C5:lo<4294967296) (hr:r<=1):∃dd r':Nat,IntKind.u64.wrap (IntKind.u64.wrap ((x:Int) - lo) - r)%4294967296=dd/\bits .and .u64 (IntKind.u64.wrap (IntKind.u64.wrap ((x:Int) - lo) - r) / 4294967296) 1=r'/\dd<4294967296/\r'<=1/\dd+lo+r=x+4294967296*r':=by
 rw [IntKind.wrap_u64,IntKind.wrap_u64]
 by_cases h:x<lo+r
 ·refine ⟨x+4294967296 - (lo+r),1,by omega,?_,by omega,by omega,by omega⟩
  rw [zV _ ae ae]
  omega
 ·refine ⟨x - (lo+r),0,by omega,?_,by omega,by omega,by omega⟩
  rw [zV _ ae ae]
  omega
def Ri (w:World) (g m:Nat) (pre post:List Nat) (W T:Nat) (e:Ending) (w':World):Prop:=
 ∃os,((T<=W/\e=.returned (.bool false)/\val 4294967296 os+T=W)∨(W<T/\e=.returned (.bool true)/\val 4294967296 os+T=W+4294967296 ^ m))/\
  os.length=m/\dZ 4294967296 os/\vd w' g (pre++os++post)/\yh g w w'
theorem Rj {g m d t:Nat} {vs:List Nat} (hL:vd w g (pre++win++post)) (hk:pre.length=k) (hm:win.length=m) (hc:m<=c) (hkc:k+c<=maxLen)
 (u9:dZ 4294967296 win) (hv:kp w A n d vs) (hA:∀a,A=some a->a.block≠g) (hn:n+1=m) (ht:t<4294967296):
  Calls prog 189 #[.slice (some ⟨g,k,none⟩) m c,.slice A n d,.int .u64 t] w (Ri w g m pre post (val 4294967296 win) (t*val 4294967296 vs)):=by
 have HK:=Lib.hid (And.intro hk hm)
 have HL:=Lib.hid hL
 have HWL:=Lib.hid u9
 have HV:=Lib.hid hv
 have HAA:=Lib.hid hA
 have hvl:=hv.len
 have HVL:=Lib.hid hvl
 unfold maxLen at hkc
 clear hk hm hL u9 hv hA hvl
 go_enter func189,ntmps189
 go_wp2
 go_loopw [7,8,13] (fun cy br ix wr=>∃(i cc r:Nat) (os:List Nat),i<=m/\ix=.int .i64 i/\cy=.int .u64 cc/\br=.int .u64 r/\cc<4294967296/\r<=1/\
    Hid (os.length=m/\dZ 4294967296 os/\(∀j,i<=j->os.getD j 0=win.getD j 0)/\val 4294967296 (os.take i)+t*val 4294967296 (vs.take i)=val 4294967296 (win.take i)+4294967296 ^ i*(cc+r)/\(n<i->cc=0))/\
    Hid (vd wr g (pre++os++post))/\Hid (yh g w wr)) (fun _ _ ix _=>m - (intOf ix).toNat)
 case atStart=>exact ⟨0,0,0,win,av _,rfl,rfl,rfl,by omega,by omega,⟨HK.out.2,HWL.out,fun _ _=>rfl,by simp,fun _=>rfl⟩,HL.out,yh.refl _ _⟩
 case round=>
  obtain ⟨i,cc,r,os,hi,rfl,rfl,rfl,QG,hr,HI,HR,HW⟩:=hrel
  by_cases fh:i<m
  ·have W8:i<os.length:=by rw [HI.out.1]; exact fh
   have Qb:wr.cell? ⟨g,k+i,none⟩=some (.int .u32 ((win.getD i 0:Nat):Int)):=by
    rw [HR.out.cell (k+i) (by rw [ai,ai,HK.out.1]; omega),vc pre os post k i HK.out.1 W8,HI.out.2.2.1 i (ar _)]
   have hfo:=HR.out.frozen (k+i)
   have ri:=HWL.out.get ae i
   clear W8
   by_cases yi:i<n
   ·obtain ⟨b2,Ev,rfl,GQ,mx⟩:=(HW.out.u32 HV.out HAA.out).cells ae
    have V':=mx i yi
    have zF:=HV.out.lt.get ae i
    clear mx
    have hmc:=Dy 4294967296 cc (vs.getD i 0) t 0 ae QG zF ht ae
    rw [dr] at hmc
    have hmk:=Rh (cc+vs.getD i 0*t) ae
    obtain ⟨dd,r',qz,kY,hdd,hr',hde⟩:=L3 (win.getD i 0) ((cc+vs.getD i 0*t)%4294967296) r ri (dF _ ae) hr
    have HS:=fun h=>Dz 4294967296 win vs os i t cc r dd r' (by rw [HI.out.1]; exact fh) h hde
    have HS2:=Lib.hid (HS HI.out.2.2.2.1)
    have HB1:=Lib.hid qz
    have HB2:=Lib.hid kY
    rw [Int.natCast_add,eX] at hmk
    clear HS qz kY hde
    generalize win.getD i 0=x at*
    generalize vs.getD i 0=y at*
    generalize (cc+y*t)%4294967296=lo at*
    go_wp2
    go_roundw
    case rel=>
     have h3:=HI.out
     exact ⟨i+1,(cc+y*t) / 4294967296,r',os.set i dd,by omega,by go_num,int_eq (by rw [Int.natCast_ediv,Int.natCast_add,eX]; rfl),int_eq HB2.out,by omega,hr',⟨by rw [aP]; exact h3.1,h3.2.1.set i hdd,fun j hj=>by rw [pn ae]; exact h3.2.2.1 j ae,HS2.out,fun h=>ae⟩,by rw [<- zY pre os post k i dd HK.out.1 (by rw [h3.1]; exact fh)]; exact HR.out.tJ _ _ _ HB1.out,HW.out.set rfl _⟩
    case measure=>simp [intOf]; omega
   ·have hmk:=Rh cc ae
    rw [fu QG] at hmk
    obtain ⟨dd,r',qz,kY,hdd,hr',hde⟩:=L3 (win.getD i 0) cc r ri QG hr
    have HS:=fun h=>Dz 4294967296 win vs os i t cc r dd r' (by rw [HI.out.1]; exact fh) h (by rw [qj (by rw [HVL.out]; omega),jP,dr,fu QG]; exact hde)
    have HS2:=Lib.hid (HS HI.out.2.2.2.1)
    rw [qj (by rw [HVL.out]; omega),jP,dr cc,fv QG] at HS2
    have HB1:=Lib.hid qz
    have HB2:=Lib.hid kY
    clear HS qz kY hde
    generalize win.getD i 0=x at*
    go_wp2
    go_roundw
    case rel=>
     have h3:=HI.out
     exact ⟨i+1,0,r',os.set i dd,by omega,by go_num,int_eq ae,int_eq HB2.out,by omega,hr',⟨by rw [aP]; exact h3.1,h3.2.1.set i hdd,fun j hj=>by rw [pn ae]; exact h3.2.2.1 j ae,HS2.out,fun _=>rfl⟩,by rw [<- zY pre os post k i dd HK.out.1 (by rw [h3.1]; exact fh)]; exact HR.out.tJ _ _ _ HB1.out,HW.out.set rfl _⟩
    case measure=>simp [intOf]; omega
  ·have h3:=HI.out
   obtain rfl:i=m:=ae
   have h4:=h3.2.2.2.1
   have h5:=oQ h3.2.1
   rw [h3.2.2.2.2 ae,bD,ax (by rw [h3.1]; exact ar _),ax (by rw [HVL.out]; omega),ax (by rw [HK.out.2]; exact ar _)] at h4
   rw [h3.1] at h5
   have HF:=Lib.hid (And.intro h3.1 (And.intro h3.2.1 (And.intro h4 h5)))
   clear h3 h4 h5 HI
   rcases (show r=0∨r=1 by omega) with rfl | rfl
   ·go_wp2
    go_ret
    have h:=HF.out
    exact ⟨os,.inl ⟨by have:=h.2.2.1; omega,rfl,by have:=h.2.2.1; omega⟩,h.1,h.2.1,HR.out,HW.out⟩
   ·go_wp2
    go_ret
    have h:=HF.out
    exact ⟨os,.inr ⟨by have:=h.2.2.1; have:=h.2.2.2; omega,rfl,by have:=h.2.2.1; omega⟩,h.1,h.2.1,HR.out,HW.out⟩
end Go.Proofs.YtgopcdagnicekaaGreatDoor
