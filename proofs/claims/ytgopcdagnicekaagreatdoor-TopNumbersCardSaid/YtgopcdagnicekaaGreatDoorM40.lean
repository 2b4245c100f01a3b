/- Package ratio: what its functions leave, over core's Rat. Printed by pv/gen_ratio.py. No condition. -/
import Derived.Test.YtgopcdagnicekaaGreatDoorM1
import Derived.Test.YtgopcdagnicekaaGreatDoorM12
import Derived.Test.YtgopcdagnicekaaGreatDoorM30
import Derived.Test.YtgopcdagnicekaaGreatDoorM10
import Derived.Test.YtgopcdagnicekaaGreatDoorM37
import Derived.Test.YtgopcdagnicekaaGreatDoorM38
import Derived.Test.YtgopcdagnicekaaGreatDoorM39
import Derived.Test.YtgopcdagnicekaaGreatDoorM6

set_option linter.unusedVariables false
set_option linter.unusedSimpArgs false
set_option linter.all false
set_option maxRecDepth 100000
set_option maxHeartbeats 2000000
namespace Go.Proofs.YtgopcdagnicekaaGreatDoor.W
open Go.RowKit Anv Go.Lib
def apX (x:Rat):List UInt8:=if ql x=0 then Cb (qn x) else Cb (qn x)++47::Cb (qd x)
section
variable {N:Nat} {dq:List Deferred} {a:Act} {l:List (Nat×Value)} {w:World} {d:Nat} {ty:TypeId} {pos:String} {af:Array Edge} {gd:Option (Nat×Bool)}
end
theorem L3 (N j:Nat) (hj:j<2):(L N).getD j 0=N / 4294967296 ^ j%4294967296:=by
 rcases ed N with rfl | hp
 ·rw [qT]; simp
 have e:L N=N%4294967296::L (N / 4294967296):=ly ai hp
 rcases (show j=0∨j=1 by omega) with rfl | rfl
 ·rw [e]; simp
 ·rw [e,Nat.pow_one]
  rcases ed (N / 4294967296) with h0 | ua
  ·rw [h0,qT]; simp
  ·have e2:L (N / 4294967296)=(N / 4294967296)%4294967296::L (N / 4294967296 / 4294967296):=ly ai ua
   rw [e2]; simp
theorem Eh (N j:Nat) (hj:j<2):(L N).getD j 0<4294967296:=by rw [L3 N j hj]; exact kx _ ai
theorem L4 {j:Nat} (hj:j<2) (N:Nat):IntKind.u64.wrap (((L N).getD j 0:Nat)*2 ^ (32*j):Int)=(((L N).getD j 0*2 ^ (32*j):Nat):Int):=by
 have h:=Eh N j hj
 generalize (L N).getD j 0=x at*
 rcases (show j=0∨j=1 by omega) with rfl | rfl
 ·rw [IntWalk.u64_in _ (by simp; omega)]; simp
 ·rw [IntWalk.u64_in _ (by simp; omega)]; simp
theorem SP {N j:Nat} (hj:j<2):N%4294967296 ^ j ||| (L N).getD j 0*2 ^ (32*j)=N%4294967296 ^ (j+1):=by
 rw [L3 N j hj]
 rcases (show j=0∨j=1 by omega) with rfl | rfl
 ·simp [Nat.mod_one]
 ·have h2:=Nat.two_pow_add_eq_or_of_lt (i:=32) (b:=N%4294967296) (kx _ ai) (N / 4294967296%4294967296)
  have e:N%4294967296 ^ (1+1)=2 ^ 32*(N / 4294967296%4294967296)+N%4294967296:=by
   show N%18446744073709551616=4294967296*_+_
   omega
  rw [Nat.pow_one,Nat.or_comm,iO,e]
  exact h2.symm
theorem SQ {N j:Nat} (hj:j<2):N%4294967296 ^ j<18446744073709551616/\(L N).getD j 0*2 ^ (32*j)<18446744073709551616:=by
 have h:=Eh N j hj
 generalize (L N).getD j 0=x at*
 rcases (show j=0∨j=1 by omega) with rfl | rfl
 ·exact ⟨by rw [Nat.pow_zero,Nat.mod_one]; decide,by simp; omega⟩
 ·exact ⟨by have:=kx N (show 0<4294967296 ^ 1 by decide); omega,by simp; omega⟩
theorem L5 {P:Program} {N:Nat} {dq:List Deferred} {a:Act} {l:List (Nat×Value)} {w:World} {d:Nat} {ty:TypeId} {pos:String} {af:Array Edge} {gd:Option (Nat×Bool)} {x y:Operand} {T yt m n r:Nat} (h:aW dq N a l) (hx:bV l x=some (.int .u64 (m:Nat))) (hy:bV l y=some (.int .u64 (n:Nat))) (hb:m<18446744073709551616/\n<18446744073709551616) (hr:m ||| n=r):
  (execOp a.eval ⟨some d,.binOp .or T x y yt,ty,pos,af,gd⟩).run P w=.ok (.value (.int .u64 (r:Nat))) w:=by
 refine bg h hx hy ?_
 have e:bits .or .u64 (m:Int) (n:Int)=((r:Nat):Int):=by rw [u64_or_nat m n hb.1 hb.2,hr]
 have e2:(Op.intBits .or .u64 (m:Int) (n:Int):Sem Value).run P w=.ok (.int .u64 ((r:Nat):Int)) w:=by rw [<- e]; rfl
 simp [eqGuard,binOp]
 exact e2
theorem Xf {P:Program} {w:World} (m:Nat):(Op.unary .neg (.int .u64 (m:Nat))).run P w=.ok (.int .u64 (IntKind.u64.wrap (-(m:Int)))) w:=by
 simp only [Op.unary,Op.intArith,Int.zero_sub]
 rfl
theorem SR {z:Int} (hn:neg z=true) (h:-9223372036854775808<=z):IntKind.i64.wrap (IntKind.u64.wrap (-(z.natAbs:Int)))=z:=by
 have h1:=yV hn
 rw [IntKind.wrap_i64,IntKind.wrap_u64]
 omega
theorem Xg {z:Int} (hn:neg z=false) (h:z<=9223372036854775807):IntKind.i64.wrap ((z.natAbs:Nat):Int)=z:=by
 have h1:=vO hn
 rw [IntKind.wrap_i64]
 omega
theorem JD {A:Option Addr} {c:Nat} {z:Int} {w0:World} (hz:dK w0 A c z) (h1:-9223372036854775808<=z) (h2:z<=9223372036854775807) (hn:neg z=true):
  Calls Tryz.prog 19 #[.agg #[.bool (neg z),.slice A (zl z) c]] w0 fun e w'=>e=.returned (.tuple #[.int .i64 z,.bool true])/\Below w0.heap.size w0 w':=by
 have Xh:zl z<=2:=qV h1 h2
 have hsg:z<0:=yV hn
 refine enter Tryz.func19 rfl Tryz.ntmps19 rfl ?_
 intro a η σ
 replace σ:=σ.eO hz trivial
 refine wp_seq (aj ?_)
 refine au rfl (jL (c:=#[.bool (neg z),.slice A (zl z) c]) η σ rfl rfl rfl ?_)
 clear η σ a; intro a w2 g1 η σ
 revert a
 refine aA rfl rfl ?_
 refine aA rfl rfl ?_
 intro a η
 refine wpList_nil (aT (wp_seq (wp_seq (aj ?_))))
 revert a
 refine sA (v:=.pointer (some ⟨g1,1,none⟩)) rfl (fun _ η=>cU η dg (eJ.size) ai rfl) ?_
 refine sA (v:=.slice A (zl z) c) rfl (fun _ η=>aS η eJ rfl σ.dj rfl) ?_
 refine sA (v:=.int .i64 (zl z:Nat)) rfl (fun _ η=>eW η Tryz.underlying50 rfl) ?_
 refine sA (v:=.bool (decide (((zl z:Nat):Int)>(2:Int)))) rfl (fun _ η=>bg η rfl rfl rfl) ?_
 intro a η
 rw [show (decide (((zl z:Nat):Int)>(2:Int)))=false from bR ae] at η
 refine wpList_nil (aT ?_)
 refine oD η rfl (rfl) ?_
 refine wp_skip (aT (wp_seq (aj ?_)))
 refine sv (v:=.int .u64 0) η rfl (aV η rfl) ?_
 clear η a; intro a η
 refine wpList_nil ?_
 rw [show (Value.int .u64 0)=.int .u64 ((z.natAbs%4294967296 ^ 0:Nat):Int) by rw [Nat.pow_zero,Nat.mod_one]; rfl] at η
 refine aT (wp_seq (wp_seq (aj ?_)))
 revert a
 refine sA (v:=.pointer (some ⟨g1,1,none⟩)) rfl (fun _ η=>cU η dg (eJ.size) ai rfl) ?_
 refine sA (v:=.slice A (zl z) c) rfl (fun _ η=>aS η eJ rfl σ.dj rfl) ?_
 refine sA (v:=.int .i64 (zl z:Nat)) rfl (fun _ η=>eW η Tryz.underlying50 rfl) ?_
 refine mA rfl rfl ?_
 intro a η
 refine wpList_nil (aT (wp_block ?_))
 refine wp_loop_ghost (fun mz a w=>∃j:Nat,zl z - j=mz/\Env 47 a [(1,bB g1),(12,.slice A (zl z) c),(13,.int .i64 (zl z:Nat)),(14,.int .i64 (j:Nat)),(4,.int .u64 (z.natAbs%4294967296 ^ j:Nat))]/\St w0 w [bk g1 #[.bool (neg z),.slice A (zl z) c] 52] [BW A c z]/\j<=zl z) _ ⟨0,rfl,η.sub ay,σ.pick [0] [0] ai,(bm _)⟩ ?_
 clear η σ a
 rintro mz a w3 ⟨j,rfl,η,σ,hj⟩
 refine wp_seq (aj ?_)
 refine sv (v:=.bool (decide (((j:Nat):Int)<((zl z:Nat):Int)))) η rfl (bg η rfl rfl rfl) ?_
 clear η a; intro a η
 refine wpList_nil (aT (wp_seq ?_))
 refine dY η rfl (fun P6=>?_) (fun P6=>?_)
 ·have cD:j<zl z:=by have:=bX P6; omega
  have EG:j<2:=ae
  have hsl:=Eh z.natAbs j EG
  refine wp_skip (aT (wp_seq (wp_block (wp_seq (aj ?_)))))
  revert a
  refine mA rfl rfl ?_
  refine sA (v:=.pointer (some ⟨ab A,ao A+j,none⟩)) rfl (fun _ η=>De (i:=j) η Tryz.underlying50 (mF.size) rfl rfl ae (show eT _ A (zl z) c (L z.natAbs) from σ.aU)) ?_
  refine sA (v:=.int .u32 ((L z.natAbs).getD j 0:Nat)) rfl (fun _ η=>y6 η mF rfl ae (show eT _ A (zl z) c (L z.natAbs) from σ.aU)) ?_
  refine aA rfl rfl ?_
  refine aA rfl rfl ?_
  intro a η
  refine wpList_nil (aT (aj ?_))
  revert a
  refine mA rfl rfl ?_
  refine mA rfl rfl ?_
  refine sA (v:=.int .u64 ((L z.natAbs).getD j 0:Nat)) rfl (fun _ η=>iC η rfl Tryz.underlying98 Tryz.underlying96 (IntWalk.u64_in _ ae)) ?_
  refine mA rfl rfl ?_
  refine sA (v:=.int .i64 (32*j:Nat)) rfl (fun _ η=>yX η rfl rfl (by rw [IntWalk.i64_in _ ae]; omega)) ?_
  refine sA (v:=.int .u64 ((L z.natAbs).getD j 0*2 ^ (32*j):Nat)) rfl (fun _ η=>O8 (s:=32*j) η rfl rfl (Km ae) (L4 EG _)) ?_
  refine sA (v:=.int .u64 (z.natAbs%4294967296 ^ (j+1):Nat)) rfl (fun _ η=>L5 η rfl rfl (SQ EG) (SP EG)) ?_
  refine aA rfl rfl ?_
  intro a η
  refine wpList_nil (qA (aT (aj ?_)))
  revert a
  refine sA (v:=.int .i64 (j+1:Nat)) rfl (fun _ η=>im η rfl rfl (by rw [IntWalk.i64_in _ ae]; omega)) ?_
  refine mA rfl rfl ?_
  intro a η
  refine wpList_nil ?_
  exact aT ⟨_,ae,⟨j+1,rfl,η.sub ay,σ.pick [0] [0] ai,ae⟩⟩
 ·obtain rfl:j=zl z:=by have:=fT P6; omega
  rw [show z.natAbs%4294967296 ^ zl z=z.natAbs from sN (uA _)] at η
  refine wp_exit (kW (kW (tt (aT (wp_seq (wp_block (wp_seq (aj ?_))))))))
  revert a
  refine sA (v:=bB g1) rfl (fun _ η=>cU η eK (bQ.size) ai rfl) ?_
  refine sA (v:=.bool (neg z)) rfl (fun _ η=>aS η bQ rfl σ.dj rfl) ?_
  intro a η
  rw [show neg z=true from hn] at η
  revert a
  refine mA rfl rfl ?_
  refine gA (v:=.int .u64 (z.natAbs:Nat)) rfl rfl rfl rfl (fun _ η=>b7 η rfl) ?_
  refine gA (v:=.bool (decide (((z.natAbs:Nat):Int)<=(9223372036854775808:Int)))) rfl rfl rfl rfl (fun _ η=>bg η rfl rfl rfl) ?_
  intro a η
  rw [show (decide (((z.natAbs:Nat):Int)<=(9223372036854775808:Int)))=true from dU ae] at η
  revert a
  refine sA (v:=.bool true) rfl (fun _ η=>ij η rfl rfl) ?_
  refine aA rfl rfl ?_
  intro a η
  refine wpList_nil (aT ?_)
  refine Fc η rfl (rfl) ?_
  refine wp_seq (aj ?_)
  revert a
  refine mA rfl rfl ?_
  refine sA (v:=.int .u64 (IntKind.u64.wrap (-(z.natAbs:Int)))) rfl (fun _ η=>kF η rfl (Xf _)) ?_
  refine sA (v:=.int .i64 z) rfl (fun _ η=>iC η rfl Tryz.underlying96 Tryz.underlying2 (SR hn h1)) ?_
  refine aA rfl rfl ?_
  refine aA rfl rfl ?_
  intro a η
  refine wpList_nil (aT (wp_ret (mZ (j9 ?_))))
  refine leave η (gC Tryz.results19 (RV.tmp η rfl) (RV.tmp η rfl)) ?_
  exact ⟨rfl,σ.below⟩
theorem G5 {A:Option Addr} {c:Nat} {z:Int} {w0:World} (hz:dK w0 A c z) (h1:-9223372036854775808<=z) (h2:z<=9223372036854775807) (hn:neg z=false):
  Calls Tryz.prog 19 #[.agg #[.bool (neg z),.slice A (zl z) c]] w0 fun e w'=>e=.returned (.tuple #[.int .i64 z,.bool true])/\Below w0.heap.size w0 w':=by
 have Xh:zl z<=2:=qV h1 h2
 have hsg:0<=z:=vO hn
 refine enter Tryz.func19 rfl Tryz.ntmps19 rfl ?_
 intro a η σ
 replace σ:=σ.eO hz trivial
 refine wp_seq (aj ?_)
 refine au rfl (jL (c:=#[.bool (neg z),.slice A (zl z) c]) η σ rfl rfl rfl ?_)
 clear η σ a; intro a w2 g1 η σ
 revert a
 refine aA rfl rfl ?_
 refine aA rfl rfl ?_
 intro a η
 refine wpList_nil (aT (wp_seq (wp_seq (aj ?_))))
 revert a
 refine sA (v:=.pointer (some ⟨g1,1,none⟩)) rfl (fun _ η=>cU η dg (eJ.size) ai rfl) ?_
 refine sA (v:=.slice A (zl z) c) rfl (fun _ η=>aS η eJ rfl σ.dj rfl) ?_
 refine sA (v:=.int .i64 (zl z:Nat)) rfl (fun _ η=>eW η Tryz.underlying50 rfl) ?_
 refine sA (v:=.bool (decide (((zl z:Nat):Int)>(2:Int)))) rfl (fun _ η=>bg η rfl rfl rfl) ?_
 intro a η
 rw [show (decide (((zl z:Nat):Int)>(2:Int)))=false from bR ae] at η
 refine wpList_nil (aT ?_)
 refine oD η rfl (rfl) ?_
 refine wp_skip (aT (wp_seq (aj ?_)))
 refine sv (v:=.int .u64 0) η rfl (aV η rfl) ?_
 clear η a; intro a η
 refine wpList_nil ?_
 rw [show (Value.int .u64 0)=.int .u64 ((z.natAbs%4294967296 ^ 0:Nat):Int) by rw [Nat.pow_zero,Nat.mod_one]; rfl] at η
 refine aT (wp_seq (wp_seq (aj ?_)))
 revert a
 refine sA (v:=.pointer (some ⟨g1,1,none⟩)) rfl (fun _ η=>cU η dg (eJ.size) ai rfl) ?_
 refine sA (v:=.slice A (zl z) c) rfl (fun _ η=>aS η eJ rfl σ.dj rfl) ?_
 refine sA (v:=.int .i64 (zl z:Nat)) rfl (fun _ η=>eW η Tryz.underlying50 rfl) ?_
 refine mA rfl rfl ?_
 intro a η
 refine wpList_nil (aT (wp_block ?_))
 refine wp_loop_ghost (fun mz a w=>∃j:Nat,zl z - j=mz/\Env 47 a [(1,bB g1),(12,.slice A (zl z) c),(13,.int .i64 (zl z:Nat)),(14,.int .i64 (j:Nat)),(4,.int .u64 (z.natAbs%4294967296 ^ j:Nat))]/\St w0 w [bk g1 #[.bool (neg z),.slice A (zl z) c] 52] [BW A c z]/\j<=zl z) _ ⟨0,rfl,η.sub ay,σ.pick [0] [0] ai,(bm _)⟩ ?_
 clear η σ a
 rintro mz a w3 ⟨j,rfl,η,σ,hj⟩
 refine wp_seq (aj ?_)
 refine sv (v:=.bool (decide (((j:Nat):Int)<((zl z:Nat):Int)))) η rfl (bg η rfl rfl rfl) ?_
 clear η a; intro a η
 refine wpList_nil (aT (wp_seq ?_))
 refine dY η rfl (fun P6=>?_) (fun P6=>?_)
 ·have cD:j<zl z:=by have:=bX P6; omega
  have EG:j<2:=ae
  have hsl:=Eh z.natAbs j EG
  refine wp_skip (aT (wp_seq (wp_block (wp_seq (aj ?_)))))
  revert a
  refine mA rfl rfl ?_
  refine sA (v:=.pointer (some ⟨ab A,ao A+j,none⟩)) rfl (fun _ η=>De (i:=j) η Tryz.underlying50 (mF.size) rfl rfl ae (show eT _ A (zl z) c (L z.natAbs) from σ.aU)) ?_
  refine sA (v:=.int .u32 ((L z.natAbs).getD j 0:Nat)) rfl (fun _ η=>y6 η mF rfl ae (show eT _ A (zl z) c (L z.natAbs) from σ.aU)) ?_
  refine aA rfl rfl ?_
  refine aA rfl rfl ?_
  intro a η
  refine wpList_nil (aT (aj ?_))
  revert a
  refine mA rfl rfl ?_
  refine mA rfl rfl ?_
  refine sA (v:=.int .u64 ((L z.natAbs).getD j 0:Nat)) rfl (fun _ η=>iC η rfl Tryz.underlying98 Tryz.underlying96 (IntWalk.u64_in _ ae)) ?_
  refine mA rfl rfl ?_
  refine sA (v:=.int .i64 (32*j:Nat)) rfl (fun _ η=>yX η rfl rfl (by rw [IntWalk.i64_in _ ae]; omega)) ?_
  refine sA (v:=.int .u64 ((L z.natAbs).getD j 0*2 ^ (32*j):Nat)) rfl (fun _ η=>O8 (s:=32*j) η rfl rfl (Km ae) (L4 EG _)) ?_
  refine sA (v:=.int .u64 (z.natAbs%4294967296 ^ (j+1):Nat)) rfl (fun _ η=>L5 η rfl rfl (SQ EG) (SP EG)) ?_
  refine aA rfl rfl ?_
  intro a η
  refine wpList_nil (qA (aT (aj ?_)))
  revert a
  refine sA (v:=.int .i64 (j+1:Nat)) rfl (fun _ η=>im η rfl rfl (by rw [IntWalk.i64_in _ ae]; omega)) ?_
  refine mA rfl rfl ?_
  intro a η
  refine wpList_nil ?_
  exact aT ⟨_,ae,⟨j+1,rfl,η.sub ay,σ.pick [0] [0] ai,ae⟩⟩
 ·obtain rfl:j=zl z:=by have:=fT P6; omega
  rw [show z.natAbs%4294967296 ^ zl z=z.natAbs from sN (uA _)] at η
  refine wp_exit (kW (kW (tt (aT (wp_seq (wp_block (wp_seq (aj ?_))))))))
  revert a
  refine sA (v:=bB g1) rfl (fun _ η=>cU η eK (bQ.size) ai rfl) ?_
  refine sA (v:=.bool (neg z)) rfl (fun _ η=>aS η bQ rfl σ.dj rfl) ?_
  intro a η
  rw [show neg z=false from hn] at η
  revert a
  refine mA rfl rfl ?_
  refine kA rfl rfl rfl rfl rfl ?_
  refine kA rfl rfl rfl rfl rfl ?_
  refine sA (v:=.bool false) rfl (fun _ η=>ij η rfl rfl) ?_
  refine aA rfl rfl ?_
  intro a η
  refine wpList_nil (aT ?_)
  refine oD η rfl (rfl) ?_
  refine wp_seq (aj ?_)
  revert a
  refine sA (v:=bB g1) rfl (fun _ η=>cU η eK (bQ.size) ai rfl) ?_
  refine sA (v:=.bool (neg z)) rfl (fun _ η=>aS η bQ rfl σ.dj rfl) ?_
  intro a η
  rw [show neg z=false from hn] at η
  revert a
  refine sA (v:=.bool true) rfl (fun _ η=>kF η rfl rfl) ?_
  refine mA rfl rfl ?_
  refine gA (v:=.int .u64 (z.natAbs:Nat)) rfl rfl rfl rfl (fun _ η=>b7 η rfl) ?_
  refine gA (v:=.bool (decide (((z.natAbs:Nat):Int)<(9223372036854775808:Int)))) rfl rfl rfl rfl (fun _ η=>bg η rfl rfl rfl) ?_
  intro a η
  rw [show (decide (((z.natAbs:Nat):Int)<(9223372036854775808:Int)))=true from dU ae] at η
  revert a
  refine sA (v:=.bool true) rfl (fun _ η=>ij η rfl rfl) ?_
  refine aA rfl rfl ?_
  intro a η
  refine wpList_nil (aT ?_)
  refine Fc η rfl (rfl) ?_
  refine wp_seq (aj ?_)
  revert a
  refine mA rfl rfl ?_
  refine sA (v:=.int .i64 z) rfl (fun _ η=>iC η rfl Tryz.underlying96 Tryz.underlying2 (Xg hn h2)) ?_
  refine aA rfl rfl ?_
  refine aA rfl rfl ?_
  intro a η
  refine wpList_nil (aT (wp_ret (mZ (j9 ?_))))
  refine leave η (gC Tryz.results19 (RV.tmp η rfl) (RV.tmp η rfl)) ?_
  exact ⟨rfl,σ.below⟩
theorem Xi {A:Option Addr} {c:Nat} {z:Int} {w0:World} (hz:dK w0 A c z) (h1:-9223372036854775808<=z) (h2:z<=9223372036854775807):
  Calls Tryz.prog 19 #[.agg #[.bool (neg z),.slice A (zl z) c]] w0 fun e w'=>e=.returned (.tuple #[.int .i64 z,.bool true])/\Below w0.heap.size w0 w':=by
 rcases Bool.eq_false_or_eq_true (neg z) with hn | hn
 ·exact JD hz h1 h2 hn
 ·exact G5 hz h1 h2 hn
end Go.Proofs.YtgopcdagnicekaaGreatDoor.W
