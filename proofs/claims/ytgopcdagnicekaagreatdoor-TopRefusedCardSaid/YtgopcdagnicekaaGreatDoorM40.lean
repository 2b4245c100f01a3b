/- Package ratio: what its functions leave, over core's Rat. Printed by pv/gen_ratio.py. No condition. -/
import Derived.Test.YtgopcdagnicekaaGreatDoorM37
import Derived.Test.YtgopcdagnicekaaGreatDoorM38
import Derived.Test.YtgopcdagnicekaaGreatDoorM39
set_option linter.all false
open Go.Proofs.Tryz
set_option maxRecDepth 100000
set_option maxHeartbeats 2000000
namespace Go.Proofs.YtgopcdagnicekaaGreatDoor.W
open Go.RowKit Anv Go.Lib
def asq (x:Rat):List UInt8:=if ql x=0 then DN (qn x) else DN (qn x)++47::DN (qd x)
section
variable {N:Nat} {dq:List Deferred} {a:Act} {l:List (Nat×Value)} {w:World} {d:Nat} {ty:TypeId} {pos:String} {af:Array Edge} {gd:Option (Nat×Bool)}
end
theorem NJ (N j:Nat) (hj:j<2):(L N).getD j 0=N / 4294967296 ^ j%4294967296:=by
 rcases bu N with rfl | hp
 ·rw [ud]; simp
 have e:L N=N%4294967296::L (N / 4294967296):=pk aB hp
 rcases (show j=0∨j=1 by omega) with rfl | rfl
 ·rw [e]; simp
 ·rw [e,Nat.pow_one]
  rcases bu (N / 4294967296) with h0 | Cp
  ·rw [h0,ud]; simp
  ·have e2:L (N / 4294967296)=(N / 4294967296)%4294967296::L (N / 4294967296 / 4294967296):=pk aB Cp
   rw [e2]; simp
theorem FR (N j:Nat) (hj:j<2):(L N).getD j 0<4294967296:=by rw [NJ N j hj]; exact dF _ aB
variable {j N c:Nat} {P:Program} {w w0:World} {z:Int} {A:Option Addr}
theorem NK (hj:j<2) (N:Nat):IntKind.u64.wrap (((L N).getD j 0:Nat)*2 ^ (32*j):Int)=(((L N).getD j 0*2 ^ (32*j):Nat):Int):=by
 have h:=FR N j hj
 generalize (L N).getD j 0=x at*
 rcases (show j=0∨j=1 by omega) with rfl | rfl
 ·rw [IntWalk.u64_in _ (by simp; omega)]; simp
 ·rw [IntWalk.u64_in _ (by simp; omega)]; simp
theorem UO (hj:j<2):N%4294967296 ^ j ||| (L N).getD j 0*2 ^ (32*j)=N%4294967296 ^ (j+1):=by
 rw [NJ N j hj]
 rcases (show j=0∨j=1 by omega) with rfl | rfl
 ·simp [Nat.mod_one]
 ·have h2:=Nat.two_pow_add_eq_or_of_lt (i:=32) (b:=N%4294967296) (dF _ aB) (N / 4294967296%4294967296)
  have e:N%4294967296 ^ (1+1)=2 ^ 32*(N / 4294967296%4294967296)+N%4294967296:=by
   show N%18446744073709551616=4294967296*_+_
   omega
  rw [Nat.pow_one,Nat.or_comm,cO,e]
  exact h2.symm
theorem UP (hj:j<2):N%4294967296 ^ j<18446744073709551616/\(L N).getD j 0*2 ^ (32*j)<18446744073709551616:=by
 have h:=FR N j hj
 generalize (L N).getD j 0=x at*
 rcases (show j=0∨j=1 by omega) with rfl | rfl
 ·exact ⟨by rw [Nat.pow_zero,Nat.mod_one]; decide,by simp; omega⟩
 ·exact ⟨by have:=dF N (show 0<4294967296 ^ 1 by decide); omega,by simp; omega⟩
theorem NL {dq:List Deferred} {a:Act} {l:List (Nat×Value)} {d:Nat} {ty:TypeId} {pos:String} {af:Array Edge} {gd:Option (Nat×Bool)} {x y:Operand} {T yt m n r:Nat} (h:b7 dq N a l) (hx:eB l x=some (.int .u64 (m:Nat))) (hy:eB l y=some (.int .u64 (n:Nat))) (hb:m<18446744073709551616/\n<18446744073709551616) (hr:m ||| n=r):
  (execOp a.eval ⟨some d,.binOp .or T x y yt,ty,pos,af,gd⟩).run P w=.ok (.value (.int .u64 (r:Nat))) w:=by
 refine cV h hx hy ?_
 have e:bits .or .u64 (m:Int) (n:Int)=((r:Nat):Int):=by rw [u64_or_nat m n hb.1 hb.2,hr]
 have e2:(Op.intBits .or .u64 (m:Int) (n:Int):Sem Value).run P w=.ok (.int .u64 ((r:Nat):Int)) w:=by rw [<- e]; rfl
 simp [eqGuard,binOp]
 exact e2
theorem Zf (m:Nat):(Op.unary .neg (.int .u64 (m:Nat))).run P w=.ok (.int .u64 (IntKind.u64.wrap (-(m:Int)))) w:=by
 simp only [Op.unary,Op.intArith,Int.zero_sub]
 rfl
theorem UQ (hn:neg z=true) (h:-9223372036854775808<=z):IntKind.i64.wrap (IntKind.u64.wrap (-(z.natAbs:Int)))=z:=by
 have h1:=Bj hn
 rw [IntKind.wrap_i64,IntKind.wrap_u64]
 omega
theorem Zg (hn:neg z=false) (h:z<=9223372036854775807):IntKind.i64.wrap ((z.natAbs:Nat):Int)=z:=by
 have h1:=yw hn
 rw [IntKind.wrap_i64]
 omega
theorem Li (hz:iY w0 A c z) (h1:-9223372036854775808<=z) (h2:z<=9223372036854775807) (hn:neg z=true):
  Calls prog 19 #[.agg #[.bool (neg z),.slice A (zl z) c]] w0 fun e w'=>e=.returned (.tuple #[.int .i64 z,.bool true])/\Below w0.heap.size w0 w':=by
 have Zh:zl z<=2:=uf h1 h2
 have hsg:z<0:=Bj hn
 refine enter func19 I ntmps19 I ?_
 intro a η σ
 replace σ:=σ.j8 hz trivial
 refine wp_seq (aI ?_)
 refine aS I (ns (c:=#[.bool (neg z),.slice A (zl z) c]) η σ I I I ?_)
 clear η σ a; intro a w2 g1 η σ
 revert a
 refine aA I I ?_
 refine aA I I ?_
 intro a η
 refine wpList_nil (b5 (wp_seq (wp_seq (aI ?_))))
 revert a
 refine sA (v:=.pointer (some ⟨g1,1,none⟩)) I (fun _ η=>gF η ig (j3.size) aB I) ?_
 refine sA (v:=.slice A (zl z) c) I (fun _ η=>cC η j3 I σ.gq I) ?_
 refine sA (v:=.int .i64 (zl z:Nat)) I (fun _ η=>ky η underlying50 I) ?_
 refine sA (v:=.bool (decide (((zl z:Nat):Int)>(2:Int)))) I (fun _ η=>cV η I I I) ?_
 intro a η
 rw [show (decide (((zl z:Nat):Int)>(2:Int)))=false from aC ae] at η
 refine wpList_nil (b5 ?_)
 refine rV η I (I) ?_
 refine wp_skip (b5 (wp_seq (aI ?_)))
 refine sv (v:=.int .u64 0) η I (cf η I) ?_
 clear η a; intro a η
 refine wpList_nil ?_
 rw [show (Value.int .u64 0)=.int .u64 ((z.natAbs%4294967296 ^ 0:Nat):Int) by rw [Nat.pow_zero,Nat.mod_one]; rfl] at η
 refine b5 (wp_seq (wp_seq (aI ?_)))
 revert a
 refine sA (v:=.pointer (some ⟨g1,1,none⟩)) I (fun _ η=>gF η ig (j3.size) aB I) ?_
 refine sA (v:=.slice A (zl z) c) I (fun _ η=>cC η j3 I σ.gq I) ?_
 refine sA (v:=.int .i64 (zl z:Nat)) I (fun _ η=>ky η underlying50 I) ?_
 refine mA I I ?_
 intro a η
 refine wpList_nil (b5 (wp_block ?_))
 refine wp_loop_ghost (fun mz a w=>∃j:Nat,zl z - j=mz/\Env 47 a [(1,cY g1),(12,.slice A (zl z) c),(13,.int .i64 (zl z:Nat)),(14,.int .i64 (j:Nat)),(4,.int .u64 (z.natAbs%4294967296 ^ j:Nat))]/\St w0 w [bk g1 #[.bool (neg z),.slice A (zl z) c] 52] [DJ A c z]/\j<=zl z) _ ⟨0,I,η.sub aT,σ.pick [0] [0] aB,(av _)⟩ ?_
 clear η σ a
 rintro mz a w3 ⟨j,rfl,η,σ,hj⟩
 refine wp_seq (aI ?_)
 refine sv (v:=.bool (decide (((j:Nat):Int)<((zl z:Nat):Int)))) η I (cV η I I I) ?_
 clear η a; intro a η
 refine wpList_nil (b5 (wp_seq ?_))
 refine jA η I (fun R6=>?_) (fun R6=>?_)
 ·have fh:j<zl z:=by have:=aN R6; omega
  have Gv:j<2:=ae
  have hsl:=FR z.natAbs j Gv
  refine wp_skip (b5 (wp_seq (wp_block (wp_seq (aI ?_)))))
  revert a
  refine mA I I ?_
  refine sA (v:=.pointer (some ⟨ab A,ao A+j,none⟩)) I (fun _ η=>EA (i:=j) η underlying50 (qA.size) I I ae (show kp _ A (zl z) c (L z.natAbs) from σ.bW)) ?_
  refine sA (v:=.int .u32 ((L z.natAbs).getD j 0:Nat)) I (fun _ η=>Br η qA I ae (show kp _ A (zl z) c (L z.natAbs) from σ.bW)) ?_
  refine aA I I ?_
  refine aA I I ?_
  intro a η
  refine wpList_nil (b5 (aI ?_))
  revert a
  refine mA I I ?_
  refine mA I I ?_
  refine sA (v:=.int .u64 ((L z.natAbs).getD j 0:Nat)) I (fun _ η=>dS η I underlying98 underlying96 (IntWalk.u64_in _ ae)) ?_
  refine mA I I ?_
  refine sA (v:=.int .i64 (32*j:Nat)) I (fun _ η=>Bm η I I (by rw [IntWalk.i64_in _ ae]; omega)) ?_
  refine sA (v:=.int .u64 ((L z.natAbs).getD j 0*2 ^ (32*j):Nat)) I (fun _ η=>JT (s:=32*j) η I I (L5 ae) (NK Gv _)) ?_
  refine sA (v:=.int .u64 (z.natAbs%4294967296 ^ (j+1):Nat)) I (fun _ η=>NL η I I (UP Gv) (UO Gv)) ?_
  refine aA I I ?_
  intro a η
  refine wpList_nil (tK (b5 (aI ?_)))
  revert a
  refine sA (v:=.int .i64 (j+1:Nat)) I (fun _ η=>lY η I I (by rw [IntWalk.i64_in _ ae]; omega)) ?_
  refine mA I I ?_
  intro a η
  refine wpList_nil ?_
  exact b5 ⟨_,ae,⟨j+1,I,η.sub aT,σ.pick [0] [0] aB,ae⟩⟩
 ·obtain rfl:j=zl z:=by have:=bP R6; omega
  rw [show z.natAbs%4294967296 ^ zl z=z.natAbs from fu (xz _)] at η
  refine wp_exit (oM (oM (wz (b5 (wp_seq (wp_block (wp_seq (aI ?_))))))))
  revert a
  refine sA (v:=cY g1) I (fun _ η=>gF η j4 (eD.size) aB I) ?_
  refine sA (v:=.bool (neg z)) I (fun _ η=>cC η eD I σ.gq I) ?_
  intro a η
  rw [show neg z=true from hn] at η
  revert a
  refine mA I I ?_
  refine gA (v:=.int .u64 (z.natAbs:Nat)) I I I I (fun _ η=>ff η I) ?_
  refine gA (v:=.bool (decide (((z.natAbs:Nat):Int)<=(9223372036854775808:Int)))) I I I I (fun _ η=>cV η I I I) ?_
  intro a η
  rw [show (decide (((z.natAbs:Nat):Int)<=(9223372036854775808:Int)))=true from a8 ae] at η
  revert a
  refine sA (v:=.bool true) I (fun _ η=>lU η I I) ?_
  refine aA I I ?_
  intro a η
  refine wpList_nil (b5 ?_)
  refine GY η I (I) ?_
  refine wp_seq (aI ?_)
  revert a
  refine mA I I ?_
  refine sA (v:=.int .u64 (IntKind.u64.wrap (-(z.natAbs:Int)))) I (fun _ η=>om η I (Zf _)) ?_
  refine sA (v:=.int .i64 z) I (fun _ η=>dS η I underlying96 underlying2 (UQ hn h1)) ?_
  refine aA I I ?_
  refine aA I I ?_
  intro a η
  refine wpList_nil (b5 (wp_ret (qM (nN ?_))))
  refine leave η (lk results19 (RV.tmp η I) (RV.tmp η I)) ?_
  exact ⟨I,σ.below⟩
theorem I5 (hz:iY w0 A c z) (h1:-9223372036854775808<=z) (h2:z<=9223372036854775807) (hn:neg z=false):
  Calls prog 19 #[.agg #[.bool (neg z),.slice A (zl z) c]] w0 fun e w'=>e=.returned (.tuple #[.int .i64 z,.bool true])/\Below w0.heap.size w0 w':=by
 have Zh:zl z<=2:=uf h1 h2
 have hsg:0<=z:=yw hn
 refine enter func19 I ntmps19 I ?_
 intro a η σ
 replace σ:=σ.j8 hz trivial
 refine wp_seq (aI ?_)
 refine aS I (ns (c:=#[.bool (neg z),.slice A (zl z) c]) η σ I I I ?_)
 clear η σ a; intro a w2 g1 η σ
 revert a
 refine aA I I ?_
 refine aA I I ?_
 intro a η
 refine wpList_nil (b5 (wp_seq (wp_seq (aI ?_))))
 revert a
 refine sA (v:=.pointer (some ⟨g1,1,none⟩)) I (fun _ η=>gF η ig (j3.size) aB I) ?_
 refine sA (v:=.slice A (zl z) c) I (fun _ η=>cC η j3 I σ.gq I) ?_
 refine sA (v:=.int .i64 (zl z:Nat)) I (fun _ η=>ky η underlying50 I) ?_
 refine sA (v:=.bool (decide (((zl z:Nat):Int)>(2:Int)))) I (fun _ η=>cV η I I I) ?_
 intro a η
 rw [show (decide (((zl z:Nat):Int)>(2:Int)))=false from aC ae] at η
 refine wpList_nil (b5 ?_)
 refine rV η I (I) ?_
 refine wp_skip (b5 (wp_seq (aI ?_)))
 refine sv (v:=.int .u64 0) η I (cf η I) ?_
 clear η a; intro a η
 refine wpList_nil ?_
 rw [show (Value.int .u64 0)=.int .u64 ((z.natAbs%4294967296 ^ 0:Nat):Int) by rw [Nat.pow_zero,Nat.mod_one]; rfl] at η
 refine b5 (wp_seq (wp_seq (aI ?_)))
 revert a
 refine sA (v:=.pointer (some ⟨g1,1,none⟩)) I (fun _ η=>gF η ig (j3.size) aB I) ?_
 refine sA (v:=.slice A (zl z) c) I (fun _ η=>cC η j3 I σ.gq I) ?_
 refine sA (v:=.int .i64 (zl z:Nat)) I (fun _ η=>ky η underlying50 I) ?_
 refine mA I I ?_
 intro a η
 refine wpList_nil (b5 (wp_block ?_))
 refine wp_loop_ghost (fun mz a w=>∃j:Nat,zl z - j=mz/\Env 47 a [(1,cY g1),(12,.slice A (zl z) c),(13,.int .i64 (zl z:Nat)),(14,.int .i64 (j:Nat)),(4,.int .u64 (z.natAbs%4294967296 ^ j:Nat))]/\St w0 w [bk g1 #[.bool (neg z),.slice A (zl z) c] 52] [DJ A c z]/\j<=zl z) _ ⟨0,I,η.sub aT,σ.pick [0] [0] aB,(av _)⟩ ?_
 clear η σ a
 rintro mz a w3 ⟨j,rfl,η,σ,hj⟩
 refine wp_seq (aI ?_)
 refine sv (v:=.bool (decide (((j:Nat):Int)<((zl z:Nat):Int)))) η I (cV η I I I) ?_
 clear η a; intro a η
 refine wpList_nil (b5 (wp_seq ?_))
 refine jA η I (fun R6=>?_) (fun R6=>?_)
 ·have fh:j<zl z:=by have:=aN R6; omega
  have Gv:j<2:=ae
  have hsl:=FR z.natAbs j Gv
  refine wp_skip (b5 (wp_seq (wp_block (wp_seq (aI ?_)))))
  revert a
  refine mA I I ?_
  refine sA (v:=.pointer (some ⟨ab A,ao A+j,none⟩)) I (fun _ η=>EA (i:=j) η underlying50 (qA.size) I I ae (show kp _ A (zl z) c (L z.natAbs) from σ.bW)) ?_
  refine sA (v:=.int .u32 ((L z.natAbs).getD j 0:Nat)) I (fun _ η=>Br η qA I ae (show kp _ A (zl z) c (L z.natAbs) from σ.bW)) ?_
  refine aA I I ?_
  refine aA I I ?_
  intro a η
  refine wpList_nil (b5 (aI ?_))
  revert a
  refine mA I I ?_
  refine mA I I ?_
  refine sA (v:=.int .u64 ((L z.natAbs).getD j 0:Nat)) I (fun _ η=>dS η I underlying98 underlying96 (IntWalk.u64_in _ ae)) ?_
  refine mA I I ?_
  refine sA (v:=.int .i64 (32*j:Nat)) I (fun _ η=>Bm η I I (by rw [IntWalk.i64_in _ ae]; omega)) ?_
  refine sA (v:=.int .u64 ((L z.natAbs).getD j 0*2 ^ (32*j):Nat)) I (fun _ η=>JT (s:=32*j) η I I (L5 ae) (NK Gv _)) ?_
  refine sA (v:=.int .u64 (z.natAbs%4294967296 ^ (j+1):Nat)) I (fun _ η=>NL η I I (UP Gv) (UO Gv)) ?_
  refine aA I I ?_
  intro a η
  refine wpList_nil (tK (b5 (aI ?_)))
  revert a
  refine sA (v:=.int .i64 (j+1:Nat)) I (fun _ η=>lY η I I (by rw [IntWalk.i64_in _ ae]; omega)) ?_
  refine mA I I ?_
  intro a η
  refine wpList_nil ?_
  exact b5 ⟨_,ae,⟨j+1,I,η.sub aT,σ.pick [0] [0] aB,ae⟩⟩
 ·obtain rfl:j=zl z:=by have:=bP R6; omega
  rw [show z.natAbs%4294967296 ^ zl z=z.natAbs from fu (xz _)] at η
  refine wp_exit (oM (oM (wz (b5 (wp_seq (wp_block (wp_seq (aI ?_))))))))
  revert a
  refine sA (v:=cY g1) I (fun _ η=>gF η j4 (eD.size) aB I) ?_
  refine sA (v:=.bool (neg z)) I (fun _ η=>cC η eD I σ.gq I) ?_
  intro a η
  rw [show neg z=false from hn] at η
  revert a
  refine mA I I ?_
  refine kA I I I I I ?_
  refine kA I I I I I ?_
  refine sA (v:=.bool false) I (fun _ η=>lU η I I) ?_
  refine aA I I ?_
  intro a η
  refine wpList_nil (b5 ?_)
  refine rV η I (I) ?_
  refine wp_seq (aI ?_)
  revert a
  refine sA (v:=cY g1) I (fun _ η=>gF η j4 (eD.size) aB I) ?_
  refine sA (v:=.bool (neg z)) I (fun _ η=>cC η eD I σ.gq I) ?_
  intro a η
  rw [show neg z=false from hn] at η
  revert a
  refine sA (v:=.bool true) I (fun _ η=>om η I I) ?_
  refine mA I I ?_
  refine gA (v:=.int .u64 (z.natAbs:Nat)) I I I I (fun _ η=>ff η I) ?_
  refine gA (v:=.bool (decide (((z.natAbs:Nat):Int)<(9223372036854775808:Int)))) I I I I (fun _ η=>cV η I I I) ?_
  intro a η
  rw [show (decide (((z.natAbs:Nat):Int)<(9223372036854775808:Int)))=true from a8 ae] at η
  revert a
  refine sA (v:=.bool true) I (fun _ η=>lU η I I) ?_
  refine aA I I ?_
  intro a η
  refine wpList_nil (b5 ?_)
  refine GY η I (I) ?_
  refine wp_seq (aI ?_)
  revert a
  refine mA I I ?_
  refine sA (v:=.int .i64 z) I (fun _ η=>dS η I underlying96 underlying2 (Zg hn h2)) ?_
  refine aA I I ?_
  refine aA I I ?_
  intro a η
  refine wpList_nil (b5 (wp_ret (qM (nN ?_))))
  refine leave η (lk results19 (RV.tmp η I) (RV.tmp η I)) ?_
  exact ⟨I,σ.below⟩
theorem Zi (hz:iY w0 A c z) (h1:-9223372036854775808<=z) (h2:z<=9223372036854775807):
  Calls prog 19 #[.agg #[.bool (neg z),.slice A (zl z) c]] w0 fun e w'=>e=.returned (.tuple #[.int .i64 z,.bool true])/\Below w0.heap.size w0 w':=by
 rcases Bool.eq_false_or_eq_true (neg z) with hn | hn
 ·exact Li hz h1 h2 hn
 ·exact I5 hz h1 h2 hn
end Go.Proofs.YtgopcdagnicekaaGreatDoor.W
