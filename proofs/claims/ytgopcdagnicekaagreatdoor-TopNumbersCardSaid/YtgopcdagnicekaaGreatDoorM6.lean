/- More of layer 2: clones, limbs, small numbers. No condition. -/
import Derived.Test.YtgopcdagnicekaaGreatDoorM1
import Derived.Test.YtgopcdagnicekaaGreatDoorM4
import Derived.Test.YtgopcdagnicekaaGreatDoorM5
import Derived.Lib.SliceRun

set_option linter.unusedVariables false
set_option linter.unusedSimpArgs false
set_option linter.all false
namespace Go.Proofs.YtgopcdagnicekaaGreatDoor
open Go.RowKit Anv
theorem Kd {w:World} {t:TypeId} {g:Nat} {cs:Array Value} (ys:List Nat) (hg:g=w.heap.size) (ia:cs=mW .u32 ys) (hl:bN 4294967296 ys) (hm:ys.length<=1000):
  cM (w.alloc (.cells cs t)) (bh g) ys.length ys.length (val 4294967296 ys):=by
 subst hg ia
 have h:oY .u32 t (w.alloc (.cells (mW .u32 ys) t)) w.heap.size ys:=heap_alloc_new w _
 exact ⟨ys,h.u32 hl rfl (by simp only [maxLen]; omega),rfl⟩
theorem Ke {w:World} {t:TypeId} {g:Nat} {a b:Int} (m:Nat) (hg:g=w.heap.size) (hm:m<18446744073709551616) (ha:a=((m%4294967296:Nat):Int)) (hb:b=((m / 4294967296:Nat):Int)):
  cM (w.alloc (.cells #[.int .u32 a,.int .u32 b] t)) (bh g) 2 2 m:=by
 have h:=Kd (t:=t) (cs:=#[.int .u32 a,.int .u32 b]) [m%4294967296,m / 4294967296] hg (by subst ha hb; simp [mW]) (by intro x hx; simp at hx; omega) cT
 have e:val 4294967296 [m%4294967296,m / 4294967296]=m:=by simp; omega
 rw [e] at h
 exact h
theorem cQ {N k:Nat} (h:N<4294967296 ^ k):nl N<=k:=Bg ae h
theorem yU {n:Int} {w:World} (h1:-9223372036854775808<=n) (h2:n<=9223372036854775807):
  Calls Tryz.prog 18 #[.int .i64 n] w fun e w'=>∃v,e=.returned v/\pj w' v n/\Below w.heap.size w w':=by
 by_cases hn:n<0
 ·obtain ⟨m,rfl⟩:∃m:Nat,n=-(m:Int):=⟨n.natAbs,by omega⟩
  have hw:IntKind.u64.wrap (-IntKind.u64.wrap (-(m:Int)))=(m:Int):=by rw [IntKind.wrap_u64,IntKind.wrap_u64]; omega
  have UN:nl m<=1000000:=by have:=cQ (N:=m) (k:=2) ae; omega
  go_enter Tryz.func18,Tryz.ntmps18
  go_wp2_with fail
  refine (OX (b:=true) (N:=m) (Ke m cT ae ae ae) UN).mono ?_
  rintro e w1 ⟨v,rfl,⟨A1,c1,rfl,hz⟩,hb⟩
  have e1:sg true m=-(m:Int):=rfl
  rw [e1] at hz ⊢
  have nB:=ja (jK _ _ _) hb
  have q:=((dO.new w 52 (.bool false) bA).alloc _).below hb (by simp; omega)
  have rL:=q.c0
  have sP:=q.c1
  have H9:=q.f 0
  have Oh:=q.f 1
  have hs:=q.lt
  go_wp2
  exact bodyPost_ret (v:=.agg #[.bool (neg (-(m:Int))),.slice A1 (zl (-(m:Int))) c1]) (by simp [results,Tryz.results18,go_sem,rL,sP]) rfl ⟨_,rfl,⟨_,_,rfl,eT.kD hz rL sP _ _⟩,cI nB (aY _) _ _⟩
 ·obtain ⟨m,rfl⟩:∃m:Nat,n=(m:Int):=⟨n.natAbs,by omega⟩
  have UN:nl m<=1000000:=by have:=cQ (N:=m) (k:=2) ae; omega
  go_enter Tryz.func18,Tryz.ntmps18
  go_wp2_with fail
  refine (OX (b:=false) (N:=m) (Ke m cT ae ae ae) UN).mono ?_
  rintro e w1 ⟨v,rfl,⟨A1,c1,rfl,hz⟩,hb⟩
  have e1:sg false m=(m:Int):=rfl
  rw [e1] at hz ⊢
  have nB:=ja (jK _ _ _) hb
  have q:=((dO.new w 52 (.bool false) bA).alloc _).below hb (by simp; omega)
  have rL:=q.c0
  have sP:=q.c1
  have H9:=q.f 0
  have Oh:=q.f 1
  have hs:=q.lt
  go_wp2
  exact bodyPost_ret (v:=.agg #[.bool (neg (m:Int)),.slice A1 (zl (m:Int)) c1]) (by simp [results,Tryz.results18,go_sem,rL,sP]) rfl ⟨_,rfl,⟨_,_,rfl,eT.kD hz rL sP _ _⟩,cI nB (aY _) _ _⟩
theorem OZ (x y:Int):(if neg x then (if neg y then mU y.natAbs x.natAbs else -1) else if neg y then 1 else mU x.natAbs y.natAbs)=(x - y).sign:=by
 unfold neg mU
 rcases EY (x - y) 0 with h | h | h
 ·rw [Int.sign_eq_neg_one_of_neg h]; (repeat' split)<;>simp_all<;>omega
 ·rw [h]; (repeat' split)<;>simp_all<;>omega
 ·rw [Int.sign_eq_one_of_pos h]; (repeat' split)<;>simp_all<;>omega
theorem ZX (z:Int):zl (-z)=zl z:=by unfold zl; rw [Int.natAbs_neg]
theorem O0 {A B:Option Addr} {c d:Nat} {x y:Int} {w:World} (hx:dK w A c x) (hy:dK w B d y) (hn:zl x<=1000000) (hm:zl y<=1000000):
  Calls Tryz.prog 104 #[.agg #[.bool (neg x),.slice A (zl x) c],.agg #[.bool (neg y),.slice B (zl y) d]] w fun e w'=>∃v,e=.returned v/\pj w' v (x - y)/\Below w.heap.size w w':=by
 go_enter Tryz.func104,Tryz.ntmps104
 go_wp2_with fail
 go_region_held3 (fun w'=>w'.cell? ⟨w.heap.size,0,none⟩=some (.bool (neg x))/\w'.cell? ⟨w.heap.size,1,none⟩=some (.slice A (zl x) c)/\w'.cell? ⟨w.heap.size+1,0,none⟩=some (.bool (neg y))/\w'.cell? ⟨w.heap.size+1,1,none⟩=some (.slice B (zl y) d)) (first | exact ⟨q0.c0,q0.c1,q1.c0,q1.c1⟩ | exact ⟨r0.c0,r0.c1,r1.c0,r1.c1⟩ | exact ⟨(r0.lJ ae _ _).c0,(r0.lJ ae _ _).c1,(r1.lJ ae _ _).c0,(r1.lJ ae _ _).c1⟩ | go_keep)
  (first | (go_at_call 62; refine (OW (dK.below hy (by exact (mV _ _ _ _).drew))).mono ?_; rintro e w1 ⟨v,rfl,⟨A1,c1,rfl,ld⟩,hb⟩; obtain ⟨q0,q1,q2,nB,hs⟩:=vM (vL hb)) | (go_at_call 63; refine (BR (dK.below hx nB) ld hn (by rw [ZX]; exact hm)).mono ?_; rintro e w2 ⟨v2,rfl,⟨A2,c2,rfl,T3⟩,gx⟩; have r0:=q0.below gx q0.lt; have r1:=q1.below gx q1.lt; have r2:=q2.below gx q2.lt; have rL:=r2.c0; have sP:=r2.c1; have H9:=r2.f 0; have Oh:=r2.f 1; have ME:w.heap.size+1+1<w2.heap.size:=by have:=gx.size; omega))
 go_wp2
 rw [<- Int.sub_eq_add_neg] at T3 ⊢
 exact bodyPost_ret (by simp [results,Tryz.results104,go_sem,rL,sP]) rfl ⟨_,rfl,⟨_,_,rfl,eT.kD T3 rL sP _ _⟩,cI (ja nB gx) ae _ _⟩
theorem Yv {A B:Option Addr} {c d:Nat} {x y:Int} {w:World} (hx:dK w A c x) (hy:dK w B d y):
  Calls Tryz.prog 115 #[.agg #[.bool (neg x),.slice A (zl x) c],.agg #[.bool (neg y),.slice B (zl y) d]] w fun e w'=>e=.returned (.int .i64 (x - y).sign)/\Below w.heap.size w w':=by
 have e:=OZ x y
 rw [<- e]
 have ou:=nK x.natAbs y.natAbs
 have gx:=nK y.natAbs x.natAbs
 cases neg x<;>cases neg y
 ·go_enter Tryz.func115,Tryz.ntmps115
  go_wp2_with fail
  refine (mX (cM.below (dK.num hx) (by exact jK _ _ _)) (cM.below (dK.num hy) (by exact jK _ _ _))).mono ?_
  rintro e w1 ⟨rfl,hb⟩
  go_wp2
  go_ret
  exact ⟨rfl,ja (jK _ _ _) hb⟩
 ·go_enter Tryz.func115,Tryz.ntmps115
  go_wp2
  go_ret
  exact ⟨rfl,jK _ _ _⟩
 ·go_enter Tryz.func115,Tryz.ntmps115
  go_wp2
  go_ret
  exact ⟨rfl,jK _ _ _⟩
 ·go_enter Tryz.func115,Tryz.ntmps115
  go_wp2_with fail
  refine (mX (cM.below (dK.num hy) (by exact jK _ _ _)) (cM.below (dK.num hx) (by exact jK _ _ _))).mono ?_
  rintro e w1 ⟨rfl,hb⟩
  go_wp2
  go_ret
  exact ⟨rfl,ja (jK _ _ _) hb⟩
theorem qV {n:Int} (h1:-9223372036854775808<=n) (h2:n<=9223372036854775807):zl n<=2:=cQ ae
theorem Da {A:Option Addr} {c:Nat} {x n:Int} {w:World} (hx:dK w A c x) (hn:zl x<=1000000) (h1:-9223372036854775808<=n) (h2:n<=9223372036854775807):
  Calls Tryz.prog 162 #[.agg #[.bool (neg x),.slice A (zl x) c],.int .i64 n] w fun e w'=>∃v,e=.returned v/\pj w' v (x*n)/\Below w.heap.size w w':=by
 have hm:zl n<=1000000:=by have:=qV h1 h2; omega
 go_enter Tryz.func162,Tryz.ntmps162
 go_wp2_with fail
 go_region_held3 (fun w'=>w'.cell? ⟨w.heap.size,0,none⟩=some (.bool (neg x))/\w'.cell? ⟨w.heap.size,1,none⟩=some (.slice A (zl x) c)) (first | exact ⟨q0.c0,q0.c1⟩ | exact ⟨r0.c0,r0.c1⟩ | exact ⟨(r0.lJ ae _ _).c0,(r0.lJ ae _ _).c1⟩ | go_keep)
  (first | (go_at_call 18; refine (yU h1 h2).mono ?_; rintro e w1 ⟨v,rfl,⟨A1,c1,rfl,ld⟩,hb⟩; obtain ⟨q0,q1,nB,hs⟩:=OT (vL hb)) | (go_at_call 97; refine (Ka (dK.below hx nB) ld hn hm).mono ?_; rintro e w2 ⟨v2,rfl,⟨A2,c2,rfl,T3⟩,gx⟩; have r0:=q0.below gx q0.lt; have r1:=q1.below gx q1.lt; have rL:=r1.c0; have sP:=r1.c1; have H9:=r1.f 0; have Oh:=r1.f 1; have ME:w.heap.size+1<w2.heap.size:=by have:=gx.size; omega))
 go_wp2
 exact bodyPost_ret (by simp [results,Tryz.results162,go_sem,rL,sP]) rfl ⟨_,rfl,⟨_,_,rfl,eT.kD T3 rL sP _ _⟩,cI (ja nB gx) ae _ _⟩
def akk (z:Int):Value:=if -9223372036854775808<=z/\z<=9223372036854775807 then .tuple #[.int .i64 z,.bool true] else .tuple #[.int .i64 0,.bool false]
theorem yV {z:Int} (h:neg z=true):z<0:=by unfold neg at h; simpa using h
theorem vO {z:Int} (h:neg z=false):0<=z:=by unfold neg at h; simpa using h
def D (N:Nat):List Nat:=sw 65536 N
def dn (N:Nat):Nat:=(D N).length
def dl (z:Int):Nat:=dn z.natAbs
theorem akl (N:Nat):bN 65536 (D N):=H5 ae N
theorem O1:D 0=[]:=jj _
theorem wide {xs:List Nat} (h:bN 65536 xs):bN 4294967296 xs:=fun x hx=>by have:=h x hx; omega
theorem UO:dn 0=0:=by unfold dn; rw [O1]; rfl
def Yw (w:World) (A:Option Addr) (c:Nat) (z:Int):Prop:=eT w A (dl z) c (D z.natAbs)
def RAt (w:World) (v:Value) (z:Int):Prop:=∃A c,v=.agg #[.bool (neg z),.slice A (dl z) c]/\Yw w A c z
theorem Yw.below {w w':World} {A:Option Addr} {c:Nat} {z:Int} (h:Yw w A c z) (hb:Below w.heap.size w w'):Yw w' A c z:=eT.below h hb
theorem RAt.below {w w':World} {v:Value} {z:Int} (h:RAt w v z) (hb:Below w.heap.size w w'):RAt w' v z:=by
 obtain ⟨A,c,rfl,hz⟩:=h
 exact ⟨A,c,rfl,hz.below hb⟩
def ae8 (w:World) (A:Option Addr) (c:Nat) (b:Bool) (N:Nat) (e:Ending) (w':World):Prop:=
 e=.returned (.agg #[.bool (neg (sg b N)),.slice A (dl (sg b N)) c])/\Yw w' A c (sg b N)/\Below w.heap.size w w'
theorem UP (z:Int):-1<=z.sign/\z.sign<=1:=by
 rcases EY z 0 with h | h | h
 ·rw [Int.sign_eq_neg_one_of_neg h]; omega
 ·subst h; simp
 ·rw [Int.sign_eq_one_of_pos h]; omega
def akn (xs:List Nat):List Nat:=xs.flatMap fun x=>[x%65536,x / 65536]
def prs (ds:List Nat) (k:Nat):List Nat:=(List.range k).map fun j=>ds.getD (2*j) 0+65536*ds.getD (2*j+1) 0
def ako (ys os:List Nat) (n m k q cc x T:Nat):Prop:=
 os.length=n+m+1/\bN 65536 os/\val 65536 os+65536 ^ (k+q)*cc=T+65536 ^ k*(x*val 65536 (ys.take q))/\
  (∀j,k+m+1<=j->os.getD j 0=0)/\(q<=m->os.getD (k+m) 0=0)/\(q=m+1->cc=0)/\q<=m+1
theorem mo:zl 0=0:=pk
theorem Db:dl 0=0:=UO
theorem neg_zero:neg 0=false:=by unfold neg; simp
theorem R0 (w:World):Yw w none 0 0:=⟨by show (D 0).length=dl 0; rw [O1,Db]; rfl,by rw [Db]; exact aY _,by simp [maxLen],wide (akl _),fun hp=>by rw [Db] at hp; omega⟩
def flat (l:List (Bool×Option Addr×Nat×Nat)):List Value:=l.flatMap fun x=>[.bool x.1,.slice x.2.1 x.2.2.1 x.2.2.2]
def Arg (w:World) (v:Value) (b:Bool) (A:Option Addr) (n c N:Nat):Prop:=v=.agg #[.bool b,.slice A n c]/\cM w A n c N
theorem uA (N:Nat):N<4294967296 ^ nl N:=tm ae N
theorem pn {N M:Nat} (h:N<=M):nl N<=nl M:=yO ae h
theorem UQ {b:Nat} (hb:2<=b) (N M i j:Nat) (h:N<b ^ i) (k:M<b ^ j):N+M<b ^ (i+j+1):=by
 have h1:b ^ i<=b ^ (i+j):=fE ae ae
 have h2:b ^ j<=b ^ (i+j):=fE ae ae
 have h3:=gl (b ^ (i+j)) hb
 rw [iJ]; omega
theorem UR {b:Nat} (_hb:2<=b) (N M i j:Nat) (h:N<b ^ i) (k:M<b ^ j):N*M<b ^ (i+j):=by
 rw [mM]
 exact Nat.mul_lt_mul'' h k
theorem ZY (N M:Nat):nl (N+M)<=nl N+nl M+1:=cQ (UQ ae _ _ _ _ (uA N) (uA M))
theorem O2 (N M:Nat):nl (N*M)<=nl N+nl M:=cQ (UR ae _ _ _ _ (uA N) (uA M))
theorem Z0 (x y:Int):zl (x+y)<=zl x+zl y+1:=bq (pn (Int.natAbs_add_le x y)) (ZY _ _)
theorem Ia (x y:Int):zl (x*y)<=zl x+zl y:=by unfold zl; rw [lH]; exact O2 _ _
theorem Z4 (x:Int):zl (x.natAbs:Int)=zl x:=by unfold zl; rw [yD]
section
variable {x y c:Int}
end
end Go.Proofs.YtgopcdagnicekaaGreatDoor
