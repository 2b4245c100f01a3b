/- More of layer 2: clones, limbs, small numbers. No condition. -/
import Derived.Test.YtgopcdagnicekaaGreatDoorM4
import Derived.Test.YtgopcdagnicekaaGreatDoorM5
set_option linter.all false
open Go.Proofs.Tryz
namespace Go.Proofs.YtgopcdagnicekaaGreatDoor
open Go.RowKit Anv
variable {w w':World} {t:TypeId} {g b N c d:Nat} {n x y z:Int} {A B:Option Addr}
theorem LX {cs:Array Value} (ys:List Nat) (hg:g=w.heap.size) (mx:cs=qJ .u32 ys) (hl:dZ 4294967296 ys) (hm:ys.length<=1000):
  NumIn (w.alloc (.cells cs t)) (cS g) ys.length ys.length (val 4294967296 ys):=by
 subst hg mx
 have h:sD .u32 t (w.alloc (.cells (qJ .u32 ys) t)) w.heap.size ys:=heap_alloc_new w _
 exact ⟨ys,h.u32 hl I (by simp only [maxLen]; omega),rfl⟩
theorem LY {a b:Int} (m:Nat) (hg:g=w.heap.size) (hm:m<18446744073709551616) (ha:a=((m%4294967296:Nat):Int)) (hb:b=((m / 4294967296:Nat):Int)):
  NumIn (w.alloc (.cells #[.int .u32 a,.int .u32 b] t)) (cS g) 2 2 m:=by
 have h:=LX (t:=t) (cs:=#[.int .u32 a,.int .u32 b]) [m%4294967296,m / 4294967296] hg (by subst ha hb; simp [qJ]) (by intro x hx; simp at hx; omega) fW
 have e:val 4294967296 [m%4294967296,m / 4294967296]=m:=by simp; omega
 rw [e] at h
 exact h
theorem gC {k:Nat} (h:N<4294967296 ^ k):nl N<=k:=Dc ae h
theorem Bi (h1:-9223372036854775808<=n) (h2:n<=9223372036854775807):
  Calls prog 18 #[.int .i64 n] w fun e w'=>∃v,e=.returned v/\sL w' v n/\Below w.heap.size w w':=by
 by_cases hn:n<0
 ·obtain ⟨m,rfl⟩:∃m:Nat,n=-(m:Int):=⟨n.natAbs,by omega⟩
  have hw:IntKind.u64.wrap (-IntKind.u64.wrap (-(m:Int)))=(m:Int):=by rw [IntKind.wrap_u64,IntKind.wrap_u64]; omega
  have Qf:nl m<=1000000:=by have:=gC (N:=m) (k:=2) ae; omega
  go_enter func18,ntmps18
  go_wp2_with fail
  refine (QO (b:=true) (N:=m) (LY m fW ae ae ae) Qf).mono ?_
  rintro e w1 ⟨v,rfl,⟨A1,c1,rfl,hz⟩,hb⟩
  have e1:sg true m=-(m:Int):=rfl
  rw [e1] at hz ⊢
  have rh:=mH (nr _ _ _) hb
  have q:=((jb.new w 52 (.bool false) bM).alloc _).below hb (by simp; omega)
  have vK:=q.c0
  have vW:=q.c1
  have JN:=q.f 0
  have Qd:=q.f 1
  have hs:=q.lt
  go_wp2
  exact bodyPost_ret (v:=.agg #[.bool (neg (-(m:Int))),.slice A1 (zl (-(m:Int))) c1]) (by simp [results,results18,go_sem,vK,vW]) I ⟨_,I,⟨_,_,I,kp.od hz vK vW _ _⟩,fE rh (ar _) _ _⟩
 ·obtain ⟨m,rfl⟩:∃m:Nat,n=(m:Int):=⟨n.natAbs,by omega⟩
  have Qf:nl m<=1000000:=by have:=gC (N:=m) (k:=2) ae; omega
  go_enter func18,ntmps18
  go_wp2_with fail
  refine (QO (b:=false) (N:=m) (LY m fW ae ae ae) Qf).mono ?_
  rintro e w1 ⟨v,rfl,⟨A1,c1,rfl,hz⟩,hb⟩
  have e1:sg false m=(m:Int):=rfl
  rw [e1] at hz ⊢
  have rh:=mH (nr _ _ _) hb
  have q:=((jb.new w 52 (.bool false) bM).alloc _).below hb (by simp; omega)
  have vK:=q.c0
  have vW:=q.c1
  have JN:=q.f 0
  have Qd:=q.f 1
  have hs:=q.lt
  go_wp2
  exact bodyPost_ret (v:=.agg #[.bool (neg (m:Int)),.slice A1 (zl (m:Int)) c1]) (by simp [results,results18,go_sem,vK,vW]) I ⟨_,I,⟨_,_,I,kp.od hz vK vW _ _⟩,fE rh (ar _) _ _⟩
theorem QR (x y:Int):(if neg x then (if neg y then qH y.natAbs x.natAbs else -1) else if neg y then 1 else qH x.natAbs y.natAbs)=(x - y).sign:=by
 unfold neg qH
 rcases kj (x - y) 0 with h | h | h
 ·rw [Int.sign_eq_neg_one_of_neg h]; (repeat' split)<;>simp_all<;>omega
 ·rw [h]; (repeat' split)<;>simp_all<;>omega
 ·rw [Int.sign_eq_one_of_pos h]; (repeat' split)<;>simp_all<;>omega
theorem ab0 (z:Int):zl (-z)=zl z:=by unfold zl; rw [Int.natAbs_neg]
theorem QS (hx:iY w A c x) (hy:iY w B d y) (hn:zl x<=1000000) (hm:zl y<=1000000):
  Calls prog 104 #[.agg #[.bool (neg x),.slice A (zl x) c],.agg #[.bool (neg y),.slice B (zl y) d]] w fun e w'=>∃v,e=.returned v/\sL w' v (x - y)/\Below w.heap.size w w':=by
 go_enter func104,ntmps104
 go_wp2_with fail
 go_region_held3 (fun w'=>w'.cell? ⟨w.heap.size,0,none⟩=some (.bool (neg x))/\w'.cell? ⟨w.heap.size,1,none⟩=some (.slice A (zl x) c)/\w'.cell? ⟨w.heap.size+1,0,none⟩=some (.bool (neg y))/\w'.cell? ⟨w.heap.size+1,1,none⟩=some (.slice B (zl y) d)) (first | exact ⟨q0.c0,q0.c1,q1.c0,q1.c1⟩ | exact ⟨r0.c0,r0.c1,r1.c0,r1.c1⟩ | exact ⟨(r0.pC ae _ _).c0,(r0.pC ae _ _).c1,(r1.pC ae _ _).c0,(r1.pC ae _ _).c1⟩ | go_keep)
  (first | (go_at_call 62; refine (QN (iY.below hy (by exact (qI _ _ _ _).drew))).mono ?_; rintro e w1 ⟨v,rfl,⟨A1,c1,rfl,po⟩,hb⟩; obtain ⟨q0,q1,q2,rh,hs⟩:=yu (yr hb)) | (go_at_call 63; refine (DF (iY.below hx rh) po hn (by rw [ab0]; exact hm)).mono ?_; rintro e w2 ⟨v2,rfl,⟨A2,c2,rfl,QT⟩,kY⟩; have r0:=q0.below kY q0.lt; have r1:=q1.below kY q1.lt; have r2:=q2.below kY q2.lt; have vK:=r2.c0; have vW:=r2.c1; have JN:=r2.f 0; have Qd:=r2.f 1; have Qe:w.heap.size+1+1<w2.heap.size:=by have:=kY.size; omega))
 go_wp2
 rw [<- Int.sub_eq_add_neg] at QT ⊢
 exact bodyPost_ret (by simp [results,results104,go_sem,vK,vW]) I ⟨_,I,⟨_,_,I,kp.od QT vK vW _ _⟩,fE (mH rh kY) ae _ _⟩
theorem aau (hx:iY w A c x) (hy:iY w B d y):
  Calls prog 115 #[.agg #[.bool (neg x),.slice A (zl x) c],.agg #[.bool (neg y),.slice B (zl y) d]] w fun e w'=>e=.returned (.int .i64 (x - y).sign)/\Below w.heap.size w w':=by
 have e:=QR x y
 rw [<- e]
 have qz:=rq x.natAbs y.natAbs
 have kY:=rq y.natAbs x.natAbs
 cases neg x<;>cases neg y
 ·go_enter func115,ntmps115
  go_wp2_with fail
  refine (qK (NumIn.below (iY.num hx) (by exact nr _ _ _)) (NumIn.below (iY.num hy) (by exact nr _ _ _))).mono ?_
  rintro e w1 ⟨rfl,hb⟩
  go_wp2
  go_ret
  exact ⟨I,mH (nr _ _ _) hb⟩
 ·go_enter func115,ntmps115
  go_wp2
  go_ret
  exact ⟨I,nr _ _ _⟩
 ·go_enter func115,ntmps115
  go_wp2
  go_ret
  exact ⟨I,nr _ _ _⟩
 ·go_enter func115,ntmps115
  go_wp2_with fail
  refine (qK (NumIn.below (iY.num hy) (by exact nr _ _ _)) (NumIn.below (iY.num hx) (by exact nr _ _ _))).mono ?_
  rintro e w1 ⟨rfl,hb⟩
  go_wp2
  go_ret
  exact ⟨I,mH (nr _ _ _) hb⟩
theorem uf (h1:-9223372036854775808<=n) (h2:n<=9223372036854775807):zl n<=2:=gC ae
theorem Ex (hx:iY w A c x) (hn:zl x<=1000000) (h1:-9223372036854775808<=n) (h2:n<=9223372036854775807):
  Calls prog 162 #[.agg #[.bool (neg x),.slice A (zl x) c],.int .i64 n] w fun e w'=>∃v,e=.returned v/\sL w' v (x*n)/\Below w.heap.size w w':=by
 have hm:zl n<=1000000:=by have:=uf h1 h2; omega
 go_enter func162,ntmps162
 go_wp2_with fail
 go_region_held3 (fun w'=>w'.cell? ⟨w.heap.size,0,none⟩=some (.bool (neg x))/\w'.cell? ⟨w.heap.size,1,none⟩=some (.slice A (zl x) c)) (first | exact ⟨q0.c0,q0.c1⟩ | exact ⟨r0.c0,r0.c1⟩ | exact ⟨(r0.pC ae _ _).c0,(r0.pC ae _ _).c1⟩ | go_keep)
  (first | (go_at_call 18; refine (Bi h1 h2).mono ?_; rintro e w1 ⟨v,rfl,⟨A1,c1,rfl,po⟩,hb⟩; obtain ⟨q0,q1,rh,hs⟩:=QK (yr hb)) | (go_at_call 97; refine (LV (iY.below hx rh) po hn hm).mono ?_; rintro e w2 ⟨v2,rfl,⟨A2,c2,rfl,QT⟩,kY⟩; have r0:=q0.below kY q0.lt; have r1:=q1.below kY q1.lt; have vK:=r1.c0; have vW:=r1.c1; have JN:=r1.f 0; have Qd:=r1.f 1; have Qe:w.heap.size+1<w2.heap.size:=by have:=kY.size; omega))
 go_wp2
 exact bodyPost_ret (by simp [results,results162,go_sem,vK,vW]) I ⟨_,I,⟨_,_,I,kp.od QT vK vW _ _⟩,fE (mH rh kY) ae _ _⟩
def amB (z:Int):Value:=if -9223372036854775808<=z/\z<=9223372036854775807 then .tuple #[.int .i64 z,.bool true] else .tuple #[.int .i64 0,.bool false]
theorem Bj (h:neg z=true):z<0:=by unfold neg at h; simpa using h
theorem yw (h:neg z=false):0<=z:=by unfold neg at h; simpa using h
def D (N:Nat):List Nat:=vI 65536 N
def dn (N:Nat):Nat:=(D N).length
def dl (z:Int):Nat:=dn z.natAbs
theorem amC (N:Nat):dZ 65536 (D N):=JJ ae N
theorem QU:D 0=[]:=mL _
theorem wide {xs:List Nat} (h:dZ 65536 xs):dZ 4294967296 xs:=fun x hx=>by have:=h x hx; omega
theorem WY:dn 0=0:=by unfold dn; rw [QU]; rfl
def RIn (w:World) (A:Option Addr) (c:Nat) (z:Int):Prop:=kp w A (dl z) c (D z.natAbs)
def RAt (w:World) (v:Value) (z:Int):Prop:=∃A c,v=.agg #[.bool (neg z),.slice A (dl z) c]/\RIn w A c z
theorem RIn.below (h:RIn w A c z) (hb:Below w.heap.size w w'):RIn w' A c z:=kp.below h hb
theorem RAt.below {v:Value} (h:RAt w v z) (hb:Below w.heap.size w w'):RAt w' v z:=by
 obtain ⟨A,c,rfl,hz⟩:=h
 exact ⟨A,c,I,hz.below hb⟩
def ahc (w:World) (A:Option Addr) (c:Nat) (b:Bool) (N:Nat) (e:Ending) (w':World):Prop:=
 e=.returned (.agg #[.bool (neg (sg b N)),.slice A (dl (sg b N)) c])/\RIn w' A c (sg b N)/\Below w.heap.size w w'
theorem WZ (z:Int):-1<=z.sign/\z.sign<=1:=by
 rcases kj z 0 with h | h | h
 ·rw [Int.sign_eq_neg_one_of_neg h]; omega
 ·subst h; simp
 ·rw [Int.sign_eq_one_of_pos h]; omega
def halves (xs:List Nat):List Nat:=xs.flatMap fun x=>[x%65536,x / 65536]
def prs (ds:List Nat) (k:Nat):List Nat:=(List.range k).map fun j=>ds.getD (2*j) 0+65536*ds.getD (2*j+1) 0
def amE (ys os:List Nat) (n m k q cc x T:Nat):Prop:=
 os.length=n+m+1/\dZ 65536 os/\val 65536 os+65536 ^ (k+q)*cc=T+65536 ^ k*(x*val 65536 (ys.take q))/\
  (∀j,k+m+1<=j->os.getD j 0=0)/\(q<=m->os.getD (k+m) 0=0)/\(q=m+1->cc=0)/\q<=m+1
theorem qk:zl 0=0:=sM
theorem Ey:dl 0=0:=WY
theorem neg_zero:neg 0=false:=by unfold neg; simp
theorem R0 (w:World):RIn w none 0 0:=⟨by show (D 0).length=dl 0; rw [QU,Ey]; rfl,by rw [Ey]; exact ar _,by simp [maxLen],wide (amC _),fun hp=>by rw [Ey] at hp; omega⟩
def flat (l:List (Bool×Option Addr×Nat×Nat)):List Value:=l.flatMap fun x=>[.bool x.1,.slice x.2.1 x.2.2.1 x.2.2.2]
theorem pD (l:List (Bool×Option Addr×Nat×Nat)):(flat l).length=2*l.length:=by
 induction l with
 | nil=>rfl
 | cons x l ih=>simp [flat] at ih ⊢; omega
theorem Ez (l:List (Bool×Option Addr×Nat×Nat)) (i:Nat) (h:i<l.length):(flat l)[2*i+1]?=some (.slice l[i].2.1 l[i].2.2.1 l[i].2.2.2):=by
 induction l generalizing i with
 | nil=>simp at h
 | cons x l ih=>
  have e:flat (x::l)=.bool x.1::.slice x.2.1 x.2.2.1 x.2.2.2::flat l:=rfl
  rw [e]
  rcases i with _ | i
  ·rfl
  ·have:=ih i (by simpa using h)
   rw [show 2*(i+1)+1=2*i+1+1+1 from ae,List.getElem?_cons_succ,List.getElem?_cons_succ,this]
   rfl
def Arg (w:World) (v:Value) (b:Bool) (A:Option Addr) (n c N:Nat):Prop:=v=.agg #[.bool b,.slice A n c]/\NumIn w A n c N
theorem xz (N:Nat):N<4294967296 ^ nl N:=wq ae N
theorem sN {M:Nat} (h:N<=M):nl N<=nl M:=Bb ae h
theorem W0 (hb:2<=b) (N M i j:Nat) (h:N<b ^ i) (k:M<b ^ j):N+M<b ^ (i+j+1):=by
 have h1:b ^ i<=b ^ (i+j):=bS ae ae
 have h2:b ^ j<=b ^ (i+j):=bS ae ae
 have h3:=bT (b ^ (i+j)) hb
 rw [cT]; omega
theorem W1 (_hb:2<=b) (N M i j:Nat) (h:N<b ^ i) (k:M<b ^ j):N*M<b ^ (i+j):=by
 rw [eh]
 exact Nat.mul_lt_mul'' h k
theorem ab1 (N M:Nat):nl (N+M)<=nl N+nl M+1:=gC (W0 ae _ _ _ _ (xz N) (xz M))
theorem QV (N M:Nat):nl (N*M)<=nl N+nl M:=gC (W1 ae _ _ _ _ (xz N) (xz M))
theorem ab2 (x y:Int):zl (x+y)<=zl x+zl y+1:=aD (sN (Int.natAbs_add_le x y)) (ab1 _ _)
theorem JP (x y:Int):zl (x*y)<=zl x+zl y:=by unfold zl; rw [dL]; exact QV _ _
theorem ab3 (x:Int):zl (x.natAbs:Int)=zl x:=by unfold zl; rw [iS]
section
variable {x y c:Int}
end
end Go.Proofs.YtgopcdagnicekaaGreatDoor
