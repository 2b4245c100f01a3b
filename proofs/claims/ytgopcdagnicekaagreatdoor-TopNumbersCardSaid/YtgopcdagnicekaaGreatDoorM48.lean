/- math/bits.TrailingZeros32 over its table. No condition but the table's cells. -/
import Derived.Test.YtgopcdagnicekaaGreatDoorM1
import Derived.Test.YtgopcdagnicekaaGreatDoorM12
import Derived.Test.YtgopcdagnicekaaGreatDoorM26
import Derived.Shelf.Spec.TrailingZeros
import Derived.Test.YtgopcdagnicekaaGreatDoorM30

set_option linter.unusedVariables false
set_option linter.unusedSimpArgs false
set_option linter.all false
set_option maxRecDepth 100000
set_option maxHeartbeats 4000000
namespace Go.Proofs.YtgopcdagnicekaaGreatDoor
open Go.RowKit Anv Go.Shelf
def ve (w:World):Prop:=∀j,j<32->w.cell? ⟨0,j,none⟩=some (.int .u8 (Lib.deBruijn32tab.getD j 0:Nat))
theorem ve.lt {w:World} (h:ve w):0<w.heap.size:=block_lt_of_cell (h 0 ae)
def pfT:PF:=⟨ve,fun b=>b=0,fun h e=>by subst e; exact h.lt,fun h _ hk j hj=>(World.cell?_of_block (hk 0 rfl)).trans (h j hj)⟩
theorem St.adl {w0 w:World} {own:List Bk} {ps:List PF} (h:St w0 w own ps) (ht:ve w0) (hw:ve w):St w0 w own (pfT::ps):=
 h.iB pfT hw (h.Yy pfT fun b hb=>by subst hb; exact ht.lt)
theorem Xv (x k idx:Nat) (w:World) (xv:((x:Int)==0)=false)
  (key:bits BinOp.and IntKind.u32 (x:Int) (-(x:Int)%4294967296)*125613361%4294967296 / 134217728=(idx:Int))
  (hi:idx<32) (hk:k<32) (nM:w.cell? ⟨0,idx,none⟩=some (.int .u8 k)):
  Calls Tryz.prog 169 #[.int .u32 x] w fun e w'=>e=.returned (.int .i64 k)/\w'=w:=by
 go_enter Tryz.func169,Tryz.ntmps169
 go_wp2_with (simp only [key])
 go_ret
 exact ⟨rfl,rfl⟩
theorem S6 {x:Nat} (h0:x≠0) (hx:x<4294967296):vd x (Lib.ctz 32 x):=by
 unfold Lib.ctz
 rw [aQ h0]
 obtain ⟨m,hm,_⟩:=Lib.ctzFrom_spec 32 x ae hx
 exact Mb hm
theorem anG {x:Nat} {w:World} (h0:x≠0) (hx:x<4294967296) (hT:ve w):
  Calls Tryz.prog 169 #[.int .u32 x] w fun e w'=>∃k:Nat,e=.returned (.int .i64 k)/\vd x k/\k<32/\Below w.heap.size w w':=by
 obtain ⟨tB,hk⟩:=Lib.lowest_bit 32 x h0 hx
 obtain ⟨hi,anH⟩:=Lib.deBruijn32_at _ hk
 have nM:=hT _ hi
 rw [anH] at nM
 refine (Xv x _ _ w (by simp; omega) (tz32_key x _ hx h0 tB) hi hk nM).mono ?_
 rintro e w' ⟨rfl,rfl⟩
 exact ⟨_,rfl,S6 h0 hx,hk,Below.refl _ _⟩
theorem NV {xs:List Nat} {j:Nat} (hj:j<xs.length) (h:∀i,i<j->xs.getD i 0=0):∃r,val 4294967296 xs=4294967296 ^ j*(xs.getD j 0+4294967296*r):=by
 induction xs generalizing j with
 | nil=>simp at hj
 | cons x xs ih=>
  rcases j with _ | j
  ·exact ⟨val 4294967296 xs,by simp⟩
  ·have h0:=h 0 ae
   simp at h0
   obtain ⟨r,hr⟩:=ih (by simpa using hj) fun i hi=>by simpa using h (i+1) ae
   refine ⟨r,?_⟩
   rw [ky,h0,hr,fz,iJ,iK,List.getD_cons_succ,<- iK,iO 4294967296 (4294967296 ^ j),iK]
theorem S7 {xs:List Nat} (h:∀i,i<xs.length->xs.getD i 0=0):val 4294967296 xs=0:=by
 induction xs with
 | nil=>rfl
 | cons x xs ih=>
  have h0:=h 0 cT
  simp at h0
  rw [ky,h0,ih fun i hi=>by simpa using h (i+1) (by simpa using hi)]
open Go.RowKit Anv
theorem S8 {w:World} {A:Option Addr} {n c i:Nat} {xs:List Nat} (h:eT w A n c xs) (hi:i<n):xs.getD i 0<4294967296:=by
 have hl:i<xs.length:=by rw [h.len]; exact hi
 have:=h.lt xs[i] (mS hl)
 simpa [List.getD,hl] using this
theorem JL {xs:List Nat} {j:Nat} (hz:∀i,i<j->xs.getD i 0=0) (h0:xs.getD j 0=0):∀i,i<j+1->xs.getD i 0=0:=fun i hi=>by
 rcases Nat.lt_succ_iff_lt_or_eq.1 hi with h | h
 ·exact hz i h
 ·rw [h]; exact h0
theorem S9 {A:Option Addr} {n c:Nat} {xs:List Nat} {w0:World} (h:eT w0 A n c xs) (hn:n<=1000000) (hT:ve w0):
  Calls Tryz.prog 247 #[.slice A n c] w0 fun e w'=>∃k:Nat,e=.returned (.int .i64 k)/\(val 4294967296 xs≠0->vd (val 4294967296 xs) k)/\(val 4294967296 xs=0->k=0)/\Below w0.heap.size w0 w':=by
 refine enter Tryz.func247 rfl Tryz.ntmps247 rfl ?_
 intro a η σ
 have hu:=h
 have hmx:n<=9223372036854775807:=by have:=bq h.cap h.big; unfold maxLen at this; omega
 replace σ:=(σ.adl hT hT).MM h rfl
 clear h
 refine wp_seq (aj ?_)
 refine au rfl (aX (v:=.int .i64 0) η rfl (aV η rfl) ?_)
 clear η a; intro a η
 refine wpList_nil (aT (wp_seq (wp_seq (aj ?_))))
 refine au rfl (aX (v:=.slice A n c) η rfl (b7 η rfl) ?_)
 clear η a; intro a η
 refine au rfl (aX (v:=.int .i64 (n:Nat)) η rfl (eW η Tryz.underlying50 rfl) ?_)
 clear η a; intro a η
 refine au rfl (aX (v:=.int .i64 0) η rfl (b7 η rfl) ?_)
 clear η a; intro a η
 refine wpList_nil (aT (wp_block ?_))
 refine wp_loop_ghost (fun mz a w=>∃j:Nat,n - j=mz/\Env 20 a [(0,.slice A n c),(5,.slice A n c),(6,.int .i64 (n:Nat)),(7,.int .i64 (j:Nat))]/\St w0 w [] [UT A n c xs,pfT]/\j<=n/\∀i,i<j->xs.getD i 0=0) _ ⟨0,rfl,η.sub ⟨rfl,rfl,rfl,rfl,trivial⟩,σ.pick [] [0,1] ai,(bm _),(fun i hi=>absurd hi (ks _))⟩ ?_
 clear η σ a
 rintro mz a w1 ⟨j,rfl,η,σ,hj,hz⟩
 refine wp_seq (aj ?_)
 refine au rfl (aX (v:=.bool (decide (((j:Nat):Int)<((n:Nat):Int)))) η rfl (bg η rfl rfl rfl) ?_)
 clear η a; intro a η
 refine wpList_nil (aT (wp_seq ?_))
 refine dY η rfl (fun xx=>?_) (fun xx=>?_)
 ·have cD:j<n:=by have:=bX xx; omega
  refine wp_skip (aT (wp_seq (wp_block (wp_seq (aj ?_)))))
  refine au rfl (aX (v:=.int .i64 (j:Nat)) η rfl (b7 η rfl) ?_)
  clear η a; intro a η
  refine au rfl (aX (v:=.pointer (some ⟨ab A,ao A+j,none⟩)) η rfl (De (i:=j) η Tryz.underlying50 (mF.size) rfl rfl ae (show eT _ A n c xs from (σ.pat (k:=0) rfl))) ?_)
  clear η a; intro a η
  refine au rfl (aX (v:=.int .u32 (xs.getD j 0:Nat)) η rfl (y6 η mF rfl ae (show eT _ A n c xs from (σ.pat (k:=0) rfl))) ?_)
  clear η a; intro a η
  refine au rfl (aX (v:=.int .i64 (j:Nat)) η rfl (aV η rfl) ?_)
  clear η a; intro a η
  refine au rfl (aX (v:=.int .u32 (xs.getD j 0:Nat)) η rfl (aV η rfl) ?_)
  clear η a; intro a η
  refine wpList_nil (aT (wp_seq (aj ?_)))
  refine au rfl (aX (v:=.int .u32 (xs.getD j 0:Nat)) η rfl (b7 η rfl) ?_)
  clear η a; intro a η
  refine au rfl (aX (v:=.bool (decide (((xs.getD j 0:Nat):Int)>(0:Int)))) η rfl (bg η rfl rfl rfl) ?_)
  clear η a; intro a η
  refine wpList_nil (aT ?_)
  refine dY η rfl (fun M6=>?_) (fun M6=>?_)
  ·have xv:xs.getD j 0≠0:=by have:=bX M6; omega
   have H7:xs.getD j 0<4294967296:=S8 hu cD
   refine wp_seq (aj ?_)
   refine au rfl (aX (v:=.int .i64 (j:Nat)) η rfl (b7 η rfl) ?_)
   clear η a; intro a η
   refine au rfl (aX (v:=.int .i64 (32*j:Nat)) η rfl (yX η rfl rfl (by rw [IntWalk.i64_in _ ae]; omega)) ?_)
   clear η a; intro a η
   refine au rfl (aX (v:=.int .u32 (xs.getD j 0:Nat)) η rfl (b7 η rfl) ?_)
   clear η a; intro a η
   refine au rfl (cV η rfl Tryz.call169 rfl (anG (x:=xs.getD j 0) xv H7 (show ve _ from σ.pat (k:=1) rfl)) ?_)
   rintro e w5 ⟨k4,rfl,PK,hq,hb⟩
   refine ⟨_,rfl,?_⟩
   clear η a; intro a η
   replace σ:=σ.call hb
   clear hb
   refine au rfl (aX (v:=.int .i64 ((32*j)+k4:Nat)) η rfl (im η rfl rfl (by rw [IntWalk.i64_in _ ae]; omega)) ?_)
   clear η a; intro a η
   refine au rfl (aX (v:=.int .i64 ((32*j)+k4:Nat)) η rfl (aV η rfl) ?_)
   clear η a; intro a η
   refine wpList_nil (aT (wp_ret (mZ (j9 (j9 (mZ (j9 ?_)))))))
   refine leave η (dA Tryz.results247 (RV.tmp η rfl)) ?_
   obtain ⟨r,hr⟩:=NV (by rw [hu.len]; exact cD) hz
   exact ⟨_,rfl,fun _=>CI H7 hr PK,fun h=>absurd h (CI H7 hr PK).pos,σ.below⟩
  ·have xv:xs.getD j 0=0:=by have:=fT M6; omega
   refine wp_skip (qA (aT (aj ?_)))
   refine au rfl (aX (v:=.int .i64 (j+1:Nat)) η rfl (im η rfl rfl (by rw [IntWalk.i64_in _ ae]; omega)) ?_)
   clear η a; intro a η
   refine au rfl (aX (v:=.int .i64 (j+1:Nat)) η rfl (b7 η rfl) ?_)
   clear η a; intro a η
   refine wpList_nil ?_
   exact aT ⟨_,ae,⟨j+1,rfl,η.sub ⟨rfl,rfl,rfl,rfl,trivial⟩,σ.pick [] [0,1] ai,ae,(JL hz xv)⟩⟩
 ·have hjn:n<=j:=by have:=fT xx; omega
  refine wp_exit (kW (kW (tt (aT (wp_seq (aj ?_))))))
  refine au rfl (aX (v:=.int .i64 0) η rfl (aV η rfl) ?_)
  clear η a; intro a η
  refine wpList_nil (aT (wp_ret ?_))
  refine leave η (dA Tryz.results247 (RV.tmp η rfl)) ?_
  exact ⟨0,rfl,fun h=>absurd (S7 fun i hi=>hz i (by rw [hu.len] at hi; omega)) h,fun _=>rfl,σ.below⟩
theorem adm {A:Option Addr} {c:Nat} {x:Int} {w0:World} (hx:dK w0 A c x) (hn:zl x<=1000000) (xv:x≠0) (hT:ve w0):
  Calls Tryz.prog 239 #[.agg #[.bool (neg x),.slice A (zl x) c]] w0 fun e w'=>∃k:Nat,e=.returned (.int .i64 k)/\vd x.natAbs k/\Below w0.heap.size w0 w':=by
 have hsx:(x.sign==(0:Int))=false:=by simpa using xv
 refine enter Tryz.func239 rfl Tryz.ntmps239 rfl ?_
 intro a η σ
 replace σ:=(σ.adl hT hT).eO hx rfl
 clear hx
 refine wp_seq (aj ?_)
 refine au rfl (jL (c:=#[.bool (neg x),.slice A (zl x) c]) η σ rfl rfl rfl ?_)
 clear η σ a; intro a w2 g1 η σ
 refine au rfl (aX (v:=.int .i64 0) η rfl (aV η rfl) ?_)
 clear η a; intro a η
 refine wpList_nil (aT (wp_seq (wp_seq (aj ?_))))
 refine au rfl (aX (v:=.agg #[.bool (neg x),.slice A (zl x) c]) η rfl (dX η ah rfl (σ.nA (k:=0) rfl) rfl) ?_)
 clear η a; intro a η
 refine au rfl (cV η rfl Tryz.call60 rfl (tp (z:=x)) ?_)
 rintro e w3 ⟨rfl,hb⟩
 refine ⟨_,rfl,?_⟩
 clear η a; intro a η
 replace σ:=σ.call hb
 clear hb
 refine au rfl (aX (v:=.bool (x.sign==(0:Int))) η rfl (bg η rfl rfl rfl) ?_)
 clear η a; intro a η
 refine wpList_nil (aT ?_)
 refine oD η rfl (hsx) ?_
 refine wp_skip (aT (wp_seq (aj ?_)))
 refine au rfl (aX (v:=.pointer (some ⟨g1,1,none⟩)) η rfl (cU η dg (eJ.size) ai rfl) ?_)
 clear η a; intro a η
 refine au rfl (aX (v:=.slice A (zl x) c) η rfl (aS η eJ rfl (σ.nA (k:=0) rfl) rfl) ?_)
 clear η a; intro a η
 refine au rfl (cV η rfl Tryz.call247 rfl (S9 (show eT _ A (zl x) c (L x.natAbs) from σ.pat (k:=0) rfl) ae (show ve _ from σ.pat (k:=1) rfl)) ?_)
 rintro e w5 ⟨k4,rfl,PK,-,hb⟩
 refine ⟨_,rfl,?_⟩
 clear η a; intro a η
 replace σ:=σ.call hb
 clear hb
 refine au rfl (aX (v:=.int .i64 (k4:Nat)) η rfl (aV η rfl) ?_)
 clear η a; intro a η
 refine wpList_nil (aT (wp_ret ?_))
 refine leave η (dA Tryz.results239 (RV.tmp η rfl)) ?_
 rw [mT] at PK
 exact ⟨_,rfl,PK ae,σ.below⟩
end Go.Proofs.YtgopcdagnicekaaGreatDoor
