/- math/bits.TrailingZeros32 over its table. No condition but the table's cells. -/
import Derived.Test.YtgopcdagnicekaaGreatDoorM26
import Derived.Shelf.Spec.TrailingZeros
import Derived.Test.YtgopcdagnicekaaGreatDoorM30
set_option linter.all false
open Go.Proofs.Tryz
set_option maxRecDepth 100000
set_option maxHeartbeats 4000000
namespace Go.Proofs.YtgopcdagnicekaaGreatDoor
open Go.RowKit Anv Go.Shelf
def x' (w:World):Prop:=∀j,j<32->w.cell? ⟨0,j,none⟩=some (.int .u8 (Lib.deBruijn32tab.getD j 0:Nat))
variable {w w0:World} {x j n c:Nat} {xs:List Nat} {A:Option Addr}
theorem x'.lt (h:x' w):0<w.heap.size:=block_lt_of_cell (h 0 ae)
def pfT:PF:=⟨x',fun b=>b=0,fun h e=>by subst e; exact h.lt,fun h _ hk j hj=>(World.cell?_of_block (hk 0 rfl)).trans (h j hj)⟩
theorem St.afg {own:List Bk} {ps:List PF} (h:St w0 w own ps) (ht:x' w0) (hw:x' w):St w0 w own (pfT::ps):=
 h.l9 pfT hw (h.aax pfT fun b hb=>by subst hb; exact ht.lt)
theorem Zu (x k idx:Nat) (w:World) (zE:((x:Int)==0)=false)
  (key:bits BinOp.and IntKind.u32 (x:Int) (-(x:Int)%4294967296)*125613361%4294967296 / 134217728=(idx:Int))
  (hi:idx<32) (hk:k<32) (vV:w.cell? ⟨0,idx,none⟩=some (.int .u8 k)):
  Calls prog 169 #[.int .u32 x] w fun e w'=>e=.returned (.int .i64 k)/\w'=w:=by
 go_enter func169,ntmps169
 go_wp2_with (simp only [key])
 go_ret
 exact ⟨I,I⟩
theorem U5 (h0:x≠0) (hx:x<4294967296):x8 x (Lib.ctz 32 x):=by
 unfold Lib.ctz
 rw [ak h0]
 obtain ⟨m,hm,_⟩:=Lib.ctzFrom_spec 32 x ae hx
 exact NT hm
theorem apO (h0:x≠0) (hx:x<4294967296) (hT:x' w):
  Calls prog 169 #[.int .u32 x] w fun e w'=>∃k:Nat,e=.returned (.int .i64 k)/\x8 x k/\k<32/\Below w.heap.size w w':=by
 obtain ⟨wG,hk⟩:=Lib.lowest_bit 32 x h0 hx
 obtain ⟨hi,apP⟩:=Lib.deBruijn32_at _ hk
 have vV:=hT _ hi
 rw [apP] at vV
 refine (Zu x _ _ w (by simp; omega) (tz32_key x _ hx h0 wG) hi hk vV).mono ?_
 rintro e w' ⟨rfl,rfl⟩
 exact ⟨_,I,U5 h0 hx,hk,Below.refl _ _⟩
theorem PL (hj:j<xs.length) (h:∀i,i<j->xs.getD i 0=0):∃r,val 4294967296 xs=4294967296 ^ j*(xs.getD j 0+4294967296*r):=by
 induction xs generalizing j with
 | nil=>simp at hj
 | cons x xs ih=>
  rcases j with _ | j
  ·exact ⟨val 4294967296 xs,by simp⟩
  ·have h0:=h 0 ae
   simp at h0
   obtain ⟨r,hr⟩:=ih (by simpa using hj) fun i hi=>by simpa using h (i+1) ae
   refine ⟨r,?_⟩
   rw [nY,h0,hr,bD,cT,cN,List.getD_cons_succ,<- cN,cO 4294967296 (4294967296 ^ j),cN]
theorem U6 (h:∀i,i<xs.length->xs.getD i 0=0):val 4294967296 xs=0:=by
 induction xs with
 | nil=>rfl
 | cons x xs ih=>
  have h0:=h 0 fW
  simp at h0
  rw [nY,h0,ih fun i hi=>by simpa using h (i+1) (by simpa using hi)]
open Go.RowKit Anv
theorem U7 {i:Nat} (h:kp w A n c xs) (hi:i<n):xs.getD i 0<4294967296:=by
 have hl:i<xs.length:=by rw [h.len]; exact hi
 have:=h.lt xs[i] (eJ hl)
 simpa [List.getD,hl] using this
theorem Lt (hz:∀i,i<j->xs.getD i 0=0) (h0:xs.getD j 0=0):∀i,i<j+1->xs.getD i 0=0:=fun i hi=>by
 rcases Nat.lt_succ_iff_lt_or_eq.1 hi with h | h
 ·exact hz i h
 ·rw [h]; exact h0
theorem U8 (h:kp w0 A n c xs) (hn:n<=1000000) (hT:x' w0):
  Calls prog 247 #[.slice A n c] w0 fun e w'=>∃k:Nat,e=.returned (.int .i64 k)/\(val 4294967296 xs≠0->x8 (val 4294967296 xs) k)/\(val 4294967296 xs=0->k=0)/\Below w0.heap.size w0 w':=by
 refine enter func247 I ntmps247 I ?_
 intro a η σ
 have hu:=h
 have hmx:n<=9223372036854775807:=by have:=aD h.cap h.big; unfold maxLen at this; omega
 replace σ:=(σ.afg hT hT).Oy h I
 clear h
 refine wp_seq (aI ?_)
 refine aS I (cH (v:=.int .i64 0) η I (cf η I) ?_)
 clear η a; intro a η
 refine wpList_nil (b5 (wp_seq (wp_seq (aI ?_))))
 refine aS I (cH (v:=.slice A n c) η I (ff η I) ?_)
 clear η a; intro a η
 refine aS I (cH (v:=.int .i64 (n:Nat)) η I (ky η underlying50 I) ?_)
 clear η a; intro a η
 refine aS I (cH (v:=.int .i64 0) η I (ff η I) ?_)
 clear η a; intro a η
 refine wpList_nil (b5 (wp_block ?_))
 refine wp_loop_ghost (fun mz a w=>∃j:Nat,n - j=mz/\Env 20 a [(0,.slice A n c),(5,.slice A n c),(6,.int .i64 (n:Nat)),(7,.int .i64 (j:Nat))]/\St w0 w [] [W4 A n c xs,pfT]/\j<=n/\∀i,i<j->xs.getD i 0=0) _ ⟨0,I,η.sub ⟨I,I,I,I,trivial⟩,σ.pick [] [0,1] aB,(av _),(fun i hi=>absurd hi (dB _))⟩ ?_
 clear η σ a
 rintro mz a w1 ⟨j,rfl,η,σ,hj,hz⟩
 refine wp_seq (aI ?_)
 refine aS I (cH (v:=.bool (decide (((j:Nat):Int)<((n:Nat):Int)))) η I (cV η I I I) ?_)
 clear η a; intro a η
 refine wpList_nil (b5 (wp_seq ?_))
 refine jA η I (fun zG=>?_) (fun zG=>?_)
 ·have fh:j<n:=by have:=aN zG; omega
  refine wp_skip (b5 (wp_seq (wp_block (wp_seq (aI ?_)))))
  refine aS I (cH (v:=.int .i64 (j:Nat)) η I (ff η I) ?_)
  clear η a; intro a η
  refine aS I (cH (v:=.pointer (some ⟨ab A,ao A+j,none⟩)) η I (EA (i:=j) η underlying50 (qA.size) I I ae (show kp _ A n c xs from (σ.pat (k:=0) I))) ?_)
  clear η a; intro a η
  refine aS I (cH (v:=.int .u32 (xs.getD j 0:Nat)) η I (Br η qA I ae (show kp _ A n c xs from (σ.pat (k:=0) I))) ?_)
  clear η a; intro a η
  refine aS I (cH (v:=.int .i64 (j:Nat)) η I (cf η I) ?_)
  clear η a; intro a η
  refine aS I (cH (v:=.int .u32 (xs.getD j 0:Nat)) η I (cf η I) ?_)
  clear η a; intro a η
  refine wpList_nil (b5 (wp_seq (aI ?_)))
  refine aS I (cH (v:=.int .u32 (xs.getD j 0:Nat)) η I (ff η I) ?_)
  clear η a; intro a η
  refine aS I (cH (v:=.bool (decide (((xs.getD j 0:Nat):Int)>(0:Int)))) η I (cV η I I I) ?_)
  clear η a; intro a η
  refine wpList_nil (b5 ?_)
  refine jA η I (fun OW=>?_) (fun OW=>?_)
  ·have zE:xs.getD j 0≠0:=by have:=aN OW; omega
   have JL:xs.getD j 0<4294967296:=U7 hu fh
   refine wp_seq (aI ?_)
   refine aS I (cH (v:=.int .i64 (j:Nat)) η I (ff η I) ?_)
   clear η a; intro a η
   refine aS I (cH (v:=.int .i64 (32*j:Nat)) η I (Bm η I I (by rw [IntWalk.i64_in _ ae]; omega)) ?_)
   clear η a; intro a η
   refine aS I (cH (v:=.int .u32 (xs.getD j 0:Nat)) η I (ff η I) ?_)
   clear η a; intro a η
   refine aS I (gG η I call169 I (apO (x:=xs.getD j 0) zE JL (show x' _ from σ.pat (k:=1) I)) ?_)
   rintro e w5 ⟨k4,rfl,RJ,hq,hb⟩
   refine ⟨_,I,?_⟩
   clear η a; intro a η
   replace σ:=σ.call hb
   clear hb
   refine aS I (cH (v:=.int .i64 ((32*j)+k4:Nat)) η I (lY η I I (by rw [IntWalk.i64_in _ ae]; omega)) ?_)
   clear η a; intro a η
   refine aS I (cH (v:=.int .i64 ((32*j)+k4:Nat)) η I (cf η I) ?_)
   clear η a; intro a η
   refine wpList_nil (b5 (wp_ret (qM (nN (nN (qM (nN ?_)))))))
   refine leave η (iJ results247 (RV.tmp η I)) ?_
   obtain ⟨r,hr⟩:=PL (by rw [hu.len]; exact fh) hz
   exact ⟨_,I,fun _=>Ee JL hr RJ,fun h=>absurd h (Ee JL hr RJ).pos,σ.below⟩
  ·have zE:xs.getD j 0=0:=by have:=bP OW; omega
   refine wp_skip (tK (b5 (aI ?_)))
   refine aS I (cH (v:=.int .i64 (j+1:Nat)) η I (lY η I I (by rw [IntWalk.i64_in _ ae]; omega)) ?_)
   clear η a; intro a η
   refine aS I (cH (v:=.int .i64 (j+1:Nat)) η I (ff η I) ?_)
   clear η a; intro a η
   refine wpList_nil ?_
   exact b5 ⟨_,ae,⟨j+1,I,η.sub ⟨I,I,I,I,trivial⟩,σ.pick [] [0,1] aB,ae,(Lt hz zE)⟩⟩
 ·have hjn:n<=j:=by have:=bP zG; omega
  refine wp_exit (oM (oM (wz (b5 (wp_seq (aI ?_))))))
  refine aS I (cH (v:=.int .i64 0) η I (cf η I) ?_)
  clear η a; intro a η
  refine wpList_nil (b5 (wp_ret ?_))
  refine leave η (iJ results247 (RV.tmp η I)) ?_
  exact ⟨0,I,fun h=>absurd (U6 fun i hi=>hz i (by rw [hu.len] at hi; omega)) h,fun _=>rfl,σ.below⟩
theorem afh {x:Int} (hx:iY w0 A c x) (hn:zl x<=1000000) (zE:x≠0) (hT:x' w0):
  Calls prog 239 #[.agg #[.bool (neg x),.slice A (zl x) c]] w0 fun e w'=>∃k:Nat,e=.returned (.int .i64 k)/\x8 x.natAbs k/\Below w0.heap.size w0 w':=by
 have hsx:(x.sign==(0:Int))=false:=by simpa using zE
 refine enter func239 I ntmps239 I ?_
 intro a η σ
 replace σ:=(σ.afg hT hT).j8 hx I
 clear hx
 refine wp_seq (aI ?_)
 refine aS I (ns (c:=#[.bool (neg x),.slice A (zl x) c]) η σ I I I ?_)
 clear η σ a; intro a w2 g1 η σ
 refine aS I (cH (v:=.int .i64 0) η I (cf η I) ?_)
 clear η a; intro a η
 refine wpList_nil (b5 (wp_seq (wp_seq (aI ?_))))
 refine aS I (cH (v:=.agg #[.bool (neg x),.slice A (zl x) c]) η I (jz η az I (σ.pV (k:=0) I) I) ?_)
 clear η a; intro a η
 refine aS I (gG η I call60 I (wv (z:=x)) ?_)
 rintro e w3 ⟨rfl,hb⟩
 refine ⟨_,I,?_⟩
 clear η a; intro a η
 replace σ:=σ.call hb
 clear hb
 refine aS I (cH (v:=.bool (x.sign==(0:Int))) η I (cV η I I I) ?_)
 clear η a; intro a η
 refine wpList_nil (b5 ?_)
 refine rV η I (hsx) ?_
 refine wp_skip (b5 (wp_seq (aI ?_)))
 refine aS I (cH (v:=.pointer (some ⟨g1,1,none⟩)) η I (gF η ig (j3.size) aB I) ?_)
 clear η a; intro a η
 refine aS I (cH (v:=.slice A (zl x) c) η I (cC η j3 I (σ.pV (k:=0) I) I) ?_)
 clear η a; intro a η
 refine aS I (gG η I call247 I (U8 (show kp _ A (zl x) c (L x.natAbs) from σ.pat (k:=0) I) ae (show x' _ from σ.pat (k:=1) I)) ?_)
 rintro e w5 ⟨k4,rfl,RJ,-,hb⟩
 refine ⟨_,I,?_⟩
 clear η a; intro a η
 replace σ:=σ.call hb
 clear hb
 refine aS I (cH (v:=.int .i64 (k4:Nat)) η I (cf η I) ?_)
 clear η a; intro a η
 refine wpList_nil (b5 (wp_ret ?_))
 refine leave η (iJ results239 (RV.tmp η I)) ?_
 rw [qG] at RJ
 exact ⟨_,I,RJ ae,σ.below⟩
end Go.Proofs.YtgopcdagnicekaaGreatDoor
