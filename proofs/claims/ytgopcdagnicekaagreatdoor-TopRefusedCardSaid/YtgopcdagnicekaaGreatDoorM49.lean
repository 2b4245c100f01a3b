/- Shifts of numbers; powers of two. Printed by pv/gen_twos2.py. No condition. -/
import Derived.Test.YtgopcdagnicekaaGreatDoorM48
import Derived.Test.YtgopcdagnicekaaGreatDoorM34
set_option linter.all false
open Go.Proofs.Tryz
set_option maxRecDepth 100000
namespace Go.Proofs.YtgopcdagnicekaaGreatDoor
open Go.RowKit Anv
variable {A:Option Addr} {c n:Nat} {x:Int} {w0:World}
theorem wM {b:Bool} {N:Nat} {z:Int} {w:World} (h:kp w A (nl N) c (L N)) (hz:sg b N=z):
  Calls prog 64 #[.bool b,.slice A (nl N) c] w fun e w'=>∃v,e=.returned v/\sL w' v z/\Below w.heap.size w w':=by
 subst hz
 exact (nA h).mono fun _ _ ⟨he,hz,hb⟩=>⟨_,he,⟨_,_,I,hz⟩,hb⟩
theorem afi (x:Int) (n:Nat):sg (neg x) (x.natAbs*2 ^ n)=x*2 ^ n:=by
 have h:((x.natAbs*2 ^ n:Nat):Int)=(x.natAbs:Int)*2 ^ n:=by rw [eX,Int.natCast_pow]; rfl
 unfold sg neg
 by_cases hx:x<0
 ·simp only [hx,decide_true,if_true]; rw [h,<- iP]; congr 1; omega
 ·simp only [hx,decide_false,Bool.false_eq_true,if_false]; rw [h]; congr 1; omega
theorem afj (h:(2:Int) ^ n∣x):sg (neg x) (x.natAbs / 2 ^ n)=x / 2 ^ n:=by
 obtain ⟨m,rfl⟩:=h
 have hp:(2:Int) ^ n=((2 ^ n:Nat):Int):=by rw [Int.natCast_pow]; rfl
 have h0:0<2 ^ n:=fq n
 rw [hp,dL,iS,jT _ h0,Int.mul_ediv_cancel_left _ ae]
 unfold sg neg
 by_cases hm:m<0
 ·have:((2 ^ n:Nat):Int)*m<0:=Int.mul_neg_of_pos_of_neg ae hm
  simp only [this,decide_true,if_true]; omega
 ·have:¬((2 ^ n:Nat):Int)*m<0:=by have:=Int.mul_nonneg (show (0:Int)<=((2 ^ n:Nat):Int) by omega) (show 0<=m by omega); omega
  simp only [this,decide_false,Bool.false_eq_true,if_false]; omega
theorem ajU {k:Nat} (h:x8 x.natAbs k) (hd:(2:Int) ^ n∣x):n<=k:=by
 refine (h.dvd n).1 ?_
 have:=Int.natAbs_dvd_natAbs.2 hd
 rwa [kx] at this
theorem NU (hx:iY w0 A c x) (hn:zl x<=1000000) (hs:n<=65536):
  Calls prog 58 #[.agg #[.bool (neg x),.slice A (zl x) c],.int .i64 (n:Nat)] w0 fun e w'=>∃v,e=.returned (.tuple #[v,.int .i64 0])/\sL w' v (x*2 ^ n)/\Below w0.heap.size w0 w':=by
 refine enter func58 I ntmps58 I ?_
 intro a η σ
 replace σ:=σ.j8 (uz _) I
 replace σ:=σ.j8 hx I
 clear hx
 refine wp_seq (aI ?_)
 refine aS I (ns (c:=#[.bool (neg x),.slice A (zl x) c]) η σ I I I ?_)
 clear η σ a; intro a w2 g1 η σ
 refine aS I (kQ (c:=#[.bool (neg 0),.slice none (zl 0) 0]) η σ I bA pW ?_)
 clear η σ a; intro a w4 g3 η σ
 refine aS I (cH (v:=.int .i64 0) η I (cf η I) ?_)
 clear η a; intro a η
 refine wpList_nil (b5 (wp_seq (aI ?_)))
 refine aS I (cH (v:=.pointer (some ⟨g1,1,none⟩)) η I (gF η ig (j3.size) aB I) ?_)
 clear η a; intro a η
 refine aS I (cH (v:=.slice A (zl x) c) η I (cC η j3 I (σ.pV (k:=1) I) I) ?_)
 clear η a; intro a η
 refine aS I (cH (v:=.int .i64 (n:Nat)) η I (ff η I) ?_)
 clear η a; intro a η
 refine aS I (gG η I call102 I (Xc (s:=n) (show iY _ A c x from σ.pat (k:=0) I).num hn hs) ?_)
 rintro e w8 ⟨_,rfl,⟨A5,c6,rfl,hu7,-⟩,hb⟩
 refine ⟨_,I,?_⟩
 clear η a; intro a η
 replace σ:=(σ.call hb).Oy hu7 I
 clear hu7
 clear hb
 refine aS I (cH (v:=.tuple #[.slice A5 (nl (x.natAbs*2 ^ n)) c6,.int .i64 0]) η I (ff η I) ?_)
 clear η a; intro a η
 refine aS I (cH (v:=.slice A5 (nl (x.natAbs*2 ^ n)) c6) η I (je η I I) ?_)
 clear η a; intro a η
 refine aS I (cH (v:=.int .i64 0) η I (je η I I) ?_)
 clear η a; intro a η
 refine aS I (cH (v:=.slice A5 (nl (x.natAbs*2 ^ n)) c6) η I (cf η I) ?_)
 clear η a; intro a η
 refine aS I (cH (v:=.int .i64 0) η I (cf η I) ?_)
 clear η a; intro a η
 refine wpList_nil (b5 (wp_seq (wp_seq (aI ?_))))
 refine aS I (cH (v:=.int .i64 0) η I (ff η I) ?_)
 clear η a; intro a η
 refine aS I (cH (v:=.bool false) η I (cV η I I I) ?_)
 clear η a; intro a η
 refine wpList_nil (b5 ?_)
 refine rV η I (I) ?_
 refine wp_skip (b5 (wp_seq (aI ?_)))
 refine aS I (cH (v:=cY g1) η I (gF η j4 (eD.size) aB I) ?_)
 clear η a; intro a η
 refine aS I (cH (v:=.bool (neg x)) η I (cC η eD I (σ.pV (k:=1) I) I) ?_)
 clear η a; intro a η
 refine aS I (cH (v:=.slice A5 (nl (x.natAbs*2 ^ n)) c6) η I (ff η I) ?_)
 clear η a; intro a η
 refine aS I (gG η I call64 I (wM (b:=neg x) (N:=(x.natAbs*2 ^ n)) (z:=x*2 ^ n) (show kp _ A5 (nl (x.natAbs*2 ^ n)) c6 (L (x.natAbs*2 ^ n)) from σ.pat (k:=0) I) (afi x n)) ?_)
 rintro e w12 ⟨_,rfl,⟨A9,c10,rfl,ajV⟩,hb⟩
 refine ⟨_,I,?_⟩
 clear η a; intro a η
 replace σ:=(σ.call hb).j8 ajV I
 clear ajV
 clear hb
 refine aS I (kZ (k:=0) (c':=#[.bool (neg (x*2 ^ n)),.slice A9 (zl (x*2 ^ n)) c10]) η σ (az.size) I I I I fW I I ?_)
 clear η σ a; intro a w13 η σ
 refine aS I (cH (v:=.int .i64 0) η I (cf η I) ?_)
 clear η a; intro a η
 refine wpList_nil (b5 (wp_ret ?_))
 refine leave η (lk results58 (RV.cell η az I (σ.pV (k:=0) I) I) (RV.tmp η I)) ?_
 exact ⟨_,I,⟨_,_,I,σ.pat (k:=0) I⟩,σ.below⟩
theorem PM {i:Int} (hx:iY w0 A c 0) (hi:0<=i):
  Calls prog 222 #[.agg #[.bool (neg 0),.slice A (zl 0) c],.int .i64 i] w0 fun e w'=>e=.returned (.tuple #[.agg #[.bool (neg 0),.slice none (zl 0) 0],.int .i64 0])/\Below w0.heap.size w0 w':=by
 refine enter func222 I ntmps222 I ?_
 intro a η σ
 replace σ:=σ.j8 (uz _) I
 replace σ:=σ.j8 hx I
 clear hx
 refine wp_seq (aI ?_)
 refine aS I (ns η σ I I I ?_)
 clear η σ a; intro a w2 g1 η σ
 refine aS I (kQ η σ I bA pW ?_)
 clear η σ a; intro a w4 g3 η σ
 refine aS I (cH η I (cf η I) ?_)
 clear η a; intro a η
 refine wpList_nil (b5 (wp_seq (wp_block (wp_seq (aI ?_)))))
 refine aS I (cH η I (ff η I) ?_)
 clear η a; intro a η
 refine aS I (cH η I (cV η I I I) ?_)
 clear η a; intro a η
 refine aS I (cH η I (cf η I) ?_)
 clear η a; intro a η
 refine wpList_nil (b5 ?_)
 refine rV η I ((aC ae)) ?_
 refine wp_seq (aI ?_)
 refine aS I (cH η I (jz η az I (σ.pV (k:=1) I) I) ?_)
 clear η a; intro a η
 refine aS I (gG η I call60 I (wv (z:=0)) ?_)
 rintro e w5 ⟨rfl,hb⟩
 refine ⟨_,I,?_⟩
 clear η a; intro a η
 replace σ:=σ.call hb
 clear hb
 refine aS I (cH (v:=.bool ((0:Int).sign==(0:Int))) η I (cV η I I I) ?_)
 clear η a; intro a η
 refine aS I (cH (v:=.bool ((0:Int).sign==(0:Int))) η I (cf η I) ?_)
 clear η a; intro a η
 refine wpList_nil (b5 ?_)
 refine GY η I (I) ?_
 refine wp_seq (aI ?_)
 refine aS I (cH (v:=.agg #[.bool (neg 0),.slice none (zl 0) 0]) η I (Xl underlying52 bA (by intro f hf; simp at hf; rcases hf with rfl | rfl<;>exact ⟨_,rfl⟩)) ?_)
 clear η a; intro a η
 refine aS I (kZ (k:=0) (c':=#[.bool (neg 0),.slice none (zl 0) 0]) η σ (az.size) I I I I fW I I ?_)
 clear η σ a; intro a w6 η σ
 refine aS I (cH (v:=.int .i64 0) η I (cf η I) ?_)
 clear η a; intro a η
 refine wpList_nil (b5 (wp_ret (qM (nN ?_))))
 refine leave η (lk results222 (RV.cell η az I (σ.pV (k:=0) I) I) (RV.tmp η I)) ?_
 exact ⟨I,σ.below⟩
theorem Zv (hx:iY w0 A c x) (hn:zl x<=1000000) (hs:n<=65536) (zE:x≠0) (hd:(2:Int) ^ n∣x) (hT:x' w0):
  Calls prog 222 #[.agg #[.bool (neg x),.slice A (zl x) c],.int .i64 (n:Nat)] w0 fun e w'=>∃v,e=.returned (.tuple #[v,.int .i64 0])/\sL w' v (x / 2 ^ n)/\Below w0.heap.size w0 w':=by
 refine enter func222 I ntmps222 I ?_
 intro a η σ
 replace σ:=σ.j8 (uz _) I
 replace σ:=σ.j8 hx I
 replace σ:=σ.afg hT hT
 clear hx
 refine wp_seq (aI ?_)
 refine aS I (ns (c:=#[.bool (neg x),.slice A (zl x) c]) η σ I I I ?_)
 clear η σ a; intro a w2 g1 η σ
 refine aS I (kQ (c:=#[.bool (neg 0),.slice none (zl 0) 0]) η σ I bA pW ?_)
 clear η σ a; intro a w4 g3 η σ
 refine aS I (cH (v:=.int .i64 0) η I (cf η I) ?_)
 clear η a; intro a η
 refine wpList_nil (b5 (wp_seq (wp_block (wp_seq (aI ?_)))))
 refine aS I (cH (v:=.int .i64 (n:Nat)) η I (ff η I) ?_)
 clear η a; intro a η
 refine aS I (cH (v:=.bool (decide (((n:Nat):Int)<(0:Int)))) η I (cV η I I I) ?_)
 clear η a; intro a η
 refine aS I (cH (v:=.bool (decide (((n:Nat):Int)<(0:Int)))) η I (cf η I) ?_)
 clear η a; intro a η
 refine wpList_nil (b5 ?_)
 refine rV η I ((aC ae)) ?_
 refine wp_seq (aI ?_)
 refine aS I (cH (v:=.agg #[.bool (neg x),.slice A (zl x) c]) η I (jz η az I (σ.pV (k:=1) I) I) ?_)
 clear η a; intro a η
 refine aS I (gG η I call60 I (wv (z:=x)) ?_)
 rintro e w5 ⟨rfl,hb⟩
 refine ⟨_,I,?_⟩
 clear η a; intro a η
 replace σ:=σ.call hb
 clear hb
 refine aS I (cH (v:=.bool (x.sign==(0:Int))) η I (cV η I I I) ?_)
 clear η a; intro a η
 refine aS I (cH (v:=.bool (x.sign==(0:Int))) η I (cf η I) ?_)
 clear η a; intro a η
 refine wpList_nil (b5 ?_)
 refine rV η I ((by simpa using zE)) ?_
 refine wp_seq (aI ?_)
 refine aS I (cH (v:=.agg #[.bool (neg x),.slice A (zl x) c]) η I (jz η az I (σ.pV (k:=1) I) I) ?_)
 clear η a; intro a η
 refine aS I (gG η I call239 I (afh (x:=x) (show iY _ A c x from σ.pat (k:=1) I) hn zE (show x' _ from σ.pat (k:=0) I)) ?_)
 rintro e w7 ⟨k6,rfl,RJ,hb⟩
 refine ⟨_,I,?_⟩
 clear η a; intro a η
 replace σ:=σ.call hb
 clear hb
 refine aS I (cH (v:=.int .i64 (n:Nat)) η I (ff η I) ?_)
 clear η a; intro a η
 refine aS I (cH (v:=.bool (decide (((k6:Nat):Int)<((n:Nat):Int)))) η I (cV η I I I) ?_)
 clear η a; intro a η
 refine aS I (cH (v:=.bool (decide (((k6:Nat):Int)<((n:Nat):Int)))) η I (cf η I) ?_)
 clear η a; intro a η
 refine wpList_nil (b5 ?_)
 refine rV η I ((aC (by have:=ajU RJ hd; omega))) ?_
 refine wp_skip (tK (b5 (wp_seq (aI ?_))))
 refine aS I (cH (v:=.pointer (some ⟨g1,1,none⟩)) η I (gF η ig (j3.size) aB I) ?_)
 clear η a; intro a η
 refine aS I (cH (v:=.slice A (zl x) c) η I (cC η j3 I (σ.pV (k:=1) I) I) ?_)
 clear η a; intro a η
 refine aS I (cH (v:=.int .i64 (n:Nat)) η I (ff η I) ?_)
 clear η a; intro a η
 refine aS I (gG η I call155 I (L4 (s:=n) (show iY _ A c x from σ.pat (k:=1) I).num hn ae) ?_)
 rintro e w11 ⟨_,rfl,⟨A8,c9,rfl,ajW,-⟩,hb⟩
 refine ⟨_,I,?_⟩
 clear η a; intro a η
 replace σ:=(σ.call hb).Oy ajW I
 clear ajW
 clear hb
 refine aS I (cH (v:=.tuple #[.slice A8 (nl (x.natAbs / 2 ^ n)) c9,.int .i64 0]) η I (ff η I) ?_)
 clear η a; intro a η
 refine aS I (cH (v:=.slice A8 (nl (x.natAbs / 2 ^ n)) c9) η I (je η I I) ?_)
 clear η a; intro a η
 refine aS I (cH (v:=.int .i64 0) η I (je η I I) ?_)
 clear η a; intro a η
 refine aS I (cH (v:=.slice A8 (nl (x.natAbs / 2 ^ n)) c9) η I (cf η I) ?_)
 clear η a; intro a η
 refine aS I (cH (v:=.int .i64 0) η I (cf η I) ?_)
 clear η a; intro a η
 refine wpList_nil (b5 (wp_seq (aI ?_)))
 refine aS I (cH (v:=cY g1) η I (gF η j4 (eD.size) aB I) ?_)
 clear η a; intro a η
 refine aS I (cH (v:=.bool (neg x)) η I (cC η eD I (σ.pV (k:=1) I) I) ?_)
 clear η a; intro a η
 refine aS I (cH (v:=.slice A8 (nl (x.natAbs / 2 ^ n)) c9) η I (ff η I) ?_)
 clear η a; intro a η
 refine aS I (gG η I call64 I (wM (b:=neg x) (N:=(x.natAbs / 2 ^ n)) (z:=x / 2 ^ n) (show kp _ A8 (nl (x.natAbs / 2 ^ n)) c9 (L (x.natAbs / 2 ^ n)) from σ.pat (k:=0) I) (afj hd)) ?_)
 rintro e w15 ⟨_,rfl,⟨A12,c13,rfl,ajX⟩,hb⟩
 refine ⟨_,I,?_⟩
 clear η a; intro a η
 replace σ:=(σ.call hb).j8 ajX I
 clear ajX
 clear hb
 refine aS I (kZ (k:=0) (c':=#[.bool (neg (x / 2 ^ n)),.slice A12 (zl (x / 2 ^ n)) c13]) η σ (az.size) I I I I fW I I ?_)
 clear η σ a; intro a w16 η σ
 refine aS I (cH (v:=.int .i64 0) η I (cf η I) ?_)
 clear η a; intro a η
 refine wpList_nil (b5 (wp_ret ?_))
 refine leave η (lk results222 (RV.cell η az I (σ.pV (k:=0) I) I) (RV.tmp η I)) ?_
 exact ⟨_,I,⟨_,_,I,σ.pat (k:=0) I⟩,σ.below⟩
end Go.Proofs.YtgopcdagnicekaaGreatDoor
