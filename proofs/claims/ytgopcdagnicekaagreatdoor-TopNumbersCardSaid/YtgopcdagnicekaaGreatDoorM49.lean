/- Shifts of numbers; powers of two. Printed by pv/gen_twos2.py. No condition. -/
import Derived.Test.YtgopcdagnicekaaGreatDoorM1
import Derived.Test.YtgopcdagnicekaaGreatDoorM48
import Derived.Test.YtgopcdagnicekaaGreatDoorM12
import Derived.Test.YtgopcdagnicekaaGreatDoorM3
import Derived.Test.YtgopcdagnicekaaGreatDoorM4
import Derived.Test.YtgopcdagnicekaaGreatDoorM34

set_option linter.unusedVariables false
set_option linter.unusedSimpArgs false
set_option linter.all false
set_option maxRecDepth 100000
namespace Go.Proofs.YtgopcdagnicekaaGreatDoor
open Go.RowKit Anv
theorem tF {b:Bool} {A:Option Addr} {c N:Nat} {z:Int} {w:World} (h:eT w A (nl N) c (L N)) (hz:sg b N=z):
  Calls Tryz.prog 64 #[.bool b,.slice A (nl N) c] w fun e w'=>∃v,e=.returned v/\pj w' v z/\Below w.heap.size w w':=by
 subst hz
 exact (jT h).mono fun _ _ ⟨he,hz,hb⟩=>⟨_,he,⟨_,_,rfl,hz⟩,hb⟩
theorem adn (x:Int) (n:Nat):sg (neg x) (x.natAbs*2 ^ n)=x*2 ^ n:=by
 have h:((x.natAbs*2 ^ n:Nat):Int)=(x.natAbs:Int)*2 ^ n:=by rw [oz,Int.natCast_pow]; rfl
 unfold sg neg
 by_cases hx:x<0
 ·simp only [hx,decide_true,if_true]; rw [h,<- yB]; congr 1; omega
 ·simp only [hx,decide_false,Bool.false_eq_true,if_false]; rw [h]; congr 1; omega
theorem ado {x:Int} {n:Nat} (h:(2:Int) ^ n∣x):sg (neg x) (x.natAbs / 2 ^ n)=x / 2 ^ n:=by
 obtain ⟨m,rfl⟩:=h
 have hp:(2:Int) ^ n=((2 ^ n:Nat):Int):=by rw [Int.natCast_pow]; rfl
 have h0:0<2 ^ n:=qi n
 rw [hp,lH,yD,CZ _ h0,Int.mul_ediv_cancel_left _ ae]
 unfold sg neg
 by_cases hm:m<0
 ·have:((2 ^ n:Nat):Int)*m<0:=Int.mul_neg_of_pos_of_neg ae hm
  simp only [this,decide_true,if_true]; omega
 ·have:¬((2 ^ n:Nat):Int)*m<0:=by have:=Int.mul_nonneg (show (0:Int)<=((2 ^ n:Nat):Int) by omega) (show 0<=m by omega); omega
  simp only [this,decide_false,Bool.false_eq_true,if_false]; omega
theorem ahR {x:Int} {n k:Nat} (h:vd x.natAbs k) (hd:(2:Int) ^ n∣x):n<=k:=by
 refine (h.dvd n).1 ?_
 have:=Int.natAbs_dvd_natAbs.2 hd
 rwa [OH] at this
theorem Mc {A:Option Addr} {c:Nat} {x:Int} {n:Nat} {w0:World} (hx:dK w0 A c x) (hn:zl x<=1000000) (hs:n<=65536):
  Calls Tryz.prog 58 #[.agg #[.bool (neg x),.slice A (zl x) c],.int .i64 (n:Nat)] w0 fun e w'=>∃v,e=.returned (.tuple #[v,.int .i64 0])/\pj w' v (x*2 ^ n)/\Below w0.heap.size w0 w':=by
 refine enter Tryz.func58 rfl Tryz.ntmps58 rfl ?_
 intro a η σ
 replace σ:=σ.eO (rj _) rfl
 replace σ:=σ.eO hx rfl
 clear hx
 refine wp_seq (aj ?_)
 refine au rfl (jL (c:=#[.bool (neg x),.slice A (zl x) c]) η σ rfl rfl rfl ?_)
 clear η σ a; intro a w2 g1 η σ
 refine au rfl (fA (c:=#[.bool (neg 0),.slice none (zl 0) 0]) η σ rfl aG lZ ?_)
 clear η σ a; intro a w4 g3 η σ
 refine au rfl (aX (v:=.int .i64 0) η rfl (aV η rfl) ?_)
 clear η a; intro a η
 refine wpList_nil (aT (wp_seq (aj ?_)))
 refine au rfl (aX (v:=.pointer (some ⟨g1,1,none⟩)) η rfl (cU η dg (eJ.size) ai rfl) ?_)
 clear η a; intro a η
 refine au rfl (aX (v:=.slice A (zl x) c) η rfl (aS η eJ rfl (σ.nA (k:=1) rfl) rfl) ?_)
 clear η a; intro a η
 refine au rfl (aX (v:=.int .i64 (n:Nat)) η rfl (b7 η rfl) ?_)
 clear η a; intro a η
 refine au rfl (cV η rfl Tryz.call102 rfl (U4 (s:=n) (show dK _ A c x from σ.pat (k:=0) rfl).num hn hs) ?_)
 rintro e w8 ⟨_,rfl,⟨A5,c6,rfl,hu7,-⟩,hb⟩
 refine ⟨_,rfl,?_⟩
 clear η a; intro a η
 replace σ:=(σ.call hb).MM hu7 rfl
 clear hu7
 clear hb
 refine au rfl (aX (v:=.tuple #[.slice A5 (nl (x.natAbs*2 ^ n)) c6,.int .i64 0]) η rfl (b7 η rfl) ?_)
 clear η a; intro a η
 refine au rfl (aX (v:=.slice A5 (nl (x.natAbs*2 ^ n)) c6) η rfl (dQ η rfl rfl) ?_)
 clear η a; intro a η
 refine au rfl (aX (v:=.int .i64 0) η rfl (dQ η rfl rfl) ?_)
 clear η a; intro a η
 refine au rfl (aX (v:=.slice A5 (nl (x.natAbs*2 ^ n)) c6) η rfl (aV η rfl) ?_)
 clear η a; intro a η
 refine au rfl (aX (v:=.int .i64 0) η rfl (aV η rfl) ?_)
 clear η a; intro a η
 refine wpList_nil (aT (wp_seq (wp_seq (aj ?_))))
 refine au rfl (aX (v:=.int .i64 0) η rfl (b7 η rfl) ?_)
 clear η a; intro a η
 refine au rfl (aX (v:=.bool false) η rfl (bg η rfl rfl rfl) ?_)
 clear η a; intro a η
 refine wpList_nil (aT ?_)
 refine oD η rfl (rfl) ?_
 refine wp_skip (aT (wp_seq (aj ?_)))
 refine au rfl (aX (v:=bB g1) η rfl (cU η eK (bQ.size) ai rfl) ?_)
 clear η a; intro a η
 refine au rfl (aX (v:=.bool (neg x)) η rfl (aS η bQ rfl (σ.nA (k:=1) rfl) rfl) ?_)
 clear η a; intro a η
 refine au rfl (aX (v:=.slice A5 (nl (x.natAbs*2 ^ n)) c6) η rfl (b7 η rfl) ?_)
 clear η a; intro a η
 refine au rfl (cV η rfl Tryz.call64 rfl (tF (b:=neg x) (N:=(x.natAbs*2 ^ n)) (z:=x*2 ^ n) (show eT _ A5 (nl (x.natAbs*2 ^ n)) c6 (L (x.natAbs*2 ^ n)) from σ.pat (k:=0) rfl) (adn x n)) ?_)
 rintro e w12 ⟨_,rfl,⟨A9,c10,rfl,ahS⟩,hb⟩
 refine ⟨_,rfl,?_⟩
 clear η a; intro a η
 replace σ:=(σ.call hb).eO ahS rfl
 clear ahS
 clear hb
 refine au rfl (fW (k:=0) (c':=#[.bool (neg (x*2 ^ n)),.slice A9 (zl (x*2 ^ n)) c10]) η σ (ah.size) rfl rfl rfl rfl cT rfl rfl ?_)
 clear η σ a; intro a w13 η σ
 refine au rfl (aX (v:=.int .i64 0) η rfl (aV η rfl) ?_)
 clear η a; intro a η
 refine wpList_nil (aT (wp_ret ?_))
 refine leave η (gC Tryz.results58 (RV.cell η ah rfl (σ.nA (k:=0) rfl) rfl) (RV.tmp η rfl)) ?_
 exact ⟨_,rfl,⟨_,_,rfl,σ.pat (k:=0) rfl⟩,σ.below⟩
theorem NW {A:Option Addr} {c:Nat} {i:Int} {w0:World} (hx:dK w0 A c 0) (hi:0<=i):
  Calls Tryz.prog 222 #[.agg #[.bool (neg 0),.slice A (zl 0) c],.int .i64 i] w0 fun e w'=>e=.returned (.tuple #[.agg #[.bool (neg 0),.slice none (zl 0) 0],.int .i64 0])/\Below w0.heap.size w0 w':=by
 refine enter Tryz.func222 rfl Tryz.ntmps222 rfl ?_
 intro a η σ
 replace σ:=σ.eO (rj _) rfl
 replace σ:=σ.eO hx rfl
 clear hx
 refine wp_seq (aj ?_)
 refine au rfl (jL η σ rfl rfl rfl ?_)
 clear η σ a; intro a w2 g1 η σ
 refine au rfl (fA η σ rfl aG lZ ?_)
 clear η σ a; intro a w4 g3 η σ
 refine au rfl (aX η rfl (aV η rfl) ?_)
 clear η a; intro a η
 refine wpList_nil (aT (wp_seq (wp_block (wp_seq (aj ?_)))))
 refine au rfl (aX η rfl (b7 η rfl) ?_)
 clear η a; intro a η
 refine au rfl (aX η rfl (bg η rfl rfl rfl) ?_)
 clear η a; intro a η
 refine au rfl (aX η rfl (aV η rfl) ?_)
 clear η a; intro a η
 refine wpList_nil (aT ?_)
 refine oD η rfl ((bR ae)) ?_
 refine wp_seq (aj ?_)
 refine au rfl (aX η rfl (dX η ah rfl (σ.nA (k:=1) rfl) rfl) ?_)
 clear η a; intro a η
 refine au rfl (cV η rfl Tryz.call60 rfl (tp (z:=0)) ?_)
 rintro e w5 ⟨rfl,hb⟩
 refine ⟨_,rfl,?_⟩
 clear η a; intro a η
 replace σ:=σ.call hb
 clear hb
 refine au rfl (aX (v:=.bool ((0:Int).sign==(0:Int))) η rfl (bg η rfl rfl rfl) ?_)
 clear η a; intro a η
 refine au rfl (aX (v:=.bool ((0:Int).sign==(0:Int))) η rfl (aV η rfl) ?_)
 clear η a; intro a η
 refine wpList_nil (aT ?_)
 refine Fc η rfl (rfl) ?_
 refine wp_seq (aj ?_)
 refine au rfl (aX (v:=.agg #[.bool (neg 0),.slice none (zl 0) 0]) η rfl (Vh Tryz.underlying52 aG (by intro f hf; simp at hf; rcases hf with rfl | rfl<;>exact ⟨_,rfl⟩)) ?_)
 clear η a; intro a η
 refine au rfl (fW (k:=0) (c':=#[.bool (neg 0),.slice none (zl 0) 0]) η σ (ah.size) rfl rfl rfl rfl cT rfl rfl ?_)
 clear η σ a; intro a w6 η σ
 refine au rfl (aX (v:=.int .i64 0) η rfl (aV η rfl) ?_)
 clear η a; intro a η
 refine wpList_nil (aT (wp_ret (mZ (j9 ?_))))
 refine leave η (gC Tryz.results222 (RV.cell η ah rfl (σ.nA (k:=0) rfl) rfl) (RV.tmp η rfl)) ?_
 exact ⟨rfl,σ.below⟩
theorem Xw {A:Option Addr} {c:Nat} {x:Int} {n:Nat} {w0:World} (hx:dK w0 A c x) (hn:zl x<=1000000) (hs:n<=65536) (xv:x≠0) (hd:(2:Int) ^ n∣x) (hT:ve w0):
  Calls Tryz.prog 222 #[.agg #[.bool (neg x),.slice A (zl x) c],.int .i64 (n:Nat)] w0 fun e w'=>∃v,e=.returned (.tuple #[v,.int .i64 0])/\pj w' v (x / 2 ^ n)/\Below w0.heap.size w0 w':=by
 refine enter Tryz.func222 rfl Tryz.ntmps222 rfl ?_
 intro a η σ
 replace σ:=σ.eO (rj _) rfl
 replace σ:=σ.eO hx rfl
 replace σ:=σ.adl hT hT
 clear hx
 refine wp_seq (aj ?_)
 refine au rfl (jL (c:=#[.bool (neg x),.slice A (zl x) c]) η σ rfl rfl rfl ?_)
 clear η σ a; intro a w2 g1 η σ
 refine au rfl (fA (c:=#[.bool (neg 0),.slice none (zl 0) 0]) η σ rfl aG lZ ?_)
 clear η σ a; intro a w4 g3 η σ
 refine au rfl (aX (v:=.int .i64 0) η rfl (aV η rfl) ?_)
 clear η a; intro a η
 refine wpList_nil (aT (wp_seq (wp_block (wp_seq (aj ?_)))))
 refine au rfl (aX (v:=.int .i64 (n:Nat)) η rfl (b7 η rfl) ?_)
 clear η a; intro a η
 refine au rfl (aX (v:=.bool (decide (((n:Nat):Int)<(0:Int)))) η rfl (bg η rfl rfl rfl) ?_)
 clear η a; intro a η
 refine au rfl (aX (v:=.bool (decide (((n:Nat):Int)<(0:Int)))) η rfl (aV η rfl) ?_)
 clear η a; intro a η
 refine wpList_nil (aT ?_)
 refine oD η rfl ((bR ae)) ?_
 refine wp_seq (aj ?_)
 refine au rfl (aX (v:=.agg #[.bool (neg x),.slice A (zl x) c]) η rfl (dX η ah rfl (σ.nA (k:=1) rfl) rfl) ?_)
 clear η a; intro a η
 refine au rfl (cV η rfl Tryz.call60 rfl (tp (z:=x)) ?_)
 rintro e w5 ⟨rfl,hb⟩
 refine ⟨_,rfl,?_⟩
 clear η a; intro a η
 replace σ:=σ.call hb
 clear hb
 refine au rfl (aX (v:=.bool (x.sign==(0:Int))) η rfl (bg η rfl rfl rfl) ?_)
 clear η a; intro a η
 refine au rfl (aX (v:=.bool (x.sign==(0:Int))) η rfl (aV η rfl) ?_)
 clear η a; intro a η
 refine wpList_nil (aT ?_)
 refine oD η rfl ((by simpa using xv)) ?_
 refine wp_seq (aj ?_)
 refine au rfl (aX (v:=.agg #[.bool (neg x),.slice A (zl x) c]) η rfl (dX η ah rfl (σ.nA (k:=1) rfl) rfl) ?_)
 clear η a; intro a η
 refine au rfl (cV η rfl Tryz.call239 rfl (adm (x:=x) (show dK _ A c x from σ.pat (k:=1) rfl) hn xv (show ve _ from σ.pat (k:=0) rfl)) ?_)
 rintro e w7 ⟨k6,rfl,PK,hb⟩
 refine ⟨_,rfl,?_⟩
 clear η a; intro a η
 replace σ:=σ.call hb
 clear hb
 refine au rfl (aX (v:=.int .i64 (n:Nat)) η rfl (b7 η rfl) ?_)
 clear η a; intro a η
 refine au rfl (aX (v:=.bool (decide (((k6:Nat):Int)<((n:Nat):Int)))) η rfl (bg η rfl rfl rfl) ?_)
 clear η a; intro a η
 refine au rfl (aX (v:=.bool (decide (((k6:Nat):Int)<((n:Nat):Int)))) η rfl (aV η rfl) ?_)
 clear η a; intro a η
 refine wpList_nil (aT ?_)
 refine oD η rfl ((bR (by have:=ahR PK hd; omega))) ?_
 refine wp_skip (qA (aT (wp_seq (aj ?_))))
 refine au rfl (aX (v:=.pointer (some ⟨g1,1,none⟩)) η rfl (cU η dg (eJ.size) ai rfl) ?_)
 clear η a; intro a η
 refine au rfl (aX (v:=.slice A (zl x) c) η rfl (aS η eJ rfl (σ.nA (k:=1) rfl) rfl) ?_)
 clear η a; intro a η
 refine au rfl (aX (v:=.int .i64 (n:Nat)) η rfl (b7 η rfl) ?_)
 clear η a; intro a η
 refine au rfl (cV η rfl Tryz.call155 rfl (Kl (s:=n) (show dK _ A c x from σ.pat (k:=1) rfl).num hn ae) ?_)
 rintro e w11 ⟨_,rfl,⟨A8,c9,rfl,ahT,-⟩,hb⟩
 refine ⟨_,rfl,?_⟩
 clear η a; intro a η
 replace σ:=(σ.call hb).MM ahT rfl
 clear ahT
 clear hb
 refine au rfl (aX (v:=.tuple #[.slice A8 (nl (x.natAbs / 2 ^ n)) c9,.int .i64 0]) η rfl (b7 η rfl) ?_)
 clear η a; intro a η
 refine au rfl (aX (v:=.slice A8 (nl (x.natAbs / 2 ^ n)) c9) η rfl (dQ η rfl rfl) ?_)
 clear η a; intro a η
 refine au rfl (aX (v:=.int .i64 0) η rfl (dQ η rfl rfl) ?_)
 clear η a; intro a η
 refine au rfl (aX (v:=.slice A8 (nl (x.natAbs / 2 ^ n)) c9) η rfl (aV η rfl) ?_)
 clear η a; intro a η
 refine au rfl (aX (v:=.int .i64 0) η rfl (aV η rfl) ?_)
 clear η a; intro a η
 refine wpList_nil (aT (wp_seq (aj ?_)))
 refine au rfl (aX (v:=bB g1) η rfl (cU η eK (bQ.size) ai rfl) ?_)
 clear η a; intro a η
 refine au rfl (aX (v:=.bool (neg x)) η rfl (aS η bQ rfl (σ.nA (k:=1) rfl) rfl) ?_)
 clear η a; intro a η
 refine au rfl (aX (v:=.slice A8 (nl (x.natAbs / 2 ^ n)) c9) η rfl (b7 η rfl) ?_)
 clear η a; intro a η
 refine au rfl (cV η rfl Tryz.call64 rfl (tF (b:=neg x) (N:=(x.natAbs / 2 ^ n)) (z:=x / 2 ^ n) (show eT _ A8 (nl (x.natAbs / 2 ^ n)) c9 (L (x.natAbs / 2 ^ n)) from σ.pat (k:=0) rfl) (ado hd)) ?_)
 rintro e w15 ⟨_,rfl,⟨A12,c13,rfl,ahU⟩,hb⟩
 refine ⟨_,rfl,?_⟩
 clear η a; intro a η
 replace σ:=(σ.call hb).eO ahU rfl
 clear ahU
 clear hb
 refine au rfl (fW (k:=0) (c':=#[.bool (neg (x / 2 ^ n)),.slice A12 (zl (x / 2 ^ n)) c13]) η σ (ah.size) rfl rfl rfl rfl cT rfl rfl ?_)
 clear η σ a; intro a w16 η σ
 refine au rfl (aX (v:=.int .i64 0) η rfl (aV η rfl) ?_)
 clear η a; intro a η
 refine wpList_nil (aT (wp_ret ?_))
 refine leave η (gC Tryz.results222 (RV.cell η ah rfl (σ.nA (k:=0) rfl) rfl) (RV.tmp η rfl)) ?_
 exact ⟨_,rfl,⟨_,_,rfl,σ.pat (k:=0) rfl⟩,σ.below⟩
end Go.Proofs.YtgopcdagnicekaaGreatDoor
