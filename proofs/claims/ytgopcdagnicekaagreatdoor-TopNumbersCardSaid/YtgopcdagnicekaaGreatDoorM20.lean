/- limb.DivMod. No condition. -/
import Derived.Test.YtgopcdagnicekaaGreatDoorM1
import Derived.Test.YtgopcdagnicekaaGreatDoorM17
import Derived.Test.YtgopcdagnicekaaGreatDoorM3
import Derived.Test.YtgopcdagnicekaaGreatDoorM4
import Derived.Test.YtgopcdagnicekaaGreatDoorM18
import Derived.Test.YtgopcdagnicekaaGreatDoorM19
import Derived.Test.YtgopcdagnicekaaGreatDoorM6
import Derived.Deep.DeepCutAuto

set_option linter.unusedVariables false
set_option linter.unusedSimpArgs false
set_option linter.all false
namespace Go.Proofs.YtgopcdagnicekaaGreatDoor
open Go.RowKit Anv
theorem U5 (B:Nat) (w:World):kC B w bA 0:=
 ⟨none,0,by rw [qT]; rfl,by rw [qT]; exact ⟨rfl,aY _,by simp [maxLen],bN.nil _,fun hp=>by simp at hp⟩,fun a ha=>by cases ha⟩
theorem U6 {A B:Option Addr} {n c m d N M:Nat} {w:World} (h:cM w A n c N) (k:cM w B m d M) (hN:nl N<=1000000) (cD:N<M):
  Calls Tryz.prog 103 #[.slice A n c,.slice B m d] w fun e w'=>∃v u,e=.returned (.tuple #[v,u,.int .i64 0])/\kC w.heap.size w' v (N / M)/\kC w.heap.size w' u (N%M)/\Below w.heap.size w w':=by
 have h0:0<nl M:=yS ae
 have hc:=(oB N M).2 cD
 have hb:=nK N M
 have HE:=Lib.hid (And.intro (qk cD) (sN cD))
 go_enter Tryz.func103,Tryz.ntmps103
 go_wp2_with fail
 refine (il _ _ _ _ _ k).mono ?_
 rintro e w' ⟨rfl,hT,rfl⟩
 go_wp2_with fail
 refine (mX h (eT.num hT)).mono ?_
 rintro e w1 ⟨rfl,ou⟩
 have h1:=h.below ou
 generalize mU N M=z at*
 go_wp2_with fail
 refine (yR h1 hN).mono ?_
 rintro e w2 ⟨v,rfl,⟨A2,c2,rfl,hU,hf⟩,gx⟩
 have HU:=Lib.hid hU
 have HF:=Lib.hid hf
 go_wp2
 refine bodyPost_ret (v:=.tuple #[bA,.slice A2 (L N).length c2,.int .i64 0]) (by simp [results,Tryz.results103,go_sem]) rfl ?_
 refine ⟨_,_,rfl,?_,?_,ja ou gx⟩
 ·rw [HE.out.1]; exact U5 _ _
 ·rw [HE.out.2]; exact ⟨_,_,rfl,HU.out,fun a ha=>bq ou.size (HF.out a ha)⟩
theorem Pw {M:Nat} (h:nl M=1):(L M).getD 0 0=M/\M<4294967296:=by
 have h1:=mT M
 have h2:=xq M
 have h3:(L M).length=1:=h
 obtain ⟨x,hx⟩:=List.length_eq_one_iff.1 h3
 rw [hx] at h1 h2 ⊢
 have:=h2.head
 simp at h1
 subst h1
 exact ⟨rfl,this⟩
theorem aah {A B:Option Addr} {n c m d N M:Nat} {w:World} (h:cM w A n c N) (k:cM w B m d M) (hn:n<=1000000) (hle:¬N<M) (h1:nl M=1):
  Calls Tryz.prog 103 #[.slice A n c,.slice B m d] w fun e w'=>∃v u,e=.returned (.tuple #[v,u,.int .i64 0])/\kC w.heap.size w' v (N / M)/\kC w.heap.size w' u (N%M)/\Below w.heap.size w w':=by
 have hc:¬mU N M<0:=fun h=>hle ((oB N M).1 h)
 have hb:=nK N M
 have U7:0<M:=by
  rcases ed M with h | h
  ·subst h; rw [pk] at h1; omega
  ·exact h
 have h2:=Pw h1
 have hM:M<4294967296:=h2.2
 have HO:=Lib.hid h2.1
 have H1:=Lib.hid h1
 have BZ:N%M<4294967296:=Nat.lt_trans (kx N U7) hM
 go_enter Tryz.func103,Tryz.ntmps103
 go_wp2_with fail
 refine (il _ _ _ _ _ k).mono ?_
 rintro e w' ⟨rfl,hT,rfl⟩
 rw [H1.out] at hT ⊢
 go_wp2_with fail
 refine (mX h (eT.num hT)).mono ?_
 rintro e w1 ⟨rfl,ou⟩
 have h1:=h.below ou
 obtain ⟨b,off,rfl,nB,ia⟩:=(eT.below hT ou).cells ae
 have nM:=ia 0 ae
 rw [HO.out,j7] at nM
 generalize mU N M=z at*
 go_wp2_with fail
 refine (Ps h1 hn U7 hM).mono ?_
 rintro e w2 ⟨v,rfl,⟨A2,c2,rfl,hU,hf⟩,gx⟩
 have tW:=ja ou gx
 have HU:=Lib.hid hU
 have HF:=Lib.hid hf
 go_wp2_with fail
 refine (yR (Kd [N%M] rfl (by simp [mW]) (fun x hx=>by simp at hx; omega) cT) (by simp; have:=cQ (k:=1) ae; omega)).mono ?_
 rintro e w3 ⟨v,rfl,⟨A3,c3,rfl,hU3,hf3⟩,nD⟩
 rw [show val 4294967296 [N%M]=N%M by simp] at hU3 ⊢
 have HU3:=Lib.hid hU3
 have HF3:=Lib.hid hf3
 have MS:=ja (qU _ _) nD
 have HU4:=Lib.hid (HU.out.below MS)
 go_wp2
 refine bodyPost_ret (v:=.tuple #[.slice A2 (L (N / M)).length c2,.slice A3 (L (N%M)).length c3,.int .i64 0]) (by simp [results,Tryz.results103,go_sem]) rfl ?_
 refine ⟨_,_,rfl,⟨_,_,rfl,HU4.out,fun a ha=>bq ou.size (HF.out a ha)⟩,⟨_,_,rfl,HU3.out,fun a ha=>bq (by have:=tW.size; simp; omega) (HF3.out a ha)⟩,ja tW MS⟩
theorem Dk {w:World} {A:Option Addr} {n c N:Nat} (h:cM w A n c N):nl N<=n:=by
 obtain ⟨xs,hx,rfl⟩:=h
 have h1:=k8 hx.lt
 rw [hx.len] at h1
 exact cQ h1
theorem MT {U V m:Nat} (hU:m+2<=nl U) (hV:nl V=m+2):val 4294967296 ((L U++[0]).drop (nl U - (m+1)))<V:=by
 have h1:(L U++[0]).drop (nl U - (m+1))=(L U).drop (nl U - (m+1))++[0]:=by
  rw [qR (by show _<=nl U; omega)]
 rw [h1,en,show val 4294967296 [0]=0 from rfl,J2,j7]
 have h2:=k8 ((xq U).drop (nl U - (m+1)))
 rw [Fi,show nl U - (nl U - (m+1))=m+1 by omega] at h2
 have h3:0<V:=by
  rcases ed V with h | h
  ·subst h; rw [pk] at hV; omega
  ·exact h
 have h4:=tk (b:=4294967296) ae V h3
 rw [show (sw 4294967296 V).length=m+2 from hV] at h4
 exact gw h2 h4
theorem akC (us:List Nat) (k n:Nat):us.take k++(us.drop k).take n++us.drop (k+n)=us:=by
 rw [<- List.drop_drop,cG,lX,lX]
theorem aai {A B:Option Addr} {n c m d N M:Nat} {w:World} (h:cM w A n c N) (k:cM w B m d M) (hn:n<=900000) (hle:¬N<M) (h2:2<=nl M):
  Calls Tryz.prog 103 #[.slice A n c,.slice B m d] w fun e w'=>∃v u,e=.returned (.tuple #[v,u,.int .i64 0])/\kC w.heap.size w' v (N / M)/\kC w.heap.size w' u (N%M)/\Below w.heap.size w w':=by
 have hc:¬mU N M<0:=fun h=>hle ((oB N M).1 h)
 have hb:=nK N M
 have U7:0<M:=by
  rcases ed M with h | h
  ·subst h; rw [pk] at h2; omega
  ·exact h
 have hnN:=Dk h
 have hnM:nl M<=nl N:=pn ae
 obtain ⟨p,hp⟩:∃p,nl M=p+2:=⟨nl M - 2,by omega⟩
 have HP:=Lib.hid hp
 have HB:=Lib.hid (And.intro U7 (And.intro hnN (And.intro hnM (show M<=N by omega))))
 have Kj:p<=900000:=ae
 clear hle h2 U7 hnN hnM
 go_enter Tryz.func103,Tryz.ntmps103
 go_wp2_with fail
 refine (il _ _ _ _ _ k).mono ?_
 rintro e w' ⟨rfl,hT,rfl⟩
 rw [hp] at hT ⊢
 clear hp
 go_wp2_with fail
 refine (mX h (eT.num hT)).mono ?_
 rintro e w1 ⟨rfl,ou⟩
 replace h:=h.below ou
 have vR:=hT.below ou
 obtain ⟨b,off,rfl,nB,ia⟩:=vR.cells ae
 have nM:=ia (p+1) ae
 have hx:(L M).getD (p+1) 0<4294967296:=(xq M).get ae _
 generalize (L M).getD (p+1) 0=x at hx nM
 clear hT k ia
 generalize mU N M=z at*
 go_wp2_with fail
 refine (akA (x:Int) _ ae ae).mono ?_
 rintro e w' ⟨rfl,rfl⟩
 have hbl:=wK (x:Int) ae ae
 obtain ⟨s,hs,ME⟩:∃s:Nat,32 - (Lib.bitLen (x:Int).toNat:Int)=s/\s<=32:=⟨32 - Lib.bitLen (x:Int).toNat,by omega,by omega⟩
 rw [hs]
 clear hs hbl nM hx
 go_wp2_with fail
 refine (y8 (s:=s) (eT.num vR) ae ae).mono ?_
 rintro e w2 ⟨gv,rfl,xN,hUv,gx⟩
 replace h:=h.below gx
 have tW:=ja ou gx
 clear vR
 go_wp2_with fail
 refine (y8 (s:=s) h ae ae).mono ?_
 rintro e w3 ⟨gu,rfl,hgu,hUu,nD⟩
 replace hUv:=hUv.below nD
 have MS:=ja tW nD
 have arX:w.heap.size<=gv:=bq ou.size xN
 have HE:=Lib.hid (And.intro (Nat.mul_div_mul_right N M (qi s)) (Nat.mul_mod_mul_right (2 ^ s) N M))
 have hVM:nl M<=nl (M*2 ^ s):=pn (wE M (qi s))
 have hUV:nl (M*2 ^ s)<=nl (N*2 ^ s):=pn (eh _ HB.out.2.2.2)
 have hUb:nl (N*2 ^ s)<=900003:=by
  have h1:=O2 N (2 ^ s)
  have h2:nl (2 ^ s)<=2:=cQ (qf (fE ae ME) ai)
  have:=HB.out.2.1
  omega
 have HR1:=Lib.hid (show N%M*2 ^ s / 2 ^ s=N%M from Nat.mul_div_cancel _ (qi s))
 have HV0:=Lib.hid (show 0<M*2 ^ s from BH HB.out.1 (qi s))
 rw [HP.out] at hVM
 clear hgu xN h
 generalize N*2 ^ s=U at*
 generalize M*2 ^ s=V at*
 obtain ⟨r,hr⟩:∃r,nl V=r+2:=⟨nl V - 2,by omega⟩
 obtain ⟨t,ht⟩:∃t,nl U=t+(r+1):=⟨nl U - (r+1),by omega⟩
 have ht0:0<t:=ae
 have hrt:t+r<=900003:=ae
 have HVL:=Lib.hid hr
 have HUL:=Lib.hid ht
 have HST:=Lib.hid (show val 4294967296 ((L U++[0]).drop t)<V by
  have:=MT (U:=U) (V:=V) (m:=r) ae hr
  rwa [ht,vu] at this)
 rw [hr] at hUv ⊢
 rw [ht] at hUu ⊢
 clear hVM hUV hUb hr ht
 have afp:gv<w3.heap.size:=by
  obtain ⟨gv',ar3,ev,afp,_⟩:=hUv.cells ae
  cases ev
  exact afp
 have HUv:=Lib.hid hUv
 clear hUv
 have HLN:=Lib.hid (show (L U++[0]).length=t+(r+1)+1 by rw [aP]; show nl U+1=_; rw [HUL.out])
 go_wp2_with (first | (at_builtin; refine tC w3 rfl (.tmp 66) (.tmp 67) 50 rfl 98 4 Tryz.underlying50 kE gu _ (L U) hUu 1 _ [0] (by simp [mW]) rfl ae rfl rfl (by simp only [maxLen]; omega) ae ?_; intro v1 w4 hO1 vj hs1; obtain ⟨g,cu,Ol,afr,afs,hgu,hLu⟩:=hO1.lst cT; rw [HLN.out] at Ol afr; subst Ol; clear hO1) | (at_make; refine eB _ rfl _ _ 50 rfl 98 .u32 4 Tryz.underlying50 kE _ _ _ _ t rfl rfl ae ae ae ae ?_; intro w5 hA5 hB5 hz5))
 have hgw:g<w4.heap.size:=hLu.lt
 have hb6:=ja MS vj
 have HBE:=Lib.hid (ja hb6 hB5)
 have aft:=Lib.hid ((HUv.out.below vj).below hB5)
 have HL5:=Lib.hid (hLu.below hB5 hgw)
 have HA5:=Lib.hid hA5
 have Yu:g≠gv:=ae
 have hgq:g≠w4.heap.size:=ae
 have hwg:w.heap.size<=g:=by have:=MS.size; omega
 have hws:w.heap.size<=w4.heap.size:=hb6.size
 clear hLu hA5 hB5 hz5 vj hb6 hs1 hUu HUv
 unfold maxLen at afs
 go_loopw [17] (fun s17 wr=>∃(kk:Nat) (us qs:List Nat),kk<=t/\s17=.int .i64 ((kk:Int) - 1)/\
   Hid (us.length=t+(r+1)+1/\bN 4294967296 us/\qs.length=t/\bN 4294967296 qs/\val 4294967296 (us.drop kk)<V/\val 4294967296 us+V*4294967296 ^ kk*val 4294967296 (qs.drop kk)=U)/\
   Hid (rQ wr g us)/\Hid (oY .u32 98 wr w4.heap.size qs)/\Hid (eT wr (bh gv) (r+2) (r+2) (L V))/\Hid (Below w.heap.size w wr)) (fun s17 _=>(intOf s17+1).toNat)
 case atStart=>exact ⟨t,L U++[0],_,aY _,int_eq ae,⟨HLN.out,(xq U).append (bN.cons ae (bN.nil _)),by simp,bN.yM ae _,HST.out,by rw [qS (xs:=List.replicate t 0) cT,en,mT]; simp⟩,HL5.out,HA5.out,aft.out,HBE.out⟩
 case round=>
  clear HL5 HA5 aft HBE HST
  obtain ⟨kk,us,qs,hk,rfl,HI,HR,HA,HUV,HW⟩:=hrel
  rcases kk with _ | k
  ·have h3:=HI.out
   have h4:=h3.2.2.2.2.2
   have h5:=h3.2.2.2.2.1
   rw [vv] at h4 h5
   rw [Nat.pow_zero,tg] at h4
   have h6:=BX h4 h5
   rw [HE.out.1,HE.out.2] at h6
   have hu:=HR.out.whole h3.1 afr (by unfold maxLen; exact afs) h3.2.1
   have hr1:cM wr (bh g) (t+(r+1)+1) cu (N%M*2 ^ s):=⟨us,hu,h6.2.symm⟩
   have Om:cM wr (bh w4.heap.size) t t (N / M):=⟨qs,HA.out.u32 h3.2.2.2.1 h3.2.2.1 (by simp only [maxLen]; omega),h6.1.symm⟩
   have HQ1:=Lib.hid Om
   have hlen:nl (N%M*2 ^ s)<=1000000:=by have:=Dk hr1; omega
   clear h3 h4 h5 h6 hu Om HI HR HA HUV
   go_wp2_with fail
   refine (Kl (s:=s) hr1 hlen ae).mono ?_
   rintro e w6 ⟨v,rfl,⟨A6,c6,rfl,hU6,hf6⟩,hb6⟩
   rw [HR1.out] at hU6 ⊢
   have T7:=HQ1.out.below hb6
   have HW6:=Lib.hid (ja HW.out hb6)
   have HU6:=Lib.hid hU6
   have HF6:=Lib.hid (fun a ha=>bq HW.out.size (hf6 a ha))
   clear hU6 hf6 hb6 hr1
   go_wp2_with fail
   refine (il _ _ _ _ _ T7).mono ?_
   rintro e w7 ⟨rfl,hT7,rfl⟩
   have HT7:=Lib.hid hT7
   clear hT7 T7
   go_wp2
   refine bodyPost_ret (v:=.tuple #[.slice (bh w4.heap.size) (nl (N / M)) (nl (N / M)),.slice A6 (L (N%M)).length c6,.int .i64 0]) (by simp [results,Tryz.results103,go_sem]) rfl ?_
   exact ⟨_,_,rfl,⟨_,_,rfl,HT7.out,fun a ha=>by cases ha; exact hws⟩,⟨_,_,rfl,HU6.out,HF6.out⟩,HW6.out⟩
  ·rw [show (((k+1:Nat):Int) - 1)=(k:Int) from ae]
   have Ii:(0:Int)<=(k:Int):=ae
   have h3:=HI.out
   have ec:=akC us k (r+3)
   have tX:(us.take k).length=k:=by rw [fg]; omega
   have rO:((us.drop k).take (r+3)).length=r+3:=by rw [fg,j6]; omega
   have hwa:bN 4294967296 ((us.drop k).take (r+3)):=(h3.2.1.drop k).take _
   have Dh:=h3.2.2.2.2.1
   rw [<- ec] at Dh
   have hVb:V<4294967296 ^ (r+2):=by have:=uA V; rwa [HVL.out] at this
   have MP:=UZ ae tX rO hwa hVb Dh
   have U1:(L V).getD (r+1) 0≠0:=aag (OI ae V) HVL.out
   have σ:=fun win' h=>Pm (b:=4294967296) (V:=V) (win:=(us.drop k).take (r+3)) (win':=win') (U:=U) tX HV0.out MP.1 (by rw [h3.2.2.1]; omega) (by rw [ec]; exact h3.2.2.2.2.2) h
   have HS:=Lib.hid σ
   have hLc:rQ wr g (us.take k++(us.drop k).take (r+3)++us.drop (k+(r+3))):=by rw [ec]; exact HR.out
   have hD:=MQ (c:=cu - k) (d:=r+2) (A:=bh gv) (vs:=L V) hLc tX rO ae (by unfold maxLen; omega) hwa HUV.out (fun a ha=>by cases ha; exact fun h=>Yu h.symm) ae (by rw [mT]; exact MP.2)
   rw [mT] at hD
   have HD:=Lib.hid hD
   have Of:=HA.out.cell k (by rw [h3.2.2.1]; omega)
   have HPL:=Lib.hid (And.intro tX (And.intro rO (And.intro hwa (ux HV0.out |>.2 MP.2))))
   clear h3 ec tX rO hwa Dh hVb MP U1 σ hLc hD
   go_wp2_with fail
   rw [show k+(r+2)+1 - k=r+3 from ae]
   refine HD.out.mono ?_
   rintro e w6 ⟨os,rfl,mE,hoa,AZ,hL6,hE6⟩
   have hA6:=hE6.arr HA.out (fun h=>hgq h.symm)
   have afu:=hE6.u32 HUV.out (fun a ha=>by cases ha; exact fun h=>Yu h.symm)
   have hW6:=hE6.below HW.out hwg HW.out.size
   have Bo:=hA6.cell k (by have:=HI.out.2.2.1; omega)
   have hfq:=hA6.frozen k
   have HA6:=Lib.hid hA6
   have akK:=Lib.hid afu
   have HW6:=Lib.hid hW6
   have HL6:=Lib.hid hL6
   have HO6:=Lib.hid (And.intro mE (And.intro hoa AZ))
   have hdl:=HPL.out.2.2.2
   clear mE hoa AZ hL6 hE6 hA6 afu hW6 Of HD
   generalize val 4294967296 ((us.drop k).take (r+3)) / V=q at*
   go_wp2
   go_roundw
   case rel=>
    have h3:=HI.out
    have h4:=HS.out os HO6.out.2.2
    refine ⟨k,us.take k++os++us.drop (k+(r+3)),qs.set k q,by omega,rfl,⟨?_,?_,by rw [cH]; exact h3.2.2.1,h3.2.2.2.1.set k hdl,h4.1,h4.2⟩,HL6.out.oC (Below.heap_setCell _ _ _ _ (by exact hgq)),HA6.out.set k q,?_,HW6.out.setCell hws _⟩
    ·rw [aP,aP,HPL.out.1,HO6.out.1,j6,h3.1]; omega
    ·exact ((h3.2.1.take k).append HO6.out.2.1).append (h3.2.1.drop _)
    ·exact akK.out.far (by show gv≠w4.heap.size; omega) _
   case measure=>simp [intOf]
theorem Px {A B:Option Addr} {n c m d N M:Nat} {w:World} (h:cM w A n c N) (k:cM w B m d M) (hn:n<=900000) (hM:M≠0):
  Calls Tryz.prog 103 #[.slice A n c,.slice B m d] w fun e w'=>∃v u,e=.returned (.tuple #[v,u,.int .i64 0])/\kC w.heap.size w' v (N / M)/\kC w.heap.size w' u (N%M)/\Below w.heap.size w w':=by
 by_cases cD:N<M
 ·exact U6 h k (by have:=Dk h; omega) cD
 ·have:=yS (N:=M) ae
  by_cases h1:nl M=1
  ·exact aah h k ae cD h1
  ·exact aai h k hn cD ae
theorem Dt (w:World) (o o' H8 o3:Obj):Below w.heap.size w ((((w.alloc o).alloc o').alloc H8).alloc o3):=(mV w o o' H8).alloc (by simp; omega) _
theorem aaA {t t' t'' t3:TypeId} {w w1:World} {a0 a1 b0 b1 z0 z1 y0 y1:Value}
  (hb:Below ((((w.alloc (.cells #[a0,a1] t)).alloc (.cells #[b0,b1] t')).alloc (.cells #[z0,z1] t'')).alloc (.cells #[y0,y1] t3)).heap.size ((((w.alloc (.cells #[a0,a1] t)).alloc (.cells #[b0,b1] t')).alloc (.cells #[z0,z1] t'')).alloc (.cells #[y0,y1] t3)) w1):
  dO t w1 w.heap.size a0 a1/\dO t' w1 (w.heap.size+1) b0 b1/\dO t'' w1 (w.heap.size+1+1) z0 z1/\dO t3 w1 (w.heap.size+1+1+1) y0 y1/\Below w.heap.size w w1:=by
 have h:=vM (w:=w) (t:=t) (t':=t') (t'':=t'') (a0:=a0) (a1:=a1) (b0:=b0) (b1:=b1) (z0:=z0) (z1:=z1) (Below.refl _ _)
 have e3:=Yt w (.cells #[a0,a1] t) (.cells #[b0,b1] t') (.cells #[z0,z1] t'')
 have h4:=dO.new (((w.alloc (.cells #[a0,a1] t)).alloc (.cells #[b0,b1] t')).alloc (.cells #[z0,z1] t'')) t3 y0 y1
 rw [e3] at h4
 have h0:=h.1.alloc (.cells #[y0,y1] t3)
 have h1:=h.2.1.alloc (.cells #[y0,y1] t3)
 have h2:=h.2.2.1.alloc (.cells #[y0,y1] t3)
 exact ⟨h0.below hb h0.lt,h1.below hb h1.lt,h2.below hb h2.lt,h4.below hb h4.lt,ja (Dt _ _ _ _ _) hb⟩
theorem Ir {w:World} {p:Addr} {v:Value} (h:w.cell? p=some v) (o:Obj):(w.alloc o).cell? p=some v:=(World.cell?_alloc_lt w o p (World.block_lt_of_cell? w p h)).trans h
theorem M0 {w:World} {p:Addr} {v:Value} (h:w.cell? p=some v):w.drew.cell? p=some v:=h
theorem PZ {w:World} {p q:Addr} {v:Value} (h:w.cell? p=some v) (sQ:p.block≠q.block) (u:Value):(w.setCell q u).cell? p=some v:=
 (World.cell?_of_block (Below.heap_setCell w q u p.block sQ)).trans h
theorem aaB (b:Bool) (A:Option Addr) (n c:Nat) (w:World):
  Calls Tryz.prog 64 #[.bool b,.slice A n c] w fun e w'=>e=.returned (.agg #[.bool (b && decide (0<n)),.slice A n c])/\∃o,w'=w.alloc o:=by
 cases b
 all_goals
  go_enter Tryz.func64,Tryz.ntmps64
  go_wp2
 ·exact bodyPost_ret (by simp [results,Tryz.results64,go_sem]) rfl ⟨rfl,_,rfl⟩
 ·exact bodyPost_ret (by simp [results,Tryz.results64,go_sem]) rfl ⟨rfl,_,rfl⟩
section
variable (w:World) (o o' H8:Obj) (t:TypeId) (a b:Value)
theorem afH:dO t ((((w.alloc (.cells #[a,b] t)).alloc o).alloc o').alloc H8).drew w.heap.size a b:=(((dO.new w t a b).alloc o).alloc o').alloc H8
theorem afI:dO t ((((w.alloc o).alloc (.cells #[a,b] t)).alloc o').alloc H8).drew (w.heap.size+1) a b:=by
 have h:=((dO.new (w.alloc o) t a b).alloc o').alloc H8
 rw [show (w.alloc o).heap.size=w.heap.size+1 by simp] at h
 exact h
theorem afJ:dO t ((((w.alloc o).alloc o').alloc (.cells #[a,b] t)).alloc H8).drew (w.heap.size+1+1) a b:=by
 have h:=(dO.new ((w.alloc o).alloc o') t a b).alloc H8
 rw [show ((w.alloc o).alloc o').heap.size=w.heap.size+1+1 by simp] at h
 exact h
theorem afK:dO t ((((w.alloc o).alloc o').alloc H8).alloc (.cells #[a,b] t)).drew (w.heap.size+1+1+1) a b:=by
 have h:=dO.new (((w.alloc o).alloc o').alloc H8) t a b
 rw [Yt] at h
 exact h
end
theorem eT.Vm {w:World} {A S:Option Addr} {n c g m k:Nat} {b:Bool} {t:TypeId} {xs:List Nat} (h:eT w A n c xs) (q:dO t w g (.bool b) (.slice S m k)) (u u':Value):
  eT ((w.setCell ⟨g,0,none⟩ u).setCell ⟨g,1,none⟩ u') A n c xs:=
 (h.store (by rw [q.c0]; intro x hx; cases hx) u).store (by rw [World.cell?_setCell_other _ _ _ _ cT]; rw [q.c1]; intro x hx; cases hx) u'
theorem eT.P0 {w:World} {A:Option Addr} {n c:Nat} {xs:List Nat} (h:eT w A n c xs) {t t':TypeId} {g g':Nat} (k:dO t w g (.bool false) bA) (k':dO t' w g' (.bool false) bA) (sQ:g'≠g) (u0 u1 v0 v1:Value):
  eT ((((w.setCell ⟨g,0,none⟩ u0).setCell ⟨g,1,none⟩ u1).setCell ⟨g',0,none⟩ v0).setCell ⟨g',1,none⟩ v1).drew A n c xs:=
 eT.below ((h.kD k.c0 k.c1 u0 u1).kD (k'.lJ sQ u0 u1).c0 (k'.lJ sQ u0 u1).c1 v0 v1) (Below.refl _ _).drew
theorem P2 {w:World} {A:Option Addr} {c N:Nat} (b:Bool) (h:eT w A (L N).length c (L N)):dK w A c (sg b N):=by
 unfold dK; rw [BQ,yT]; exact h
theorem KA (b:Bool) (N:Nat):(b && decide (0<(L N).length))=neg (sg b N):=by
 rw [OR,<- J' N]; rfl
theorem P3 (b:Bool) (N:Nat):(L N).length=zl (sg b N):=by rw [BQ]; rfl
set_option maxHeartbeats 4000000 in
theorem P4 {A B:Option Addr} {c d:Nat} {x y:Int} {w:World} (hx:dK w A c x) (hy:dK w B d y) (hn:zl x<=100000) (hm:zl y<=100000) (YG:y≠0):
  Calls Tryz.prog 61 #[.agg #[.bool (neg x),.slice A (zl x) c],.agg #[.bool (neg y),.slice B (zl y) d]] w fun e w'=>∃v u,e=.returned (.tuple #[v,u,.int .i64 0])/\pj w' v (x / y)/\pj w' u (x%y)/\Below w.heap.size w w':=by
 go_enter Tryz.func61,Tryz.ntmps61
 have HY0:=Lib.hid YG
 clear YG
 go_wp2_with fail
 refine (Px (cM.below (dK.num hx) (by exact Dt _ _ _ _ _)) (cM.below (dK.num hy) (by exact Dt _ _ _ _ _)) ae (by have:=HY0.out; omega)).mono ?_
 rintro e w1 ⟨v,u,rfl,⟨A1,c1,rfl,hU1,Oh⟩,⟨A2,c2,rfl,hU2,On⟩,hb⟩
 obtain ⟨q0,q1,q2,q3,nB⟩:=aaA hb
 have Is:=hy.below nB
 clear hb Oh On hx hy
 have HU1:=Lib.hid hU1
 have HU2:=Lib.hid hU2
 have HY1:=Lib.hid Is
 have HBW:=Lib.hid nB
 have Q1:=Lib.hid q1
 have Q2:=Lib.hid q2
 have Q3:=Lib.hid q3
 have a0:=q0.c0
 have a1:=q1.c0
 have hs:=q3.lt
 clear hU1 hU2 Is nB q1 q2 q3 q0
 generalize hbx:neg x=bx at*
 generalize Ih:neg y=bY at*
 have HBX:=Lib.hid (And.intro hbx Ih)
 clear hbx Ih
 go_upto_region 4 with fail
 go_cut [10,11] (fun It P5 wx=>∃g10 g11:Nat,It=bB g10/\P5=bB g11/\
  dO 52 wx g10 (.bool (!bx==bY && decide (0<(L (x.natAbs / y.natAbs)).length))) (.slice A1 (L (x.natAbs / y.natAbs)).length c1)/\dO 52 wx g11 (.bool (bx && decide (0<(L (x.natAbs%y.natAbs)).length))) (.slice A2 (L (x.natAbs%y.natAbs)).length c2)/\
  g10≠g11/\w1.heap.size<=g10/\w1.heap.size<=g11/\Below w1.heap.size w1 wx)
 case first=>
  go_region_held3 (fun w'=>w'.cell? ⟨w.heap.size,0,none⟩=some (.bool bx)/\w'.cell? ⟨w.heap.size+1,0,none⟩=some (.bool bY)) (refine ⟨?_,?_⟩<;>repeat (first | exact a0 | exact a1 | apply M0 | apply Ir | (refine PZ ?_ (by simp; omega) _))) (first | (go_at_call 64; (with_reducible refine (aaB _ _ _ _ _).mono ?_); rintro e wn ⟨rfl,o,rfl⟩))
  all_goals (go_wp2_with fail)
  all_goals go_meet
  all_goals refine ⟨_,_,rfl,rfl,?_,?_,by omega,by omega,by omega,(Dt w1 _ _ _ _).drew⟩
  all_goals first
   | with_reducible exact afH w1 _ _ _ _ _ _
   | with_reducible exact afI w1 _ _ _ _ _ _
   | with_reducible exact afJ w1 _ _ _ _ _ _
   | with_reducible exact afK w1 _ _ _ _ _ _
 case rest=>
  obtain ⟨g10,g11,rfl,rfl,Hv,Fv,Yu,MR,YK,yY⟩:=hcut
  rw [KA,P3 (!bx==bY)] at Hv
  rw [KA,P3 bx] at Fv
  have k1:=Q1.out.below yY Q1.out.lt
  have k2:=Q2.out.below yY Q2.out.lt
  have k3:=Q3.out.below yY Q3.out.lt
  have Is:=HY1.out.below yY
  have zn:=P2 (!bx==bY) (eT.below HU1.out yY)
  have zm:=P2 bx (eT.below HU2.out yY)
  have bw:=ja HBW.out yY
  clear HU1 HU2 HY1 HBW Q1 Q2 Q3 a0 a1 yY
  rw [<- HBX.out.1,<- HBX.out.2] at*
  have hzn:zl (sg (!neg x==neg y) (x.natAbs / y.natAbs))<=100000:=by rw [BQ]; exact bq (pn (yI _ _)) hn
  have hzm:zl (sg (neg x) (x.natAbs%y.natAbs))<=100000:=by rw [BQ]; exact bq (pn (Nat.le_of_lt (kx _ (by have:=HY0.out; omega)))) hm
  have HP:=Lib.hid (fun h=>Fu (x:=x) (y:=y) HY0.out h)
  have HT:=Lib.hid (fun h=>MZ (x:=x) (y:=y) HY0.out h)
  generalize sg (!neg x==neg y) (x.natAbs / y.natAbs)=n at*
  generalize sg (neg x) (x.natAbs%y.natAbs)=m at*
  have e0:=Fv.c0
  go_upto_if 37 with fail
  go_cut [10] (fun It wx=>It=bB g10/\∃(A3:Option Addr) (c3:Nat) (A4:Option Addr) (c4:Nat),dO 52 wx g10 (.bool (neg (x / y))) (.slice A3 (zl (x / y)) c3)/\dO 52 wx g11 (.bool (neg (x%y))) (.slice A4 (zl (x%y)) c4)/\dK wx A3 c3 (x / y)/\dK wx A4 c4 (x%y)/\
   dO 52 wx (w.heap.size+1+1) (.bool false) bA/\dO 52 wx (w.heap.size+1+1+1) (.bool false) bA/\Below w.heap.size w wx)
  case first=>
   cases PY:neg m
   ·have HE:=HP.out PY
    go_wp2_with fail
    go_meet
    case rel=>exact ⟨rfl,A1,c1,A2,c2,by rw [HE.1]; exact Hv,by rw [HE.2]; exact Fv,by rw [HE.1]; exact zn,by rw [HE.2]; exact zm,k2,k3,bw⟩
   ·have HE:=Lib.hid (HT.out PY)
    clear HP HT
    clear e0
    have HM:=Lib.hid PY
    clear PY
    have fy:=y.natAbs
    clear fy
    have Ys:zl (y.natAbs:Int)<=100000:=by rw [Z4]; exact hm
    have hys:=UP y
    have Vg:zl y.sign<=100000:=by have:=qV (n:=y.sign) ae ae; omega
    go_upto_region 6 with fail
    go_cut [10] (fun It wx=>It=bB g10/\∃(A4:Option Addr) (c4:Nat),dO 52 wx g11 (.bool (neg (m+y.natAbs))) (.slice A4 (zl (m+y.natAbs)) c4)/\dK wx A4 c4 (m+y.natAbs)/\dO 52 wx g10 (.bool (neg n)) (.slice A1 (zl n) c1)/\dK wx A1 c1 n/\
     dO 52 wx (w.heap.size+1) (.bool (neg y)) (.slice B (zl y) d)/\dO 52 wx (w.heap.size+1+1) (.bool false) bA/\dO 52 wx (w.heap.size+1+1+1) (.bool false) bA/\Below w.heap.size w wx)
    case first=>
     have a0:=Fv.c0
     have a1:=Fv.c1
     have b0:=k1.c0
     have b1:=k1.c1
     have K:=Lib.hid (And.intro Fv (And.intro Hv (And.intro k1 (And.intro k2 (And.intro k3 bw)))))
     have ZZ:=Lib.hid (And.intro (Is.below (Below.refl wc.heap.size wc).drew) (And.intro (zm.below (Below.refl wc.heap.size wc).drew) (zn.below (Below.refl wc.heap.size wc).drew)))
     clear Fv Hv k1 k2 k3 bw zm zn Is
     go_region_with (first | (go_at_call 59; (with_reducible refine (ae7 ZZ.out.1).mono ?_); rintro e w2 ⟨v,rfl,⟨A5,c5,rfl,z5⟩,gx⟩; have hbA:Below wc.heap.size wc w2:=vL gx; have r11:=K.out.1.below hbA K.out.1.lt; have zm2:=ZZ.out.2.1.below gx; have xy:=r11.c0; have YL:=r11.c1) | (go_at_call 63; (with_reducible refine (BR zm2 z5 ae ae).mono ?_); rintro e w3 ⟨v,rfl,⟨A6,c6,rfl,z6⟩,tW⟩; have nD:=ja hbA tW; have P5:=r11.below tW r11.lt; have It:=K.out.2.1.below nD K.out.2.1.lt; have s1:=K.out.2.2.1.below nD K.out.2.2.1.lt; have s2:=K.out.2.2.2.1.below nD K.out.2.2.2.1.lt; have s3:=K.out.2.2.2.2.1.below nD K.out.2.2.2.2.1.lt; have sb:=ja K.out.2.2.2.2.2 nD; have sn:=(ZZ.out.2.2.below gx).below tW; have d0:=P5.c0; have d1:=P5.c1; have d2:=P5.f 0; have d3:=P5.f 1))
     all_goals (go_wp2_with fail)
     all_goals go_meet
     all_goals exact ⟨rfl,A6,c6,P5.put _ _,eT.Vm z6 P5 _ _,It.lJ Yu _ _,eT.Vm sn P5 _ _,s1.lJ ae _ _,s2.lJ ae _ _,s3.lJ ae _ _,cI sb ae _ _⟩
    case rest=>
     clear Fv zm Hv zn k1 k2 k3 bw Is
     obtain ⟨rfl,A4,c4,Fv,zm,Hv,zn,k1,k2,k3,bw⟩:=hcut
     have a0:=Hv.c0
     have a1:=Hv.c1
     have b0:=k1.c0
     have b1:=k1.c1
     have K:=Lib.hid (And.intro Fv (And.intro Hv (And.intro k2 (And.intro k3 bw))))
     have ZZ:=Lib.hid (And.intro (zn.below (Below.refl wc.heap.size wc).drew) (zm.below (Below.refl wc.heap.size wc).drew))
     clear Fv Hv k1 k2 k3 bw zm zn
     go_upto_region 7 with fail
     go_region_with (first | (go_at_call 60; (with_reducible refine (tp (z:=y)).mono ?_); rintro e w2 ⟨rfl,gx⟩; have hbA:Below wc.heap.size wc w2:=vL gx; have r10:=K.out.2.1.below hbA K.out.2.1.lt; have xy:=r10.c0; have YL:=r10.c1) | (go_at_call 18; (with_reducible refine (yU (n:=y.sign) ae ae).mono ?_); rintro e w3 ⟨v,rfl,⟨A5,c5,rfl,z5⟩,tW⟩; have hbB:=ja hbA tW; have t10:=r10.below tW r10.lt; have vn:=t10.c0; have rb1:=t10.c1; have zn2:=(ZZ.out.1.below gx).below tW) | (go_at_call 104; (with_reducible refine (O0 zn2 z5 ae ae).mono ?_); rintro e w4 ⟨v,rfl,⟨A6,c6,rfl,z6⟩,nD⟩; have MS:=ja hbB nD; have It:=t10.below nD t10.lt; have P5:=K.out.1.below MS K.out.1.lt; have s2:=K.out.2.2.1.below MS K.out.2.2.1.lt; have s3:=K.out.2.2.2.1.below MS K.out.2.2.2.1.lt; have sb:=ja K.out.2.2.2.2 MS; have sm:=((ZZ.out.2.below gx).below tW).below nD; have d0:=It.c0; have d1:=It.c1; have d2:=It.f 0; have d3:=It.f 1))
     all_goals (go_wp2_with fail)
     all_goals go_meet
     all_goals exact ⟨rfl,A6,c6,A4,c4,by rw [HE.out.1]; exact It.put _ _,by rw [HE.out.2]; exact P5.lJ Yu.symm _ _,by rw [HE.out.1]; exact eT.Vm z6 It _ _,by rw [HE.out.2]; exact eT.Vm sm It _ _,s2.lJ ae _ _,s3.lJ ae _ _,cI sb ae _ _⟩
  case rest=>
   clear Fv zm Hv zn k1 k2 k3 bw Is HP HT e0
   obtain ⟨rfl,A3,c3,A4,c4,Hv,Fv,zn,zm,k2,k3,bw⟩:=hcut
   have a0:=Hv.c0
   have a1:=Hv.c1
   have b0:=Fv.c0
   have b1:=Fv.c1
   have d0:=k2.c0
   have d1:=k2.c1
   have d2:=k2.f 0
   have d3:=k2.f 1
   have f0:=k3.c0
   have f1:=k3.c1
   have f2:=k3.f 0
   have f3:=k3.f 1
   have K:=Lib.hid (And.intro Hv (And.intro Fv (And.intro k2 (And.intro k3 bw))))
   have ZZ:=Lib.hid (And.intro zn zm)
   clear Hv Fv k2 k3 bw zn zm
   go_upto_region 8 with fail
   go_region
   all_goals (go_wp2_with fail)
   have k2:=K.out.2.2.1
   have k3:=K.out.2.2.2.1
   exact bodyPost_ret (v:=.tuple #[.agg #[.bool (neg (x / y)),.slice A3 (zl (x / y)) c3],.agg #[.bool (neg (x%y)),.slice A4 (zl (x%y)) c4],.int .i64 0]) (by simp [results,Tryz.results61,go_sem,d0,d1,f0,f1]) rfl
    ⟨_,_,rfl,⟨_,_,rfl,eT.P0 ZZ.out.1 k2 k3 ae _ _ _ _⟩,⟨_,_,rfl,eT.P0 ZZ.out.2 k2 k3 ae _ _ _ _⟩,(cI (cI K.out.2.2.2.2 ae _ _) ae _ _).drew⟩
end Go.Proofs.YtgopcdagnicekaaGreatDoor
