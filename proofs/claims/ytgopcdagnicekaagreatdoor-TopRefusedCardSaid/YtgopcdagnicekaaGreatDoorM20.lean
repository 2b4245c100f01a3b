/- limb.DivMod. No condition. -/
import Derived.Test.YtgopcdagnicekaaGreatDoorM17
import Derived.Test.YtgopcdagnicekaaGreatDoorM19
set_option linter.all false
open Go.Proofs.Tryz
namespace Go.Proofs.YtgopcdagnicekaaGreatDoor
open Go.RowKit Anv
theorem Xd (B:Nat) (w:World):n8 B w bM 0:=
 ⟨none,0,by rw [ud]; rfl,by rw [ud]; exact ⟨rfl,ar _,by simp [maxLen],dZ.nil _,fun hp=>by simp at hp⟩,fun a ha=>by cases ha⟩
variable {A B:Option Addr} {n c m d N M g:Nat} {t':TypeId} {p:Addr} {v:Value} {xs:List Nat}
theorem Xe {w:World} (h:NumIn w A n c N) (k:NumIn w B m d M) (hN:nl N<=1000000) (fh:N<M):
  Calls prog 103 #[.slice A n c,.slice B m d] w fun e w'=>∃v u,e=.returned (.tuple #[v,u,.int .i64 0])/\n8 w.heap.size w' v (N / M)/\n8 w.heap.size w' u (N%M)/\Below w.heap.size w w':=by
 have h0:0<nl M:=Bg ae
 have hc:=(rU N M).2 fh
 have hb:=rq N M
 have HE:=Lib.hid (And.intro (fv fh) (fu fh))
 go_enter func103,ntmps103
 go_wp2_with fail
 refine (lX _ _ _ _ _ k).mono ?_
 rintro e w' ⟨rfl,hT,rfl⟩
 go_wp2_with fail
 refine (qK h (kp.num hT)).mono ?_
 rintro e w1 ⟨rfl,qz⟩
 have h1:=h.below qz
 generalize qH N M=z at*
 go_wp2_with fail
 refine (Bf h1 hN).mono ?_
 rintro e w2 ⟨v,rfl,⟨A2,c2,rfl,hU,hf⟩,kY⟩
 have HU:=Lib.hid hU
 have HF:=Lib.hid hf
 go_wp2
 refine bodyPost_ret (v:=.tuple #[bM,.slice A2 (L N).length c2,.int .i64 0]) (by simp [results,results103,go_sem]) I ?_
 refine ⟨_,_,I,?_,?_,mH qz kY⟩
 ·rw [HE.out.1]; exact Xd _ _
 ·rw [HE.out.2]; exact ⟨_,_,rfl,HU.out,fun a ha=>aD qz.size (HF.out a ha)⟩
theorem Rr (h:nl M=1):(L M).getD 0 0=M/\M<4294967296:=by
 have h1:=qG M
 have h2:=zC M
 have h3:(L M).length=1:=h
 obtain ⟨x,hx⟩:=List.length_eq_one_iff.1 h3
 rw [hx] at h1 h2 ⊢
 have:=h2.head
 simp at h1
 subst h1
 exact ⟨I,this⟩
theorem acg {w:World} (h:NumIn w A n c N) (k:NumIn w B m d M) (hn:n<=1000000) (hle:¬N<M) (h1:nl M=1):
  Calls prog 103 #[.slice A n c,.slice B m d] w fun e w'=>∃v u,e=.returned (.tuple #[v,u,.int .i64 0])/\n8 w.heap.size w' v (N / M)/\n8 w.heap.size w' u (N%M)/\Below w.heap.size w w':=by
 have hc:¬qH N M<0:=fun h=>hle ((rU N M).1 h)
 have hb:=rq N M
 have Xf:0<M:=by
  rcases bu M with h | h
  ·subst h; rw [sM] at h1; omega
  ·exact h
 have h2:=Rr h1
 have hM:M<4294967296:=h2.2
 have HO:=Lib.hid h2.1
 have H1:=Lib.hid h1
 have DL:N%M<4294967296:=Nat.lt_trans (dF N Xf) hM
 go_enter func103,ntmps103
 go_wp2_with fail
 refine (lX _ _ _ _ _ k).mono ?_
 rintro e w' ⟨rfl,hT,rfl⟩
 rw [H1.out] at hT ⊢
 go_wp2_with fail
 refine (qK h (kp.num hT)).mono ?_
 rintro e w1 ⟨rfl,qz⟩
 have h1:=h.below qz
 obtain ⟨b,off,rfl,rh,mx⟩:=(kp.below hT qz).cells ae
 have vV:=mx 0 ae
 rw [HO.out,dr] at vV
 generalize qH N M=z at*
 go_wp2_with fail
 refine (Rm h1 hn Xf hM).mono ?_
 rintro e w2 ⟨v,rfl,⟨A2,c2,rfl,hU,hf⟩,kY⟩
 have xk:=mH qz kY
 have HU:=Lib.hid hU
 have HF:=Lib.hid hf
 go_wp2_with fail
 refine (Bf (LX [N%M] I (by simp [qJ]) (fun x hx=>by simp at hx; omega) fW) (by simp; have:=gC (k:=1) ae; omega)).mono ?_
 rintro e w3 ⟨v,rfl,⟨A3,c3,rfl,hU3,hf3⟩,ru⟩
 rw [show val 4294967296 [N%M]=N%M by simp] at hU3 ⊢
 have HU3:=Lib.hid hU3
 have HF3:=Lib.hid hf3
 have OH:=mH (ue _ _) ru
 have HU4:=Lib.hid (HU.out.below OH)
 go_wp2
 refine bodyPost_ret (v:=.tuple #[.slice A2 (L (N / M)).length c2,.slice A3 (L (N%M)).length c3,.int .i64 0]) (by simp [results,results103,go_sem]) I ?_
 refine ⟨_,_,I,⟨_,_,I,HU4.out,fun a ha=>aD qz.size (HF.out a ha)⟩,⟨_,_,I,HU3.out,fun a ha=>aD (by have:=xk.size; simp; omega) (HF3.out a ha)⟩,mH xk OH⟩
theorem EE {w:World} (h:NumIn w A n c N):nl N<=n:=by
 obtain ⟨xs,hx,rfl⟩:=h
 have h1:=oQ hx.lt
 rw [hx.len] at h1
 exact gC h1
theorem OI {U V:Nat} (hU:m+2<=nl U) (hV:nl V=m+2):val 4294967296 ((L U++[0]).drop (nl U - (m+1)))<V:=by
 have h1:(L U++[0]).drop (nl U - (m+1))=(L U).drop (nl U - (m+1))++[0]:=by
  rw [fR (by show _<=nl U; omega)]
 rw [h1,jJ,show val 4294967296 [0]=0 from rfl,iU,dr]
 have h2:=oQ ((zC U).drop (nl U - (m+1)))
 rw [G3,show nl U - (nl U - (m+1))=m+1 by omega] at h2
 have h3:0<V:=by
  rcases bu V with h | h
  ·subst h; rw [sM] at hV; omega
  ·exact h
 have h4:=wm (b:=4294967296) ae V h3
 rw [show (vI 4294967296 V).length=m+2 from hV] at h4
 exact cl h2 h4
theorem amU (us:List Nat) (k n:Nat):us.take k++(us.drop k).take n++us.drop (k+n)=us:=by
 rw [<- List.drop_drop,aH,dU,dU]
theorem ach {w:World} (h:NumIn w A n c N) (k:NumIn w B m d M) (hn:n<=900000) (hle:¬N<M) (h2:2<=nl M):
  Calls prog 103 #[.slice A n c,.slice B m d] w fun e w'=>∃v u,e=.returned (.tuple #[v,u,.int .i64 0])/\n8 w.heap.size w' v (N / M)/\n8 w.heap.size w' u (N%M)/\Below w.heap.size w w':=by
 have hc:¬qH N M<0:=fun h=>hle ((rU N M).1 h)
 have hb:=rq N M
 have Xf:0<M:=by
  rcases bu M with h | h
  ·subst h; rw [sM] at h2; omega
  ·exact h
 have hnN:=EE h
 have hnM:nl M<=nl N:=sN ae
 obtain ⟨p,hp⟩:∃p,nl M=p+2:=⟨nl M - 2,by omega⟩
 have HP:=Lib.hid hp
 have HB:=Lib.hid (And.intro Xf (And.intro hnN (And.intro hnM (show M<=N by omega))))
 have L2:p<=900000:=ae
 clear hle h2 Xf hnN hnM
 go_enter func103,ntmps103
 go_wp2_with fail
 refine (lX _ _ _ _ _ k).mono ?_
 rintro e w' ⟨rfl,hT,rfl⟩
 rw [hp] at hT ⊢
 clear hp
 go_wp2_with fail
 refine (qK h (kp.num hT)).mono ?_
 rintro e w1 ⟨rfl,qz⟩
 replace h:=h.below qz
 have yx:=hT.below qz
 obtain ⟨b,off,rfl,rh,mx⟩:=yx.cells ae
 have vV:=mx (p+1) ae
 have hx:(L M).getD (p+1) 0<4294967296:=(zC M).get ae _
 generalize (L M).getD (p+1) 0=x at hx vV
 clear hT k mx
 generalize qH N M=z at*
 go_wp2_with fail
 refine (amS (x:Int) _ ae ae).mono ?_
 rintro e w' ⟨rfl,rfl⟩
 have hbl:=yY (x:Int) ae ae
 obtain ⟨s,hs,Qe⟩:∃s:Nat,32 - (Lib.bitLen (x:Int).toNat:Int)=s/\s<=32:=⟨32 - Lib.bitLen (x:Int).toNat,by omega,by omega⟩
 rw [hs]
 clear hs hbl vV hx
 go_wp2_with fail
 refine (Bu (s:=s) (kp.num yx) ae ae).mono ?_
 rintro e w2 ⟨gv,rfl,zW,hUv,kY⟩
 replace h:=h.below kY
 have xk:=mH qz kY
 clear yx
 go_wp2_with fail
 refine (Bu (s:=s) h ae ae).mono ?_
 rintro e w3 ⟨gu,rfl,hgu,hUu,ru⟩
 replace hUv:=hUv.below ru
 have OH:=mH xk ru
 have auP:w.heap.size<=gv:=aD qz.size zW
 have HE:=Lib.hid (And.intro (Nat.mul_div_mul_right N M (fq s)) (Nat.mul_mod_mul_right (2 ^ s) N M))
 have hVM:nl M<=nl (M*2 ^ s):=sN (iB M (fq s))
 have hUV:nl (M*2 ^ s)<=nl (N*2 ^ s):=sN (bB _ HB.out.2.2.2)
 have hUb:nl (N*2 ^ s)<=900003:=by
  have h1:=QV N (2 ^ s)
  have h2:nl (2 ^ s)<=2:=gC (fa (bS ae Qe) aB)
  have:=HB.out.2.1
  omega
 have HR1:=Lib.hid (show N%M*2 ^ s / 2 ^ s=N%M from Nat.mul_div_cancel _ (fq s))
 have HV0:=Lib.hid (show 0<M*2 ^ s from jE HB.out.1 (fq s))
 rw [HP.out] at hVM
 clear hgu zW h
 generalize N*2 ^ s=U at*
 generalize M*2 ^ s=V at*
 obtain ⟨r,hr⟩:∃r,nl V=r+2:=⟨nl V - 2,by omega⟩
 obtain ⟨t,ht⟩:∃t,nl U=t+(r+1):=⟨nl U - (r+1),by omega⟩
 have ht0:0<t:=ae
 have hrt:t+r<=900003:=ae
 have HVL:=Lib.hid hr
 have HUL:=Lib.hid ht
 have HST:=Lib.hid (show val 4294967296 ((L U++[0]).drop t)<V by
  have:=OI (U:=U) (V:=V) (m:=r) ae hr
  rwa [ht,ic] at this)
 rw [hr] at hUv ⊢
 rw [ht] at hUu ⊢
 clear hVM hUV hUb hr ht
 have ahu:gv<w3.heap.size:=by
  obtain ⟨gv',auU,ev,ahu,_⟩:=hUv.cells ae
  cases ev
  exact ahu
 have HUv:=Lib.hid hUv
 clear hUv
 have HLN:=Lib.hid (show (L U++[0]).length=t+(r+1)+1 by rw [ai]; show nl U+1=_; rw [HUL.out])
 go_wp2_with (first | (at_builtin; refine wH w3 rfl (.tmp 66) (.tmp 67) 50 rfl 98 4 underlying50 oe gu _ (L U) hUu 1 _ [0] (by simp [qJ]) rfl ae rfl rfl (by simp only [maxLen]; omega) ae ?_; intro v1 w4 hO1 De hs1; obtain ⟨g,cu,Re,ahv,ahw,hgu,hLu⟩:=hO1.lst fW; rw [HLN.out] at Re ahv; subst Re; clear hO1) | (at_make; refine jR _ rfl _ _ 50 rfl 98 .u32 4 underlying50 oe _ _ _ _ t rfl rfl ae ae ae ae ?_; intro w5 hA5 hB5 hz5))
 have hgw:g<w4.heap.size:=hLu.lt
 have hb6:=mH OH De
 have HBE:=Lib.hid (mH hb6 hB5)
 have ahx:=Lib.hid ((HUv.out.below De).below hB5)
 have HL5:=Lib.hid (hLu.below hB5 hgw)
 have HA5:=Lib.hid hA5
 have hgg:g≠gv:=ae
 have hgq:g≠w4.heap.size:=ae
 have hwg:w.heap.size<=g:=by have:=OH.size; omega
 have hws:w.heap.size<=w4.heap.size:=hb6.size
 clear hLu hA5 hB5 hz5 De hb6 hs1 hUu HUv
 unfold maxLen at ahw
 go_loopw [17] (fun s17 wr=>∃(kk:Nat) (us qs:List Nat),kk<=t/\s17=.int .i64 ((kk:Int) - 1)/\
   Hid (us.length=t+(r+1)+1/\dZ 4294967296 us/\qs.length=t/\dZ 4294967296 qs/\val 4294967296 (us.drop kk)<V/\val 4294967296 us+V*4294967296 ^ kk*val 4294967296 (qs.drop kk)=U)/\
   Hid (vd wr g us)/\Hid (sD .u32 98 wr w4.heap.size qs)/\Hid (kp wr (cS gv) (r+2) (r+2) (L V))/\Hid (Below w.heap.size w wr)) (fun s17 _=>(intOf s17+1).toNat)
 case atStart=>exact ⟨t,L U++[0],_,ar _,int_eq ae,⟨HLN.out,(zC U).append (dZ.cons ae (dZ.nil _)),by simp,dZ.AZ ae _,HST.out,by rw [uc (xs:=List.replicate t 0) fW,jJ,qG]; simp⟩,HL5.out,HA5.out,ahx.out,HBE.out⟩
 case round=>
  clear HL5 HA5 ahx HBE HST
  obtain ⟨kk,us,qs,hk,rfl,HI,HR,HA,HUV,HW⟩:=hrel
  rcases kk with _ | k
  ·have h3:=HI.out
   have h4:=h3.2.2.2.2.2
   have h5:=h3.2.2.2.2.1
   rw [ie] at h4 h5
   rw [Nat.pow_zero,gH] at h4
   have h6:=DK h4 h5
   rw [HE.out.1,HE.out.2] at h6
   have hu:=HR.out.whole h3.1 ahv (by unfold maxLen; exact ahw) h3.2.1
   have hr1:NumIn wr (cS g) (t+(r+1)+1) cu (N%M*2 ^ s):=⟨us,hu,h6.2.symm⟩
   have Wf:NumIn wr (cS w4.heap.size) t t (N / M):=⟨qs,HA.out.u32 h3.2.2.2.1 h3.2.2.1 (by simp only [maxLen]; omega),h6.1.symm⟩
   have HQ1:=Lib.hid Wf
   have hlen:nl (N%M*2 ^ s)<=1000000:=by have:=EE hr1; omega
   clear h3 h4 h5 h6 hu Wf HI HR HA HUV
   go_wp2_with fail
   refine (L4 (s:=s) hr1 hlen ae).mono ?_
   rintro e w6 ⟨v,rfl,⟨A6,c6,rfl,hU6,hf6⟩,hb6⟩
   rw [HR1.out] at hU6 ⊢
   have hq2:=HQ1.out.below hb6
   have HW6:=Lib.hid (mH HW.out hb6)
   have HU6:=Lib.hid hU6
   have HF6:=Lib.hid (fun a ha=>aD HW.out.size (hf6 a ha))
   clear hU6 hf6 hb6 hr1
   go_wp2_with fail
   refine (lX _ _ _ _ _ hq2).mono ?_
   rintro e w7 ⟨rfl,hT7,rfl⟩
   have HT7:=Lib.hid hT7
   clear hT7 hq2
   go_wp2
   refine bodyPost_ret (v:=.tuple #[.slice (cS w4.heap.size) (nl (N / M)) (nl (N / M)),.slice A6 (L (N%M)).length c6,.int .i64 0]) (by simp [results,results103,go_sem]) I ?_
   exact ⟨_,_,I,⟨_,_,I,HT7.out,fun a ha=>by cases ha; exact hws⟩,⟨_,_,rfl,HU6.out,HF6.out⟩,HW6.out⟩
  ·rw [show (((k+1:Nat):Int) - 1)=(k:Int) from ae]
   have JY:(0:Int)<=(k:Int):=ae
   have h3:=HI.out
   have ec:=amU us k (r+3)
   have xE:(us.take k).length=k:=by rw [bJ]; omega
   have u9:((us.drop k).take (r+3)).length=r+3:=by rw [bJ,dp]; omega
   have hwa:dZ 4294967296 ((us.drop k).take (r+3)):=(h3.2.1.drop k).take _
   have C5:=h3.2.2.2.2.1
   rw [<- ec] at C5
   have hVb:V<4294967296 ^ (r+2):=by have:=xz V; rwa [HVL.out] at this
   have OC:=W7 ae xE u9 hwa hVb C5
   have W9:(L V).getD (r+1) 0≠0:=acf (Qz ae V) HVL.out
   have σ:=fun win' h=>Rg (b:=4294967296) (V:=V) (win:=(us.drop k).take (r+3)) (win':=win') (U:=U) xE HV0.out OC.1 (by rw [h3.2.2.1]; omega) (by rw [ec]; exact h3.2.2.2.2.2) h
   have HS:=Lib.hid σ
   have hLc:vd wr g (us.take k++(us.drop k).take (r+3)++us.drop (k+(r+3))):=by rw [ec]; exact HR.out
   have hD:=OD (c:=cu - k) (d:=r+2) (A:=cS gv) (vs:=L V) hLc xE u9 ae (by unfold maxLen; omega) hwa HUV.out (fun a ha=>by cases ha; exact fun h=>hgg h.symm) ae (by rw [qG]; exact OC.2)
   rw [qG] at hD
   have HD:=Lib.hid hD
   have Qc:=HA.out.cell k (by rw [h3.2.2.1]; omega)
   have HPL:=Lib.hid (And.intro xE (And.intro u9 (And.intro hwa (ia HV0.out |>.2 OC.2))))
   clear h3 ec xE u9 hwa C5 hVb OC W9 σ hLc hD
   go_wp2_with fail
   rw [show k+(r+2)+1 - k=r+3 from ae]
   refine HD.out.mono ?_
   rintro e w6 ⟨os,rfl,qy,hoa,EF,hL6,hE6⟩
   have hA6:=hE6.arr HA.out (fun h=>hgq h.symm)
   have ahy:=hE6.u32 HUV.out (fun a ha=>by cases ha; exact fun h=>hgg h.symm)
   have hW6:=hE6.below HW.out hwg HW.out.size
   have Di:=hA6.cell k (by have:=HI.out.2.2.1; omega)
   have hfq:=hA6.frozen k
   have HA6:=Lib.hid hA6
   have am2:=Lib.hid ahy
   have HW6:=Lib.hid hW6
   have HL6:=Lib.hid hL6
   have HO6:=Lib.hid (And.intro qy (And.intro hoa EF))
   have hdl:=HPL.out.2.2.2
   clear qy hoa EF hL6 hE6 hA6 ahy hW6 Qc HD
   generalize val 4294967296 ((us.drop k).take (r+3)) / V=q at*
   go_wp2
   go_roundw
   case rel=>
    have h3:=HI.out
    have h4:=HS.out os HO6.out.2.2
    refine ⟨k,us.take k++os++us.drop (k+(r+3)),qs.set k q,by omega,rfl,⟨?_,?_,by rw [aP]; exact h3.2.2.1,h3.2.2.2.1.set k hdl,h4.1,h4.2⟩,HL6.out.keep (Below.heap_setCell _ _ _ _ (by exact hgq)),HA6.out.set k q,?_,HW6.out.setCell hws _⟩
    ·rw [ai,ai,HPL.out.1,HO6.out.1,dp,h3.1]; omega
    ·exact ((h3.2.1.take k).append HO6.out.2.1).append (h3.2.1.drop _)
    ·exact am2.out.far (by show gv≠w4.heap.size; omega) _
   case measure=>simp [intOf]
theorem Rs {w:World} (h:NumIn w A n c N) (k:NumIn w B m d M) (hn:n<=900000) (hM:M≠0):
  Calls prog 103 #[.slice A n c,.slice B m d] w fun e w'=>∃v u,e=.returned (.tuple #[v,u,.int .i64 0])/\n8 w.heap.size w' v (N / M)/\n8 w.heap.size w' u (N%M)/\Below w.heap.size w w':=by
 by_cases fh:N<M
 ·exact Xe h k (by have:=EE h; omega) fh
 ·have:=Bg (N:=M) ae
  by_cases h1:nl M=1
  ·exact acg h k ae fh h1
  ·exact ach h k hn fh ae
theorem EM (w:World) (o o' JM o3:Obj):Below w.heap.size w ((((w.alloc o).alloc o').alloc JM).alloc o3):=(qI w o o' JM).alloc (by simp; omega) _
theorem acD {t t'' t3:TypeId} {w w1:World} {a0 a1 b0 b1 z0 z1 y0 y1:Value} 
 (hb:Below ((((w.alloc (.cells #[a0,a1] t)).alloc (.cells #[b0,b1] t')).alloc (.cells #[z0,z1] t'')).alloc (.cells #[y0,y1] t3)).heap.size ((((w.alloc (.cells #[a0,a1] t)).alloc (.cells #[b0,b1] t')).alloc (.cells #[z0,z1] t'')).alloc (.cells #[y0,y1] t3)) w1):
  jb t w1 w.heap.size a0 a1/\jb t' w1 (w.heap.size+1) b0 b1/\jb t'' w1 (w.heap.size+1+1) z0 z1/\jb t3 w1 (w.heap.size+1+1+1) y0 y1/\Below w.heap.size w w1:=by
 have h:=yu (w:=w) (t:=t) (t':=t') (t'':=t'') (a0:=a0) (a1:=a1) (b0:=b0) (b1:=b1) (z0:=z0) (z1:=z1) (Below.refl _ _)
 have e3:=aas w (.cells #[a0,a1] t) (.cells #[b0,b1] t') (.cells #[z0,z1] t'')
 have h4:=jb.new (((w.alloc (.cells #[a0,a1] t)).alloc (.cells #[b0,b1] t')).alloc (.cells #[z0,z1] t'')) t3 y0 y1
 rw [e3] at h4
 have h0:=h.1.alloc (.cells #[y0,y1] t3)
 have h1:=h.2.1.alloc (.cells #[y0,y1] t3)
 have h2:=h.2.2.1.alloc (.cells #[y0,y1] t3)
 exact ⟨h0.below hb h0.lt,h1.below hb h1.lt,h2.below hb h2.lt,h4.below hb h4.lt,mH (EM _ _ _ _ _) hb⟩
theorem J6 {w:World} (h:w.cell? p=some v) (o:Obj):(w.alloc o).cell? p=some v:=(World.cell?_alloc_lt w o p (World.block_lt_of_cell? w p h)).trans h
theorem OQ {w:World} (h:w.cell? p=some v):w.drew.cell? p=some v:=h
theorem RX {w:World} {q:Addr} (h:w.cell? p=some v) (u5:p.block≠q.block) (u:Value):(w.setCell q u).cell? p=some v:=
 (World.cell?_of_block (Below.heap_setCell w q u p.block u5)).trans h
theorem acE (b:Bool) (A:Option Addr) (n c:Nat) (w:World):
  Calls prog 64 #[.bool b,.slice A n c] w fun e w'=>e=.returned (.agg #[.bool (b && decide (0<n)),.slice A n c])/\∃o,w'=w.alloc o:=by
 cases b
 all_goals
  go_enter func64,ntmps64
  go_wp2
 ·exact bodyPost_ret (by simp [results,results64,go_sem]) I ⟨I,_,I⟩
 ·exact bodyPost_ret (by simp [results,results64,go_sem]) I ⟨I,_,I⟩
section
variable (w:World) (o o' JM:Obj) (t:TypeId) (a b:Value)
theorem ahN:jb t ((((w.alloc (.cells #[a,b] t)).alloc o).alloc o').alloc JM).drew w.heap.size a b:=(((jb.new w t a b).alloc o).alloc o').alloc JM
theorem ahO:jb t ((((w.alloc o).alloc (.cells #[a,b] t)).alloc o').alloc JM).drew (w.heap.size+1) a b:=by
 have h:=((jb.new (w.alloc o) t a b).alloc o').alloc JM
 rw [show (w.alloc o).heap.size=w.heap.size+1 by simp] at h
 exact h
theorem ahP:jb t ((((w.alloc o).alloc o').alloc (.cells #[a,b] t)).alloc JM).drew (w.heap.size+1+1) a b:=by
 have h:=(jb.new ((w.alloc o).alloc o') t a b).alloc JM
 rw [show ((w.alloc o).alloc o').heap.size=w.heap.size+1+1 by simp] at h
 exact h
theorem ahQ:jb t ((((w.alloc o).alloc o').alloc JM).alloc (.cells #[a,b] t)).drew (w.heap.size+1+1+1) a b:=by
 have h:=jb.new (((w.alloc o).alloc o').alloc JM) t a b
 rw [aas] at h
 exact h
end
theorem kp.Xr {w:World} {S:Option Addr} {k:Nat} {b:Bool} {t:TypeId} (h:kp w A n c xs) (q:jb t w g (.bool b) (.slice S m k)) (u u':Value):
  kp ((w.setCell ⟨g,0,none⟩ u).setCell ⟨g,1,none⟩ u') A n c xs:=
 (h.store (by rw [q.c0]; intro x hx; cases hx) u).store (by rw [World.cell?_setCell_other _ _ _ _ fW]; rw [q.c1]; intro x hx; cases hx) u'
theorem kp.RY {w:World} (h:kp w A n c xs) {t:TypeId} {g':Nat} (k:jb t w g (.bool false) bM) (k':jb t' w g' (.bool false) bM) (u5:g'≠g) (u0 u1 v0 v1:Value):
  kp ((((w.setCell ⟨g,0,none⟩ u0).setCell ⟨g,1,none⟩ u1).setCell ⟨g',0,none⟩ v0).setCell ⟨g',1,none⟩ v1).drew A n c xs:=
 kp.below ((h.od k.c0 k.c1 u0 u1).od (k'.pC u5 u0 u1).c0 (k'.pC u5 u0 u1).c1 v0 v1) (Below.refl _ _).drew
theorem RZ {w:World} (b:Bool) (h:kp w A (L N).length c (L N)):iY w A c (sg b N):=by
 unfold iY; rw [DE,Bh]; exact h
theorem Mh (b:Bool) (N:Nat):(b && decide (0<(L N).length))=neg (sg b N):=by
 rw [QI,<- LU N]; rfl
theorem R3 (b:Bool) (N:Nat):(L N).length=zl (sg b N):=by rw [DE]; rfl
set_option maxHeartbeats 4000000 in
theorem R4 {x y:Int} {w:World} (hx:iY w A c x) (hy:iY w B d y) (hn:zl x<=100000) (hm:zl y<=100000) (hy0:y≠0):
  Calls prog 61 #[.agg #[.bool (neg x),.slice A (zl x) c],.agg #[.bool (neg y),.slice B (zl y) d]] w fun e w'=>∃v u,e=.returned (.tuple #[v,u,.int .i64 0])/\sL w' v (x / y)/\sL w' u (x%y)/\Below w.heap.size w w':=by
 go_enter func61,ntmps61
 have HY0:=Lib.hid hy0
 clear hy0
 go_wp2_with fail
 refine (Rs (NumIn.below (iY.num hx) (by exact EM _ _ _ _ _)) (NumIn.below (iY.num hy) (by exact EM _ _ _ _ _)) ae (by have:=HY0.out; omega)).mono ?_
 rintro e w1 ⟨v,u,rfl,⟨A1,c1,rfl,hU1,Qd⟩,⟨A2,c2,rfl,hU2,Rp⟩,hb⟩
 obtain ⟨q0,q1,q2,q3,rh⟩:=acD hb
 have J7:=hy.below rh
 clear hb Qd Rp hx hy
 have HU1:=Lib.hid hU1
 have HU2:=Lib.hid hU2
 have HY1:=Lib.hid J7
 have HBW:=Lib.hid rh
 have Q1:=Lib.hid q1
 have Q2:=Lib.hid q2
 have Q3:=Lib.hid q3
 have a0:=q0.c0
 have a1:=q1.c0
 have hs:=q3.lt
 clear hU1 hU2 J7 rh q1 q2 q3 q0
 generalize hbx:neg x=bx at*
 generalize Jy:neg y=bY at*
 have HBX:=Lib.hid (And.intro hbx Jy)
 clear hbx Jy
 go_upto_region 4 with fail
 go_cut [10,11] (fun J8 R5 wx=>∃g10 g11:Nat,J8=cY g10/\R5=cY g11/\
  jb 52 wx g10 (.bool (!bx==bY && decide (0<(L (x.natAbs / y.natAbs)).length))) (.slice A1 (L (x.natAbs / y.natAbs)).length c1)/\jb 52 wx g11 (.bool (bx && decide (0<(L (x.natAbs%y.natAbs)).length))) (.slice A2 (L (x.natAbs%y.natAbs)).length c2)/\
  g10≠g11/\w1.heap.size<=g10/\w1.heap.size<=g11/\Below w1.heap.size w1 wx)
 case first=>
  go_region_held3 (fun w'=>w'.cell? ⟨w.heap.size,0,none⟩=some (.bool bx)/\w'.cell? ⟨w.heap.size+1,0,none⟩=some (.bool bY)) (refine ⟨?_,?_⟩<;>repeat (first | exact a0 | exact a1 | apply OQ | apply J6 | (refine RX ?_ (by simp; omega) _))) (first | (go_at_call 64; (with_reducible refine (acE _ _ _ _ _).mono ?_); rintro e wn ⟨rfl,o,rfl⟩))
  all_goals (go_wp2_with fail)
  all_goals go_meet
  all_goals refine ⟨_,_,rfl,rfl,?_,?_,by omega,by omega,by omega,(EM w1 _ _ _ _).drew⟩
  all_goals first
   | with_reducible exact ahN w1 _ _ _ _ _ _
   | with_reducible exact ahO w1 _ _ _ _ _ _
   | with_reducible exact ahP w1 _ _ _ _ _ _
   | with_reducible exact ahQ w1 _ _ _ _ _ _
 case rest=>
  obtain ⟨g10,g11,rfl,rfl,JA,He,hgg,OE,hg1,Bn⟩:=hcut
  rw [Mh,R3 (!bx==bY)] at JA
  rw [Mh,R3 bx] at He
  have k1:=Q1.out.below Bn Q1.out.lt
  have k2:=Q2.out.below Bn Q2.out.lt
  have k3:=Q3.out.below Bn Q3.out.lt
  have J7:=HY1.out.below Bn
  have zn:=RZ (!bx==bY) (kp.below HU1.out Bn)
  have zm:=RZ bx (kp.below HU2.out Bn)
  have bw:=mH HBW.out Bn
  clear HU1 HU2 HY1 HBW Q1 Q2 Q3 a0 a1 Bn
  rw [<- HBX.out.1,<- HBX.out.2] at*
  have hzn:zl (sg (!neg x==neg y) (x.natAbs / y.natAbs))<=100000:=by rw [DE]; exact aD (sN (jc _ _)) hn
  have hzm:zl (sg (neg x) (x.natAbs%y.natAbs))<=100000:=by rw [DE]; exact aD (sN (Nat.le_of_lt (dF _ (by have:=HY0.out; omega)))) hm
  have HP:=Lib.hid (fun h=>Hd (x:=x) (y:=y) HY0.out h)
  have HT:=Lib.hid (fun h=>OP (x:=x) (y:=y) HY0.out h)
  generalize sg (!neg x==neg y) (x.natAbs / y.natAbs)=n at*
  generalize sg (neg x) (x.natAbs%y.natAbs)=m at*
  have e0:=He.c0
  go_upto_if 37 with fail
  go_cut [10] (fun J8 wx=>J8=cY g10/\∃(A3:Option Addr) (c3:Nat) (A4:Option Addr) (c4:Nat),jb 52 wx g10 (.bool (neg (x / y))) (.slice A3 (zl (x / y)) c3)/\jb 52 wx g11 (.bool (neg (x%y))) (.slice A4 (zl (x%y)) c4)/\iY wx A3 c3 (x / y)/\iY wx A4 c4 (x%y)/\
   jb 52 wx (w.heap.size+1+1) (.bool false) bM/\jb 52 wx (w.heap.size+1+1+1) (.bool false) bM/\Below w.heap.size w wx)
  case first=>
   cases RW:neg m
   ·have HE:=HP.out RW
    go_wp2_with fail
    go_meet
    case rel=>exact ⟨rfl,A1,c1,A2,c2,by rw [HE.1]; exact JA,by rw [HE.2]; exact He,by rw [HE.1]; exact zn,by rw [HE.2]; exact zm,k2,k3,bw⟩
   ·have HE:=Lib.hid (HT.out RW)
    clear HP HT
    clear e0
    have HM:=Lib.hid RW
    clear RW
    have fy:=y.natAbs
    clear fy
    have hxy:zl (y.natAbs:Int)<=100000:=by rw [ab3]; exact hm
    have hys:=WZ y
    have RE:zl y.sign<=100000:=by have:=uf (n:=y.sign) ae ae; omega
    go_upto_region 6 with fail
    go_cut [10] (fun J8 wx=>J8=cY g10/\∃(A4:Option Addr) (c4:Nat),jb 52 wx g11 (.bool (neg (m+y.natAbs))) (.slice A4 (zl (m+y.natAbs)) c4)/\iY wx A4 c4 (m+y.natAbs)/\jb 52 wx g10 (.bool (neg n)) (.slice A1 (zl n) c1)/\iY wx A1 c1 n/\
     jb 52 wx (w.heap.size+1) (.bool (neg y)) (.slice B (zl y) d)/\jb 52 wx (w.heap.size+1+1) (.bool false) bM/\jb 52 wx (w.heap.size+1+1+1) (.bool false) bM/\Below w.heap.size w wx)
    case first=>
     have a0:=He.c0
     have a1:=He.c1
     have b0:=k1.c0
     have b1:=k1.c1
     have K:=Lib.hid (And.intro He (And.intro JA (And.intro k1 (And.intro k2 (And.intro k3 bw)))))
     have ZZ:=Lib.hid (And.intro (J7.below (Below.refl wc.heap.size wc).drew) (And.intro (zm.below (Below.refl wc.heap.size wc).drew) (zn.below (Below.refl wc.heap.size wc).drew)))
     clear He JA k1 k2 k3 bw zm zn J7
     go_region_with (first | (go_at_call 59; (with_reducible refine (ahb ZZ.out.1).mono ?_); rintro e w2 ⟨v,rfl,⟨A5,c5,rfl,z5⟩,kY⟩; have hbA:Below wc.heap.size wc w2:=yr kY; have r11:=K.out.1.below hbA K.out.1.lt; have zm2:=ZZ.out.2.1.below kY; have zI:=r11.c0; have ra1:=r11.c1) | (go_at_call 63; (with_reducible refine (DF zm2 z5 ae ae).mono ?_); rintro e w3 ⟨v,rfl,⟨A6,c6,rfl,z6⟩,xk⟩; have ru:=mH hbA xk; have R5:=r11.below xk r11.lt; have J8:=K.out.2.1.below ru K.out.2.1.lt; have s1:=K.out.2.2.1.below ru K.out.2.2.1.lt; have s2:=K.out.2.2.2.1.below ru K.out.2.2.2.1.lt; have s3:=K.out.2.2.2.2.1.below ru K.out.2.2.2.2.1.lt; have sb:=mH K.out.2.2.2.2.2 ru; have sn:=(ZZ.out.2.2.below kY).below xk; have d0:=R5.c0; have d1:=R5.c1; have d2:=R5.f 0; have d3:=R5.f 1))
     all_goals (go_wp2_with fail)
     all_goals go_meet
     all_goals exact ⟨rfl,A6,c6,R5.put _ _,kp.Xr z6 R5 _ _,J8.pC hgg _ _,kp.Xr sn R5 _ _,s1.pC ae _ _,s2.pC ae _ _,s3.pC ae _ _,fE sb ae _ _⟩
    case rest=>
     clear He zm JA zn k1 k2 k3 bw J7
     obtain ⟨rfl,A4,c4,He,zm,JA,zn,k1,k2,k3,bw⟩:=hcut
     have a0:=JA.c0
     have a1:=JA.c1
     have b0:=k1.c0
     have b1:=k1.c1
     have K:=Lib.hid (And.intro He (And.intro JA (And.intro k2 (And.intro k3 bw))))
     have ZZ:=Lib.hid (And.intro (zn.below (Below.refl wc.heap.size wc).drew) (zm.below (Below.refl wc.heap.size wc).drew))
     clear He JA k1 k2 k3 bw zm zn
     go_upto_region 7 with fail
     go_region_with (first | (go_at_call 60; (with_reducible refine (wv (z:=y)).mono ?_); rintro e w2 ⟨rfl,kY⟩; have hbA:Below wc.heap.size wc w2:=yr kY; have r10:=K.out.2.1.below hbA K.out.2.1.lt; have zI:=r10.c0; have ra1:=r10.c1) | (go_at_call 18; (with_reducible refine (Bi (n:=y.sign) ae ae).mono ?_); rintro e w3 ⟨v,rfl,⟨A5,c5,rfl,z5⟩,xk⟩; have hbB:=mH hbA xk; have t10:=r10.below xk r10.lt; have yj:=t10.c0; have rb1:=t10.c1; have zn2:=(ZZ.out.1.below kY).below xk) | (go_at_call 104; (with_reducible refine (QS zn2 z5 ae ae).mono ?_); rintro e w4 ⟨v,rfl,⟨A6,c6,rfl,z6⟩,ru⟩; have OH:=mH hbB ru; have J8:=t10.below ru t10.lt; have R5:=K.out.1.below OH K.out.1.lt; have s2:=K.out.2.2.1.below OH K.out.2.2.1.lt; have s3:=K.out.2.2.2.1.below OH K.out.2.2.2.1.lt; have sb:=mH K.out.2.2.2.2 OH; have sm:=((ZZ.out.2.below kY).below xk).below ru; have d0:=J8.c0; have d1:=J8.c1; have d2:=J8.f 0; have d3:=J8.f 1))
     all_goals (go_wp2_with fail)
     all_goals go_meet
     all_goals exact ⟨rfl,A6,c6,A4,c4,by rw [HE.out.1]; exact J8.put _ _,by rw [HE.out.2]; exact R5.pC hgg.symm _ _,by rw [HE.out.1]; exact kp.Xr z6 J8 _ _,by rw [HE.out.2]; exact kp.Xr sm J8 _ _,s2.pC ae _ _,s3.pC ae _ _,fE sb ae _ _⟩
  case rest=>
   clear He zm JA zn k1 k2 k3 bw J7 HP HT e0
   obtain ⟨rfl,A3,c3,A4,c4,JA,He,zn,zm,k2,k3,bw⟩:=hcut
   have a0:=JA.c0
   have a1:=JA.c1
   have b0:=He.c0
   have b1:=He.c1
   have d0:=k2.c0
   have d1:=k2.c1
   have d2:=k2.f 0
   have d3:=k2.f 1
   have f0:=k3.c0
   have f1:=k3.c1
   have f2:=k3.f 0
   have f3:=k3.f 1
   have K:=Lib.hid (And.intro JA (And.intro He (And.intro k2 (And.intro k3 bw))))
   have ZZ:=Lib.hid (And.intro zn zm)
   clear JA He k2 k3 bw zn zm
   go_upto_region 8 with fail
   go_region
   all_goals (go_wp2_with fail)
   have k2:=K.out.2.2.1
   have k3:=K.out.2.2.2.1
   exact bodyPost_ret (v:=.tuple #[.agg #[.bool (neg (x / y)),.slice A3 (zl (x / y)) c3],.agg #[.bool (neg (x%y)),.slice A4 (zl (x%y)) c4],.int .i64 0]) (by simp [results,results61,go_sem,d0,d1,f0,f1]) I
    ⟨_,_,rfl,⟨_,_,rfl,kp.RY ZZ.out.1 k2 k3 ae _ _ _ _⟩,⟨_,_,rfl,kp.RY ZZ.out.2 k2 k3 ae _ _ _ _⟩,(fE (fE K.out.2.2.2.2 ae _ _) ae _ _).drew⟩
end Go.Proofs.YtgopcdagnicekaaGreatDoor
