/- Short names for what the texts of this claim say most often. Over any program. No condition. -/
import Derived.ProofKit
set_option linter.all false
namespace Go.Proofs.YtgopcdagnicekaaGreatDoor
variable {p:Prop}
theorem ae (h:p:=by omega):p:=h
theorem aB (h:p:=by decide):p:=h
theorem bI (h:p:=by kernel_rfl):p:=h
theorem fW (h:p:=by simp):p:=h
abbrev aG (x:Int):Value:=.int .i64 x
abbrev aM (x:Nat):Value:=.int .i64 (x:Nat)
abbrev cS (g:Nat):Option Addr:=some ⟨g,0,none⟩
abbrev cY (g:Nat):Value:=.pointer (some ⟨g,0,none⟩)
abbrev bM:Value:=.slice none 0 0
theorem ft:type_of%@List.cons_append:=@List.cons_append
theorem aR:type_of%@List.length_cons:=@List.length_cons
theorem cT:type_of%@Nat.pow_succ:=@Nat.pow_succ
theorem bK:type_of%@Nat.mul_add:=@Nat.mul_add
theorem eu:type_of%@Nat.add_assoc:=@Nat.add_assoc
theorem cN:type_of%@Nat.mul_assoc:=@Nat.mul_assoc
theorem cO:type_of%@Nat.mul_comm:=@Nat.mul_comm
theorem fG:type_of%@List.replicate_succ:=@List.replicate_succ
theorem aK:type_of%@List.mem_append:=@List.mem_append
theorem dM:type_of%@List.mem_of_mem_take:=@List.mem_of_mem_take
theorem dx:type_of%@List.mem_of_mem_drop:=@List.mem_of_mem_drop
theorem aV:type_of%@Nat.lt_or_ge:=@Nat.lt_or_ge
theorem eJ:type_of%@List.getElem_mem:=@List.getElem_mem
theorem dz:type_of%@List.mem_or_eq_of_mem_set:=@List.mem_or_eq_of_mem_set
theorem fZ:type_of%@Nat.mul_succ:=@Nat.mul_succ
theorem bT:type_of%@Nat.mul_le_mul_left:=@Nat.mul_le_mul_left
theorem bu:type_of%@Nat.eq_zero_or_pos:=@Nat.eq_zero_or_pos
theorem eW:type_of%@Nat.mod_add_div:=@Nat.mod_add_div
theorem dF:type_of%@Nat.mod_lt:=@Nat.mod_lt
theorem fu:type_of%@Nat.mod_eq_of_lt:=@Nat.mod_eq_of_lt
theorem fv:type_of%@Nat.div_eq_of_lt:=@Nat.div_eq_of_lt
theorem jE:type_of%@Nat.mul_pos:=@Nat.mul_pos
theorem jw:type_of%@Nat.add_mul_div_left:=@Nat.add_mul_div_left
theorem bD:type_of%@Nat.zero_add:=@Nat.zero_add
theorem aq:type_of%@congrArg:=@congrArg
theorem jM:type_of%@List.ext_getElem:=@List.ext_getElem
theorem dU:type_of%@List.take_append_drop:=@List.take_append_drop
theorem jZ:type_of%@List.getElem?_take:=@List.getElem?_take
theorem au:type_of%@if_pos:=@if_pos
theorem ax:type_of%@List.take_of_length_le:=@List.take_of_length_le
theorem ar:type_of%@Nat.le_refl:=@Nat.le_refl
theorem j0:type_of%@List.set_cons_succ:=@List.set_cons_succ
theorem eh:type_of%@Nat.pow_add:=@Nat.pow_add
theorem fD:type_of%@Nat.mul_left_comm:=@Nat.mul_left_comm
theorem bR:type_of%@Nat.mul_le_mul:=@Nat.mul_le_mul
theorem j9:type_of%@Nat.add_mul:=@Nat.add_mul
theorem ia:type_of%@Nat.div_lt_iff_lt_mul:=@Nat.div_lt_iff_lt_mul
theorem cA:type_of%@List.drop_eq_getElem_cons:=@List.drop_eq_getElem_cons
theorem bo:type_of%@List.drop_eq_nil_of_le:=@List.drop_eq_nil_of_le
theorem bB:type_of%@Nat.mul_le_mul_right:=@Nat.mul_le_mul_right
theorem ic:type_of%@Nat.add_sub_cancel:=@Nat.add_sub_cancel
theorem bS:type_of%@Nat.pow_le_pow_right:=@Nat.pow_le_pow_right
theorem bJ:type_of%@List.length_take:=@List.length_take
theorem cW:type_of%@Nat.min_eq_left:=@Nat.min_eq_left
theorem cl:type_of%@Nat.lt_of_lt_of_le:=@Nat.lt_of_lt_of_le
theorem ak:type_of%@if_neg:=@if_neg
theorem fz:type_of%@List.map_set:=@List.map_set
theorem eF:type_of%@Array.getElem?_eq_none:=@Array.getElem?_eq_none
theorem eO:type_of%@Array.getElem?_modify:=@Array.getElem?_modify
theorem gJ:type_of%@Option.map_eq_some_iff:=@Option.map_eq_some_iff
theorem cP:type_of%@Prod.mk.injEq:=@Prod.mk.injEq
theorem aw:type_of%@List.length_map:=@List.length_map
theorem bg:type_of%@List.getElem?_eq_none:=@List.getElem?_eq_none
theorem bG:type_of%@List.mem_map:=@List.mem_map
theorem av:type_of%@Nat.zero_le:=@Nat.zero_le
theorem dr:type_of%@Nat.add_zero:=@Nat.add_zero
theorem ie:type_of%@List.drop_zero:=@List.drop_zero
theorem kj:type_of%@Int.lt_trichotomy:=@Int.lt_trichotomy
theorem eX:type_of%@Int.natCast_mul:=@Int.natCast_mul
theorem iP:type_of%@Int.neg_mul:=@Int.neg_mul
theorem jF:type_of%@Int.mul_neg:=@Int.mul_neg
theorem gW:type_of%@decide_eq_decide:=@decide_eq_decide
theorem eK:type_of%@Nat.le_succ:=@Nat.le_succ
theorem gK:type_of%@Array.getElem?_eq_some_iff:=@Array.getElem?_eq_some_iff
theorem aD:type_of%@Nat.le_trans:=@Nat.le_trans
theorem dL:type_of%@Int.natAbs_mul:=@Int.natAbs_mul
theorem iS:type_of%@Int.natAbs_natCast:=@Int.natAbs_natCast
theorem aW:type_of%@Option.some.inj:=@Option.some.inj
theorem dH:type_of%@Nat.le_of_ble_eq_true:=@Nat.le_of_ble_eq_true
theorem dI:type_of%@Nat.eq_of_beq_eq_true:=@Nat.eq_of_beq_eq_true
theorem cU:type_of%@Array.getD_eq_getD_getElem?:=@Array.getD_eq_getD_getElem?
theorem ah:type_of%@List.mem_of_getElem?:=@List.mem_of_getElem?
theorem bf:type_of%@List.mem_cons:=@List.mem_cons
theorem dk:type_of%@List.map_cons:=@List.map_cons
theorem ag:type_of%@List.getElem?_eq_getElem:=@List.getElem?_eq_getElem
theorem dG:type_of%@List.ext_getElem?:=@List.ext_getElem?
theorem gy:type_of%@List.getElem?_set:=@List.getElem?_set
theorem ew:type_of%@Nat.le_of_eq:=@Nat.le_of_eq
theorem dC:type_of%@List.mem_filterMap:=@List.mem_filterMap
theorem ku:type_of%@List.mapM_cons:=@List.mapM_cons
theorem ju:type_of%@List.mapM_toArray:=@List.mapM_toArray
theorem jN:type_of%@Option.bind_some:=@Option.bind_some
theorem gT:type_of%@Array.getElem?_setIfInBounds_self_of_lt:=@Array.getElem?_setIfInBounds_self_of_lt
theorem jx:type_of%@Array.ext':=@Array.ext'
theorem fe:type_of%@Array.toList_map:=@Array.toList_map
theorem eY:type_of%@List.cons.injEq:=@List.cons.injEq
theorem fw:type_of%@Ne.symm:=@Ne.symm
theorem bp:type_of%@List.all_eq_true:=@List.all_eq_true
theorem bL:type_of%@Bool.and_eq_true:=@Bool.and_eq_true
theorem eR:type_of%@List.mem_range:=@List.mem_range
theorem jO:type_of%@beq_self_eq_true:=@beq_self_eq_true
theorem gX:type_of%@Array.getElem?_eq_getElem:=@Array.getElem?_eq_getElem
theorem iZ:type_of%@Array.mem_of_getElem?:=@Array.mem_of_getElem?
theorem gH:type_of%@Nat.mul_one:=@Nat.mul_one
theorem fH:type_of%@List.pairwise_iff_getElem:=@List.pairwise_iff_getElem
theorem aE:type_of%@List.getElem?_eq_some_iff:=@List.getElem?_eq_some_iff
theorem dR:type_of%@List.pairwise_cons:=@List.pairwise_cons
theorem dO:type_of%@List.getElem?_of_mem:=@List.getElem?_of_mem
theorem i':type_of%@List.eraseIdx_sublist:=@List.eraseIdx_sublist
theorem iU:type_of%@Nat.mul_zero:=@Nat.mul_zero
theorem cG:type_of%@Nat.succ_mul:=@Nat.succ_mul
theorem iB:type_of%@Nat.le_mul_of_pos_right:=@Nat.le_mul_of_pos_right
theorem j1:type_of%@Nat.div_div_eq_div_mul:=@Nat.div_div_eq_div_mul
theorem eL:type_of%@Nat.pow_pos:=@Nat.pow_pos
theorem aH:type_of%@List.append_assoc:=@List.append_assoc
theorem cJ:type_of%@List.nil_append:=@List.nil_append
theorem fR:type_of%@List.drop_append_of_le_length:=@List.drop_append_of_le_length
theorem dp:type_of%@List.length_drop:=@List.length_drop
theorem kg:type_of%@List.set_append_right:=@List.set_append_right
theorem gn:type_of%@List.getElem?_append:=@List.getElem?_append
theorem aP:type_of%@List.length_set:=@List.length_set
theorem dm:type_of%@Array.getElem?_toList:=@Array.getElem?_toList
theorem cD:type_of%@List.map_append:=@List.map_append
theorem ai:type_of%@List.length_append:=@List.length_append
theorem jP:type_of%@Nat.zero_mul:=@Nat.zero_mul
theorem jc:type_of%@Nat.div_le_self:=@Nat.div_le_self
theorem fa:type_of%@Nat.lt_of_le_of_lt:=@Nat.lt_of_le_of_lt
theorem aC:type_of%@decide_eq_false:=@decide_eq_false
theorem a8:type_of%@decide_eq_true:=@decide_eq_true
theorem fq:type_of%@Nat.two_pow_pos:=@Nat.two_pow_pos
theorem aj:type_of%@List.getD_eq_getElem?_getD:=@List.getD_eq_getElem?_getD
theorem bQ:type_of%@List.getElem?_append_left:=@List.getElem?_append_left
theorem j5:type_of%@Option.map_none:=@Option.map_none
theorem fQ:type_of%@Option.map_some:=@Option.map_some
theorem eA:type_of%@beq_iff_eq:=@beq_iff_eq
theorem jd:type_of%@List.all_append:=@List.all_append
theorem bU:type_of%@List.getElem?_append_right:=@List.getElem?_append_right
theorem jI:type_of%@List.take_zero:=@List.take_zero
theorem dV:type_of%@Array.length_toList:=@Array.length_toList
theorem ay:type_of%@List.getElem?_map:=@List.getElem?_map
theorem bN:type_of%@List.getElem?_range:=@List.getElem?_range
theorem aL:type_of%@List.mem_singleton:=@List.mem_singleton
theorem eM:type_of%@List.getElem?_take_of_lt:=@List.getElem?_take_of_lt
theorem iM:type_of%@List.getElem?_set_self:=@List.getElem?_set_self
theorem iu:type_of%@List.take_append_of_le_length:=@List.take_append_of_le_length
theorem ed:type_of%@Int.toNat_natCast:=@Int.toNat_natCast
theorem aJ:type_of%@List.mem_cons_self:=@List.mem_cons_self
theorem iq:type_of%@List.mem_of_mem_eraseIdx:=@List.mem_of_mem_eraseIdx
theorem iK:type_of%@List.take_succ_cons:=@List.take_succ_cons
theorem ja:type_of%@List.set_getElem_self:=@List.set_getElem_self
theorem dc:type_of%@List.eq_nil_of_length_eq_zero:=@List.eq_nil_of_length_eq_zero
theorem j6:type_of%@Int.mul_ne_zero:=@Int.mul_ne_zero
theorem aN:type_of%@of_decide_eq_true:=@of_decide_eq_true
theorem bP:type_of%@of_decide_eq_false:=@of_decide_eq_false
theorem ei:type_of%@List.eq_of_mem_replicate:=@List.eq_of_mem_replicate
theorem df:type_of%@List.length_replicate:=@List.length_replicate
theorem en:type_of%@List.map_replicate:=@List.map_replicate
theorem ji:type_of%@Int.sign_eq_zero_iff_zero:=@Int.sign_eq_zero_iff_zero
theorem fK:type_of%@List.mem_map_of_mem:=@List.mem_map_of_mem
theorem aQ:type_of%@List.mem_cons_of_mem:=@List.mem_cons_of_mem
theorem dh:type_of%@Int.zero_mul:=@Int.zero_mul
theorem jG:type_of%@Int.add_mul:=@Int.add_mul
theorem eT:type_of%@List.map_map:=@List.map_map
theorem cZ:type_of%@List.map_congr_left:=@List.map_congr_left
theorem iC:type_of%@Int.dvd_of_emod_eq_zero:=@Int.dvd_of_emod_eq_zero
theorem b8:type_of%@Int.mul_ediv_cancel:=@Int.mul_ediv_cancel
theorem kx:type_of%@Int.natAbs_pow:=@Int.natAbs_pow
theorem bO:type_of%@Int.mul_assoc:=@Int.mul_assoc
theorem jQ:type_of%@Int.tdiv_mul_cancel:=@Int.tdiv_mul_cancel
theorem iD:type_of%@Int.dvd_of_tmod_eq_zero:=@Int.dvd_of_tmod_eq_zero
theorem bZ:type_of%@Int.mul_comm:=@Int.mul_comm
theorem fA:type_of%@Int.mul_one:=@Int.mul_one
theorem gz:type_of%@List.reverse_cons:=@List.reverse_cons
theorem iL:type_of%@List.length_reverse:=@List.length_reverse
theorem gw:type_of%@List.findIdx?_eq_some_iff_getElem:=@List.findIdx?_eq_some_iff_getElem
theorem jj:type_of%@List.findIdx?_eq_none_iff:=@List.findIdx?_eq_none_iff
theorem bq:type_of%@List.append_nil:=@List.append_nil
theorem cK:type_of%@List.getElem?_replicate:=@List.getElem?_replicate
theorem eH:type_of%@Nat.sub_self:=@Nat.sub_self
theorem iz:type_of%@Bool.eq_false_iff:=@Bool.eq_false_iff
theorem ee:type_of%@List.length_range:=@List.length_range
theorem bh:type_of%@List.length_singleton:=@List.length_singleton
theorem gh:type_of%@Int.pow_succ:=@Int.pow_succ
theorem gN:type_of%@Int.add_zero:=@Int.add_zero
theorem ef:type_of%@Int.mul_zero:=@Int.mul_zero
theorem ke:type_of%@Int.mul_add:=@Int.mul_add
theorem eP:type_of%@Int.mul_left_comm:=@Int.mul_left_comm
theorem eZ:type_of%@Int.one_mul:=@Int.one_mul
theorem iA:type_of%@decide_eq_true_eq:=@decide_eq_true_eq
theorem dB:type_of%@Nat.not_lt_zero:=@Nat.not_lt_zero
theorem iw:type_of%@List.range_succ:=@List.range_succ
theorem du:type_of%@beq_eq_false_iff_ne:=@beq_eq_false_iff_ne
theorem km:type_of%@Nat.lt_succ_of_lt:=@Nat.lt_succ_of_lt
theorem fx:type_of%@Nat.lt_succ_self:=@Nat.lt_succ_self
theorem jy:type_of%@List.pairwise_append:=@List.pairwise_append
theorem jl:type_of%@Classical.byContradiction:=@Classical.byContradiction
theorem eI:type_of%@Bool.eq_iff_iff:=@Bool.eq_iff_iff
theorem aU:type_of%@Int.eq_ofNat_of_zero_le:=@Int.eq_ofNat_of_zero_le
theorem jT:type_of%@Nat.mul_div_cancel_left:=@Nat.mul_div_cancel_left
theorem jv:type_of%@List.flatMap_cons:=@List.flatMap_cons
theorem iy:type_of%@List.length_nil:=@List.length_nil
theorem I:type_of%@rfl:=@rfl
end Go.Proofs.YtgopcdagnicekaaGreatDoor

/- Plain arithmetic on lists of digits: no program in sight. No condition. -/
namespace Go.Proofs.YtgopcdagnicekaaGreatDoor.Anv
def val (b:Nat):List Nat->Nat
 | []=>0
 | x::xs=>x+b*val b xs
def dZ (b:Nat) (xs:List Nat):Prop:=∀x∈xs,x<b
def vI (b n:Nat):List Nat:=if _h:n=0∨b<2 then [] else (n%b)::vI b (n / b)
termination_by n
decreasing_by exact Nat.div_lt_self ae ae
def trim (xs:List Nat):List Nat:=(xs.reverse.dropWhile (·==0)).reverse
@[simp] theorem alb (b:Nat):val b []=0:=rfl
@[simp] theorem nY (b x:Nat) (xs:List Nat):val b (x::xs)=x+b*val b xs:=rfl
theorem jJ (b:Nat) (xs ys:List Nat):val b (xs++ys)=val b xs+b ^ xs.length*val b ys:=by
 induction xs with
 | nil=>simp
 | cons x xs ih=>
  rw [ft,nY,ih,nY,aR,cT,bK,eu,<- cN,cO (b ^ xs.length) b]
theorem u3 (b n:Nat):val b (List.replicate n 0)=0:=by
 induction n with
 | zero=>rfl
 | succ n ih=>simp [fG,ih]
theorem dZ.nil (b:Nat):dZ b []:=fun _ h=>by cases h
variable {b x v n i m k V W g:Nat} {xs pre win post:List Nat}
theorem dZ.cons (h:x<b) (hs:dZ b xs):dZ b (x::xs):=by
 intro y hy
 cases hy with
 | head=>exact h
 | tail _ hy=>exact hs y hy
theorem dZ.head (h:dZ b (x::xs)):x<b:=h x fW
theorem dZ.tail (h:dZ b (x::xs)):dZ b xs:=fun y hy=>h y (by simp [hy])
theorem dZ.append {ys:List Nat} (h:dZ b xs) (k:dZ b ys):dZ b (xs++ys):=by
 intro y hy
 rcases aK.1 hy with hy | hy
 ·exact h y hy
 ·exact k y hy
theorem dZ.take (h:dZ b xs) (n:Nat):dZ b (xs.take n):=fun y hy=>h y (dM hy)
theorem dZ.drop (h:dZ b xs) (n:Nat):dZ b (xs.drop n):=fun y hy=>h y (dx hy)
theorem dZ.AZ (hb:0<b) (n:Nat):dZ b (List.replicate n 0):=fun y hy=>by
 rw [List.mem_replicate] at hy; omega
theorem dZ.get (h:dZ b xs) (hb:0<b) (i:Nat):xs.getD i 0<b:=by
 rcases aV i xs.length with hi | hi
 ·have:xs.getD i 0=xs[i]:=by simp [List.getD,hi]
  rw [this]; exact h _ (eJ hi)
 ·have:xs.getD i 0=0:=by simp [List.getD,hi]
  omega
theorem dZ.set (h:dZ b xs) (i:Nat) (hv:v<b):dZ b (xs.set i v):=by
 intro y hy
 rcases dz hy with hy | hy
 ·exact h y hy
 ·omega
theorem oQ {b:Nat}:∀{xs:List Nat},dZ b xs->val b xs<b ^ xs.length
 | [],_=>by simp
 | x::xs,h=>by
  have h1:=h.head
  have h2:=oQ h.tail
  rw [aR,cT,nY]
  have h3:b*val b xs+b<=b*b ^ xs.length:=by
   rw [<- fZ]; exact bT b h2
  rw [cO (b ^ xs.length) b]
  omega
theorem mL (b:Nat):vI b 0=[]:=by rw [vI]; simp
theorem pk (hb:2<=b) (hn:0<n):vI b n=(n%b)::vI b (n / b):=by
 rw [vI,dif_neg ae]
theorem En (hb:2<=b) (n:Nat):val b (vI b n)=n:=by
 induction n using Nat.strongRecOn with
 | _ n ih=>
  rcases bu n with h | h
  ·subst h; rw [mL]; rfl
  ·rw [pk hb h,nY,ih (n / b) (Nat.div_lt_self h ae)]
   exact eW n b
theorem JJ (hb:2<=b) (n:Nat):dZ b (vI b n):=by
 induction n using Nat.strongRecOn with
 | _ n ih=>
  rcases bu n with h | h
  ·subst h; rw [mL]; exact dZ.nil b
  ·rw [pk hb h]
   exact dZ.cons (dF _ ae) (ih (n / b) (Nat.div_lt_self h ae))
def Norm (xs:List Nat):Prop:=xs.getLast?≠some 0
theorem Qz (hb:2<=b) (n:Nat):Norm (vI b n):=by
 induction n using Nat.strongRecOn with
 | _ n ih=>
  rcases bu n with h | h
  ·subst h; rw [mL]; simp [Norm]
  ·rw [pk hb h]
   have ih':=ih (n / b) (Nat.div_lt_self h ae)
   unfold Norm at ih' ⊢
   rcases hd:vI b (n / b) with _ | ⟨y,ys⟩
   ·have hv:=En hb (n / b)
    rw [hd] at hv
    have h0:n / b=0:=hv.symm
    have h1:n%b=n:=by
     have h2:=eW n b
     rw [h0] at h2; simpa using h2
    simp [h1]; omega
   ·rw [hd] at ih'
    rw [List.getLast?_cons_cons]; exact ih'
theorem Norm.tail {y:Nat} (h:Norm (x::y::xs)):Norm (y::xs):=by
 unfold Norm at h ⊢; rwa [List.getLast?_cons_cons] at h
theorem Eo {b:Nat} (hb:2<=b):∀{xs:List Nat},dZ b xs->Norm xs->vI b (val b xs)=xs
 | [],_,_=>by simp [mL]
 | [x],h,k=>by
  have h1:=h.head
  have h2:x≠0:=by unfold Norm at k; simpa using k
  have h3:val b [x]=x:=by simp
  rw [h3,pk hb ae,fu h1,fv h1,mL]
 | x::y::xs,h,k=>by
  have h1:=h.head
  have ih:=Eo hb h.tail k.tail
  have Ep:0<val b (y::xs):=by
   rcases bu (val b (y::xs)) with h0 | h0
   ·rw [h0,mL] at ih; cases ih
   ·exact h0
  have hv:val b (x::y::xs)=x+b*val b (y::xs):=rfl
  have hm:0<b*val b (y::xs):=jE ae Ep
  rw [hv,pk hb ae,Nat.add_mul_mod_self_left,fu h1,jw _ _ ae,fv h1,bD,ih]
theorem vJ (l:List Nat):∃n,l=List.replicate n 0++l.dropWhile (·==0):=by
 induction l with
 | nil=>exact ⟨0,rfl⟩
 | cons x xs ih=>
  obtain ⟨n,hn⟩:=ih
  by_cases h:x=0
  ·subst h
   refine ⟨n+1,?_⟩
   rw [List.dropWhile_cons_of_pos fW,fG,ft,<- hn]
  ·exact ⟨0,by rw [List.dropWhile_cons_of_neg (by simpa using h)]; rfl⟩
theorem u4 (xs:List Nat):∃n,xs=trim xs++List.replicate n 0:=by
 obtain ⟨n,hn⟩:=vJ xs.reverse
 refine ⟨n,?_⟩
 have h:=aq List.reverse hn
 rw [List.reverse_reverse,List.reverse_append,List.reverse_replicate] at h
 exact h
theorem Og (xs:List Nat):Norm (trim xs):=by
 unfold Norm trim
 rw [List.getLast?_reverse]
 intro h
 have h2:=List.head?_dropWhile_not (p:=fun x:Nat=>x==0) xs.reverse
 rw [h] at h2
 simp at h2
theorem QA (b:Nat) (xs:List Nat):val b (trim xs)=val b xs:=by
 obtain ⟨n,hn⟩:=u4 xs
 conv=>rhs; rw [hn]
 rw [jJ,u3]; simp
theorem WK (h:dZ b xs):dZ b (trim xs):=by
 obtain ⟨n,hn⟩:=u4 xs
 intro x hx
 exact h x (by rw [hn]; simp [hx])
theorem Er (hb:2<=b) (h:dZ b xs):trim xs=vI b (val b xs):=by
 rw [<- QA,Eo hb (WK h) (Og xs)]
theorem GK (hb:2<=b) (h:dZ b xs) (n:Nat) (hn:n<=xs.length)
 (hz:∀i,n<=i->i<xs.length->xs.getD i 0=0) (hl:n=0∨xs.getD (n - 1) 0≠0):xs.take n=vI b (val b xs):=by
 have hd:xs.drop n=List.replicate (xs.length - n) 0:=by
  apply jM
  ·simp
  ·intro i h1 h2
   have hi:i<xs.length - n:=by simpa using h2
   have:=hz (n+i) ae ae
   simp [List.getD,show n+i<xs.length by omega] at this
   simp [this]
 have hv:val b xs=val b (xs.take n):=by
  conv=>lhs; rw [<- dU n xs]
  rw [jJ,hd,u3]; simp
 rw [hv,Eo hb (h.take n)]
 unfold Norm
 rcases hl with hl | hl
 ·subst hl; simp
 ·rcases bu n with h0 | h0
  ·subst h0; simp
  ·rw [List.getLast?_eq_getElem?]
   have e1:(xs.take n).length - 1=n - 1:=by simp; omega
   rw [e1,jZ,au ae]
   intro h3
   exact hl (by simp [List.getD,h3])
theorem mg (b:Nat) (xs:List Nat) (i:Nat) (h:i<xs.length):val b (xs.take (i+1))=val b (xs.take i)+b ^ i*xs.getD i 0:=by
 rw [List.take_succ_eq_append_getElem h,jJ]
 have:(List.take i xs).length=i:=by simp; omega
 rw [this]
 simp [List.getD,h]
theorem vU (b:Nat) (xs:List Nat) (i:Nat) (h:xs.length<=i):val b (xs.take i)=val b xs:=by
 rw [ax h]
theorem iQ (b:Nat) (xs:List Nat) (i:Nat):val b (xs.take (i+1))=val b (xs.take i)+b ^ i*xs.getD i 0:=by
 rcases aV i xs.length with h | h
 ·exact mg b xs i h
 ·rw [vU b xs i h,vU b xs (i+1) ae]
  have:xs.getD i 0=0:=by simp [List.getD,h]
  rw [this]; simp
theorem GL (xs:List Nat) (i v:Nat):(xs.set i v).take i=xs.take i:=by
 rw [List.take_set_of_le (ar i)]
theorem nZ (b:Nat) (xs:List Nat) (i v:Nat) (h:i<xs.length):val b ((xs.set i v).take (i+1))=val b (xs.take i)+b ^ i*v:=by
 rw [iQ,GL]
 congr 2
 simp [List.getD,h]
theorem LN (h:i<xs.length):xs.getD i 0=xs[i]:=by simp [List.getD,h]
theorem qj (h:xs.length<=i):xs.getD i 0=0:=by simp [List.getD,h]
theorem zU (b:Nat):∀(xs:List Nat) (i v:Nat),i<xs.length->val b (xs.set i v)+b ^ i*xs.getD i 0=val b xs+b ^ i*v
 | [],_,_,h=>by simp at h
 | x::xs,0,v,_=>by simp [List.getD]; omega
 | x::xs,i+1,v,h=>by
  have ih:=zU b xs i v (by simpa using h)
  have e1:(x::xs).getD (i+1) 0=xs.getD i 0:=by simp [List.getD]
  rw [j0,nY,nY,e1,cT]
  have e2:b*(val b (xs.set i v)+b ^ i*xs.getD i 0)=b*(val b xs+b ^ i*v):=by rw [ih]
  rw [bK,bK] at e2
  rw [cO (b ^ i) b,cN,cN]
  omega
theorem xx (b:Nat) (xs:List Nat) (i v:Nat) (h:i<xs.length) (h0:xs.getD i 0=0):val b (xs.set i v)=val b xs+b ^ i*v:=by
 have:=zU b xs i v h
 rw [h0] at this; simpa using this
theorem Ba (b:Nat) (x y o:List Nat) (i c:Nat) (hi:i<o.length)
  (h:val b (o.take i)+b ^ i*c=val b (x.take i)+val b (y.take i)):
  val b ((o.set i ((c+x.getD i 0+y.getD i 0)%b)).take (i+1))+b ^ (i+1)*((c+x.getD i 0+y.getD i 0) / b)=val b (x.take (i+1))+val b (y.take (i+1)):=by
 rw [nZ b o i _ hi,iQ b x i,iQ b y i,cT]
 generalize hs:c+x.getD i 0+y.getD i 0=s
 have h1:b ^ i*(s%b)+b ^ i*b*(s / b)=b ^ i*s:=by
  rw [cN,<- bK,eW]
 have h2:b ^ i*s=b ^ i*c+b ^ i*x.getD i 0+b ^ i*y.getD i 0:=by rw [<- hs,bK,bK]
 omega
theorem xy (b:Nat) (x y o:List Nat) (i r d r':Nat) (hi:i<o.length)
  (h:val b (o.take i)+val b (y.take i)=val b (x.take i)+b ^ i*r)
  (hd:d+y.getD i 0+r=x.getD i 0+b*r'):
  val b ((o.set i d).take (i+1))+val b (y.take (i+1))=val b (x.take (i+1))+b ^ (i+1)*r':=by
 rw [nZ b o i _ hi,iQ b x i,iQ b y i,cT]
 have h2:b ^ i*(d+y.getD i 0+r)=b ^ i*(x.getD i 0+b*r'):=by rw [hd]
 rw [bK,bK,bK,<- cN] at h2
 omega
theorem QB (b:Nat) (y o:List Nat) (i k c x T:Nat) (hik:i+k<o.length)
  (h:val b o+b ^ (i+k)*c=T+b ^ i*(x*val b (y.take k))):
  val b (o.set (i+k) ((c+x*y.getD k 0+o.getD (i+k) 0)%b))+b ^ (i+(k+1))*((c+x*y.getD k 0+o.getD (i+k) 0) / b)=T+b ^ i*(x*val b (y.take (k+1))):=by
 have hs:=zU b o (i+k) ((c+x*y.getD k 0+o.getD (i+k) 0)%b) hik
 generalize hS:c+x*y.getD k 0+o.getD (i+k) 0=S at*
 rw [iQ b y k]
 have e1:b ^ (i+(k+1))*(S / b)=b ^ (i+k)*(b*(S / b)):=by rw [<- eu,cT,cN]
 have e2:b ^ (i+k)*(S%b)+b ^ (i+k)*(b*(S / b))=b ^ (i+k)*S:=by rw [<- bK,eW]
 have e3:b ^ (i+k)*S=b ^ (i+k)*c+b ^ (i+k)*(x*y.getD k 0)+b ^ (i+k)*o.getD (i+k) 0:=by rw [<- hS,bK,bK]
 have e4:b ^ i*(x*(val b (y.take k)+b ^ k*y.getD k 0))=b ^ i*(x*val b (y.take k))+b ^ (i+k)*(x*y.getD k 0):=by
  rw [bK,bK,eh]
  congr 1
  simp [cN,fD]
 rw [e1,e4]
 omega
theorem Dy (b c x y o:Nat) (_hb:2<=b) (hc:c<b) (hx:x<b) (hy:y<b) (ho:o<b):(c+x*y+o) / b<b/\c+x*y+o<b*b:=by
 have h1:x*y<=(b - 1)*(b - 1):=bR ae ae
 have h2:(b - 1)*(b - 1)+(b - 1)+(b - 1)+1=b*b:=by
  obtain ⟨m,rfl⟩:∃m,b=m+1:=⟨b - 1,by omega⟩
  simp [j9,bK]; omega
 have h3:c+x*y+o<b*b:=ae
 exact ⟨(ia ae).2 h3,h3⟩
theorem rT (b:Nat) (x:List Nat) (i:Nat):val b (x.drop i)=x.getD i 0+b*val b (x.drop (i+1)):=by
 rcases aV i x.length with h | h
 ·rw [cA h,nY,LN h]
 ·rw [bo h,bo ae,qj h]; simp
theorem yW (xs:List Nat) (i v:Nat):(xs.set i v).drop (i+1)=xs.drop (i+1):=by
 rw [List.drop_set_of_lt ae]
theorem yn (b:Nat) (x o:List Nat) (i c r:Nat) (hi:i<o.length)
  (h:val b (o.drop (i+1))*c+r=val b (x.drop (i+1))):
  val b ((o.set i ((r*b+x.getD i 0) / c)).drop i)*c+(r*b+x.getD i 0)%c=val b (x.drop i):=by
 rw [rT b (o.set i _) i,rT b x i,yW]
 have e0:(o.set i ((r*b+x.getD i 0) / c)).getD i 0=(r*b+x.getD i 0) / c:=by simp [List.getD,hi]
 rw [e0,<- h,j9]
 have e1:=eW (r*b+x.getD i 0) c
 have e2:b*val b (o.drop (i+1))*c=b*(val b (o.drop (i+1))*c):=by rw [cN]
 rw [bK,e2]
 have e3:(r*b+x.getD i 0) / c*c=c*((r*b+x.getD i 0) / c):=cO _ _
 have e4:b*r=r*b:=cO _ _
 omega
theorem QC (B P v1 v2 Vl u2 H Ul q:Nat) (hV1:0<v1) (hu2:u2<B) (Gr:Ul<P)
  (hq:q*(Vl+P*(v2+B*v1))<=Ul+P*(u2+B*H)):q<=H / v1:=by
 rw [Nat.le_div_iff_mul_le hV1]
 have h1:q*(P*(B*v1))<=q*(Vl+P*(v2+B*v1)):=bT q (by rw [bK]; omega)
 have h2:Ul+P*(u2+B*H)<P*(B*(H+1)):=by
  have h3:P*(u2+B*H)+P<=P*(B*(H+1)):=by
   rw [<- fZ]; exact bT P (by rw [fZ]; omega)
  omega
 have h4:(P*B)*(q*v1)<(P*B)*(H+1):=by
  have e1:(P*B)*(q*v1)=q*(P*(B*v1)):=by simp [cO,fD]
  rw [e1,cN]; omega
 have:=Nat.lt_of_mul_lt_mul_left h4
 omega
theorem JK (B P v1 v2 Vl u2 H Ul q g r:Nat) (Gr:Ul<P) (hr:g*v1+r=H)
  (hq:q*(Vl+P*(v2+B*v1))<=Ul+P*(u2+B*H)) (ht:r*B+u2<g*v2):q+1<=g:=by
 rcases aV q g with h | h
 ·exact h
 ·exfalso
  have h1:g*(P*(v2+B*v1))<=q*(Vl+P*(v2+B*v1)):=bR h ae
  have h2:g*(P*(v2+B*v1))=P*(g*v2+B*(g*v1)):=by
   rw [fD,bK g,fD g B]
  have h3:P*(u2+B*H)+P<=P*(g*v2+B*(g*v1)):=by
   rw [<- fZ]
   refine bT P ?_
   rw [<- hr,bK,cO B r]; omega
  omega
theorem Oh (B P v1 v2 Vl u2 H Ul g r:Nat) (hv:B*P<=Vl+P*(v2+B*v1)) (hVl:Vl<P) (hg:g<B) (hr:g*v1+r=H)
  (ht:g*v2<=r*B+u2):g*(Vl+P*(v2+B*v1))<=Ul+P*(u2+B*H)+(Vl+P*(v2+B*v1)):=by
 have h1:g*(Vl+P*(v2+B*v1))=g*Vl+P*(g*v2+B*(g*v1)):=by
  rw [bK,fD,bK g,fD g B]
 have h2:P*(g*v2+B*(g*v1))<=P*(u2+B*H):=by
  refine bT P ?_
  rw [<- hr,bK,cO B r]; omega
 have h3:g*Vl<=B*P:=bR ae ae
 omega
theorem yX (B v2 u2 g r:Nat) (hg:g<B) (hv2:v2<B) (hr:B<=r):g*v2<=r*B+u2:=by
 have:=bR (show g<=r by omega) (show v2<=B by omega)
 omega
theorem GM (B v1 un u1 g r:Nat) (hr:g*v1+r=un*B+u1) (Es:un<=v1) (hu1:u1<B) (hrB:B<=r):g<B:=by
 rcases aV g B with h | h
 ·exact h
 ·exfalso
  have h1:B*v1<=g*v1:=bB v1 h
  have h2:un*B<=B*v1:=by rw [cO]; exact bT B Es
  omega
theorem WL (U V g:Nat) (h0:0<V) (h1:U / V<=g) (h2:g*V<=U+V):g=U / V∨g=U / V+1:=by
 have h3:g<=U / V+1:=by
  rw [<- Nat.add_div_right U h0]
  exact (Nat.le_div_iff_mul_le h0).2 h2
 omega
theorem Dz (b:Nat) (x y o:List Nat) (i t c r d r':Nat) (hi:i<o.length)
  (h:val b (o.take i)+t*val b (y.take i)=val b (x.take i)+b ^ i*(c+r))
  (hd:d+(c+y.getD i 0*t)%b+r=x.getD i 0+b*r'):
  val b ((o.set i d).take (i+1))+t*val b (y.take (i+1))=val b (x.take (i+1))+b ^ (i+1)*((c+y.getD i 0*t) / b+r'):=by
 rw [nZ b o i _ hi,iQ b x i,iQ b y i,cT]
 generalize hs:c+y.getD i 0*t=s at*
 have h1:=eW s b
 have h2:b ^ i*(d+s%b+r)=b ^ i*(x.getD i 0+b*r'):=by rw [hd]
 have h3:b ^ i*(s%b+b*(s / b))=b ^ i*s:=by rw [h1]
 have h4:t*(val b (y.take i)+b ^ i*y.getD i 0)=t*val b (y.take i)+b ^ i*(y.getD i 0*t):=by
  rw [bK,fD,cO t (y.getD i 0)]
 have h5:b ^ i*s=b ^ i*c+b ^ i*(y.getD i 0*t):=by rw [<- hs,bK]
 rw [h4,bK (b ^ i*b)]
 rw [bK,bK] at h2
 rw [bK] at h3
 rw [bK] at h2
 rw [bK] at h
 simp only [<- cN] at*
 omega
theorem wm (hb:2<=b) (n:Nat) (hn:0<n):b ^ ((vI b n).length - 1)<=n:=by
 induction n using Nat.strongRecOn with
 | _ n ih=>
  rw [pk hb hn,aR,ic]
  rcases bu (n / b) with h | h
  ·rw [h,mL]; simp; omega
  ·have h1:=ih (n / b) (Nat.div_lt_self hn ae) h
   have h2:0<(vI b (n / b)).length:=by rw [pk hb h]; simp
   have h3:(vI b (n / b)).length=((vI b (n / b)).length - 1)+1:=ae
   rw [h3,cT]
   have h4:=bB b h1
   have h5:=Nat.div_mul_le_self n b
   omega
theorem wq (hb:2<=b) (n:Nat):n<b ^ (vI b n).length:=by
 have:=oQ (JJ hb n)
 rwa [En hb] at this
theorem Bb (hb:2<=b) (h:n<=m):(vI b n).length<=(vI b m).length:=by
 rcases aV (vI b m).length (vI b n).length with h1 | h1
 ·exfalso
  rcases bu n with h0 | h0
  ·subst h0; rw [mL] at h1; simp at h1
  ·have h2:=wm hb n h0
   have h3:=wq hb m
   have h4:b ^ (vI b m).length<=b ^ ((vI b n).length - 1):=bS ae ae
   omega
 ·exact h1
theorem Bc (hb:2<=b) (h:(vI b n).length<(vI b m).length):n<m:=by
 rcases aV n m with h1 | h1
 ·exact h1
 ·have:=Bb hb h1; omega
theorem Dc (hb:2<=b) (h:n<b ^ k):(vI b n).length<=k:=by
 rcases bu n with h0 | h0
 ·subst h0; rw [mL]; simp
 ·have h1:=wm hb n h0
  rcases aV k (vI b n).length with h2 | h2
  ·exfalso
   have h4:b ^ k<=b ^ ((vI b n).length - 1):=bS ae ae
   omega
  ·exact h2
theorem DA (xs ys:List Nat) (i:Nat) (hx:dZ b xs) (hd:xs.drop (i+1)=ys.drop (i+1)) (hi:i<xs.length) (h:xs.getD i 0<ys.getD i 0) (LO:i<ys.length):val b xs<val b ys:=by
 have e1:val b xs=val b (xs.take (i+1))+b ^ (i+1)*val b (xs.drop (i+1)):=by
  conv=>lhs; rw [<- dU (i+1) xs]
  rw [jJ,bJ,cW ae]
 have e2:val b ys=val b (ys.take (i+1))+b ^ (i+1)*val b (ys.drop (i+1)):=by
  conv=>lhs; rw [<- dU (i+1) ys]
  rw [jJ,bJ,cW ae]
 rw [e1,e2,hd,iQ,iQ]
 have h1:=oQ (hx.take i)
 rw [bJ,cW ae] at h1
 have h2:b ^ i*(xs.getD i 0+1)<=b ^ i*ys.getD i 0:=bT _ h
 rw [fZ] at h2
 omega
theorem uc (h:xs.length<=n):xs.drop n=[]:=bo h
theorem DB (xs:List Nat) (i:Nat) (h:i<xs.length):xs.drop i=xs.getD i 0::xs.drop (i+1):=by
 rw [cA h,LN h]
theorem Dd (ys:List Nat) (n:Nat) (h:val b ys<b ^ n):val b (ys.take n)=val b ys:=by
 have e2:val b ys=val b (ys.take n)+b ^ (ys.take n).length*val b (ys.drop n):=by
  conv=>lhs; rw [<- dU n ys]
  rw [jJ]
 rcases aV n ys.length with h1 | h1
 ·rw [bJ,cW ae] at e2
  rcases bu (val b (ys.drop n)) with h0 | h0
  ·rw [h0] at e2; omega
  ·have:=bT (b ^ n) h0
   omega
 ·rw [ax h1]
theorem Oi (xs ys os:List Nat) (n r:Nat) (Oj:dZ b os) (qy:os.length=n) (JL:xs.length=n) (hx:dZ b xs) (hr:r<=1)
 (h:val b (os.take n)+val b (ys.take n)=val b (xs.take n)+b ^ n*r) (hle:val b ys<=val b xs):val b os=val b xs - val b ys:=by
 have h1:=oQ Oj
 have h2:=oQ hx
 rw [qy] at h1
 rw [JL] at h2
 rw [ax (by omega),ax (l:=xs) ae,Dd ys n ae] at h
 rcases bu r with h0 | h0
 ·rw [h0] at h; omega
 ·have:r=1:=ae
  rw [this] at h; omega
theorem pn {j:Nat} (h:i≠j):(xs.set i v).getD j 0=xs.getD j 0:=by
 simp [List.getD,h]
theorem Et (h:i<xs.length):(xs.set i v).getD i 0=v:=by
 simp [List.getD,h]
theorem wu (n j:Nat):(List.replicate n 0).getD j 0=0:=by
 rcases aV j n with h | h
 ·simp [List.getD,h]
 ·exact qj (by simp; exact h)
theorem Q6 (i a b:Nat) (hb:b<2 ^ i):(a*2 ^ i) ||| b=a*2 ^ i+b:=by
 rw [cO,<- Nat.two_pow_add_eq_or_of_lt hb]
theorem Q7 (i a b:Nat) (hb:b<2 ^ i):b ||| (a*2 ^ i)=b+a*2 ^ i:=by
 rw [Nat.or_comm,Q6 i a b hb,Nat.add_comm]
theorem Q8 (b P Q:Nat) (hb:b=P*Q) (hP:0<P) (x o:List Nat) (i s:Nat) (hx:x.getD i 0<b) (hi:i+s+1<o.length)
  (hv:val b o=val b (x.take i)*P*b ^ s) (ho:o.getD (i+s) 0<P) (hz:∀j,i+s<j->o.getD j 0=0) (hl:dZ b o):
  dZ b ((o.set (i+s) (o.getD (i+s) 0+x.getD i 0*P%b)).set (i+s+1) (x.getD i 0*P / b))/\
  val b ((o.set (i+s) (o.getD (i+s) 0+x.getD i 0*P%b)).set (i+s+1) (x.getD i 0*P / b))=val b (x.take (i+1))*P*b ^ s/\
  x.getD i 0*P / b<P/\x.getD i 0*P%b=(x.getD i 0%Q)*P/\o.getD (i+s) 0+x.getD i 0*P%b<b:=by
 have e1:x.getD i 0*P%b=(x.getD i 0%Q)*P:=by rw [hb,cO P Q]; exact Nat.mul_mod_mul_right _ _ _
 have hQ:0<Q:=by
  rcases bu Q with h | h
  ·subst h; rw [iU] at hb; omega
  ·exact h
 have e2:o.getD (i+s) 0+x.getD i 0*P%b<b:=by
  rw [e1,hb]
  have h1:=dF (x.getD i 0) hQ
  have h2:(x.getD i 0%Q+1)*P<=Q*P:=bB P h1
  rw [cG] at h2
  rw [cO P Q]
  omega
 have e3:x.getD i 0*P / b<P:=by
  refine (ia ae).2 ?_
  rw [cO P b]
  exact Nat.mul_lt_mul_of_pos_right hx hP
 have hPb:P<=b:=by rw [hb]; exact iB P hQ
 have h1:=zU b o (i+s) (o.getD (i+s) 0+x.getD i 0*P%b) ae
 have h2:=xx b (o.set (i+s) (o.getD (i+s) 0+x.getD i 0*P%b)) (i+s+1) (x.getD i 0*P / b) (by simp; omega) (by rw [pn ae]; exact hz _ ae)
 refine ⟨(hl.set _ e2).set _ ae,?_,e3,e1,e2⟩
 rw [h2,iQ,j9,j9,<- hv]
 have h3:=eW (x.getD i 0*P) b
 have h4:b ^ (i+s+1)*(x.getD i 0*P / b)=b ^ (i+s)*(b*(x.getD i 0*P / b)):=by rw [cT,cN]
 have h5:b ^ i*x.getD i 0*P*b ^ s=b ^ (i+s)*(x.getD i 0*P):=by rw [eh]; ac_rfl
 rw [h4,h5]
 generalize x.getD i 0*P=y at*
 generalize o.getD (i+s) 0=z at*
 have h6:b ^ (i+s)*y=b ^ (i+s)*(y%b)+b ^ (i+s)*(b*(y / b)):=by rw [<- bK,h3]
 rw [bK] at h1
 omega
theorem Q9 (b P Q:Nat) (hb:b=P*Q) (hP:0<P) (G2:0<b) (x:List Nat) (i:Nat) (hx:x.getD i 0<b):
  val b (x.drop i) / P=(x.getD i 0+b*x.getD (i+1) 0) / P%b+b*(val b (x.drop (i+1)) / P):=by
 have d1:=rT b x i
 have d2:=rT b x (i+1)
 have e1:val b (x.drop i) / P%b=(x.getD i 0+b*x.getD (i+1) 0) / P%b:=by
  rw [d1,d2,bK,<- eu]
  have e:b*(b*val b (x.drop (i+1+1)))=P*(b*(Q*val b (x.drop (i+1+1)))):=by
   conv=>lhs; arg 1; rw [hb]
   simp [cN,fD]
  rw [e,jw _ _ hP,Nat.add_mul_mod_self_left]
 have e2:val b (x.drop i) / P / b=val b (x.drop (i+1)) / P:=by
  rw [j1,cO,<- j1,d1,jw _ _ G2,fv hx,bD]
 have h1:=eW (val b (x.drop i) / P) b
 rw [e1,e2] at h1
 exact h1.symm
theorem Ra (b P Q:Nat) (hb:b=P*Q) (hP:0<P) (G2:0<b) (x o:List Nat) (i T:Nat) (hi:i<o.length) (hx:x.getD i 0<b)
  (h:val b (o.take i)+b ^ i*(val b (x.drop i) / P)=T):
  val b ((o.set i ((x.getD i 0+b*x.getD (i+1) 0) / P%b)).take (i+1))+b ^ (i+1)*(val b (x.drop (i+1)) / P)=T:=by
 rw [nZ b o i _ hi,cT,cN,eu,<- bK,<- Q9 b P Q hb hP G2 x i hx]
 exact h
theorem split2 (b m:Nat) (xs:List Nat) (h:xs.length=m+2):val b xs=val b (xs.take m)+b ^ m*(xs.getD m 0+b*xs.getD (m+1) 0):=by
 have h1:=mg b xs (m+1) ae
 rw [ax (by omega),mg b xs m ae,cT] at h1
 rw [h1,bK,cN]
 omega
theorem ab8 (b m:Nat) (xs:List Nat) (h:xs.length=m+3):val b xs=val b (xs.take m)+b ^ m*(xs.getD m 0+b*(xs.getD (m+2) 0*b+xs.getD (m+1) 0)):=by
 have h1:=mg b xs (m+2) ae
 rw [ax (by omega),mg b xs (m+1) ae,mg b xs m ae,cT b (m+1),cT b m] at h1
 rw [h1,bK,bK,bK,cO (xs.getD (m+2) 0) b]
 simp only [<- cN]
 omega
structure ahn (b V W H v1 v2 u2:Nat):Prop where
 pos:0<V
 low:W<b*V
 first:W / V<=H / v1
 mend:∀g r,g*v1+r=H->r*b+u2<g*v2->W / V+1<=g
 digit:∀g r,g*v1+r=H->b<=r->g<b
 stop:∀g r,g*v1+r=H->W / V<=g->g<b->g*v2<=r*b+u2->g=W / V∨g=W / V+1
theorem Rc (b m:Nat) (hb:2<=b) (win vs:List Nat) (hw:win.length=m+3) (hv:vs.length=m+2) (u9:dZ b win) (hvl:dZ b vs) (Re:0<vs.getD (m+1) 0) (wG:val b win<b*val b vs):
  ahn b (val b vs) (val b win) (win.getD (m+2) 0*b+win.getD (m+1) 0) (vs.getD (m+1) 0) (vs.getD m 0) (win.getD m 0):=by
 have e1:=split2 b m vs hv
 have e2:=ab8 b m win hw
 have l1:=oQ (hvl.take m)
 rw [bJ,cW ae] at l1
 have l2:=oQ (u9.take m)
 rw [bJ,cW ae] at l2
 have a2:=u9.get ae m
 have a1:=u9.get ae (m+1)
 have c2:=hvl.get ae m
 have hP:0<b ^ m:=eL ae
 generalize vs.getD (m+1) 0=v1 at*
 generalize vs.getD m 0=v2 at*
 generalize win.getD m 0=u2 at*
 generalize win.getD (m+1) 0=u1 at*
 generalize win.getD (m+2) 0=un at*
 generalize val b (vs.take m)=Vl at*
 generalize val b (win.take m)=Ul at*
 generalize b ^ m=P at*
 have hV0:0<val b vs:=by
  rw [e1]
  have:=jE hP (show 0<v2+b*v1 from by have:=jE (show 0<b by omega) Re; omega)
  omega
 have hq:val b win / val b vs*(Vl+P*(v2+b*v1))<=Ul+P*(u2+b*(un*b+u1)):=by
  rw [<- e1,<- e2]; exact Nat.div_mul_le_self _ _
 have Es:un<=v1:=by
  rcases aV v1 un with h | h
  ·exfalso
   rw [e1,e2] at wG
   have h1:v2+b*v1+1<=b*(v1+1):=by rw [fZ]; omega
   have h2:Vl+P*(v2+b*v1)<P*(b*(v1+1)):=by
    have:=bT P h1
    rw [fZ P] at this
    omega
   have h3:b*(P*(b*(v1+1)))<=b*(P*(b*un)):=bT b (bT P (bT b h))
   have h4:b*(P*(b*un))=P*(b*(un*b)):=by simp [cO,fD]
   have h5:P*(b*(un*b))<=P*(u2+b*(un*b+u1)):=bT P (by rw [bK]; omega)
   have h6:b*(Vl+P*(v2+b*v1))<b*(P*(b*(v1+1))):=Nat.mul_lt_mul_of_pos_left h2 ae
   omega
  ·exact h
 have hbP:b*P<=Vl+P*(v2+b*v1):=by
  have h1:P*(b*1)<=P*(b*v1):=bT P (bT b Re)
  rw [gH,cO P b] at h1
  rw [bK]; omega
 refine ⟨hV0,wG,QC b P v1 v2 Vl u2 _ Ul _ Re a2 l2 hq,fun g r hr ht=>JK b P v1 v2 Vl u2 _ Ul _ g r l2 hr hq ht,fun g r hr W5=>GM b v1 un u1 g r hr Es a1 W5,fun g r hr h1 h2 h3=>?_⟩
 refine WL (val b win) (val b vs) g hV0 h1 ?_
 rw [e1,e2]
 exact Oh b P v1 v2 Vl u2 _ Ul g r hbP l1 h2 hr h3
theorem Rf (h0:0<V) (h:W<b*V) (hg:b<=g):W / V+1<=g:=by
 have:=(ia h0).2 h
 omega
theorem W6 (h:g=W / V∨g=W / V+1) (h0:0<V) (hx:x+g*V=W):g=W / V/\x=W%V:=by
 have h1:=eW W V
 have h2:=dF W h0
 rw [cO] at h1
 rcases h with h | h
 ·subst h
  exact ⟨I,by omega⟩
 ·subst h
  rw [cG] at hx
  omega
theorem OB {o c B:Nat} (h:g=W / V∨g=W / V+1) (h0:0<V) (fh:W<g*V) (hx:x+g*V=W+B) (ho:o+B*c=x+V) (hoB:o<B) (hc:c<=1):g - 1=W / V/\o=W%V:=by
 have h1:=eW W V
 have h2:=dF W h0
 rw [cO] at h1
 rcases h with h | h
 ·subst h; omega
 ·subst h
  rw [cG] at hx fh
  refine ⟨I,?_⟩
  rcases bu c with vK | vK
  ·subst vK; omega
  ·obtain rfl:c=1:=ae
   omega
theorem W7 (hb:2<=b) (JX:pre.length=k) (OC:win.length=n+1) (u9:dZ b win) (hV:V<b ^ n)
 (fh:val b ((pre++win++post).drop (k+1))<V):val b post=0/\val b win<b*V:=by
 have e1:(pre++win++post).drop (k+1)=win.drop 1++post:=by
  rw [aH,<- JX,List.drop_append,bo ae,cJ,show pre.length+1 - pre.length=1 by omega]
  rw [fR ae]
 rw [e1,jJ,dp,OC,ic] at fh
 have hp:val b post=0:=by
  rcases bu (val b post) with h | h
  ·exact h
  ·have:=bT (b ^ n) h
   omega
 refine ⟨hp,?_⟩
 rw [hp,iU,dr] at fh
 have h1:=rT b win 0
 rw [ie] at h1
 have h2:=u9.get ae 0
 have h3:=bT b (show val b (win.drop (0+1))+1<=V from fh)
 rw [fZ] at h3
 omega
theorem Rg {U:Nat} {win' qs:List Nat} (JX:pre.length=k) (hV0:0<V) (hp:val b post=0) (hq:k<qs.length)
 (hU:val b (pre++win++post)+V*b ^ (k+1)*val b (qs.drop (k+1))=U) (hw':val b win'=val b win%V):
  val b ((pre++win'++post).drop k)<V/\val b (pre++win'++post)+V*b ^ k*val b ((qs.set k (val b win / V)).drop k)=U:=by
 have e1:(pre++win'++post).drop k=win'++post:=by
  rw [aH,<- JX]; simp
 have h2:=dF (val b win) hV0
 refine ⟨by rw [e1,jJ,hp,hw']; omega,?_⟩
 rw [rT b (qs.set k _) k,yW,Et hq]
 rw [jJ,jJ,hp,iU,dr,JX,hw']
 rw [jJ,jJ,hp,iU,dr,JX] at hU
 have h1:=eW (val b win) V
 generalize val b win / V=q at*
 generalize val b win%V=r at*
 rw [<- hU,<- h1,cT,bK (b ^ k) r,bK (V*b ^ k)]
 have e2:V*b ^ k*q=b ^ k*(V*q):=by ac_rfl
 have e3:V*b ^ k*(b*val b (qs.drop (k+1)))=V*(b ^ k*b)*val b (qs.drop (k+1)):=by ac_rfl
 omega
theorem DK {a q r:Nat} (h:r+b*q=a) (hr:r<b):a / b=q/\a%b=r:=by
 subst h
 exact ⟨by rw [jw _ _ ae,fv hr,bD],by rw [Nat.add_mul_mod_self_left,fu hr]⟩
end Go.Proofs.YtgopcdagnicekaaGreatDoor.Anv

/- How often two divides a number. No program in sight. No condition. -/
namespace Go.Proofs.YtgopcdagnicekaaGreatDoor
open Anv
def x8 (N k:Nat):Prop:=N / 2 ^ k%2=1/\∀j,j<k->N / 2 ^ j%2=0
variable {N k:Nat}
theorem I9 (h:∀j,j<k->N / 2 ^ j%2=0):N=2 ^ k*(N / 2 ^ k):=by
 induction k with
 | zero=>simp
 | succ k ih=>
  have h1:=ih fun j hj=>h j ae
  have h2:=h k ae
  have h3:N / 2 ^ (k+1)=N / 2 ^ k / 2:=by rw [cT,j1]
  rw [h3,cT,cN]
  have h4:2*(N / 2 ^ k / 2)=N / 2 ^ k:=ae
  rw [h4]
  exact h1
theorem x8.eq (h:x8 N k):N=2 ^ k*(N / 2 ^ k):=I9 h.2
theorem x8.pos (h:x8 N k):N≠0:=by
 rintro rfl
 have:=h.1
 simp at this
theorem x8.dvd (h:x8 N k) (n:Nat):2 ^ n∣N↔n<=k:=by
 constructor
 ·intro hd
  rcases aV k n with h1 | h1
  ·obtain ⟨m,hm⟩:=hd
   have h2:N / 2 ^ k=2 ^ (n - k)*m:=by
    rw [hm,show n=k+(n - k) by omega,eh,cN,jT _ (fq k)]
    congr 2; omega
   have h3:=h.1
   rw [h2,show n - k=(n - k - 1)+1 by omega,cT,Nat.mul_right_comm] at h3
   omega
  ·exact h1
 ·intro hn
  rw [h.eq]
  exact Nat.dvd_mul_right_of_dvd (Nat.pow_dvd_pow 2 hn) _
theorem NT {m:Nat} (h:N=2 ^ k*(2*m+1)):x8 N k:=by
 subst h
 refine ⟨?_,fun j hj=>?_⟩
 ·rw [jT _ (fq k)]; omega
 ·rw [show k=j+((k - j - 1)+1) by omega,eh,cN,jT _ (fq j),cT,Nat.mul_right_comm]
  omega
theorem Ee {i x r:Nat} (hx:x<4294967296) (h:N=4294967296 ^ i*(x+4294967296*r)) (hk:x8 x k):x8 N (32*i+k):=by
 have fh:k<32:=by
  rcases aV k 32 with h1 | h1
  ·exact h1
  ·have h2:=hk.1
   rw [fv (cl hx (bS (n:=2) ae h1))] at h2
   omega
 have e:=hk.eq
 have o:=hk.1
 refine NT (m:=(x / 2 ^ k+2 ^ (32 - k)*r) / 2) ?_
 have h3:(x / 2 ^ k+2 ^ (32 - k)*r)%2=1:=by
  rw [show 32 - k=(31 - k)+1 by omega,cT,Nat.mul_right_comm]; omega
 have h4:2 ^ k*(x / 2 ^ k+2 ^ (32 - k)*r)=x+4294967296*r:=by
  rw [bK,<- cN,<- eh,show k+(32 - k)=32 by omega]
  have:2 ^ k*(x / 2 ^ k)=x:=e.symm
  rw [this]
 rw [show 2*((x / 2 ^ k+2 ^ (32 - k)*r) / 2)+1=x / 2 ^ k+2 ^ (32 - k)*r by omega,eh,cN,h4,h,show (4294967296:Nat)=2 ^ 32 from rfl,<- Nat.pow_mul]
end Go.Proofs.YtgopcdagnicekaaGreatDoor
