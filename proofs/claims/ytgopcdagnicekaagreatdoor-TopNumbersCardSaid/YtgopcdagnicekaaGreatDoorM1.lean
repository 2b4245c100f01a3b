/- Short names for what the texts of this claim say most often. Over any program. No condition. -/
import Derived.ProofKit
import Derived.KernelRfl

set_option linter.unusedVariables false
set_option linter.unusedSimpArgs false
set_option linter.all false
namespace Go.Proofs.YtgopcdagnicekaaGreatDoor
theorem ae {p:Prop} (h:p:=by omega):p:=h
theorem ai {p:Prop} (h:p:=by decide):p:=h
theorem aK {p:Prop} (h:p:=by kernel_rfl):p:=h
theorem cT {p:Prop} (h:p:=by simp):p:=h
abbrev aq (x:Int):Value:=.int .i64 x
abbrev ak (x:Nat):Value:=.int .i64 (x:Nat)
abbrev bh (g:Nat):Option Addr:=some ⟨g,0,none⟩
abbrev bB (g:Nat):Value:=.pointer (some ⟨g,0,none⟩)
abbrev bA:Value:=.slice none 0 0
theorem qj:type_of%@List.cons_append:=@List.cons_append
theorem dy:type_of%@List.length_cons:=@List.length_cons
theorem iJ:type_of%@Nat.pow_succ:=@Nat.pow_succ
theorem fw:type_of%@Nat.mul_add:=@Nat.mul_add
theorem mc:type_of%@Nat.add_assoc:=@Nat.add_assoc
theorem iK:type_of%@Nat.mul_assoc:=@Nat.mul_assoc
theorem iO:type_of%@Nat.mul_comm:=@Nat.mul_comm
theorem qN:type_of%@List.replicate_succ:=@List.replicate_succ
theorem b6:type_of%@List.mem_append:=@List.mem_append
theorem lI:type_of%@List.mem_of_mem_take:=@List.mem_of_mem_take
theorem kj:type_of%@List.mem_of_mem_drop:=@List.mem_of_mem_drop
theorem dr:type_of%@Nat.lt_or_ge:=@Nat.lt_or_ge
theorem mS:type_of%@List.getElem_mem:=@List.getElem_mem
theorem kr:type_of%@List.mem_or_eq_of_mem_set:=@List.mem_or_eq_of_mem_set
theorem sL:type_of%@Nat.mul_succ:=@Nat.mul_succ
theorem gl:type_of%@Nat.mul_le_mul_left:=@Nat.mul_le_mul_left
theorem ed:type_of%@Nat.eq_zero_or_pos:=@Nat.eq_zero_or_pos
theorem oy:type_of%@Nat.mod_add_div:=@Nat.mod_add_div
theorem kx:type_of%@Nat.mod_lt:=@Nat.mod_lt
theorem sN:type_of%@Nat.mod_eq_of_lt:=@Nat.mod_eq_of_lt
theorem qk:type_of%@Nat.div_eq_of_lt:=@Nat.div_eq_of_lt
theorem BH:type_of%@Nat.mul_pos:=@Nat.mul_pos
theorem BF:type_of%@Nat.add_mul_div_left:=@Nat.add_mul_div_left
theorem fz:type_of%@Nat.zero_add:=@Nat.zero_add
theorem aM:type_of%@congrArg:=@congrArg
theorem CU:type_of%@List.ext_getElem:=@List.ext_getElem
theorem lX:type_of%@List.take_append_drop:=@List.take_append_drop
theorem yC:type_of%@List.getElem?_take:=@List.getElem?_take
theorem aR:type_of%@if_pos:=@if_pos
theorem bD:type_of%@List.take_of_length_le:=@List.take_of_length_le
theorem aY:type_of%@Nat.le_refl:=@Nat.le_refl
theorem C0:type_of%@List.set_cons_succ:=@List.set_cons_succ
theorem mM:type_of%@Nat.pow_add:=@Nat.pow_add
theorem qM:type_of%@Nat.mul_left_comm:=@Nat.mul_left_comm
theorem fG:type_of%@Nat.mul_le_mul:=@Nat.mul_le_mul
theorem EV:type_of%@Nat.add_mul:=@Nat.add_mul
theorem ux:type_of%@Nat.div_lt_iff_lt_mul:=@Nat.div_lt_iff_lt_mul
theorem gW:type_of%@List.drop_eq_getElem_cons:=@List.drop_eq_getElem_cons
theorem dM:type_of%@List.drop_eq_nil_of_le:=@List.drop_eq_nil_of_le
theorem eh:type_of%@Nat.mul_le_mul_right:=@Nat.mul_le_mul_right
theorem vu:type_of%@Nat.add_sub_cancel:=@Nat.add_sub_cancel
theorem fE:type_of%@Nat.pow_le_pow_right:=@Nat.pow_le_pow_right
theorem fg:type_of%@List.length_take:=@List.length_take
theorem jS:type_of%@Nat.min_eq_left:=@Nat.min_eq_left
theorem gw:type_of%@Nat.lt_of_lt_of_le:=@Nat.lt_of_lt_of_le
theorem aQ:type_of%@if_neg:=@if_neg
theorem qK:type_of%@List.map_set:=@List.map_set
theorem mQ:type_of%@Array.getElem?_eq_none:=@Array.getElem?_eq_none
theorem sK:type_of%@Array.getElem?_modify:=@Array.getElem?_modify
theorem yA:type_of%@Option.map_eq_some_iff:=@Option.map_eq_some_iff
theorem ji:type_of%@Prod.mk.injEq:=@Prod.mk.injEq
theorem aZ:type_of%@List.length_map:=@List.length_map
theorem dz:type_of%@List.getElem?_eq_none:=@List.getElem?_eq_none
theorem ff:type_of%@List.mem_map:=@List.mem_map
theorem bm:type_of%@Nat.zero_le:=@Nat.zero_le
theorem j7:type_of%@Nat.add_zero:=@Nat.add_zero
theorem vv:type_of%@List.drop_zero:=@List.drop_zero
theorem EY:type_of%@Int.lt_trichotomy:=@Int.lt_trichotomy
theorem oz:type_of%@Int.natCast_mul:=@Int.natCast_mul
theorem yB:type_of%@Int.neg_mul:=@Int.neg_mul
theorem BI:type_of%@Int.mul_neg:=@Int.mul_neg
theorem uu:type_of%@decide_eq_decide:=@decide_eq_decide
theorem nJ:type_of%@Nat.le_succ:=@Nat.le_succ
theorem uf:type_of%@Array.getElem?_eq_some_iff:=@Array.getElem?_eq_some_iff
theorem bq:type_of%@Nat.le_trans:=@Nat.le_trans
theorem lH:type_of%@Int.natAbs_mul:=@Int.natAbs_mul
theorem yD:type_of%@Int.natAbs_natCast:=@Int.natAbs_natCast
theorem dw:type_of%@Option.some.inj:=@Option.some.inj
theorem kZ:type_of%@Nat.le_of_ble_eq_true:=@Nat.le_of_ble_eq_true
theorem k5:type_of%@Nat.eq_of_beq_eq_true:=@Nat.eq_of_beq_eq_true
theorem jf:type_of%@Array.getD_eq_getD_getElem?:=@Array.getD_eq_getD_getElem?
theorem aB:type_of%@List.mem_of_getElem?:=@List.mem_of_getElem?
theorem dW:type_of%@List.mem_cons:=@List.mem_cons
theorem jJ:type_of%@List.map_cons:=@List.map_cons
theorem aw:type_of%@List.getElem?_eq_getElem:=@List.getElem?_eq_getElem
theorem kV:type_of%@List.ext_getElem?:=@List.ext_getElem?
theorem td:type_of%@List.getElem?_set:=@List.getElem?_set
theorem nY:type_of%@Nat.le_of_eq:=@Nat.le_of_eq
theorem ku:type_of%@List.mem_filterMap:=@List.mem_filterMap
theorem BE:type_of%@List.mapM_toArray:=@List.mapM_toArray
theorem CW:type_of%@Option.bind_some:=@Option.bind_some
theorem um:type_of%@Array.getElem?_setIfInBounds_self_of_lt:=@Array.getElem?_setIfInBounds_self_of_lt
theorem BG:type_of%@Array.ext':=@Array.ext'
theorem qg:type_of%@Array.toList_map:=@Array.toList_map
theorem pf:type_of%@List.cons.injEq:=@List.cons.injEq
theorem qm:type_of%@Ne.symm:=@Ne.symm
theorem dP:type_of%@List.all_eq_true:=@List.all_eq_true
theorem fB:type_of%@Bool.and_eq_true:=@Bool.and_eq_true
theorem nZ:type_of%@List.mem_range:=@List.mem_range
theorem yJ:type_of%@Array.getElem?_eq_getElem:=@Array.getElem?_eq_getElem
theorem yF:type_of%@Array.mem_of_getElem?:=@Array.mem_of_getElem?
theorem tg:type_of%@Nat.mul_one:=@Nat.mul_one
theorem yK:type_of%@List.pairwise_iff_getElem:=@List.pairwise_iff_getElem
theorem bU:type_of%@List.getElem?_eq_some_iff:=@List.getElem?_eq_some_iff
theorem qe:type_of%@List.pairwise_cons:=@List.pairwise_cons
theorem lV:type_of%@List.getElem?_of_mem:=@List.getElem?_of_mem
theorem yG:type_of%@List.eraseIdx_sublist:=@List.eraseIdx_sublist
theorem J2:type_of%@Nat.mul_zero:=@Nat.mul_zero
theorem iM:type_of%@Nat.succ_mul:=@Nat.succ_mul
theorem wE:type_of%@Nat.le_mul_of_pos_right:=@Nat.le_mul_of_pos_right
theorem C1:type_of%@Nat.div_div_eq_div_mul:=@Nat.div_div_eq_div_mul
theorem nW:type_of%@Nat.pow_pos:=@Nat.pow_pos
theorem cG:type_of%@List.append_assoc:=@List.append_assoc
theorem iU:type_of%@List.nil_append:=@List.nil_append
theorem qR:type_of%@List.drop_append_of_le_length:=@List.drop_append_of_le_length
theorem j6:type_of%@List.length_drop:=@List.length_drop
theorem EX:type_of%@List.set_append_right:=@List.set_append_right
theorem s9:type_of%@List.getElem?_append:=@List.getElem?_append
theorem cH:type_of%@List.length_set:=@List.length_set
theorem k7:type_of%@Array.getElem?_toList:=@Array.getElem?_toList
theorem je:type_of%@List.map_append:=@List.map_append
theorem aP:type_of%@List.length_append:=@List.length_append
theorem J3:type_of%@Nat.zero_mul:=@Nat.zero_mul
theorem yI:type_of%@Nat.div_le_self:=@Nat.div_le_self
theorem qf:type_of%@Nat.lt_of_le_of_lt:=@Nat.lt_of_le_of_lt
theorem bR:type_of%@decide_eq_false:=@decide_eq_false
theorem dU:type_of%@decide_eq_true:=@decide_eq_true
theorem qi:type_of%@Nat.two_pow_pos:=@Nat.two_pow_pos
theorem aF:type_of%@List.getD_eq_getElem?_getD:=@List.getD_eq_getElem?_getD
theorem mJ:type_of%@Int.toNat_natCast:=@Int.toNat_natCast
theorem jg:type_of%@List.getElem?_append_left:=@List.getElem?_append_left
theorem ES:type_of%@Option.map_none:=@Option.map_none
theorem qQ:type_of%@Option.map_some:=@Option.map_some
theorem uh:type_of%@beq_iff_eq:=@beq_iff_eq
theorem ET:type_of%@List.all_append:=@List.all_append
theorem j8:type_of%@List.getElem?_append_right:=@List.getElem?_append_right
theorem mO:type_of%@Array.length_toList:=@Array.length_toList
theorem bo:type_of%@List.getElem?_map:=@List.getElem?_map
theorem fQ:type_of%@List.getElem?_range:=@List.getElem?_range
theorem cC:type_of%@List.mem_singleton:=@List.mem_singleton
theorem qh:type_of%@List.getElem?_take_of_lt:=@List.getElem?_take_of_lt
theorem C2:type_of%@List.getElem?_set_self:=@List.getElem?_set_self
theorem vA:type_of%@List.take_append_of_le_length:=@List.take_append_of_le_length
theorem bS:type_of%@List.mem_cons_self:=@List.mem_cons_self
theorem vw:type_of%@List.mem_of_mem_eraseIdx:=@List.mem_of_mem_eraseIdx
theorem xo:type_of%@List.take_succ_cons:=@List.take_succ_cons
theorem yH:type_of%@List.set_getElem_self:=@List.set_getElem_self
theorem jE:type_of%@List.eq_nil_of_length_eq_zero:=@List.eq_nil_of_length_eq_zero
theorem EU:type_of%@Int.mul_ne_zero:=@Int.mul_ne_zero
theorem bX:type_of%@of_decide_eq_true:=@of_decide_eq_true
theorem fT:type_of%@of_decide_eq_false:=@of_decide_eq_false
theorem lW:type_of%@List.eq_of_mem_replicate:=@List.eq_of_mem_replicate
theorem jH:type_of%@List.length_replicate:=@List.length_replicate
theorem mN:type_of%@List.map_replicate:=@List.map_replicate
theorem yL:type_of%@Int.sign_eq_zero_iff_zero:=@Int.sign_eq_zero_iff_zero
theorem qO:type_of%@List.mem_map_of_mem:=@List.mem_map_of_mem
theorem cO:type_of%@List.mem_cons_of_mem:=@List.mem_cons_of_mem
theorem jI:type_of%@Int.zero_mul:=@Int.zero_mul
theorem BJ:type_of%@Int.add_mul:=@Int.add_mul
theorem ox:type_of%@List.map_map:=@List.map_map
theorem jh:type_of%@List.map_congr_left:=@List.map_congr_left
theorem wF:type_of%@Int.dvd_of_emod_eq_zero:=@Int.dvd_of_emod_eq_zero
theorem gr:type_of%@Int.mul_ediv_cancel:=@Int.mul_ediv_cancel
theorem OH:type_of%@Int.natAbs_pow:=@Int.natAbs_pow
theorem fR:type_of%@Int.mul_assoc:=@Int.mul_assoc
theorem CX:type_of%@Int.tdiv_mul_cancel:=@Int.tdiv_mul_cancel
theorem wG:type_of%@Int.dvd_of_tmod_eq_zero:=@Int.dvd_of_tmod_eq_zero
theorem gn:type_of%@Int.mul_comm:=@Int.mul_comm
theorem qL:type_of%@Int.mul_one:=@Int.mul_one
theorem tf:type_of%@List.reverse_cons:=@List.reverse_cons
theorem yz:type_of%@List.length_reverse:=@List.length_reverse
theorem tc:type_of%@List.findIdx?_eq_some_iff_getElem:=@List.findIdx?_eq_some_iff_getElem
theorem Bf:type_of%@List.findIdx?_eq_none_iff:=@List.findIdx?_eq_none_iff
theorem fv:type_of%@List.append_nil:=@List.append_nil
theorem iN:type_of%@List.getElem?_replicate:=@List.getElem?_replicate
theorem mR:type_of%@Nat.sub_self:=@Nat.sub_self
theorem vD:type_of%@Bool.eq_false_iff:=@Bool.eq_false_iff
theorem mK:type_of%@List.length_range:=@List.length_range
theorem dG:type_of%@List.length_singleton:=@List.length_singleton
theorem sM:type_of%@Int.pow_succ:=@Int.pow_succ
theorem uj:type_of%@Int.add_zero:=@Int.add_zero
theorem mL:type_of%@Int.mul_zero:=@Int.mul_zero
theorem EW:type_of%@Int.mul_add:=@Int.mul_add
theorem nX:type_of%@Int.mul_left_comm:=@Int.mul_left_comm
theorem p':type_of%@Int.one_mul:=@Int.one_mul
theorem ks:type_of%@Nat.not_lt_zero:=@Nat.not_lt_zero
theorem vB:type_of%@List.range_succ:=@List.range_succ
theorem kv:type_of%@beq_eq_false_iff_ne:=@beq_eq_false_iff_ne
theorem EZ:type_of%@Nat.lt_succ_of_lt:=@Nat.lt_succ_of_lt
theorem qJ:type_of%@Nat.lt_succ_self:=@Nat.lt_succ_self
theorem qP:type_of%@Classical.byContradiction:=@Classical.byContradiction
theorem vC:type_of%@Bool.eq_iff_iff:=@Bool.eq_iff_iff
theorem dh:type_of%@Int.eq_ofNat_of_zero_le:=@Int.eq_ofNat_of_zero_le
theorem CY:type_of%@Nat.pow_le_pow_left:=@Nat.pow_le_pow_left
theorem CZ:type_of%@Nat.mul_div_cancel_left:=@Nat.mul_div_cancel_left
end Go.Proofs.YtgopcdagnicekaaGreatDoor

/- Plain arithmetic on lists of digits: no program in sight. No condition. -/
namespace Go.Proofs.YtgopcdagnicekaaGreatDoor.Anv
def val (b:Nat):List Nat->Nat
 | []=>0
 | x::xs=>x+b*val b xs
def bN (b:Nat) (xs:List Nat):Prop:=∀x∈xs,x<b
def sw (b n:Nat):List Nat:=if _h:n=0∨b<2 then [] else (n%b)::sw b (n / b)
termination_by n
decreasing_by exact Nat.div_lt_self ae ae
def trim (xs:List Nat):List Nat:=(xs.reverse.dropWhile (·==0)).reverse
@[simp] theorem ai0 (b:Nat):val b []=0:=rfl
@[simp] theorem ky (b x:Nat) (xs:List Nat):val b (x::xs)=x+b*val b xs:=rfl
theorem en (b:Nat) (xs ys:List Nat):val b (xs++ys)=val b xs+b ^ xs.length*val b ys:=by
 induction xs with
 | nil=>simp
 | cons x xs ih=>
  rw [qj,ky,ih,ky,dy,iJ,fw,mc,<- iK,iO (b ^ xs.length) b]
theorem rJ (b n:Nat):val b (List.replicate n 0)=0:=by
 induction n with
 | zero=>rfl
 | succ n ih=>simp [qN,ih]
theorem bN.nil (b:Nat):bN b []:=fun _ h=>by cases h
theorem bN.cons {b x:Nat} {xs:List Nat} (h:x<b) (hs:bN b xs):bN b (x::xs):=by
 intro y hy
 cases hy with
 | head=>exact h
 | tail _ hy=>exact hs y hy
theorem bN.head {b x:Nat} {xs:List Nat} (h:bN b (x::xs)):x<b:=h x cT
theorem bN.tail {b x:Nat} {xs:List Nat} (h:bN b (x::xs)):bN b xs:=fun y hy=>h y (by simp [hy])
theorem bN.append {b:Nat} {xs ys:List Nat} (h:bN b xs) (k:bN b ys):bN b (xs++ys):=by
 intro y hy
 rcases b6.1 hy with hy | hy
 ·exact h y hy
 ·exact k y hy
theorem bN.take {b:Nat} {xs:List Nat} (h:bN b xs) (n:Nat):bN b (xs.take n):=fun y hy=>h y (lI hy)
theorem bN.drop {b:Nat} {xs:List Nat} (h:bN b xs) (n:Nat):bN b (xs.drop n):=fun y hy=>h y (kj hy)
theorem bN.yM {b:Nat} (hb:0<b) (n:Nat):bN b (List.replicate n 0):=fun y hy=>by
 rw [List.mem_replicate] at hy; omega
theorem bN.get {b:Nat} {xs:List Nat} (h:bN b xs) (hb:0<b) (i:Nat):xs.getD i 0<b:=by
 rcases dr i xs.length with hi | hi
 ·have:xs.getD i 0=xs[i]:=by simp [List.getD,hi]
  rw [this]; exact h _ (mS hi)
 ·have:xs.getD i 0=0:=by simp [List.getD,hi]
  omega
theorem bN.set {b:Nat} {xs:List Nat} (h:bN b xs) (i:Nat) {v:Nat} (hv:v<b):bN b (xs.set i v):=by
 intro y hy
 rcases kr hy with hy | hy
 ·exact h y hy
 ·omega
theorem k8 {b:Nat}:∀{xs:List Nat},bN b xs->val b xs<b ^ xs.length
 | [],_=>by simp
 | x::xs,h=>by
  have h1:=h.head
  have h2:=k8 h.tail
  rw [dy,iJ,ky]
  have h3:b*val b xs+b<=b*b ^ xs.length:=by
   rw [<- sL]; exact gl b h2
  rw [iO (b ^ xs.length) b]
  omega
theorem jj (b:Nat):sw b 0=[]:=by rw [sw]; simp
theorem ly {b n:Nat} (hb:2<=b) (hn:0<n):sw b n=(n%b)::sw b (n / b):=by
 rw [sw,dif_neg ae]
theorem C3 {b:Nat} (hb:2<=b) (n:Nat):val b (sw b n)=n:=by
 induction n using Nat.strongRecOn with
 | _ n ih=>
  rcases ed n with h | h
  ·subst h; rw [jj]; rfl
  ·rw [ly hb h,ky,ih (n / b) (Nat.div_lt_self h ae)]
   exact oy n b
theorem H5 {b:Nat} (hb:2<=b) (n:Nat):bN b (sw b n):=by
 induction n using Nat.strongRecOn with
 | _ n ih=>
  rcases ed n with h | h
  ·subst h; rw [jj]; exact bN.nil b
  ·rw [ly hb h]
   exact bN.cons (kx _ ae) (ih (n / b) (Nat.div_lt_self h ae))
def Norm (xs:List Nat):Prop:=xs.getLast?≠some 0
theorem OI {b:Nat} (hb:2<=b) (n:Nat):Norm (sw b n):=by
 induction n using Nat.strongRecOn with
 | _ n ih=>
  rcases ed n with h | h
  ·subst h; rw [jj]; simp [Norm]
  ·rw [ly hb h]
   have ih':=ih (n / b) (Nat.div_lt_self h ae)
   unfold Norm at ih' ⊢
   rcases hd:sw b (n / b) with _ | ⟨y,ys⟩
   ·have hv:=C3 hb (n / b)
    rw [hd] at hv
    have h0:n / b=0:=hv.symm
    have h1:n%b=n:=by
     have h2:=oy n b
     rw [h0] at h2; simpa using h2
    simp [h1]; omega
   ·rw [hd] at ih'
    rw [List.getLast?_cons_cons]; exact ih'
theorem Norm.tail {x y:Nat} {xs:List Nat} (h:Norm (x::y::xs)):Norm (y::xs):=by
 unfold Norm at h ⊢; rwa [List.getLast?_cons_cons] at h
theorem C4 {b:Nat} (hb:2<=b):∀{xs:List Nat},bN b xs->Norm xs->sw b (val b xs)=xs
 | [],_,_=>by simp [jj]
 | [x],h,k=>by
  have h1:=h.head
  have h2:x≠0:=by unfold Norm at k; simpa using k
  have h3:val b [x]=x:=by simp
  rw [h3,ly hb ae,sN h1,qk h1,jj]
 | x::y::xs,h,k=>by
  have h1:=h.head
  have ih:=C4 hb h.tail k.tail
  have C5:0<val b (y::xs):=by
   rcases ed (val b (y::xs)) with h0 | h0
   ·rw [h0,jj] at ih; cases ih
   ·exact h0
  have hv:val b (x::y::xs)=x+b*val b (y::xs):=rfl
  have hm:0<b*val b (y::xs):=BH ae C5
  rw [hv,ly hb ae,Nat.add_mul_mod_self_left,sN h1,BF _ _ ae,qk h1,fz,ih]
theorem sx (l:List Nat):∃n,l=List.replicate n 0++l.dropWhile (·==0):=by
 induction l with
 | nil=>exact ⟨0,rfl⟩
 | cons x xs ih=>
  obtain ⟨n,hn⟩:=ih
  by_cases h:x=0
  ·subst h
   refine ⟨n+1,?_⟩
   rw [List.dropWhile_cons_of_pos cT,qN,qj,<- hn]
  ·exact ⟨0,by rw [List.dropWhile_cons_of_neg (by simpa using h)]; rfl⟩
theorem rK (xs:List Nat):∃n,xs=trim xs++List.replicate n 0:=by
 obtain ⟨n,hn⟩:=sx xs.reverse
 refine ⟨n,?_⟩
 have h:=aM List.reverse hn
 rw [List.reverse_reverse,List.reverse_append,List.reverse_replicate] at h
 exact h
theorem My (xs:List Nat):Norm (trim xs):=by
 unfold Norm trim
 rw [List.getLast?_reverse]
 intro h
 have h2:=List.head?_dropWhile_not (p:=fun x:Nat=>x==0) xs.reverse
 rw [h] at h2
 simp at h2
theorem OJ (b:Nat) (xs:List Nat):val b (trim xs)=val b xs:=by
 obtain ⟨n,hn⟩:=rK xs
 conv=>rhs; rw [hn]
 rw [en,rJ]; simp
theorem Uz {b:Nat} {xs:List Nat} (h:bN b xs):bN b (trim xs):=by
 obtain ⟨n,hn⟩:=rK xs
 intro x hx
 exact h x (by rw [hn]; simp [hx])
theorem C6 {b:Nat} (hb:2<=b) {xs:List Nat} (h:bN b xs):trim xs=sw b (val b xs):=by
 rw [<- OJ,C4 hb (Uz h) (My xs)]
theorem E0 {b:Nat} (hb:2<=b) {xs:List Nat} (h:bN b xs) (n:Nat) (hn:n<=xs.length)
  (hz:∀i,n<=i->i<xs.length->xs.getD i 0=0) (hl:n=0∨xs.getD (n - 1) 0≠0):xs.take n=sw b (val b xs):=by
 have hd:xs.drop n=List.replicate (xs.length - n) 0:=by
  apply CU
  ·simp
  ·intro i h1 h2
   have hi:i<xs.length - n:=by simpa using h2
   have:=hz (n+i) ae ae
   simp [List.getD,show n+i<xs.length by omega] at this
   simp [this]
 have hv:val b xs=val b (xs.take n):=by
  conv=>lhs; rw [<- lX n xs]
  rw [en,hd,rJ]; simp
 rw [hv,C4 hb (h.take n)]
 unfold Norm
 rcases hl with hl | hl
 ·subst hl; simp
 ·rcases ed n with h0 | h0
  ·subst h0; simp
  ·rw [List.getLast?_eq_getElem?]
   have e1:(xs.take n).length - 1=n - 1:=by simp; omega
   rw [e1,yC,aR ae]
   intro h3
   exact hl (by simp [List.getD,h3])
theorem iL (b:Nat) (xs:List Nat) (i:Nat) (h:i<xs.length):val b (xs.take (i+1))=val b (xs.take i)+b ^ i*xs.getD i 0:=by
 rw [List.take_succ_eq_append_getElem h,en]
 have:(List.take i xs).length=i:=by simp; omega
 rw [this]
 simp [List.getD,h]
theorem sO (b:Nat) (xs:List Nat) (i:Nat) (h:xs.length<=i):val b (xs.take i)=val b xs:=by
 rw [bD h]
theorem dD (b:Nat) (xs:List Nat) (i:Nat):val b (xs.take (i+1))=val b (xs.take i)+b ^ i*xs.getD i 0:=by
 rcases dr i xs.length with h | h
 ·exact iL b xs i h
 ·rw [sO b xs i h,sO b xs (i+1) ae]
  have:xs.getD i 0=0:=by simp [List.getD,h]
  rw [this]; simp
theorem E1 (xs:List Nat) (i v:Nat):(xs.set i v).take i=xs.take i:=by
 rw [List.take_set_of_le (aY i)]
theorem kz (b:Nat) (xs:List Nat) (i v:Nat) (h:i<xs.length):val b ((xs.set i v).take (i+1))=val b (xs.take i)+b ^ i*v:=by
 rw [dD,E1]
 congr 2
 simp [List.getD,h]
theorem J4 {xs:List Nat} {i:Nat} (h:i<xs.length):xs.getD i 0=xs[i]:=by simp [List.getD,h]
theorem ml {xs:List Nat} {i:Nat} (h:xs.length<=i):xs.getD i 0=0:=by simp [List.getD,h]
theorem xL (b:Nat):∀(xs:List Nat) (i v:Nat),i<xs.length->val b (xs.set i v)+b ^ i*xs.getD i 0=val b xs+b ^ i*v
 | [],_,_,h=>by simp at h
 | x::xs,0,v,_=>by simp [List.getD]; omega
 | x::xs,i+1,v,h=>by
  have ih:=xL b xs i v (by simpa using h)
  have e1:(x::xs).getD (i+1) 0=xs.getD i 0:=by simp [List.getD]
  rw [C0,ky,ky,e1,iJ]
  have e2:b*(val b (xs.set i v)+b ^ i*xs.getD i 0)=b*(val b xs+b ^ i*v):=by rw [ih]
  rw [fw,fw] at e2
  rw [iO (b ^ i) b,iK,iK]
  omega
theorem uy (b:Nat) (xs:List Nat) (i v:Nat) (h:i<xs.length) (h0:xs.getD i 0=0):val b (xs.set i v)=val b xs+b ^ i*v:=by
 have:=xL b xs i v h
 rw [h0] at this; simpa using this
theorem yN (b:Nat) (x y o:List Nat) (i c:Nat) (hi:i<o.length)
  (h:val b (o.take i)+b ^ i*c=val b (x.take i)+val b (y.take i)):
  val b ((o.set i ((c+x.getD i 0+y.getD i 0)%b)).take (i+1))+b ^ (i+1)*((c+x.getD i 0+y.getD i 0) / b)=val b (x.take (i+1))+val b (y.take (i+1)):=by
 rw [kz b o i _ hi,dD b x i,dD b y i,iJ]
 generalize hs:c+x.getD i 0+y.getD i 0=s
 have h1:b ^ i*(s%b)+b ^ i*b*(s / b)=b ^ i*s:=by
  rw [iK,<- fw,oy]
 have h2:b ^ i*s=b ^ i*c+b ^ i*x.getD i 0+b ^ i*y.getD i 0:=by rw [<- hs,fw,fw]
 omega
theorem uz (b:Nat) (x y o:List Nat) (i r d r':Nat) (hi:i<o.length)
  (h:val b (o.take i)+val b (y.take i)=val b (x.take i)+b ^ i*r)
  (hd:d+y.getD i 0+r=x.getD i 0+b*r'):
  val b ((o.set i d).take (i+1))+val b (y.take (i+1))=val b (x.take (i+1))+b ^ (i+1)*r':=by
 rw [kz b o i _ hi,dD b x i,dD b y i,iJ]
 have h2:b ^ i*(d+y.getD i 0+r)=b ^ i*(x.getD i 0+b*r'):=by rw [hd]
 rw [fw,fw,fw,<- iK] at h2
 omega
theorem OK (b:Nat) (y o:List Nat) (i k c x T:Nat) (hik:i+k<o.length)
  (h:val b o+b ^ (i+k)*c=T+b ^ i*(x*val b (y.take k))):
  val b (o.set (i+k) ((c+x*y.getD k 0+o.getD (i+k) 0)%b))+b ^ (i+(k+1))*((c+x*y.getD k 0+o.getD (i+k) 0) / b)=T+b ^ i*(x*val b (y.take (k+1))):=by
 have hs:=xL b o (i+k) ((c+x*y.getD k 0+o.getD (i+k) 0)%b) hik
 generalize hS:c+x*y.getD k 0+o.getD (i+k) 0=S at*
 rw [dD b y k]
 have e1:b ^ (i+(k+1))*(S / b)=b ^ (i+k)*(b*(S / b)):=by rw [<- mc,iJ,iK]
 have e2:b ^ (i+k)*(S%b)+b ^ (i+k)*(b*(S / b))=b ^ (i+k)*S:=by rw [<- fw,oy]
 have e3:b ^ (i+k)*S=b ^ (i+k)*c+b ^ (i+k)*(x*y.getD k 0)+b ^ (i+k)*o.getD (i+k) 0:=by rw [<- hS,fw,fw]
 have e4:b ^ i*(x*(val b (y.take k)+b ^ k*y.getD k 0))=b ^ i*(x*val b (y.take k))+b ^ (i+k)*(x*y.getD k 0):=by
  rw [fw,fw,mM]
  congr 1
  simp [iK,qM]
 rw [e1,e4]
 omega
theorem BK (b c x y o:Nat) (_hb:2<=b) (hc:c<b) (hx:x<b) (hy:y<b) (ho:o<b):(c+x*y+o) / b<b/\c+x*y+o<b*b:=by
 have h1:x*y<=(b - 1)*(b - 1):=fG ae ae
 have h2:(b - 1)*(b - 1)+(b - 1)+(b - 1)+1=b*b:=by
  obtain ⟨m,rfl⟩:∃m,b=m+1:=⟨b - 1,by omega⟩
  simp [EV,fw]; omega
 have h3:c+x*y+o<b*b:=ae
 exact ⟨(ux ae).2 h3,h3⟩
theorem oA (b:Nat) (x:List Nat) (i:Nat):val b (x.drop i)=x.getD i 0+b*val b (x.drop (i+1)):=by
 rcases dr i x.length with h | h
 ·rw [gW h,ky,J4 h]
 ·rw [dM h,dM ae,ml h]; simp
theorem wH (xs:List Nat) (i v:Nat):(xs.set i v).drop (i+1)=xs.drop (i+1):=by
 rw [List.drop_set_of_lt ae]
theorem vF (b:Nat) (x o:List Nat) (i c r:Nat) (hi:i<o.length)
  (h:val b (o.drop (i+1))*c+r=val b (x.drop (i+1))):
  val b ((o.set i ((r*b+x.getD i 0) / c)).drop i)*c+(r*b+x.getD i 0)%c=val b (x.drop i):=by
 rw [oA b (o.set i _) i,oA b x i,wH]
 have e0:(o.set i ((r*b+x.getD i 0) / c)).getD i 0=(r*b+x.getD i 0) / c:=by simp [List.getD,hi]
 rw [e0,<- h,EV]
 have e1:=oy (r*b+x.getD i 0) c
 have e2:b*val b (o.drop (i+1))*c=b*(val b (o.drop (i+1))*c):=by rw [iK]
 rw [fw,e2]
 have e3:(r*b+x.getD i 0) / c*c=c*((r*b+x.getD i 0) / c):=iO _ _
 have e4:b*r=r*b:=iO _ _
 omega
theorem OL (B P v1 v2 Vl u2 H Ul q:Nat) (hV1:0<v1) (hu2:u2<B) (EC:Ul<P)
  (hq:q*(Vl+P*(v2+B*v1))<=Ul+P*(u2+B*H)):q<=H / v1:=by
 rw [Nat.le_div_iff_mul_le hV1]
 have h1:q*(P*(B*v1))<=q*(Vl+P*(v2+B*v1)):=gl q (by rw [fw]; omega)
 have h2:Ul+P*(u2+B*H)<P*(B*(H+1)):=by
  have h3:P*(u2+B*H)+P<=P*(B*(H+1)):=by
   rw [<- sL]; exact gl P (by rw [sL]; omega)
  omega
 have h4:(P*B)*(q*v1)<(P*B)*(H+1):=by
  have e1:(P*B)*(q*v1)=q*(P*(B*v1)):=by simp [iO,qM]
  rw [e1,iK]; omega
 have:=Nat.lt_of_mul_lt_mul_left h4
 omega
theorem H6 (B P v1 v2 Vl u2 H Ul q g r:Nat) (EC:Ul<P) (hr:g*v1+r=H)
  (hq:q*(Vl+P*(v2+B*v1))<=Ul+P*(u2+B*H)) (ht:r*B+u2<g*v2):q+1<=g:=by
 rcases dr q g with h | h
 ·exact h
 ·exfalso
  have h1:g*(P*(v2+B*v1))<=q*(Vl+P*(v2+B*v1)):=fG h ae
  have h2:g*(P*(v2+B*v1))=P*(g*v2+B*(g*v1)):=by
   rw [qM,fw g,qM g B]
  have h3:P*(u2+B*H)+P<=P*(g*v2+B*(g*v1)):=by
   rw [<- sL]
   refine gl P ?_
   rw [<- hr,fw,iO B r]; omega
  omega
theorem Mz (B P v1 v2 Vl u2 H Ul g r:Nat) (hv:B*P<=Vl+P*(v2+B*v1)) (hVl:Vl<P) (hg:g<B) (hr:g*v1+r=H)
  (ht:g*v2<=r*B+u2):g*(Vl+P*(v2+B*v1))<=Ul+P*(u2+B*H)+(Vl+P*(v2+B*v1)):=by
 have h1:g*(Vl+P*(v2+B*v1))=g*Vl+P*(g*v2+B*(g*v1)):=by
  rw [fw,qM,fw g,qM g B]
 have h2:P*(g*v2+B*(g*v1))<=P*(u2+B*H):=by
  refine gl P ?_
  rw [<- hr,fw,iO B r]; omega
 have h3:g*Vl<=B*P:=fG ae ae
 omega
theorem wI (B v2 u2 g r:Nat) (hg:g<B) (Yo:v2<B) (hr:B<=r):g*v2<=r*B+u2:=by
 have:=fG (show g<=r by omega) (show v2<=B by omega)
 omega
theorem E2 (B v1 un u1 g r:Nat) (hr:g*v1+r=un*B+u1) (C7:un<=v1) (hu1:u1<B) (hrB:B<=r):g<B:=by
 rcases dr g B with h | h
 ·exact h
 ·exfalso
  have h1:B*v1<=g*v1:=eh v1 h
  have h2:un*B<=B*v1:=by rw [iO]; exact gl B C7
  omega
theorem UA (U V g:Nat) (h0:0<V) (h1:U / V<=g) (h2:g*V<=U+V):g=U / V∨g=U / V+1:=by
 have h3:g<=U / V+1:=by
  rw [<- Nat.add_div_right U h0]
  exact (Nat.le_div_iff_mul_le h0).2 h2
 omega
theorem BL (b:Nat) (x y o:List Nat) (i t c r d r':Nat) (hi:i<o.length)
  (h:val b (o.take i)+t*val b (y.take i)=val b (x.take i)+b ^ i*(c+r))
  (hd:d+(c+y.getD i 0*t)%b+r=x.getD i 0+b*r'):
  val b ((o.set i d).take (i+1))+t*val b (y.take (i+1))=val b (x.take (i+1))+b ^ (i+1)*((c+y.getD i 0*t) / b+r'):=by
 rw [kz b o i _ hi,dD b x i,dD b y i,iJ]
 generalize hs:c+y.getD i 0*t=s at*
 have h1:=oy s b
 have h2:b ^ i*(d+s%b+r)=b ^ i*(x.getD i 0+b*r'):=by rw [hd]
 have h3:b ^ i*(s%b+b*(s / b))=b ^ i*s:=by rw [h1]
 have h4:t*(val b (y.take i)+b ^ i*y.getD i 0)=t*val b (y.take i)+b ^ i*(y.getD i 0*t):=by
  rw [fw,qM,iO t (y.getD i 0)]
 have h5:b ^ i*s=b ^ i*c+b ^ i*(y.getD i 0*t):=by rw [<- hs,fw]
 rw [h4,fw (b ^ i*b)]
 rw [fw,fw] at h2
 rw [fw] at h3
 rw [fw] at h2
 rw [fw] at h
 simp only [<- iK] at*
 omega
theorem tk {b:Nat} (hb:2<=b) (n:Nat) (hn:0<n):b ^ ((sw b n).length - 1)<=n:=by
 induction n using Nat.strongRecOn with
 | _ n ih=>
  rw [ly hb hn,dy,vu]
  rcases ed (n / b) with h | h
  ·rw [h,jj]; simp; omega
  ·have h1:=ih (n / b) (Nat.div_lt_self hn ae) h
   have h2:0<(sw b (n / b)).length:=by rw [ly hb h]; simp
   have h3:(sw b (n / b)).length=((sw b (n / b)).length - 1)+1:=ae
   rw [h3,iJ]
   have h4:=eh b h1
   have h5:=Nat.div_mul_le_self n b
   omega
theorem tm {b:Nat} (hb:2<=b) (n:Nat):n<b ^ (sw b n).length:=by
 have:=k8 (H5 hb n)
 rwa [C3 hb] at this
theorem yO {b:Nat} (hb:2<=b) {n m:Nat} (h:n<=m):(sw b n).length<=(sw b m).length:=by
 rcases dr (sw b m).length (sw b n).length with h1 | h1
 ·exfalso
  rcases ed n with h0 | h0
  ·subst h0; rw [jj] at h1; simp at h1
  ·have h2:=tk hb n h0
   have h3:=tm hb m
   have h4:b ^ (sw b m).length<=b ^ ((sw b n).length - 1):=fE ae ae
   omega
 ·exact h1
theorem yP {b:Nat} (hb:2<=b) {n m:Nat} (h:(sw b n).length<(sw b m).length):n<m:=by
 rcases dr n m with h1 | h1
 ·exact h1
 ·have:=yO hb h1; omega
theorem Bg {b:Nat} (hb:2<=b) {n k:Nat} (h:n<b ^ k):(sw b n).length<=k:=by
 rcases ed n with h0 | h0
 ·subst h0; rw [jj]; simp
 ·have h1:=tk hb n h0
  rcases dr k (sw b n).length with h2 | h2
  ·exfalso
   have h4:b ^ k<=b ^ ((sw b n).length - 1):=fE ae ae
   omega
  ·exact h2
theorem BM {b:Nat} (xs ys:List Nat) (i:Nat) (hx:bN b xs) (hd:xs.drop (i+1)=ys.drop (i+1)) (hi:i<xs.length) (h:xs.getD i 0<ys.getD i 0) (E3:i<ys.length):val b xs<val b ys:=by
 have e1:val b xs=val b (xs.take (i+1))+b ^ (i+1)*val b (xs.drop (i+1)):=by
  conv=>lhs; rw [<- lX (i+1) xs]
  rw [en,fg,jS ae]
 have e2:val b ys=val b (ys.take (i+1))+b ^ (i+1)*val b (ys.drop (i+1)):=by
  conv=>lhs; rw [<- lX (i+1) ys]
  rw [en,fg,jS ae]
 rw [e1,e2,hd,dD,dD]
 have h1:=k8 (hx.take i)
 rw [fg,jS ae] at h1
 have h2:b ^ i*(xs.getD i 0+1)<=b ^ i*ys.getD i 0:=gl _ h
 rw [sL] at h2
 omega
theorem qS {xs:List Nat} {n:Nat} (h:xs.length<=n):xs.drop n=[]:=dM h
theorem BN (xs:List Nat) (i:Nat) (h:i<xs.length):xs.drop i=xs.getD i 0::xs.drop (i+1):=by
 rw [gW h,J4 h]
theorem Bh {b:Nat} (ys:List Nat) (n:Nat) (h:val b ys<b ^ n):val b (ys.take n)=val b ys:=by
 have e2:val b ys=val b (ys.take n)+b ^ (ys.take n).length*val b (ys.drop n):=by
  conv=>lhs; rw [<- lX n ys]
  rw [en]
 rcases dr n ys.length with h1 | h1
 ·rw [fg,jS ae] at e2
  rcases ed (val b (ys.drop n)) with h0 | h0
  ·rw [h0] at e2; omega
  ·have:=gl (b ^ n) h0
   omega
 ·rw [bD h1]
theorem MA {b:Nat} (xs ys os:List Nat) (n r:Nat) (Bi:bN b os) (mE:os.length=n) (H7:xs.length=n) (hx:bN b xs) (hr:r<=1)
  (h:val b (os.take n)+val b (ys.take n)=val b (xs.take n)+b ^ n*r) (hle:val b ys<=val b xs):val b os=val b xs - val b ys:=by
 have h1:=k8 Bi
 have h2:=k8 hx
 rw [mE] at h1
 rw [H7] at h2
 rw [bD (by omega),bD (l:=xs) ae,Bh ys n ae] at h
 rcases ed r with h0 | h0
 ·rw [h0] at h; omega
 ·have:r=1:=ae
  rw [this] at h; omega
theorem lA {xs:List Nat} {i j v:Nat} (h:i≠j):(xs.set i v).getD j 0=xs.getD j 0:=by
 simp [List.getD,h]
theorem C8 {xs:List Nat} {i v:Nat} (h:i<xs.length):(xs.set i v).getD i 0=v:=by
 simp [List.getD,h]
theorem tn (n j:Nat):(List.replicate n 0).getD j 0=0:=by
 rcases dr j n with h | h
 ·simp [List.getD,h]
 ·exact ml (by simp; exact h)
theorem Pb (i a b:Nat) (hb:b<2 ^ i):(a*2 ^ i) ||| b=a*2 ^ i+b:=by
 rw [iO,<- Nat.two_pow_add_eq_or_of_lt hb]
theorem Pc (i a b:Nat) (hb:b<2 ^ i):b ||| (a*2 ^ i)=b+a*2 ^ i:=by
 rw [Nat.or_comm,Pb i a b hb,Nat.add_comm]
theorem Pe (b P Q:Nat) (hb:b=P*Q) (hP:0<P) (x o:List Nat) (i s:Nat) (hx:x.getD i 0<b) (hi:i+s+1<o.length)
  (hv:val b o=val b (x.take i)*P*b ^ s) (ho:o.getD (i+s) 0<P) (hz:∀j,i+s<j->o.getD j 0=0) (hl:bN b o):
  bN b ((o.set (i+s) (o.getD (i+s) 0+x.getD i 0*P%b)).set (i+s+1) (x.getD i 0*P / b))/\
  val b ((o.set (i+s) (o.getD (i+s) 0+x.getD i 0*P%b)).set (i+s+1) (x.getD i 0*P / b))=val b (x.take (i+1))*P*b ^ s/\
  x.getD i 0*P / b<P/\x.getD i 0*P%b=(x.getD i 0%Q)*P/\o.getD (i+s) 0+x.getD i 0*P%b<b:=by
 have e1:x.getD i 0*P%b=(x.getD i 0%Q)*P:=by rw [hb,iO P Q]; exact Nat.mul_mod_mul_right _ _ _
 have hQ:0<Q:=by
  rcases ed Q with h | h
  ·subst h; rw [J2] at hb; omega
  ·exact h
 have e2:o.getD (i+s) 0+x.getD i 0*P%b<b:=by
  rw [e1,hb]
  have h1:=kx (x.getD i 0) hQ
  have h2:(x.getD i 0%Q+1)*P<=Q*P:=eh P h1
  rw [iM] at h2
  rw [iO P Q]
  omega
 have e3:x.getD i 0*P / b<P:=by
  refine (ux ae).2 ?_
  rw [iO P b]
  exact Nat.mul_lt_mul_of_pos_right hx hP
 have hPb:P<=b:=by rw [hb]; exact wE P hQ
 have h1:=xL b o (i+s) (o.getD (i+s) 0+x.getD i 0*P%b) ae
 have h2:=uy b (o.set (i+s) (o.getD (i+s) 0+x.getD i 0*P%b)) (i+s+1) (x.getD i 0*P / b) (by simp; omega) (by rw [lA ae]; exact hz _ ae)
 refine ⟨(hl.set _ e2).set _ ae,?_,e3,e1,e2⟩
 rw [h2,dD,EV,EV,<- hv]
 have h3:=oy (x.getD i 0*P) b
 have h4:b ^ (i+s+1)*(x.getD i 0*P / b)=b ^ (i+s)*(b*(x.getD i 0*P / b)):=by rw [iJ,iK]
 have h5:b ^ i*x.getD i 0*P*b ^ s=b ^ (i+s)*(x.getD i 0*P):=by rw [mM]; ac_rfl
 rw [h4,h5]
 generalize x.getD i 0*P=y at*
 generalize o.getD (i+s) 0=z at*
 have h6:b ^ (i+s)*y=b ^ (i+s)*(y%b)+b ^ (i+s)*(b*(y / b)):=by rw [<- fw,h3]
 rw [fw] at h1
 omega
theorem Pf (b P Q:Nat) (hb:b=P*Q) (hP:0<P) (Fh:0<b) (x:List Nat) (i:Nat) (hx:x.getD i 0<b):
  val b (x.drop i) / P=(x.getD i 0+b*x.getD (i+1) 0) / P%b+b*(val b (x.drop (i+1)) / P):=by
 have d1:=oA b x i
 have d2:=oA b x (i+1)
 have e1:val b (x.drop i) / P%b=(x.getD i 0+b*x.getD (i+1) 0) / P%b:=by
  rw [d1,d2,fw,<- mc]
  have e:b*(b*val b (x.drop (i+1+1)))=P*(b*(Q*val b (x.drop (i+1+1)))):=by
   conv=>lhs; arg 1; rw [hb]
   simp [iK,qM]
  rw [e,BF _ _ hP,Nat.add_mul_mod_self_left]
 have e2:val b (x.drop i) / P / b=val b (x.drop (i+1)) / P:=by
  rw [C1,iO,<- C1,d1,BF _ _ Fh,qk hx,fz]
 have h1:=oy (val b (x.drop i) / P) b
 rw [e1,e2] at h1
 exact h1.symm
theorem Pg (b P Q:Nat) (hb:b=P*Q) (hP:0<P) (Fh:0<b) (x o:List Nat) (i T:Nat) (hi:i<o.length) (hx:x.getD i 0<b)
  (h:val b (o.take i)+b ^ i*(val b (x.drop i) / P)=T):
  val b ((o.set i ((x.getD i 0+b*x.getD (i+1) 0) / P%b)).take (i+1))+b ^ (i+1)*(val b (x.drop (i+1)) / P)=T:=by
 rw [kz b o i _ hi,iJ,iK,mc,<- fw,<- Pf b P Q hb hP Fh x i hx]
 exact h
theorem Z9 (b m:Nat) (xs:List Nat) (h:xs.length=m+2):val b xs=val b (xs.take m)+b ^ m*(xs.getD m 0+b*xs.getD (m+1) 0):=by
 have h1:=iL b xs (m+1) ae
 rw [bD (by omega),iL b xs m ae,iJ] at h1
 rw [h1,fw,iK]
 omega
theorem aaa (b m:Nat) (xs:List Nat) (h:xs.length=m+3):val b xs=val b (xs.take m)+b ^ m*(xs.getD m 0+b*(xs.getD (m+2) 0*b+xs.getD (m+1) 0)):=by
 have h1:=iL b xs (m+2) ae
 rw [bD (by omega),iL b xs (m+1) ae,iL b xs m ae,iJ b (m+1),iJ b m] at h1
 rw [h1,fw,fw,fw,iO (xs.getD (m+2) 0) b]
 simp only [<- iK]
 omega
structure afi (b V W H v1 v2 u2:Nat):Prop where
 pos:0<V
 low:W<b*V
 first:W / V<=H / v1
 mend:∀g r,g*v1+r=H->r*b+u2<g*v2->W / V+1<=g
 digit:∀g r,g*v1+r=H->b<=r->g<b
 stop:∀g r,g*v1+r=H->W / V<=g->g<b->g*v2<=r*b+u2->g=W / V∨g=W / V+1
theorem Pj (b m:Nat) (hb:2<=b) (win vs:List Nat) (hw:win.length=m+3) (hv:vs.length=m+2) (rO:bN b win) (hvl:bN b vs) (Ol:0<vs.getD (m+1) 0) (tB:val b win<b*val b vs):
  afi b (val b vs) (val b win) (win.getD (m+2) 0*b+win.getD (m+1) 0) (vs.getD (m+1) 0) (vs.getD m 0) (win.getD m 0):=by
 have e1:=Z9 b m vs hv
 have e2:=aaa b m win hw
 have l1:=k8 (hvl.take m)
 rw [fg,jS ae] at l1
 have l2:=k8 (rO.take m)
 rw [fg,jS ae] at l2
 have a2:=rO.get ae m
 have a1:=rO.get ae (m+1)
 have c2:=hvl.get ae m
 have hP:0<b ^ m:=nW ae
 generalize vs.getD (m+1) 0=v1 at*
 generalize vs.getD m 0=v2 at*
 generalize win.getD m 0=u2 at*
 generalize win.getD (m+1) 0=u1 at*
 generalize win.getD (m+2) 0=un at*
 generalize val b (vs.take m)=Vl at*
 generalize val b (win.take m)=Ul at*
 generalize b ^ m=P at*
 have hV0:0<val b vs:=by
  rw [e1]
  have:=BH hP (show 0<v2+b*v1 from by have:=BH (show 0<b by omega) Ol; omega)
  omega
 have hq:val b win / val b vs*(Vl+P*(v2+b*v1))<=Ul+P*(u2+b*(un*b+u1)):=by
  rw [<- e1,<- e2]; exact Nat.div_mul_le_self _ _
 have C7:un<=v1:=by
  rcases dr v1 un with h | h
  ·exfalso
   rw [e1,e2] at tB
   have h1:v2+b*v1+1<=b*(v1+1):=by rw [sL]; omega
   have h2:Vl+P*(v2+b*v1)<P*(b*(v1+1)):=by
    have:=gl P h1
    rw [sL P] at this
    omega
   have h3:b*(P*(b*(v1+1)))<=b*(P*(b*un)):=gl b (gl P (gl b h))
   have h4:b*(P*(b*un))=P*(b*(un*b)):=by simp [iO,qM]
   have h5:P*(b*(un*b))<=P*(u2+b*(un*b+u1)):=gl P (by rw [fw]; omega)
   have h6:b*(Vl+P*(v2+b*v1))<b*(P*(b*(v1+1))):=Nat.mul_lt_mul_of_pos_left h2 ae
   omega
  ·exact h
 have hbP:b*P<=Vl+P*(v2+b*v1):=by
  have h1:P*(b*1)<=P*(b*v1):=gl P (gl b Ol)
  rw [tg,iO P b] at h1
  rw [fw]; omega
 refine ⟨hV0,tB,OL b P v1 v2 Vl u2 _ Ul _ Ol a2 l2 hq,fun g r hr ht=>H6 b P v1 v2 Vl u2 _ Ul _ g r l2 hr hq ht,fun g r hr UX=>E2 b v1 un u1 g r hr C7 a1 UX,fun g r hr h1 h2 h3=>?_⟩
 refine UA (val b win) (val b vs) g hV0 h1 ?_
 rw [e1,e2]
 exact Mz b P v1 v2 Vl u2 _ Ul g r hbP l1 h2 hr h3
theorem Pl {b V W g:Nat} (h0:0<V) (h:W<b*V) (hg:b<=g):W / V+1<=g:=by
 have:=(ux h0).2 h
 omega
theorem UY {V W g x:Nat} (h:g=W / V∨g=W / V+1) (h0:0<V) (hx:x+g*V=W):g=W / V/\x=W%V:=by
 have h1:=oy W V
 have h2:=kx W h0
 rw [iO] at h1
 rcases h with h | h
 ·subst h
  exact ⟨rfl,by omega⟩
 ·subst h
  rw [iM] at hx
  omega
theorem MO {V W g x o c B:Nat} (h:g=W / V∨g=W / V+1) (h0:0<V) (cD:W<g*V) (hx:x+g*V=W+B) (ho:o+B*c=x+V) (hoB:o<B) (hc:c<=1):g - 1=W / V/\o=W%V:=by
 have h1:=oy W V
 have h2:=kx W h0
 rw [iO] at h1
 rcases h with h | h
 ·subst h; omega
 ·subst h
  rw [iM] at hx cD
  refine ⟨rfl,?_⟩
  rcases ed c with rL | rL
  ·subst rL; omega
  ·obtain rfl:c=1:=ae
   omega
theorem UZ {b V n k:Nat} {pre win post:List Nat} (hb:2<=b) (Ig:pre.length=k) (MP:win.length=n+1) (rO:bN b win) (hV:V<b ^ n)
  (cD:val b ((pre++win++post).drop (k+1))<V):val b post=0/\val b win<b*V:=by
 have e1:(pre++win++post).drop (k+1)=win.drop 1++post:=by
  rw [cG,<- Ig,List.drop_append,dM ae,iU,show pre.length+1 - pre.length=1 by omega]
  rw [qR ae]
 rw [e1,en,j6,MP,vu] at cD
 have hp:val b post=0:=by
  rcases ed (val b post) with h | h
  ·exact h
  ·have:=gl (b ^ n) h
   omega
 refine ⟨hp,?_⟩
 rw [hp,J2,j7] at cD
 have h1:=oA b win 0
 rw [vv] at h1
 have h2:=rO.get ae 0
 have h3:=gl b (show val b (win.drop (0+1))+1<=V from cD)
 rw [sL] at h3
 omega
theorem Pm {b V k U:Nat} {pre win win' post qs:List Nat} (Ig:pre.length=k) (hV0:0<V) (hp:val b post=0) (hq:k<qs.length)
  (hU:val b (pre++win++post)+V*b ^ (k+1)*val b (qs.drop (k+1))=U) (hw':val b win'=val b win%V):
  val b ((pre++win'++post).drop k)<V/\val b (pre++win'++post)+V*b ^ k*val b ((qs.set k (val b win / V)).drop k)=U:=by
 have e1:(pre++win'++post).drop k=win'++post:=by
  rw [cG,<- Ig]; simp
 have h2:=kx (val b win) hV0
 refine ⟨by rw [e1,en,hp,hw']; omega,?_⟩
 rw [oA b (qs.set k _) k,wH,C8 hq]
 rw [en,en,hp,J2,j7,Ig,hw']
 rw [en,en,hp,J2,j7,Ig] at hU
 have h1:=oy (val b win) V
 generalize val b win / V=q at*
 generalize val b win%V=r at*
 rw [<- hU,<- h1,iJ,fw (b ^ k) r,fw (V*b ^ k)]
 have e2:V*b ^ k*q=b ^ k*(V*q):=by ac_rfl
 have e3:V*b ^ k*(b*val b (qs.drop (k+1)))=V*(b ^ k*b)*val b (qs.drop (k+1)):=by ac_rfl
 omega
theorem BX {a b q r:Nat} (h:r+b*q=a) (hr:r<b):a / b=q/\a%b=r:=by
 subst h
 exact ⟨by rw [BF _ _ ae,qk hr,fz],by rw [Nat.add_mul_mod_self_left,sN hr]⟩
end Go.Proofs.YtgopcdagnicekaaGreatDoor.Anv

/- How often two divides a number. No program in sight. No condition. -/
namespace Go.Proofs.YtgopcdagnicekaaGreatDoor
open Anv
def vd (N k:Nat):Prop:=N / 2 ^ k%2=1/\∀j,j<k->N / 2 ^ j%2=0
theorem G8 {N k:Nat} (h:∀j,j<k->N / 2 ^ j%2=0):N=2 ^ k*(N / 2 ^ k):=by
 induction k with
 | zero=>simp
 | succ k ih=>
  have h1:=ih fun j hj=>h j ae
  have h2:=h k ae
  have h3:N / 2 ^ (k+1)=N / 2 ^ k / 2:=by rw [iJ,C1]
  rw [h3,iJ,iK]
  have h4:2*(N / 2 ^ k / 2)=N / 2 ^ k:=ae
  rw [h4]
  exact h1
theorem vd.eq {N k:Nat} (h:vd N k):N=2 ^ k*(N / 2 ^ k):=G8 h.2
theorem vd.pos {N k:Nat} (h:vd N k):N≠0:=by
 rintro rfl
 have:=h.1
 simp at this
theorem vd.dvd {N k:Nat} (h:vd N k) (n:Nat):2 ^ n∣N↔n<=k:=by
 constructor
 ·intro hd
  rcases dr k n with h1 | h1
  ·obtain ⟨m,hm⟩:=hd
   have h2:N / 2 ^ k=2 ^ (n - k)*m:=by
    rw [hm,show n=k+(n - k) by omega,mM,iK,CZ _ (qi k)]
    congr 2; omega
   have h3:=h.1
   rw [h2,show n - k=(n - k - 1)+1 by omega,iJ,Nat.mul_right_comm] at h3
   omega
  ·exact h1
 ·intro hn
  rw [h.eq]
  exact Nat.dvd_mul_right_of_dvd (Nat.pow_dvd_pow 2 hn) _
theorem Mb {N k m:Nat} (h:N=2 ^ k*(2*m+1)):vd N k:=by
 subst h
 refine ⟨?_,fun j hj=>?_⟩
 ·rw [CZ _ (qi k)]; omega
 ·rw [show k=j+((k - j - 1)+1) by omega,mM,iK,CZ _ (qi j),iJ,Nat.mul_right_comm]
  omega
theorem CI {N i x r k:Nat} (hx:x<4294967296) (h:N=4294967296 ^ i*(x+4294967296*r)) (hk:vd x k):vd N (32*i+k):=by
 have cD:k<32:=by
  rcases dr k 32 with h1 | h1
  ·exact h1
  ·have h2:=hk.1
   rw [qk (gw hx (fE (n:=2) ae h1))] at h2
   omega
 have e:=hk.eq
 have o:=hk.1
 refine Mb (m:=(x / 2 ^ k+2 ^ (32 - k)*r) / 2) ?_
 have h3:(x / 2 ^ k+2 ^ (32 - k)*r)%2=1:=by
  rw [show 32 - k=(31 - k)+1 by omega,iJ,Nat.mul_right_comm]; omega
 have h4:2 ^ k*(x / 2 ^ k+2 ^ (32 - k)*r)=x+4294967296*r:=by
  rw [fw,<- iK,<- mM,show k+(32 - k)=32 by omega]
  have:2 ^ k*(x / 2 ^ k)=x:=e.symm
  rw [this]
 rw [show 2*((x / 2 ^ k+2 ^ (32 - k)*r) / 2)+1=x / 2 ^ k+2 ^ (32 - k)*r by omega,mM,iK,h4,h,show (4294967296:Nat)=2 ^ 32 from rfl,<- Nat.pow_mul]
end Go.Proofs.YtgopcdagnicekaaGreatDoor
