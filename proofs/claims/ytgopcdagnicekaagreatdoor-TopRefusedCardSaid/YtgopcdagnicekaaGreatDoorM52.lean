/- TopRefused: the tied card: for every input the law returns true, and each argument reads afterwards as it read before. No condition but the row's own. -/
import Derived.Test.YtgopcdagnicekaaGreatDoorM51
set_option linter.all false
open Go.Proofs.Tryz
namespace Go.Proofs.YtgopcdagnicekaaGreatDoor.topRefusedDone
open Go.Proofs.YtgopcdagnicekaaGreatDoor Go.RowKit Anv Go.ChangeShapes Go.WideShapes Go.ChangeAt Go.Joins
def lay:List (String×DataW Unit):=[("math/bits.deBruijn32tab",Rows.laid_math_bits_deBruijn32tab),("math/bits.deBruijn64tab",Rows.laid_math_bits_deBruijn64tab)]
set_option maxRecDepth 100000 in
theorem lifted (os:Os) (started:os.Started) (H:Type) (enc:TypeId×Value->H):
  ReturnsInHanded {} checked os 5 .any (fun w args=>(Rows.topRefusedSpec.pre enc prog f5 [] false w args/\laidMetH prog lay w)/\sizedMet enc prog f5 (OpenSpec.ofChange Rows.topRefusedSpec) false w args)
   (Rows.topRefusedSpec.post enc prog f5 false true false false):=by
 refine returnsInHanded_of_change_and (C:=checked) (X:=fun w _=>laidMetH prog lay w) (fun _ _ _ hh h=>h.of_heap hh) own started bI func5
  (ChangeSpec.witness_shaped (enc:=enc) (C:=checked) (os:=os) (X:=fun w _=>laidMetH prog lay w) false (World.laidAll prog os lay) #[.int .i64 0,.int .i64 0,bM] 8 (World.laidAll_os _ _ _)
   (World.shaped_of_ZipB bI bI) bI bI bI
   (by rw [MakeChecks.laidMetH_plain _ _ _ bI]; exact laidMet_laidAll _ bI bI)) ?_
 intro W base args ds gs before abQ hW _ _ hL _
 have xD:∀(j:Nat) t v,f5.params[j]?=some t->args[j]?=some v->Value.okWide prog W .any base t v:=abQ
 have hW':=hW
 obtain ⟨p,q,hA0,hV,rfl,hfz,ve⟩:=hW
 have hA:DataW.TrodAll enc prog W 0 (fun _=>true) true f5.params.toList args.toList ds p:=hA0
 rw [params5] at hA xD
 obtain ⟨v0,vs0,d0,ds0,p0,q0,auh,rfl,rfl,h0,r0⟩:=trodAll_cons hA
 obtain ⟨v1,vs1,d1,ds1,p1,q1,rfl,rfl,rfl,h1,r1⟩:=trodAll_cons r0
 obtain ⟨v2,vs2,d2,ds2,p2,q2,rfl,rfl,rfl,h2,r2⟩:=trodAll_cons r1
 obtain ⟨rfl,rfl,rfl⟩:=trodAll_nil r2
 obtain rfl:args=#[v0,v1,v2]:=by cases args; simp_all
 obtain ⟨rfl,rfl⟩:=trodVars_none hV
 obtain ⟨i0,rfl,rfl,rfl,w0⟩:=open_int underlying3 (xD 0 3 v0 rfl rfl) h0
 have bd0:=bounds_i64 w0
 obtain ⟨i1,rfl,rfl,rfl,w1⟩:=open_int underlying3 (xD 1 3 v1 rfl rfl) h1
 have bd1:=bounds_i64 w1
 obtain ⟨A2,n2,c2,jU,rfl,u2⟩:=VT (xD 2 22 v2 rfl rfl) h2
 have k2:=h2
 have lt2:∀x∈p2,x.block<W.heap.size:=by obtain ⟨m,hm⟩:=k2; exact DataW.trod_lt m _ _ _ hm
 clear hA0 abQ
 refine (Go.Proofs.YtgopcdagnicekaaGreatDoor.Jv u2 (P3 hL) (P4 hL)).mono fun e W' ⟨he,bel⟩=>?_
 subst he
 exact ⟨_,I,_,_,_,[],_,[],hW',trodAll_mk1 (shut_bool underlying4 _),(trodAll_cons_mk (shut_int underlying3 w0) (trodAll_cons_mk (shut_int underlying3 w1) (trodAll_cons_mk (Below.trod laidOut bI (aN bI) k2 bel lt2) trodAll_mk0))),I,bel.frame _,fun h=>by cases h⟩
theorem over:Rows.TopRefusedSaid:=
 OpenClaim.holds_of_wide 5 f5 rfl rfl rfl rfl rfl rfl rfl ⟨rfl,rfl,rfl,rfl,rfl⟩ rfl rfl rfl rfl rfl bI func5 bI
  (aN bI) (by unfold Func.isWrapper; rw [ak (bP bI)]; exact ⟨rfl,rfl⟩)
  (fun os started H enc _=>lifted os started H enc)
end Go.Proofs.YtgopcdagnicekaaGreatDoor.topRefusedDone
namespace Go.Proofs.YtgopcdagnicekaaGreatDoor
open Go
theorem topRefused_holds:Rows.TopRefusedCardSaid:=
 Claim7.holds_tied_plain_at .later [] [.data,.data] true (true, "082a274b4cda6f578c9ee563b97f013b51c21485686ec1a57ab32503dc438175") false
  topRefusedDone.over (fun _ h=>by cases h) bI (fun _ h=>by cases h) topRefused_row_tie rfl ⟨rfl,rfl⟩ bI rfl
  (fun f fn hf hfn=>by
   obtain rfl:f=5:=aW ((show prog.funcNamed "anvil/anviltop.TopRefused"=some 5 by kernel_rfl).symm.trans hf) |>.symm
   obtain rfl:fn=f5:=(aW (func5.symm.trans hfn)).symm
   exact ⟨by kernel_rfl,fun j t ht=>by
    rw [params5] at ht
    have hm:t∈[3,3,22]:=by simpa using iZ ht
    have rH:([3,3,22].all fun u=>!prog.wantsStandIn u)=true:=by kernel_rfl
    exact (show prog.wantsStandIn t=false by simpa using bp.1 rH t hm)⟩)
  bI
#print axioms topRefused_holds
end Go.Proofs.YtgopcdagnicekaaGreatDoor
