/- TopNumbers: the tied card: for every input the law returns true, and each argument reads afterwards as it read before. No condition but the row's own. -/
import Derived.Test.YtgopcdagnicekaaGreatDoorM1
import Derived.Test.YtgopcdagnicekaaGreatDoorM12
import Derived.Test.YtgopcdagnicekaaGreatDoorM43
import Derived.Test.YtgopcdagnicekaaGreatDoorM50
import Derived.Test.YtgopcdagnicekaaGreatDoorM8
import Derived.Test.YtgopcdagnicekaaGreatDoorTie
import Derived.Test.YtgopcdagnicekaaGreatDoorCards
import Derived.LaidMore
import Derived.SevenTiedAt
import Derived.Stop.Joined

set_option linter.unusedVariables false
set_option linter.unusedSimpArgs false
set_option linter.all false
namespace Go.Proofs.YtgopcdagnicekaaGreatDoor.topNumbersDone
open Go.Proofs.YtgopcdagnicekaaGreatDoor Go.RowKit Anv Go.ChangeShapes Go.WideShapes Go.ChangeAt Go.Joins
def lay:List (String×DataW Unit):=[("math/bits.deBruijn32tab",Rows.laid_math_bits_deBruijn32tab),("math/bits.deBruijn64tab",Rows.laid_math_bits_deBruijn64tab)]
set_option maxRecDepth 100000 in
theorem lifted (os:Os) (started:os.Started) (H:Type) (enc:TypeId×Value->H):
  ReturnsInHanded {} Tryz.checked os 4 .any (fun w args=>(Rows.topNumbersSpec.pre enc Tryz.prog Tryz.f4 [] false w args/\laidMetH Tryz.prog lay w)/\sizedMet enc Tryz.prog Tryz.f4 (OpenSpec.ofChange Rows.topNumbersSpec) false w args)
   (Rows.topNumbersSpec.post enc Tryz.prog Tryz.f4 false true false false):=by
 refine returnsInHanded_of_change_and (C:=Tryz.checked) (X:=fun w _=>laidMetH Tryz.prog lay w) (fun _ _ _ hh h=>h.of_heap hh) own started aK Tryz.func4
  (ChangeSpec.witness_shaped (enc:=enc) (C:=Tryz.checked) (os:=os) (X:=fun w _=>laidMetH Tryz.prog lay w) false (World.laidAll Tryz.prog os lay) #[.int .i64 0,.int .i64 0,bA,.int .i64 0,.int .i64 0,.int .i64 0,.int .i64 0] 8 (World.laidAll_os _ _ _)
   (World.shaped_of_ZipB aK aK) aK aK aK
   (by rw [MakeChecks.laidMetH_plain _ _ _ aK]; exact laidMet_laidAll _ aK aK)) ?_
 intro W base args ds gs before ZO hW _ _ hL _
 have qZ:∀(j:Nat) t v,Tryz.f4.params[j]?=some t->args[j]?=some v->Value.okWide Tryz.prog W .any base t v:=ZO
 have hW':=hW
 obtain ⟨p,q,hA0,hV,rfl,hfz,rR⟩:=hW
 have hA:DataW.TrodAll enc Tryz.prog W 0 (fun _=>true) true Tryz.f4.params.toList args.toList ds p:=hA0
 rw [Tryz.params4] at hA qZ
 obtain ⟨v0,vs0,d0,ds0,p0,q0,arq,rfl,rfl,h0,r0⟩:=trodAll_cons hA
 obtain ⟨v1,vs1,d1,ds1,p1,q1,rfl,rfl,rfl,h1,r1⟩:=trodAll_cons r0
 obtain ⟨v2,vs2,d2,ds2,p2,q2,rfl,rfl,rfl,h2,r2⟩:=trodAll_cons r1
 obtain ⟨v3,vs3,d3,ds3,p3,q3,rfl,rfl,rfl,h3,r3⟩:=trodAll_cons r2
 obtain ⟨v4,vs4,d4,ds4,p4,q4,rfl,rfl,rfl,h4,r4⟩:=trodAll_cons r3
 obtain ⟨v5,vs5,d5,ds5,p5,q5,rfl,rfl,rfl,h5,r5⟩:=trodAll_cons r4
 obtain ⟨v6,vs6,d6,ds6,p6,q6,rfl,rfl,rfl,h6,r6⟩:=trodAll_cons r5
 obtain ⟨rfl,rfl,rfl⟩:=trodAll_nil r6
 obtain rfl:args=#[v0,v1,v2,v3,v4,v5,v6]:=by cases args; simp_all
 obtain ⟨rfl,rfl⟩:=trodVars_none hV
 obtain ⟨i0,rfl,rfl,rfl,w0⟩:=open_int Tryz.underlying3 (qZ 0 3 v0 rfl rfl) h0
 have bd0:=bounds_i64 w0
 obtain ⟨i1,rfl,rfl,rfl,w1⟩:=open_int Tryz.underlying3 (qZ 1 3 v1 rfl rfl) h1
 have bd1:=bounds_i64 w1
 obtain ⟨A2,n2,c2,dL,rfl,u2⟩:=TY (qZ 2 22 v2 rfl rfl) h2
 have k2:=h2
 have lt2:∀x∈p2,x.block<W.heap.size:=by obtain ⟨m,hm⟩:=k2; exact DataW.trod_lt m _ _ _ hm
 obtain ⟨i3,rfl,rfl,rfl,w3⟩:=open_int Tryz.underlying2 (qZ 3 2 v3 rfl rfl) h3
 have bd3:=bounds_i64 w3
 obtain ⟨i4,rfl,rfl,rfl,w4⟩:=open_int Tryz.underlying2 (qZ 4 2 v4 rfl rfl) h4
 have bd4:=bounds_i64 w4
 obtain ⟨i5,rfl,rfl,rfl,w5⟩:=open_int Tryz.underlying3 (qZ 5 3 v5 rfl rfl) h5
 have bd5:=bounds_i64 w5
 obtain ⟨i6,rfl,rfl,rfl,w6⟩:=open_int Tryz.underlying3 (qZ 6 3 v6 rfl rfl) h6
 have bd6:=bounds_i64 w6
 clear hA0 ZO
 refine (Go.Proofs.YtgopcdagnicekaaGreatDoor.Oa u2 bd3 bd4 (Ob hL) (Oc hL)).mono fun e W' ⟨he,bel⟩=>?_
 subst he
 exact ⟨_,rfl,_,_,_,[],_,[],hW',trodAll_mk1 (shut_bool Tryz.underlying4 _),(trodAll_cons_mk (shut_int Tryz.underlying3 w0) (trodAll_cons_mk (shut_int Tryz.underlying3 w1) (trodAll_cons_mk (Below.trod laidOut aK (bX aK) k2 bel lt2) (trodAll_cons_mk (shut_int Tryz.underlying2 w3) (trodAll_cons_mk (shut_int Tryz.underlying2 w4) (trodAll_cons_mk (shut_int Tryz.underlying3 w5) (trodAll_cons_mk (shut_int Tryz.underlying3 w6) trodAll_mk0))))))),rfl,bel.frame _,fun h=>by cases h⟩
theorem over:Rows.TopNumbersSaid:=
 OpenClaim.holds_of_wide 4 Tryz.f4 rfl rfl rfl rfl rfl rfl rfl ⟨rfl,rfl,rfl,rfl,rfl⟩ rfl rfl rfl rfl rfl aK Tryz.func4 aK
  (bX aK) (by unfold Func.isWrapper; rw [aQ (fT aK)]; exact ⟨rfl,rfl⟩)
  (fun os started H enc _=>lifted os started H enc)
end Go.Proofs.YtgopcdagnicekaaGreatDoor.topNumbersDone
namespace Go.Proofs.YtgopcdagnicekaaGreatDoor
open Go
theorem topNumbers_holds:Rows.TopNumbersCardSaid:=
 Claim7.holds_tied_plain_at .later [] [.data,.data] true (true, "082a274b4cda6f578c9ee563b97f013b51c21485686ec1a57ab32503dc438175") false
  topNumbersDone.over (fun _ h=>by cases h) aK (fun _ h=>by cases h) topNumbers_row_tie rfl ⟨rfl,rfl⟩ aK rfl
  (fun f fn hf hfn=>by
   obtain rfl:f=4:=dw ((show Tryz.prog.funcNamed "anvil/anviltop.TopNumbers"=some 4 by kernel_rfl).symm.trans hf) |>.symm
   obtain rfl:fn=Tryz.f4:=(dw (Tryz.func4.symm.trans hfn)).symm
   exact ⟨by kernel_rfl,fun j t ht=>by
    rw [Tryz.params4] at ht
    have hm:t∈[3,3,22,2,2,3,3]:=by simpa using yF ht
    have n8:([3,3,22,2,2,3,3].all fun u=>!Tryz.prog.wantsStandIn u)=true:=by kernel_rfl
    exact (show Tryz.prog.wantsStandIn t=false by simpa using dP.1 n8 t hm)⟩)
  aK
#print axioms topNumbers_holds
end Go.Proofs.YtgopcdagnicekaaGreatDoor
