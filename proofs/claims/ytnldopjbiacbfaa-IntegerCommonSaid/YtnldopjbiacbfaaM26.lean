/- IntegerCommon: for every input the law returns true, and each argument reads afterwards as it read before. No condition. -/
import Derived.Test.YtnldopjbiacbfaaM24
import Derived.Test.YtnldopjbiacbfaaM25

namespace Go.Proofs.Ytnldopjbiacbfaa.integerCommonDone
open Go.Proofs.Ytnldopjbiacbfaa Go.RowKit Anv Go.ChangeShapes Go.WideShapes Go.ChangeAt Go.Joins

set_option maxRecDepth 100000 in
theorem long_case {b0 : Bool} {A0 : Option Addr} {n0 c0 : Nat} {xs0 : List Nat} {b1 : Bool} {A1 : Option Addr} {n1 c1 : Nat} {xs1 : List Nat} {w : World} (h0 : U32 w A0 n0 c0 xs0) (h1 : U32 w A1 n1 c1 xs1) (hlong : 60 < n0 ∨ 60 < n1) :
    Calls Try.prog 7 #[.agg #[.bool b0, .slice A0 n0 c0], .agg #[.bool b1, .slice A1 n1 c1]] w fun e w' => e = .returned (.bool true) ∧ Below w.heap.size w w' := by
  go_enter Try.func7, Try.ntmps7
  go_wp2_with fail
  refine (live_true _).mono ?_
  rintro e w1 ⟨rfl, hb⟩
  obtain ⟨q0, q1, hbw, hs⟩ := boxes2 hb
  have a0 := q0.c0
  have a1 := q0.c1
  have a2 := q1.c0
  have a3 := q1.c1
  clear hb
  go_wp2_with fail
  refine (long2 (Nat.le_trans h0.cap h0.big) (Nat.le_trans h1.cap h1.big) true (by simp; omega)).mono ?_
  rintro e w2 ⟨rfl, hb⟩
  go_wp2
  go_ret
  exact ⟨rfl, thru hbw hb⟩

theorem walk {b0 : Bool} {A0 : Option Addr} {n0 c0 : Nat} {xs0 : List Nat} {b1 : Bool} {A1 : Option Addr} {n1 c1 : Nat} {xs1 : List Nat} {w : World} (h0 : U32 w A0 n0 c0 xs0) (h1 : U32 w A1 n1 c1 xs1)  :
    Calls Try.prog 7 #[.agg #[.bool b0, .slice A0 n0 c0], .agg #[.bool b1, .slice A1 n1 c1]] w fun e w' => e = .returned (.bool true) ∧ Below w.heap.size w w' := by
  by_cases hl : 60 < n0 ∨ 60 < n1
  · exact long_case h0 h1 hl
  · exact common_short h0 h1 (by omega) (by omega) 

set_option maxRecDepth 100000 in
theorem lifted (os : Os) (started : os.Started) (H : Type) (enc : TypeId × Value → H) :
    ReturnsInHanded {} Try.checked os 7 .any (Rows.integerCommonSpec.pre6 enc Try.prog Try.f7 Rows.integerCommonRow.domain false) (Rows.integerCommonSpec.post enc Try.prog Try.f7 false true false false) := by
  refine returnsInHanded_of_change (C := Try.checked) own started (by kernel_rfl) Try.func7
    (ChangeSpec.witness6 (enc := enc) (C := Try.checked) false ⟨#[], #[.agg #[.bool false, .slice none 0 0], .agg #[.bool false, .slice none 0 0]], []⟩ 8 (by kernel_rfl) (by kernel_rfl) (by kernel_rfl) (by kernel_rfl)) ?_
  intro W base args ds gs before hval0 hW hcnd _
  have hval : ∀ (j : Nat) t v, Try.f7.params[j]? = some t → args[j]? = some v → Value.okWide Try.prog W .any base t v := hval0
  have hW' := hW
  obtain ⟨p, q, hA0, hV, rfl, hfz, hnd⟩ := hW
  have hA : DataW.TrodAll enc Try.prog W 0 (fun _ => true) true Try.f7.params.toList args.toList ds p := hA0
  rw [Try.params7] at hA hval
  obtain ⟨v0, vs0, d0, ds0, p0, q0, hargs, rfl, rfl, h0, r0⟩ := trodAll_cons hA
  obtain ⟨v1, vs1, d1, ds1, p1, q1, rfl, rfl, rfl, h1, r1⟩ := trodAll_cons r0
  obtain ⟨rfl, rfl, rfl⟩ := trodAll_nil r1
  obtain rfl : args = #[v0, v1] := by cases args; simp_all
  obtain ⟨rfl, rfl⟩ := trodVars_none hV
  obtain ⟨b0, A0, n0, c0, xs0, rfl, u0⟩ := open_num (hval 0 24 v0 rfl rfl) h0
  have k0 := h0
  have lt0 : ∀ x ∈ p0, x.block < W.heap.size := by obtain ⟨m, hm⟩ := k0; exact DataW.trod_lt m _ _ _ hm
  obtain ⟨b1, A1, n1, c1, xs1, rfl, u1⟩ := open_num (hval 1 24 v1 rfl rfl) h1
  have k1 := h1
  have lt1 : ∀ x ∈ p1, x.block < W.heap.size := by obtain ⟨m, hm⟩ := k1; exact DataW.trod_lt m _ _ _ hm
  clear hA0 hval0
  refine (walk u0 u1 ).mono fun e W' ⟨he, bel⟩ => ?_
  subst he
  exact ⟨_, rfl, _, _, _, [], _, [], hW', trodAll_mk1 (shut_bool Try.underlying4 _), (trodAll_cons_mk (Below.trod laidOut (by kernel_rfl) (of_decide_eq_true (by kernel_rfl)) k0 bel lt0) (trodAll_cons_mk (Below.trod laidOut (by kernel_rfl) (of_decide_eq_true (by kernel_rfl)) k1 bel lt1) trodAll_mk0)), rfl, bel.frame _, fun h => by cases h⟩

theorem over : Rows.integerCommonRow.holds Try.pinned (OpenSpec.ofChange Rows.integerCommonSpec) :=
  OpenClaim.holds_of_wide 7 Try.f7 rfl rfl rfl rfl rfl rfl rfl ⟨rfl, rfl, rfl, rfl, rfl⟩ rfl rfl rfl rfl rfl (by kernel_rfl) Try.func7 (by kernel_rfl)
    (of_decide_eq_true (by kernel_rfl)) (by unfold Func.isWrapper; rw [if_neg (of_decide_eq_false (by kernel_rfl))]; exact ⟨rfl, rfl⟩)
    (fun os started H enc _ => lifted os started H enc)

end Go.Proofs.Ytnldopjbiacbfaa.integerCommonDone
namespace Go.Proofs.Ytnldopjbiacbfaa

theorem common_holds : Rows.IntegerCommonSaid := integerCommonDone.over
#print axioms common_holds

end Go.Proofs.Ytnldopjbiacbfaa
