/- SplitParts: the tied card of the second form: for every input of bulk at most 1048576 the law returns true, and each argument reads afterwards as it read before. -/
import Derived.Test.YtoojllfijfjmoaaDoorM48
import Derived.Test.YtoojllfijfjmoaaDoorM49
import Derived.Test.YtoojllfijfjmoaaDoorM8
import Derived.Test.YtoojllfijfjmoaaDoorTie
import Derived.Test.YtoojllfijfjmoaaDoorCards
import Derived.LaidMore
import Derived.SevenTiedAt
import Derived.Stop.Joined
import Derived.JoinedCond
import Derived.Deep.DeepHandedRow

namespace Go.Proofs.YtoojllfijfjmoaaDoor.splitPartsUptoDone
open Go.Proofs.YtoojllfijfjmoaaDoor Go.RowKit Anv Go.ChangeShapes Go.WideShapes Go.ChangeAt Go.Joins
def lay : List (String × DataW Unit) := [("unicode/utf8.acceptRanges", Rows.laid_unicode_utf8_acceptRanges), ("unicode/utf8.first", Rows.laid_unicode_utf8_first)]
set_option maxRecDepth 100000 in
theorem bulk_lits {H : Type} (l : List Int) : Rows.uptoBulkAll (lits (H := H) .i64 l) = l.length := by
  induction l with
  | nil => simp [lits, Rows.uptoBulkAll]
  | cons z l ih =>
    rw [lits, List.map_cons, Rows.uptoBulkAll, ← lits, ih, List.length_cons]
    simp [Rows.uptoBulk]
    omega
set_option maxRecDepth 100000 in
theorem open_i64b {H : Type} {enc : TypeId × Value → H} {W : World} {r : Reach} {b0 : Nat} {v : Value} {d : DataW H} {p : List MemPlace}
    (hv : Value.okWide Tryd.prog W r b0 22 v) (h : DataW.Trod enc Tryd.prog W 0 (fun _ => true) true 22 v d p) :
    ∃ A n c es, v = .slice A n c ∧ (Go.Proofs.YtoojllfijfjmoaaDoor.W.pfRow Go.Proofs.YtoojllfijfjmoaaDoor.W.fI Go.Proofs.YtoojllfijfjmoaaDoor.W.FI 1 A n c es).P W ∧ Go.Proofs.YtoojllfijfjmoaaDoor.W.I64 es ∧ n ≤ Rows.uptoBulk d := by
  obtain ⟨A, n, c, es, rfl, h1, h2⟩ := open_i64s hv h
  refine ⟨A, n, c, es, rfl, h1, h2, ?_⟩
  obtain ⟨m, hm⟩ := h
  replace hm : DataW.trod enc Tryd.prog W 0 (fun _ => true) true m 22 [.slice A n c] = some (d, p) := hm
  rcases open_ints Tryd.underlying22 Tryd.underlying2 (by kernel_rfl) hm with ⟨hcs, _⟩ | ⟨x, l, c', zs, hcs, _, hl, _, hz, hd, _, _⟩
  · simp at hcs
    omega
  · simp at hcs
    obtain ⟨rfl, rfl, rfl⟩ := hcs
    simp only [Prod.mk.injEq] at hd
    obtain ⟨rfl, _⟩ := hd
    have hz' : zs.length = c := by simpa using hz
    have e : Rows.uptoBulk (DataW.slice (lits (H := H) .i64 (zs.take n)) (lits .i64 (zs.drop n))) = Rows.uptoBulkAll (lits (H := H) .i64 (zs.take n)) + Rows.uptoBulkAll (lits (H := H) .i64 (zs.drop n)) + 1 := by rw [Rows.uptoBulk]
    rw [e, bulk_lits, bulk_lits, List.length_take]
    omega
set_option maxRecDepth 100000 in
theorem witness_row (os : Os) {H : Type} (enc : TypeId × Value → H) :
    (Rows.OpenSpec.upto Rows.splitPartsSpec).preRow enc Tryd.prog Tryd.f3 [] false lay ((World.laidAll Tryd.prog os lay).forCall (fun _ _ => 0) ⟨#[], #[.slice none 0 0, .int .i64 0, .int .i64 0], []⟩).memory #[.slice none 0 0, .int .i64 0, .int .i64 0] := by
  have hw : (DataW.whole enc Tryd.prog ((World.laidAll Tryd.prog os lay).forCall (fun _ _ => 0) ⟨#[], #[.slice none 0 0, .int .i64 0, .int .i64 0], []⟩).memory Tryd.f3.params.toList (Rows.OpenSpec.upto Rows.splitPartsSpec).vars false (#[.slice none 0 0, .int .i64 0, .int .i64 0] : Array Value).toList 8).map (fun x => (x.1, x.2.1)) =
      some ([.nil, .lit (.int .i64 0), .lit (.int .i64 0)], []) := by kernel_rfl
  obtain ⟨⟨x1, x2, x3⟩, hx, hx1⟩ := Option.map_eq_some_iff.1 hw
  simp only [Prod.mk.injEq] at hx1
  obtain ⟨rfl, rfl⟩ := hx1
  refine OpenSpec.preRow_of_cond 8 hx (by kernel_rfl) (fun k hk => ?_) (by kernel_rfl) (by rw [MakeChecks.laidMetH_plain _ _ _ (by kernel_rfl)]; exact laidMet_laidAll _ (by kernel_rfl) (by kernel_rfl))
  obtain rfl : Rows.uptoSmall = k := Option.some.inj hk
  simp [Rows.uptoSmall, Rows.uptoBulkAll, Rows.uptoBulk]
set_option maxRecDepth 100000 in
theorem lifted (os : Os) (started : os.Started) (H : Type) (enc : TypeId × Value → H) (F0 : Stop.Interp) :
    ReturnsInHanded {} Tryd.checked os 3 .any ((Rows.OpenSpec.upto Rows.splitPartsSpec).preRow enc Tryd.prog Tryd.f3 [] false lay)
      (((Rows.OpenSpec.upto Rows.splitPartsSpec).at F0).post enc Tryd.prog Tryd.f3 false true false false) := by
  refine returnsInHanded_of_row (C := Tryd.checked) (s := Rows.OpenSpec.upto Rows.splitPartsSpec) own started (by kernel_rfl) Tryd.func3
    ⟨World.laidAll Tryd.prog os lay, fun _ _ => 0, ⟨#[], #[.slice none 0 0, .int .i64 0, .int .i64 0], []⟩, World.laidAll_os _ _ _, World.shaped_of_ZipB (by kernel_rfl) (by kernel_rfl), rfl,
      (Input.okWide_of_okWideB (show Input.okWideB Tryd.prog ((World.laidAll Tryd.prog os lay).forCall (fun _ _ => 0) ⟨#[], #[.slice none 0 0, .int .i64 0, .int .i64 0], []⟩) 3 ⟨#[], #[.slice none 0 0, .int .i64 0, .int .i64 0], []⟩ = true by kernel_rfl)).2, witness_row os enc, by
      simp only [Assume.holds]
      exact ⟨(by simp), (by simp), (fun h => by cases h), (by simp), (by simp)⟩⟩ ?_
  intro W base args ds gs before hval0 hW _ hk _ _ _ _
  have hval : ∀ (j : Nat) t v, Tryd.f3.params[j]? = some t → args[j]? = some v → Value.okWide Tryd.prog W .any base t v := hval0
  have hW' := hW
  obtain ⟨p, q, hA0, hV, rfl, hfz, hnd⟩ := hW
  have hA : DataW.TrodAll enc Tryd.prog W 0 (fun _ => true) true Tryd.f3.params.toList args.toList ds p := hA0
  rw [Tryd.params3] at hA hval
  obtain ⟨v0, vs0, d0, ds0, p0, q0, hargs, rfl, rfl, h0, r0⟩ := trodAll_cons hA
  obtain ⟨v1, vs1, d1, ds1, p1, q1, rfl, rfl, rfl, h1, r1⟩ := trodAll_cons r0
  obtain ⟨v2, vs2, d2, ds2, p2, q2, rfl, rfl, rfl, h2, r2⟩ := trodAll_cons r1
  obtain ⟨rfl, rfl, rfl⟩ := trodAll_nil r2
  obtain rfl : args = #[v0, v1, v2] := by cases args; simp_all
  obtain ⟨rfl, rfl⟩ := trodVars_none hV
  obtain ⟨A0, n0, c0, es0, rfl, u0, y0, z0⟩ := open_i64b (hval 0 22 v0 rfl rfl) h0
  have k0 := h0
  have lt0 : ∀ x ∈ p0, x.block < W.heap.size := by obtain ⟨m, hm⟩ := k0; exact DataW.trod_lt m _ _ _ hm
  obtain ⟨i1, rfl, rfl, rfl, w1⟩ := open_int Tryd.underlying3 (hval 1 3 v1 rfl rfl) h1
  have bd1 := bounds_i64 w1
  obtain ⟨i2, rfl, rfl, rfl, w2⟩ := open_int Tryd.underlying3 (hval 2 3 v2 rfl rfl) h2
  have bd2 := bounds_i64 w2
  clear hA0 hval0
  have hbulk : n0 ≤ 1048576 := by
    have hk1 := of_decide_eq_true (hk _ rfl)
    rw [List.append_nil] at hk1
    simp only [Rows.uptoBulkAll] at hk1
    omega
  refine (Go.Proofs.YtoojllfijfjmoaaDoor.W.parts_law u0 y0 hbulk).mono fun e W' ⟨he, bel⟩ => ?_
  subst he
  exact ⟨_, rfl, _, _, _, [], _, [], hW', trodAll_mk1 (shut_bool Tryd.underlying4 _), (trodAll_cons_mk (Below.trod laidOut (by kernel_rfl) (of_decide_eq_true (by kernel_rfl)) k0 bel lt0) (trodAll_cons_mk (shut_int Tryd.underlying3 w1) (trodAll_cons_mk (shut_int Tryd.underlying3 w2) trodAll_mk0))), rfl, bel.frame _, fun h => by cases h⟩
theorem over : Rows.SplitPartsUptoSaid :=
  OpenClaim.holds_of_cond 3 Tryd.f3 rfl rfl rfl rfl rfl rfl rfl ⟨rfl, rfl, rfl, rfl, rfl⟩ rfl rfl rfl rfl rfl (by kernel_rfl) Tryd.func3 (by kernel_rfl)
    (of_decide_eq_true (by kernel_rfl)) (by unfold Func.isWrapper; rw [if_neg (of_decide_eq_false (by kernel_rfl))]; exact ⟨rfl, rfl⟩)
    (fun os started H enc _ F0 => by rw [OpenClaim.pre_eq_preRow]; exact lifted os started H enc F0)
end Go.Proofs.YtoojllfijfjmoaaDoor.splitPartsUptoDone
namespace Go.Proofs.YtoojllfijfjmoaaDoor
open Go
theorem splitPartsUpto_holds : Rows.SplitPartsUptoCardSaid :=
  Claim7.holds_tied_plain_at .later [] [.data, .pinned] true (true, "5e385303498581aba1ca61a0d13d264f9f5786eae4a44f212876f6eafcf0324f") false
    splitPartsUptoDone.over (fun _ h => by cases h) (by kernel_rfl) (fun _ h => by cases h) splitPartsUpto_row_tie rfl ⟨rfl, rfl⟩ (by kernel_rfl) rfl
    (fun f fn hf hfn => by
      obtain rfl : f = 3 := Option.some.inj ((show Tryd.prog.funcNamed "anvil/anvillaw21.SplitParts" = some 3 by kernel_rfl).symm.trans hf) |>.symm
      obtain rfl : fn = Tryd.f3 := (Option.some.inj (Tryd.func3.symm.trans hfn)).symm
      exact ⟨by kernel_rfl, fun j t ht => by
        rw [Tryd.params3] at ht
        have hm : t ∈ [22, 3, 3] := by simpa using Array.mem_of_getElem? ht
        have hall : ([22, 3, 3].all fun u => !Tryd.prog.wantsStandIn u) = true := by kernel_rfl
        exact (show Tryd.prog.wantsStandIn t = false by simpa using List.all_eq_true.1 hall t hm)⟩)
    (by kernel_rfl)
#print axioms splitPartsUpto_holds
end Go.Proofs.YtoojllfijfjmoaaDoor
