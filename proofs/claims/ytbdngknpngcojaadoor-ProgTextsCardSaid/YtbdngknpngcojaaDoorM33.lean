/- '==' at structs whose fields are all integers. Over any program. No condition. -/
import Derived.Test.YtbdngknpngcojaaDoorM32
import Derived.Laws.StructEq

namespace Go.Proofs.YtbdngknpngcojaaDoor.W
open Go.RowKit Anv Go.Lib
def ints (l : List Int) : Array Value := (l.map (Value.int .i64)).toArray
def intFB (P : Program) : List Field → Nat → Bool
  | [], _ => true
  | f :: fs, o => f.name != "_" && f.offset == o && (match P.underlying f.type with | some (.int .i64) => true | _ => false) && ((P.info? f.type).map (·.size) == some 1) && intFB P fs (o + 1)
theorem part_int {P : Program} {w : World} {t o : Nat} {A : List Int} {z : Int} (h : TOne P t) (ho : A[o]? = some z) : (part t (ints A) o).run P w = .ok (.int .i64 z) w := by
  have : (ints A)[o]? = some (.int .i64 z) := by simp [ints, ho]
  simp [part, Sem.run_bind, h.agg, this]
theorem run_eqFields_ints {P : Program} (w : World) (d : Nat) (A B : List Int) (hAB : A.length = B.length) : ∀ (fs : List Field) (o : Nat), A.length = o + fs.length → intFB P fs o = true →
    (Op.eqFields (d + 1) (ints A) (ints B) fs).run P w = .ok (decide (A.drop o = B.drop o)) w
  | [], o, hl, _ => by
    have h1 : A.drop o = [] := List.drop_eq_nil_of_le (by simp at hl; omega)
    have h2 : B.drop o = [] := List.drop_eq_nil_of_le (by simp at hl; omega)
    simp [Op.eqFields, h1, h2]
  | f :: fs, o, hl, hf => by
    simp only [List.length_cons] at hl
    have hf' := hf
    unfold intFB at hf'
    simp only [Bool.and_eq_true, bne_iff_ne, beq_iff_eq] at hf'
    obtain ⟨⟨⟨⟨h1, h2⟩, h3⟩, h4⟩, h5⟩ := hf'
    have hu : P.underlying f.type = some (.int .i64) := by
      revert h3
      split
      · intro _; assumption
      · intro h; cases h
    have ht : TOne P f.type := ⟨⟨_, hu, rfl⟩, h4⟩
    have hoA : o < A.length := by omega
    have hoB : o < B.length := by omega
    have ih := run_eqFields_ints w d A B hAB fs (o + 1) (by omega) h5
    simp only [Op.eqFields, if_pos h1, Sem.run_bind, h2, part_int ht (List.getElem?_eq_getElem hoA), part_int ht (List.getElem?_eq_getElem hoB), Result.andThen_ok, run_equalIn_int w d f.type .i64 .i64 _ _ hu]
    rw [List.drop_eq_getElem_cons hoA, List.drop_eq_getElem_cons hoB]
    by_cases e : A[o] = B[o]
    · simp only [e, beq_self_eq_true, Bool.not_true, Bool.false_eq_true, if_false, ih, List.cons.injEq, true_and]
    · have e' : (A[o] == B[o]) = false := by simpa using e
      simp only [e', Bool.not_false, if_true, Sem.run_pure]
      rw [decide_eq_false (fun h => e (List.cons.inj h).1)]
section
variable {P : Program} {N : Nat} {dq : List Deferred} {a : Act} {l : List (Nat × Value)} {w : World} {d : Nat} {ty : TypeId} {pos : String} {af : Array Edge} {gd : Option (Nat × Bool)}
structure IntS (P : Program) (T n : Nat) : Prop where
  hg : P.eqGuardType P.depth T = false
  hT : P.underlying T = some (.struct (P.fieldsOf T))
  hp : P.stoodInHeld T = false
  hF : intFB P (P.fieldsOf T).toList 0 = true
  hn : (P.fieldsOf T).toList.length = n
theorem run_eq_ints {T n : Nat} (hI : IntS P T n) (w : World) (A B : List Int) (hA : A.length = n) (hB : B.length = n) : (Op.equalIn 10000 T (.agg (ints A)) (.agg (ints B))).run P w = .ok (decide (A = B)) w := by
  rw [run_equalIn_agg w 9999 T _ _ hI.hT hI.hp, run_eqFields_ints w 9998 A B (by omega) _ 0 (by rw [hA, hI.hn]; omega) hI.hF]
  rfl
theorem rn_neqI {x y : Operand} {T yt n : Nat} (A B : List Int) (h : EnvD dq N a l) (hI : IntS P T n) (hx : evl l x = some (.agg (ints A))) (hy : evl l y = some (.agg (ints B))) (hA : A.length = n) (hB : B.length = n) :
    (execOp a.eval ⟨some d, .binOp .neq T x y yt, ty, pos, af, gd⟩).run P w = .ok (.value (.bool (!decide (A = B)))) w := by
  refine rn_bin h hx hy ?_
  simp only [Sem.run_bind, run_eqGuard_agg w .neq T x y _ _ hI.hg, Result.andThen_ok, run_neq_struct, run_eq_ints hI w A B hA hB]
end
end Go.Proofs.YtbdngknpngcojaaDoor.W
