/- integer.DivMod by 0. No condition. -/
import Derived.Test.YtnldopjbiacbfaaDmz
namespace Go.Proofs.Ytnldopjbiacbfaa
open Go.RowKit Anv

theorem divmod_z0 {A B : Option Addr} {c d : Nat} {x : Int} {w : World} (hy : ZIn w B d 0) :
    Calls Try.prog 36 #[.agg #[.bool (neg x), .slice A (zl x) c], .agg #[.bool (neg 0), .slice B (zl 0) d]] w fun e w' => e = .returned (.tuple #[.agg #[.bool false, .slice none 0 0], .agg #[.bool false, .slice none 0 0], .int .i64 2]) ∧ Below w.heap.size w w' := by
  go_enter Try.func36, Try.ntmps36
  go_wp2_with fail
  refine (dm_zero (NumIn.below (ZIn.num hy) (by exact below4 _ _ _ _ _))).mono ?_
  rintro e w1 ⟨rfl, hb⟩
  obtain ⟨q0, q1, q2, q3, hbw⟩ := boxes4 hb
  have d0 := q2.c0
  have d1 := q2.c1
  have d2 := q2.f 0
  have d3 := q2.f 1
  have f0 := q3.c0
  have f1 := q3.c1
  have f2 := q3.f 0
  have f3 := q3.f 1
  clear hb q0 q1 q2 q3
  go_wp2
  exact bodyPost_ret (v := .tuple #[.agg #[.bool false, .slice none 0 0], .agg #[.bool false, .slice none 0 0], .int .i64 2]) (by simp [results, Try.results36, go_sem, d0, d1, f0, f1]) rfl ⟨rfl, below_store2 (below_store2 hbw (by omega) _ _) (by omega) _ _⟩

end Go.Proofs.Ytnldopjbiacbfaa
