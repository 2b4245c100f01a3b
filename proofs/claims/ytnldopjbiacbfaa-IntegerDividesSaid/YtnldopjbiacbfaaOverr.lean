/- The reference's Over. No condition. -/
import Derived.Test.YtnldopjbiacbfaaDmr
namespace Go.Proofs.Ytnldopjbiacbfaa
open Go.RowKit Anv

theorem over_r_no {A B : Option Addr} {c d : Nat} {x y : Int} {w : World} (hx : RIn w A c x) (hy : RIn w B d y) (hn : dl x ≤ 1000) (hm : dl y ≤ 1000) (hy0 : y ≠ 0) (hd : ¬ x % y = 0) :
    Calls Try.prog 39 #[.agg #[.bool (neg x), .slice A (dl x) c], .agg #[.bool (neg y), .slice B (dl y) d]] w fun e w' => e = .returned (.tuple #[.agg #[.bool false, .slice none 0 0], .bool false]) ∧ Below w.heap.size w w' := by
  have hr : 0 < dl (x % y) := dn_pos (by omega)
  have H0 := Lib.hid hy0
  clear hd hy0
  go_enter Try.func39, Try.ntmps39
  go_wp2_with fail
  refine (divmod_r (hx.below (by exact below3 _ _ _ _)) (hy.below (by exact below3 _ _ _ _)) hn hm H0.out).mono ?_
  rintro e w1 ⟨v, u, rfl, ⟨A1, c1, rfl, z1⟩, ⟨A2, c2, rfl, z2⟩, hb⟩
  obtain ⟨q0, q1, q2, hbw, hs⟩ := boxes3 hb
  clear hb hx hy q0 q1 z1 z2
  have r2 := (q2.alloc (.cells #[.bool (neg (x / y)), .slice A1 (dl (x / y)) c1] 30)).alloc (.cells #[.bool (neg (x % y)), .slice A2 (dl (x % y)) c2] 30)
  have d0 := r2.c0
  have d1 := r2.c1
  have d2 := r2.f 0
  have d3 := r2.f 1
  have hb2 := hbw.trans ((below2 w1 (.cells #[.bool (neg (x / y)), .slice A1 (dl (x / y)) c1] 30) (.cells #[.bool (neg (x % y)), .slice A2 (dl (x % y)) c2] 30)).mono hbw.size)
  have HB2 := Lib.hid hb2
  clear hb2 q2 r2
  go_wp2
  exact bodyPost_ret (v := .tuple #[.agg #[.bool false, .slice none 0 0], .bool false]) (by simp [results, Try.results39, go_sem, d0, d1]) rfl ⟨rfl, below_store2 HB2.out (by omega) _ _⟩

theorem over_r {A B : Option Addr} {c d : Nat} {x y : Int} {w : World} (hx : RIn w A c x) (hy : RIn w B d y) (hn : dl x ≤ 1000) (hm : dl y ≤ 1000) (hy0 : y ≠ 0) (hd : x % y = 0) :
    Calls Try.prog 39 #[.agg #[.bool (neg x), .slice A (dl x) c], .agg #[.bool (neg y), .slice B (dl y) d]] w fun e w' => ∃ v, e = .returned (.tuple #[v, .bool true]) ∧ RAt w' v (x / y) ∧ Below w.heap.size w w' := by
  have hr : dl (x % y) = 0 := by rw [hd]; exact dl_zero
  have H0 := Lib.hid hy0
  clear hd hy0
  go_enter Try.func39, Try.ntmps39
  go_wp2_with fail
  refine (divmod_r (hx.below (by exact below3 _ _ _ _)) (hy.below (by exact below3 _ _ _ _)) hn hm H0.out).mono ?_
  rintro e w1 ⟨v, u, rfl, ⟨A1, c1, rfl, z1⟩, ⟨A2, c2, rfl, z2⟩, hb⟩
  obtain ⟨q0, q1, q2, hbw, hs⟩ := boxes3 hb
  rw [hr]
  clear hb hx hy q0 q1 z2
  have k6 := (Box2.new w1 30 (.bool (neg (x / y))) (.slice A1 (dl (x / y)) c1)).alloc (.cells #[.bool (neg (x % y)), .slice A2 0 c2] 30)
  have r2 := (q2.alloc (.cells #[.bool (neg (x / y)), .slice A1 (dl (x / y)) c1] 30)).alloc (.cells #[.bool (neg (x % y)), .slice A2 0 c2] 30)
  have d0 := r2.c0
  have d1 := r2.c1
  have d2 := r2.f 0
  have d3 := r2.f 1
  have hb1 := below2 w1 (.cells #[.bool (neg (x / y)), .slice A1 (dl (x / y)) c1] 30) (.cells #[.bool (neg (x % y)), .slice A2 0 c2] 30)
  have Z1 := Lib.hid (z1.below hb1)
  have HB2 := Lib.hid (thru hbw hb1)
  clear hb1 q2 r2 z1 k6
  go_wp2
  exact bodyPost_ret (v := .tuple #[.agg #[.bool (neg (x / y)), .slice A1 (dl (x / y)) c1], .bool true]) (by simp [results, Try.results39, go_sem, d0, d1]) rfl ⟨_, rfl, ⟨_, _, rfl, U32.store2 Z1.out d0 d1 _ _⟩, below_store2 HB2.out (by omega) _ _⟩

end Go.Proofs.Ytnldopjbiacbfaa
