/- How a statement's argument, a row of int64, is read. No condition. -/
import Derived.Test.YtoojllfijfjmoaaDoorM8
import Derived.Test.YtoojllfijfjmoaaDoorM47

namespace Go.Proofs.YtoojllfijfjmoaaDoor
open Go.RowKit Anv Go.ChangeShapes Go.WideShapes Go.ChangeAt Go.Joins W
theorem fl_fI (es : List Int) : fl fI es = es.map fun x => .int .i64 x := by
  induction es with
  | nil => rfl
  | cons e es ih => rw [List.map_cons, ← ih]; rfl
theorem es_fI (es : List Int) (w : World) : (pfEs FI es).P w := fun _ _ => trivial
set_option maxRecDepth 100000 in
theorem open_i64s {H : Type} {enc : TypeId × Value → H} {W : World} {r : Reach} {b0 : Nat} {v : Value} {d : DataW H} {p : List MemPlace}
    (hv : Value.okWide Tryd.prog W r b0 22 v) (h : DataW.Trod enc Tryd.prog W 0 (fun _ => true) true 22 v d p) :
    ∃ A n c es, v = .slice A n c ∧ (pfRow fI FI 1 A n c es).P W ∧ I64 es := by
  obtain ⟨A, n, c, rfl⟩ := okWide_slice Tryd.underlying22 hv
  obtain ⟨m, hm⟩ := h
  replace hm : DataW.trod enc Tryd.prog W 0 (fun _ => true) true m 22 [.slice A n c] = some (d, p) := hm
  rcases open_ints Tryd.underlying22 Tryd.underlying2 (by kernel_rfl) hm with ⟨hcs, _⟩ | ⟨x, l, c', zs, hcs, _, hl, hmx, hz, _, hcell, hwz⟩
  · simp at hcs
    obtain ⟨rfl, rfl, rfl⟩ := hcs
    exact ⟨none, 0, 0, [], rfl, row_nil fI FI 1 W, fun _ h => by cases h⟩
  · simp at hcs
    obtain ⟨rfl, rfl, rfl⟩ := hcs
    have hz' : zs.length = c := by simpa using hz
    refine ⟨_, n, c, zs.take n, rfl, ⟨⟨by rw [fl_fI, List.length_map, List.length_take]; omega, hl, hmx, fun hp => ?_⟩, by rw [List.length_take]; omega, es_fI _ W⟩, fun z hzm => ?_⟩
    · have h0 := hcell 0 (by omega)
      obtain ⟨b, off, spot⟩ := x
      have hspot : spot = none := by simpa [Addr.add] using World.cell?_spot h0
      subst hspot
      refine ⟨b, off, rfl, World.block_lt_of_cell? W ((⟨b, off, none⟩ : Addr).add 0) h0, fun i hi => ?_⟩
      have hi' := hcell i (by omega)
      have e1 : (⟨b, off, none⟩ : Addr).add i = ⟨b, off + i, none⟩ := by unfold Addr.add; split <;> simp_all
      rw [e1] at hi'
      rw [hi', fl_fI, List.getElem?_map, List.getElem?_take, if_pos (by omega), List.getElem?_eq_getElem (by omega)]
      have hzi : zs.getD i 0 = zs[i]'(by omega) := by simp [List.getD, show i < zs.length by omega]
      rw [hzi]
      rfl
    · exact bounds_i64 (hwz z (List.mem_of_mem_take hzm))
end Go.Proofs.YtoojllfijfjmoaaDoor
