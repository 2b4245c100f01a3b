/- How a statement's argument, a row of rows of int64, is read, with its bounds. No condition. -/
import Derived.Test.YtoojllfijfjmoaaDoorM48
import Derived.Test.YtoojllfijfjmoaaDoorM36
import Derived.Test.YtoojllfijfjmoaaDoorM49

namespace Go.Proofs.YtoojllfijfjmoaaDoor
open Go.RowKit Anv Go.ChangeShapes Go.WideShapes Go.ChangeAt Go.Joins W
theorem cellsI64s : Tryd.prog.cellsOf 22 = 1 := by kernel_rfl
theorem bytesI64 : Tryd.prog.bytesOf 2 = 8 := by kernel_rfl
set_option maxRecDepth 100000 in
theorem open_i64s1 {H : Type} {enc : TypeId × Value → H} {W : World} {m : Nat} {cs : List Value} {y : DataW H × List MemPlace}
    (hm : DataW.trod enc Tryd.prog W 0 (fun _ => true) true m 22 cs = some y) (hsz : ∀ n ∈ y.1.weights Tryd.prog 22, n ≤ reachBytes) :
    ∃ e : TE, cs = fT e ∧ (FT e).P W ∧ I64 e.2.2.2 ∧ e.2.1 ≤ 35184372088832 := by
  obtain ⟨A, n, c, rfl⟩ := slice_form Tryd.underlying22 hm
  have hn : n ≤ 35184372088832 := by
    rcases DataW.trod_slice Tryd.underlying22 hm with ⟨hcs, _⟩ | ⟨a, l, c', elems, rest, q, _, hcs, rfl, _, _, _, hlen, _⟩
    · simp at hcs
      omega
    · simp at hcs
      have hw := hsz ((elems.length + rest.length) * 8) (by
        rw [DataW.weights, Tryd.underlying22, ← bytesI64]
        simp)
      unfold reachBytes at hw
      omega
  obtain ⟨d, p⟩ := y
  rcases open_ints Tryd.underlying22 Tryd.underlying2 (by kernel_rfl) hm with ⟨hcs, _⟩ | ⟨x, l, c', zs, hcs, _, hl, hmx, hz, _, hcell, hwz⟩
  · simp at hcs
    obtain ⟨rfl, rfl, rfl⟩ := hcs
    exact ⟨(none, 0, 0, []), rfl, row_nil fI FI 1 W, (fun _ h => by cases h), Nat.zero_le _⟩
  · simp at hcs
    obtain ⟨rfl, rfl, rfl⟩ := hcs
    have hz' : zs.length = c := by simpa using hz
    suffices hrow : (pfRow fI FI 1 (some x) n c (zs.take n)).P W ∧ I64 (zs.take n) from ⟨(some x, n, c, zs.take n), rfl, hrow.1, hrow.2, hn⟩
    refine ⟨⟨⟨by rw [fl_fI, List.length_map, List.length_take]; omega, hl, hmx, fun hp => ?_⟩, by rw [List.length_take]; omega, es_fI _ W⟩, fun z hzm => ?_⟩
    · have h0 := hcell 0 (by omega)
      obtain ⟨b, off, spot⟩ := x
      have hspot : spot = none := by simpa [Addr.add] using World.cell?_spot h0
      subst hspot
      refine ⟨b, off, rfl, World.block_lt_of_cell? W ((⟨b, off, none⟩ : Addr).add 0) h0, fun i hi => ?_⟩
      have hi' := hcell i (by omega)
      have e1 : (⟨b, off, none⟩ : Addr).add i = ⟨b, off + i, none⟩ := by unfold Addr.add; split <;> simp_all
      rw [e1] at hi'
      rw [hi', fl_fI, List.getElem?_map, List.getElem?_take, if_pos (by omega), List.getElem?_eq_getElem (by omega)]
      have hzi : zs.getD i 0 = zs[i]'(by omega) := by simp [List.getD, show i < zs.length by omega]
      rw [hzi]
      rfl
    · exact bounds_i64 (hwz z (List.mem_of_mem_take hzm))
theorem fl_fT (es : List TE) : fl fT es = es.map fun v => .slice v.1 v.2.1 v.2.2.1 := by
  induction es with
  | nil => rfl
  | cons e es ih => rw [List.map_cons, ← ih]; rfl
set_option maxRecDepth 100000 in
theorem open_i64ss {H : Type} {enc : TypeId × Value → H} {W : World} {r : Reach} {b0 : Nat} {v : Value} {d : DataW H} {p : List MemPlace}
    (hv : Value.okWide Tryd.prog W r b0 42 v) (h : DataW.Trod enc Tryd.prog W 0 (fun _ => true) true 42 v d p) (hsz : ∀ n ∈ d.weights Tryd.prog 42, n ≤ reachBytes) :
    ∃ A n c es, v = .slice A n c ∧ (pfRow fT FT 1 A n c es).P W ∧ (∀ v ∈ es, I64 v.2.2.2) ∧ (∀ v ∈ es, v.2.1 ≤ 35184372088832) := by
  obtain ⟨A, n, c, rfl⟩ := okWide_slice Tryd.underlying42 hv
  obtain ⟨m, hm⟩ := h
  replace hm : DataW.trod enc Tryd.prog W 0 (fun _ => true) true m 42 [.slice A n c] = some (d, p) := hm
  rcases DataW.trod_slice Tryd.underlying42 hm with ⟨hcs, _⟩ | ⟨a, l, c', elems, rest, q, _, hcs, hd, _, hlc, hcm, hlen, hel, _⟩
  · simp at hcs
    obtain ⟨rfl, rfl, rfl⟩ := hcs
    exact ⟨none, 0, 0, [], rfl, row_nil fT FT 1 W, fun _ h => by (cases h), fun _ h => by (cases h)⟩
  simp at hcs
  obtain ⟨rfl, rfl, rfl⟩ := hcs
  simp only [Prod.mk.injEq] at hd
  obtain ⟨rfl, _⟩ := hd
  rw [cellsI64s] at hel
  have hex : ∀ i, ∃ e : TE, i < n → W.cell? (a.add i) = some (.slice e.1 e.2.1 e.2.2.1) ∧ (FT e).P W ∧ I64 e.2.2.2 ∧ e.2.1 ≤ 35184372088832 := by
    intro i
    rcases Nat.lt_or_ge i n with hi | hi
    · have he := hel i hi
      rw [List.getElem?_eq_getElem (by omega)] at he
      obtain ⟨cs, hcs, ht⟩ := Option.bind_eq_some_iff.1 he
      obtain ⟨e, rfl, hu, hb⟩ := open_i64s1 ht (fun k hk => hsz k (by
        rw [DataW.weights, Tryd.underlying42]
        refine List.mem_cons_of_mem _ (List.mem_append_left _ (weights_all ?_ k hk))
        exact List.mem_map_of_mem (List.getElem_mem _)))
      obtain ⟨_, _, hc⟩ := World.cells?_some hcs
      exact ⟨e, fun _ => ⟨by have := hc 0 (by omega); simpa [Addr.add, fT] using this, hu, hb⟩⟩
    · exact ⟨(none, 0, 0, []), fun h => by omega⟩
  obtain ⟨g, hg⟩ := Classical.axiomOfChoice hex
  refine ⟨some a, n, c, (List.range n).map g, rfl, ⟨⟨by rw [fl_len fT_len, List.length_map, List.length_range], hlc, hcm, fun hp => ?_⟩, by rw [List.length_map, List.length_range], fun e he => ?_⟩, fun e he => ?_, fun e he => ?_⟩
  · have h0 := (hg 0 hp).1
    obtain ⟨b, off, spot⟩ := a
    have hspot : spot = none := by simpa [Addr.add] using World.cell?_spot h0
    subst hspot
    have ea : ∀ k, (⟨b, off, none⟩ : Addr).add k = ⟨b, off + k, none⟩ := fun k => by unfold Addr.add; split <;> simp_all
    refine ⟨b, off, rfl, World.block_lt_of_cell? W ((⟨b, off, none⟩ : Addr).add 0) h0, fun i hi => ?_⟩
    have hi' : i < n := by omega
    have q0 := (hg i hi').1
    rw [ea] at q0
    rw [q0, fl_fT, List.getElem?_map, List.getElem?_map, List.getElem?_range hi']
    rfl
  · obtain ⟨i, hi, rfl⟩ := List.mem_map.1 he
    exact (hg i (List.mem_range.1 hi)).2.1
  · obtain ⟨i, hi, rfl⟩ := List.mem_map.1 he
    exact (hg i (List.mem_range.1 hi)).2.2.1
  · obtain ⟨i, hi, rfl⟩ := List.mem_map.1 he
    exact (hg i (List.mem_range.1 hi)).2.2.2
end Go.Proofs.YtoojllfijfjmoaaDoor
