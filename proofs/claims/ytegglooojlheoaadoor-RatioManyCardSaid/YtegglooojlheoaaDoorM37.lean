/- How a statement's argument, a row of pairs of texts, is read. No condition. -/
import Derived.Test.YtegglooojlheoaaDoorM8
import Derived.Test.YtegglooojlheoaaDoorM36

set_option maxRecDepth 100000
namespace Go.Proofs.YtegglooojlheoaaDoor
open Go.RowKit Anv Go.ChangeShapes Go.WideShapes Go.ChangeAt Go.Joins W
section
variable {H : Type} {enc : TypeId × Value → H} {P : Program} {w : World} {base : Nat} {spare : Nat → Bool} {held : Bool}
theorem trod_fields2 {t : TypeId} {f0 f1 : Field} {fuel : Nat} {cs : List Value} {x : DataW H × List MemPlace} (ht : P.underlying t = some (.struct #[f0, f1])) (h : DataW.trod enc P w base spare held fuel t cs = some x) :
  ∃ y0 y1 n, cs.length = P.cellsOf t ∧ DataW.trod enc P w base spare held n f0.type ((cs.drop f0.offset).take (P.cellsOf f0.type)) = some y0 ∧
   DataW.trod enc P w base spare held n f1.type ((cs.drop f1.offset).take (P.cellsOf f1.type)) = some y1 := by
 obtain ⟨xs, n, _, rfl, hl, hlen, hf⟩ := DataW.trod_struct ht h
 match xs, hlen with
 | [y0, y1], _ => exact ⟨y0, y1, n, hl, by simpa using hf 0 f0 rfl, by simpa using hf 1 f1 rfl⟩
end
theorem cellsFracF : Tryd.prog.cellsOf 89 = 2 := by kernel_rfl
theorem cellsStringF : Tryd.prog.cellsOf 9 = 1 := by kernel_rfl
theorem open_frac1 {H : Type} {enc : TypeId × Value → H} {W : World} {m : Nat} {cs : List Value} {y : DataW H × List MemPlace}
  (h : DataW.trod enc Tryd.prog W 0 (fun _ => true) true m 89 cs = some y) : ∃ e : FE, cs = fF e := by
 obtain ⟨y0, y1, k, hl, h0, h1⟩ := trod_fields2 Tryd.underlying89 h
 rw [cellsFracF] at hl
 obtain ⟨v0, v1, rfl⟩ : ∃ v0 v1, cs = [v0, v1] := by
  match cs, hl with
  | [v0, v1], _ => exact ⟨v0, v1, rfl⟩
 replace h0 : DataW.trod enc Tryd.prog W 0 (fun _ => true) true k 9 (([v0, v1].drop 0).take (Tryd.prog.cellsOf 9)) = some y0 := h0
 replace h1 : DataW.trod enc Tryd.prog W 0 (fun _ => true) true k 9 (([v0, v1].drop 1).take (Tryd.prog.cellsOf 9)) = some y1 := h1
 rw [cellsStringF] at h0 h1
 replace h0 : DataW.trod enc Tryd.prog W 0 (fun _ => true) true k 9 [v0] = some y0 := h0
 replace h1 : DataW.trod enc Tryd.prog W 0 (fun _ => true) true k 9 [v1] = some y1 := h1
 obtain ⟨s, e0, _, _⟩ := DataW.trod_string Tryd.underlying9 h0
 obtain ⟨t, e1, _, _⟩ := DataW.trod_string Tryd.underlying9 h1
 simp at e0 e1
 subst e0 e1
 exact ⟨(s.data.toList, t.data.toList), by simp [fF]⟩
theorem open_fracs {H : Type} {enc : TypeId × Value → H} {W : World} {r : Reach} {b0 : Nat} {v : Value} {d : DataW H} {p : List MemPlace}
  (hv : Value.okWide Tryd.prog W r b0 103 v) (h : DataW.Trod enc Tryd.prog W 0 (fun _ => true) true 103 v d p) :
  ∃ A n c es, v = .slice A n c ∧ (pfRow fF FF 2 A n c es).P W := by
 obtain ⟨A, n, c, rfl⟩ := okWide_slice Tryd.underlying103 hv
 obtain ⟨m, hm⟩ := h
 replace hm : DataW.trod enc Tryd.prog W 0 (fun _ => true) true m 103 [.slice A n c] = some (d, p) := hm
 rcases DataW.trod_slice Tryd.underlying103 hm with ⟨hcs, _⟩ | ⟨a, l, c', elems, rest, q, _, hcs, hd, _, hlc, hcm, hlen, hel, _⟩
 ·simp at hcs
  obtain ⟨rfl, rfl, rfl⟩ := hcs
  exact ⟨none, 0, 0, [], rfl, row_nil fF FF 2 W⟩
 simp at hcs
 obtain ⟨rfl, rfl, rfl⟩ := hcs
 rw [cellsFracF] at hel
 have hex : ∀ i, ∃ e : FE, i < n → ∀ j, j < 2 → W.cell? ((a.add (i * 2)).add j) = (fF e)[j]? := by
  intro i
  rcases Nat.lt_or_ge i n with hi | hi
  ·have he := hel i hi
   rw [List.getElem?_eq_getElem (by omega)] at he
   obtain ⟨cs, hcs, ht⟩ := Option.bind_eq_some_iff.1 he
   obtain ⟨e, rfl⟩ := open_frac1 ht
   obtain ⟨_, _, hc⟩ := World.cells?_some hcs
   exact ⟨e, fun _ j hj => hc j hj⟩
  ·exact ⟨([], []), fun h => by omega⟩
 obtain ⟨g, hg⟩ := Classical.axiomOfChoice hex
 have hes : ∀ i, i < n → ((List.range n).map g)[i]? = some (g i) := fun i hi => by
  rw [List.getElem?_map, List.getElem?_range hi]
  rfl
 refine ⟨_, n, c, (List.range n).map g, rfl, ⟨by rw [fl_len fF_len, List.length_map, List.length_range], hlc, hcm, fun hp => ?_⟩, by rw [List.length_map, List.length_range], fun e _ => trivial⟩
 have h0 := hg 0 hp 0 (by decide)
 obtain ⟨b, off, spot⟩ := a
 have hspot : spot = none := by
  have h1 : W.cell? (((⟨b, off, spot⟩ : Addr).add (0 * 2)).add 0) = some (.string ⟨(g 0).1.toArray⟩) := h0
  simpa [Addr.add] using World.cell?_spot h1
 subst hspot
 have ea : ∀ o k, (⟨b, o, none⟩ : Addr).add k = ⟨b, o + k, none⟩ := fun o k => by simp [Addr.add]
 refine ⟨b, off, rfl, World.block_lt_of_cell? W (((⟨b, off, none⟩ : Addr).add (0 * 2)).add 0) (u := .string ⟨(g 0).1.toArray⟩) h0, fun i hi => ?_⟩
 obtain ⟨j, k, hk, rfl⟩ : ∃ j k, k < 2 ∧ i = j * 2 + k := ⟨i / 2, i % 2, Nat.mod_lt _ (by decide), by omega⟩
 have hj : j < n := by omega
 rw [fl_at fF_len (hes j hj) hk, ← hg j hj k hk, ea, ea, Nat.add_assoc]
end Go.Proofs.YtegglooojlheoaaDoor
