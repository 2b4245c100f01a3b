/- How a statement's argument, a row of numbers with their limbs, is read, with its bound. No condition. -/
import Derived.Test.YtegglooojlheoaaDoorM8
import Derived.Test.YtegglooojlheoaaDoorM36
import Derived.SizedLaws

namespace Go.Proofs.YtegglooojlheoaaDoor.W
open Go.RowKit Anv Go.Lib
abbrev UE := Bool × Option Addr × Nat × Nat × List Nat
def fU (e : UE) : List Value := [.bool e.1, .slice e.2.1 e.2.2.1 e.2.2.2.1]
def FU (e : UE) : PF := pfU e.2.1 e.2.2.1 e.2.2.2.1 e.2.2.2.2
theorem fU_len (e : UE) : (fU e).length = 2 := rfl
def Sz (es : List UE) : Prop := ∀ e ∈ es, e.2.2.1 ≤ 35184372088832
theorem Sz.at {es : List UE} (h : Sz es) {i : Nat} {e : UE} (hx : es[i]? = some e) : e.2.2.1 ≤ 35184372088832 := h e (List.mem_of_getElem? hx)
theorem fl_at2 {α : Type} {f : α → List Value} (es : List α) (hz : ∀ e, (f e).length = 2) (i j : Nat) (hj : j < 2) (e : α) (he : es[i]? = some e) : (fl f es)[i * 2 + j]? = (f e)[j]? := by
  induction es generalizing i with
  | nil => cases he
  | cons x es ih =>
    cases i with
    | zero =>
      rw [List.getElem?_cons_zero] at he
      cases he
      rw [fl, Nat.zero_mul, Nat.zero_add, List.getElem?_append_left (by rw [hz]; exact hj)]
    | succ i =>
      rw [List.getElem?_cons_succ] at he
      rw [fl, List.getElem?_append_right (by rw [hz]; omega), hz, ← ih i he]
      congr 1
      omega
end Go.Proofs.YtegglooojlheoaaDoor.W
namespace Go.Proofs.YtegglooojlheoaaDoor
open Go.RowKit Anv Go.ChangeShapes Go.WideShapes Go.ChangeAt Go.Joins W
theorem cellsNum4 : Tryd.prog.cellsOf 25 = 2 := by kernel_rfl
theorem bytesNum4 : Tryd.prog.bytesOf 25 = 32 := by kernel_rfl
theorem bytesU32 : Tryd.prog.bytesOf 141 = 4 := by kernel_rfl
theorem weights_all {H : Type} {P : Program} {e : TypeId} {d : DataW H} {l : List (DataW H)} (h : d ∈ l) : ∀ n ∈ d.weights P e, n ∈ DataW.weightsAll P e l := by
  induction l with
  | nil => cases h
  | cons x r ih =>
    intro n hn
    simp only [DataW.weightsAll, List.mem_append]
    rcases List.mem_cons.1 h with rfl | h
    · exact .inl hn
    · exact .inr (ih h n hn)
set_option maxRecDepth 100000 in
theorem open_num4 {H : Type} {enc : TypeId × Value → H} {W : World} {m : Nat} {cs : List Value} {y : DataW H × List MemPlace}
    (h : DataW.trod enc Tryd.prog W 0 (fun _ => true) true m 25 cs = some y) (hsz : ∀ n ∈ y.1.weights Tryd.prog 25, n ≤ reachBytes) :
    ∃ e : UE, cs = fU e ∧ U32 W e.2.1 e.2.2.1 e.2.2.2.1 e.2.2.2.2 ∧ e.2.2.1 ≤ 35184372088832 := by
  obtain ⟨y0, y1, k, rfl, hl, h0, h1⟩ := trod_struct2 Tryd.underlying25 h
  rw [cellsNum4] at hl
  obtain ⟨v0, v1, rfl⟩ : ∃ v0 v1, cs = [v0, v1] := by
    match cs, hl with
    | [v0, v1], _ => exact ⟨v0, v1, rfl⟩
  have c0 : Tryd.prog.cellsOf 4 = 1 := by kernel_rfl
  have c1 : Tryd.prog.cellsOf 23 = 1 := by kernel_rfl
  have g0 : DataW.trod enc Tryd.prog W 0 (fun _ => true) true k 4 (([v0, v1].drop 0).take (Tryd.prog.cellsOf 4)) = some y0 := h0
  have g1 : DataW.trod enc Tryd.prog W 0 (fun _ => true) true k 23 (([v0, v1].drop 1).take (Tryd.prog.cellsOf 23)) = some y1 := h1
  rw [c0] at g0
  rw [c1] at g1
  replace g0 : DataW.trod enc Tryd.prog W 0 (fun _ => true) true k 4 [v0] = some y0 := g0
  replace g1 : DataW.trod enc Tryd.prog W 0 (fun _ => true) true k 23 [v1] = some y1 := g1
  obtain ⟨b, e0, _⟩ := DataW.trod_bool Tryd.underlying4 g0
  obtain ⟨A, n, c, e1⟩ := slice_form Tryd.underlying23 g1
  simp at e0 e1
  subst e0 e1
  obtain ⟨xs, hx⟩ := open_u32 g1
  refine ⟨(b, A, n, c, xs), rfl, hx, ?_⟩
  rcases DataW.trod_slice Tryd.underlying23 g1 with ⟨hcs, _⟩ | ⟨a, l, c', elems, rest, q, _, hcs, rfl, _, _, _, hlen, _⟩
  · simp at hcs
    show n ≤ _
    omega
  · simp at hcs
    have hw := hsz ((elems.length + rest.length) * 4) (by
      rw [DataW.weights, Tryd.underlying25]
      refine DataW.weights_mem_each (j := 1) (t := 23) rfl rfl _ ?_
      rw [DataW.weights, Tryd.underlying23, ← bytesU32]
      simp)
    show n ≤ _
    unfold reachBytes at hw
    omega
set_option maxRecDepth 100000 in
theorem open_nums1 {H : Type} {enc : TypeId × Value → H} {W : World} {m : Nat} {A : Option Addr} {n c : Nat} {d : DataW H} {p : List MemPlace}
    (hm : DataW.trod enc Tryd.prog W 0 (fun _ => true) true m 22 [.slice A n c] = some (d, p)) (hsz : ∀ n ∈ d.weights Tryd.prog 22, n ≤ reachBytes) :
    ∃ es, (pfRow fU FU 2 A n c es).P W ∧ n ≤ 35184372088832 ∧ Sz es := by
  rcases DataW.trod_slice Tryd.underlying22 hm with ⟨hcs, _⟩ | ⟨a, l, c', elems, rest, q, _, hcs, hd, _, hlc, hcm, hlen, hel, _⟩
  · simp at hcs
    obtain ⟨rfl, rfl, rfl⟩ := hcs
    exact ⟨[], row_nil fU FU 2 W, Nat.zero_le _, fun _ h => by cases h⟩
  simp at hcs
  obtain ⟨rfl, rfl, rfl⟩ := hcs
  simp only [Prod.mk.injEq] at hd
  obtain ⟨rfl, _⟩ := hd
  rw [cellsNum4] at hel
  have hwn := hsz ((elems.length + rest.length) * 32) (by
    rw [DataW.weights, Tryd.underlying22, ← bytesNum4]
    simp)
  have hex : ∀ i, ∃ e : UE, i < n → (W.cell? (a.add (i * 2)) = some (.bool e.1) ∧ W.cell? ((a.add (i * 2)).add 1) = some (.slice e.2.1 e.2.2.1 e.2.2.2.1)) ∧ U32 W e.2.1 e.2.2.1 e.2.2.2.1 e.2.2.2.2 ∧ e.2.2.1 ≤ 35184372088832 := by
    intro i
    rcases Nat.lt_or_ge i n with hi | hi
    · have he := hel i hi
      rw [List.getElem?_eq_getElem (by omega)] at he
      obtain ⟨cs, hcs, ht⟩ := Option.bind_eq_some_iff.1 he
      obtain ⟨e, rfl, hu, hb⟩ := open_num4 ht (fun k hk => hsz k (by
        rw [DataW.weights, Tryd.underlying22]
        refine List.mem_cons_of_mem _ (List.mem_append_left _ (weights_all ?_ k hk))
        exact List.mem_map_of_mem (List.getElem_mem _)))
      obtain ⟨_, _, hc⟩ := World.cells?_some hcs
      exact ⟨e, fun _ => ⟨⟨by have := hc 0 (by omega); simpa [Addr.add, fU] using this, by have := hc 1 (by omega); simpa [fU] using this⟩, hu, hb⟩⟩
    · exact ⟨(false, none, 0, 0, []), fun h => by omega⟩
  obtain ⟨g, hg⟩ := Classical.axiomOfChoice hex
  have hes : ∀ i, i < n → ((List.range n).map g)[i]? = some (g i) := fun i hi => by
    rw [List.getElem?_map, List.getElem?_range hi]
    rfl
  unfold reachBytes at hwn
  refine ⟨(List.range n).map g, ⟨⟨by rw [fl_len fU_len, List.length_map, List.length_range], hlc, hcm, fun hp => ?_⟩, by rw [List.length_map, List.length_range], fun e he => ?_⟩, by omega, fun e he => ?_⟩
  · have h0 := (hg 0 hp).1.1
    obtain ⟨b, off, spot⟩ := a
    have hspot : spot = none := by simpa [Addr.add] using World.cell?_spot h0
    subst hspot
    have ea : ∀ k, (⟨b, off, none⟩ : Addr).add k = ⟨b, off + k, none⟩ := fun k => by unfold Addr.add; split <;> simp_all
    refine ⟨b, off, rfl, World.block_lt_of_cell? W ((⟨b, off, none⟩ : Addr).add (0 * 2)) h0, fun i hi => ?_⟩
    obtain ⟨j, k, hk, rfl⟩ : ∃ j k, k < 2 ∧ i = j * 2 + k := ⟨i / 2, i % 2, Nat.mod_lt _ (by decide), by omega⟩
    have hj : j < n := by omega
    rw [fl_at2 _ fU_len j k hk _ (hes j hj)]
    obtain ⟨⟨q0, q1⟩, _⟩ := hg j hj
    rw [ea] at q0 q1
    rcases (show k = 0 ∨ k = 1 by omega) with rfl | rfl
    · exact q0
    · have ea1 : (⟨b, off + j * 2, none⟩ : Addr).add 1 = ⟨b, off + (j * 2 + 1), none⟩ := by unfold Addr.add; split <;> simp_all <;> omega
      rw [ea1] at q1
      exact q1
  · obtain ⟨i, hi, rfl⟩ := List.mem_map.1 he
    exact (hg i (List.mem_range.1 hi)).2.1
  · obtain ⟨i, hi, rfl⟩ := List.mem_map.1 he
    exact (hg i (List.mem_range.1 hi)).2.2
set_option maxRecDepth 100000 in
theorem open_nums {H : Type} {enc : TypeId × Value → H} {W : World} {r : Reach} {b0 : Nat} {v : Value} {d : DataW H} {p : List MemPlace}
    (hv : Value.okWide Tryd.prog W r b0 22 v) (h : DataW.Trod enc Tryd.prog W 0 (fun _ => true) true 22 v d p) (hsz : ∀ n ∈ d.weights Tryd.prog 22, n ≤ reachBytes) :
    ∃ A n c es, v = .slice A n c ∧ (pfRow fU FU 2 A n c es).P W ∧ n ≤ 35184372088832 ∧ Sz es := by
  obtain ⟨A, n, c, rfl⟩ := okWide_slice Tryd.underlying22 hv
  obtain ⟨m, hm⟩ := h
  obtain ⟨es, h1⟩ := open_nums1 hm hsz
  exact ⟨A, n, c, es, rfl, h1⟩
end Go.Proofs.YtegglooojlheoaaDoor
