/- The table internal/strconv.uint64pow10, out of the row's condition. No condition. -/
import Derived.Test.YtbdngknpngcojaaDoorM50
import Derived.Test.YtbdngknpngcojaaDoorM7
import Derived.Test.YtbdngknpngcojaaDoorCards
import Derived.Test.YtbdngknpngcojaaDoorTie
import Derived.LaidMore
import Derived.Stop.Joined
import Derived.SevenTiedAt

namespace Go.Proofs.YtbdngknpngcojaaDoor.W
open Go.RowKit Anv Go.ChangeShapes Go.WideShapes Go.ChangeAt Go.Joins
theorem u64s_of_trod {H : Type} {enc : TypeId × Value → H} {P : Program} {w : World} {base : Nat} {spare : Nat → Bool} {held : Bool} {fuel t n e : Nat} {cs : List Value} {zs : List Nat} {q : List MemPlace}
    (ht : P.underlying t = some (.array n e)) (he : P.underlying e = some (.int .u64)) (hc : P.cellsOf e = 1) (hn : P.cellsOf t = n)
    (h : DataW.trod enc P w base spare held fuel t cs = some (.agg (zs.map fun z => .lit (.int .u64 (z : Nat))), q)) : cs = zs.map fun z => Value.int .u64 (z : Nat) := by
  obtain ⟨xs, m, rfl, hx, hl, hxl, hel⟩ := DataW.trod_array ht h
  simp only [Prod.mk.injEq, DataW.agg.injEq] at hx
  have hzl : zs.length = n := by rw [← hxl]; have := congrArg List.length hx.1; simpa using this
  apply List.ext_getElem?
  intro i
  rcases Nat.lt_or_ge i n with hi | hi
  · have h1 := hel i hi
    rw [hc, Nat.mul_one] at h1
    have hil : i < cs.length := by rw [hl, hn]; exact hi
    have e1 : (cs.drop i).take 1 = [cs[i]] := by rw [List.drop_eq_getElem_cons hil]; rfl
    have hix : i < xs.length := by rw [hxl]; exact hi
    rw [e1, List.getElem?_eq_getElem hix] at h1
    obtain ⟨k, e2, e3, _⟩ := DataW.trod_int he h1
    have h2 := congrArg (fun l => l[i]?) hx.1
    have hiz : i < zs.length := by rw [hzl]; exact hi
    simp only [List.getElem?_map, List.getElem?_eq_getElem hix, List.getElem?_eq_getElem hiz, Option.map_some, Option.some.injEq] at h2
    rw [e3] at h2
    simp only [DataW.lit.injEq, Lit.int.injEq, true_and] at h2
    simp only [List.cons.injEq, and_true] at e2
    rw [List.getElem?_eq_getElem hil, e2, List.getElem?_map, List.getElem?_eq_getElem hiz, Option.map_some, h2]
  · rw [List.getElem?_eq_none (by rw [hl, hn]; exact hi), List.getElem?_eq_none (by simp [hzl]; exact hi)]
theorem gPw : Tryd.prog.globalNamed "internal/strconv.uint64pow10" = some 1 := by kernel_rfl
theorem tPw : (Tryd.prog.globals[1]?).map (·.type) = some 124 := by kernel_rfl
theorem laidPw {H : Type} : (Rows.laid_internal_strconv_uint64pow10 : DataW H) = .agg (pw10.map fun z => .lit (.int .u64 (z : Nat))) := rfl
theorem of_laidPw {W : World} (h : laidMetH Tryd.prog [("math/bits.deBruijn32tab", Rows.laid_math_bits_deBruijn32tab), ("math/bits.deBruijn64tab", Rows.laid_math_bits_deBruijn64tab), ("internal/strconv.uint64pow10", Rows.laid_internal_strconv_uint64pow10), ("unicode/utf8.acceptRanges", Rows.laid_unicode_utf8_acceptRanges), ("strconv.ErrRange", Rows.laid_strconv_ErrRange), ("strconv.ErrSyntax", Rows.laid_strconv_ErrSyntax), ("unicode/utf8.first", Rows.laid_unicode_utf8_first)] W) : Pw W := by
  rw [MakeChecks.laidMetH_plain _ _ _ (by kernel_rfl)] at h
  obtain ⟨ps, ⟨_, _, _, _, _, _, _, _, _, _, ⟨_, _, _, _, _, _, _, _, _, _, ⟨g0, t0, cs0, f0, p0, q0, hg0, ht0, hv0, hd0, _, _⟩, _⟩, _⟩, _, _⟩ := h
  obtain rfl := Option.some.inj (gPw.symm.trans hg0)
  obtain rfl := Option.some.inj (tPw.symm.trans ht0)
  rw [laidPw] at hd0
  have hcs := u64s_of_trod Tryd.underlying124 Tryd.underlying106 (by kernel_rfl) (by kernel_rfl) hd0
  intro j hj
  have hc := World.var?_cell hg0 hv0 j
  have hl : j < pw10.length := hj
  have h2 : cs0[j]? = some (.int .u64 (pw10.getD j 0 : Nat)) := by
    have h3 : cs0.toList[j]? = some (.int .u64 (pw10.getD j 0 : Nat)) := by
      rw [hcs, List.getElem?_map, List.getElem?_eq_getElem hl]
      simp [List.getD, hl]
    simpa using h3
  exact hc.trans h2
end Go.Proofs.YtbdngknpngcojaaDoor.W
