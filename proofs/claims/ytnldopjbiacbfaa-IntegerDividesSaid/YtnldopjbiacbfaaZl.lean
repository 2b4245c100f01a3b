/- Lists of whole numbers; Sum and Product. No condition. -/
import Derived.Test.YtnldopjbiacbfaaLaw3
namespace Go.Proofs.Ytnldopjbiacbfaa
open Go.RowKit Anv

/-- A slice of whole numbers, each with where its limbs lie. -/
structure ZList (w : World) (a : Option Addr) (k : Nat) (l : List (Int × Option Addr × Nat)) : Prop where
  len : l.length = k
  cells : 0 < k → ∃ G o, a = some ⟨G, o, none⟩ ∧ G < w.heap.size ∧ ∀ i (h : i < l.length), w.cell? ⟨G, o + i * 2, none⟩ = some (.bool (neg l[i].1)) ∧ w.cell? ⟨G, o + i * 2 + 1, none⟩ = some (.slice l[i].2.1 (zl l[i].1) l[i].2.2)
  nums : ∀ x ∈ l, ZIn w x.2.1 x.2.2 x.1

theorem ZList.below {w w' : World} {a : Option Addr} {k : Nat} {l : List (Int × Option Addr × Nat)} (h : ZList w a k l) (hb : Below w.heap.size w w') : ZList w' a k l :=
  ⟨h.len, fun hp => by
    obtain ⟨G, o, ha, hG, hc⟩ := h.cells hp
    exact ⟨G, o, ha, Nat.lt_of_lt_of_le hG hb.size, fun i hi => ⟨(hb.cell (p := ⟨G, o + i * 2, none⟩) hG).trans (hc i hi).1, (hb.cell (p := ⟨G, o + i * 2 + 1, none⟩) hG).trans (hc i hi).2⟩⟩,
   fun x hx => (h.nums x hx).below hb⟩

theorem ZList.nil (w : World) : ZList w none 0 [] := ⟨rfl, fun h => by omega, fun x hx => by cases hx⟩

def zsum (l : List (Int × Option Addr × Nat)) : Int := l.foldl (fun s x => s + x.1) 0
def zprod (l : List (Int × Option Addr × Nat)) : Int := l.foldl (fun s x => s * x.1) 1
theorem zsum_take {l : List (Int × Option Addr × Nat)} {i : Nat} (h : i < l.length) : zsum (l.take (i + 1)) = zsum (l.take i) + l[i].1 := by
  unfold zsum; rw [List.take_succ_eq_append_getElem h, List.foldl_append]; rfl
theorem zprod_take {l : List (Int × Option Addr × Nat)} {i : Nat} (h : i < l.length) : zprod (l.take (i + 1)) = zprod (l.take i) * l[i].1 := by
  unfold zprod; rw [List.take_succ_eq_append_getElem h, List.foldl_append]; rfl
theorem zl_one : zl 1 = 1 := by
  unfold zl nl L
  rw [show (1 : Int).natAbs = 1 from rfl, dig_pos (by omega) (by omega)]
  rw [show (1 : Nat) / 4294967296 = 0 from by omega, dig_zero]
  rfl

theorem sum_z {a : Option Addr} {k c : Nat} {l : List (Int × Option Addr × Nat)} {w : World} (hl : ZList w a k l) (hk : k ≤ 100) (hb : ∀ x ∈ l, zl x.1 ≤ 1000) :
    Calls Try.prog 29 #[.slice a k c] w fun e w' => ∃ v, e = .returned v ∧ ZAt w' v (zsum l) ∧ Below w.heap.size w w' := by
  go_enter Try.func29, Try.ntmps29
  go_wp2
  have k0 := boxes2 (Below.refl _ ((w.alloc (.cells #[.bool false, .slice none 0 0] 28)).alloc (.cells #[.bool false, .slice none 0 0] 28)))
  have K0 := Lib.hid k0
  clear k0
  go_loopw [8] (fun i wr => ∃ (j : Nat) (s : Int) (A : Option Addr) (c : Nat), j ≤ k ∧ i = .int .i64 j ∧ Hid (s = zsum (l.take j) ∧ zl s ≤ j * 1001) ∧ Hid (ZIn wr A c s) ∧
      Hid (Box2 28 wr w.heap.size (.bool false) (.slice none 0 0) ∧ Box2 28 wr (w.heap.size + 1) (.bool (neg s)) (.slice A (zl s) c) ∧ Below w.heap.size w wr)) (fun i _ => k - (intOf i).toNat)
  case atStart => exact ⟨0, 0, none, 0, Nat.zero_le _, rfl, ⟨by simp [zsum], by rw [zl_zero]; omega⟩, ⟨by show (L 0).length = zl 0; rw [L_zero, zl_zero]; rfl, by rw [zl_zero]; exact Nat.le_refl _, by simp [maxLen], L_lt _, fun hp => by rw [zl_zero] at hp; omega⟩, K0.out.1, by rw [neg_zero, zl_zero]; exact K0.out.2.1, K0.out.2.2.1⟩
  case round =>
    clear K0
    obtain ⟨j, s, A, c1, hj, rfl, HI, HZ, HQ⟩ := hrel
    by_cases hlt : j < k
    · obtain ⟨G, o, rfl, hG, hcs⟩ := hl.cells (by omega)
      have hjl : j < l.length := by rw [hl.len]; exact hlt
      have hx := hb l[j] (List.getElem_mem hjl)
      have hz := (hl.nums l[j] (List.getElem_mem hjl)).below HQ.out.2.2
      have hc0 := (HQ.out.2.2.cell (p := ⟨G, o + j * 2, none⟩) hG).trans (hcs j hjl).1
      have hc1 := (HQ.out.2.2.cell (p := ⟨G, o + j * 2 + 1, none⟩) hG).trans (hcs j hjl).2
      generalize hy : l[j] = y at hx hz hc0 hc1
      obtain ⟨x, B, d⟩ := y
      have HY := Lib.hid hy
      clear hy hcs
      have hx' : zl x ≤ 1000 := hx
      have hz' : ZIn wr B d x := hz
      clear hx hz
      have hGr : G < wr.heap.size := Nat.lt_of_lt_of_le hG HQ.out.2.2.size
      have a0 := HQ.out.2.1.c0
      have a1 := HQ.out.2.1.c1
      have hlr := HQ.out.2.1.lt
      have hs : zl s ≤ 1000000 := by have := HI.out.2; have := Nat.mul_le_mul_right 1001 (Nat.le_trans hj hk); omega
      go_wp2_with fail
      refine (add_z (HZ.out.below (below1 _ _)) (hz'.below (below1 _ _)) hs (by omega)).mono ?_
      rintro e w1 ⟨v, rfl, ⟨A2, c2, rfl, hz2⟩, hb1⟩
      have t0 := (HQ.out.1.alloc (.cells #[.bool (neg x), .slice B (zl x) d] 28)).below hb1 (by have := HQ.out.1.lt; simp; omega)
      have t1 := (HQ.out.2.1.alloc (.cells #[.bool (neg x), .slice B (zl x) d] 28)).below hb1 (by have := HQ.out.2.1.lt; simp; omega)
      have bw := thru HQ.out.2.2 (thru (below1 _ _) hb1)
      clear hb1 a0 a1 hc0 hc1
      have a0 := t1.c0
      have a1 := t1.c1
      have a2 := t1.f 0
      have a3 := t1.f 1
      have T0 := Lib.hid t0
      have T1 := Lib.hid t1
      have HZ2 := Lib.hid hz2
      have BW := Lib.hid bw
      clear t0 t1 hz2 bw hlr hGr
      go_wp2
      go_roundw
      case rel =>
        have h3 := HI.out
        refine ⟨j + 1, s + x, A2, c2, by omega, by go_num, ⟨by rw [zsum_take hjl, h3.1, HY.out], by have := zl_add s x; omega⟩, ?_, T0.out.far2 (by omega) _ _, T1.out.put _ _, below_store2 BW.out (by omega) _ _⟩
        exact (HZ2.out.store (by rw [a0]; intro q hq; cases hq) _).store (by rw [World.cell?_setCell_other _ _ _ _ (by simp)]; rw [a1]; intro q hq; cases hq) _
      case measure => simp [intOf]; omega
    · have a0 := HQ.out.2.1.c0
      have a1 := HQ.out.2.1.c1
      have b0 := HQ.out.1.c0
      have b1 := HQ.out.1.c1
      have f0 := HQ.out.1.f 0
      have f1 := HQ.out.1.f 1
      have e : s = zsum l := by rw [HI.out.1, List.take_of_length_le (by rw [hl.len]; omega)]
      subst e
      go_wp2
      exact bodyPost_ret (v := .agg #[.bool (neg (zsum l)), .slice A (zl (zsum l)) c1]) (by simp [results, Try.results29, go_sem, b0, b1]) rfl ⟨_, rfl, ⟨_, _, rfl, U32.store2 HZ.out b0 b1 _ _⟩, below_store2 HQ.out.2.2 (Nat.le_refl _) _ _⟩

theorem prod_z {a : Option Addr} {k c : Nat} {l : List (Int × Option Addr × Nat)} {w : World} (hl : ZList w a k l) (hk : k ≤ 100) (hb : ∀ x ∈ l, zl x.1 ≤ 1000) :
    Calls Try.prog 30 #[.slice a k c] w fun e w' => ∃ v, e = .returned v ∧ ZAt w' v (zprod l) ∧ Below w.heap.size w w' := by
  go_enter Try.func30, Try.ntmps30
  go_wp2_with fail
  refine (of_z (n := 1) (by omega) (by omega)).mono ?_
  rintro e w0 ⟨v, rfl, ⟨A0, c0, rfl, hz0⟩, hb0⟩
  obtain ⟨q0, bw0, hs0⟩ := boxes1 hb0
  clear hb0
  go_wp2
  have t0 := q0.alloc (.cells #[.bool (neg 1), .slice A0 (zl 1) c0] 28)
  have t1 := Box2.new w0 28 (.bool (neg 1)) (.slice A0 (zl 1) c0)
  have bw1 := bw0.alloc bw0.size (.cells #[.bool (neg 1), .slice A0 (zl 1) c0] 28)
  have hz1 := hz0.below (below1 w0 (.cells #[.bool (neg 1), .slice A0 (zl 1) c0] 28))
  have K0 := Lib.hid (And.intro hz1 (And.intro t0 (And.intro t1 bw1)))
  clear t0 t1 bw1 hz1 q0 bw0 hz0
  go_loopw [9] (fun i wr => ∃ (j : Nat) (s : Int) (A : Option Addr) (c : Nat), j ≤ k ∧ i = .int .i64 j ∧ Hid (s = zprod (l.take j) ∧ zl s ≤ j * 1001 + 1) ∧ Hid (ZIn wr A c s) ∧
      Hid (Box2 28 wr w.heap.size (.bool false) (.slice none 0 0) ∧ Box2 28 wr w0.heap.size (.bool (neg s)) (.slice A (zl s) c) ∧ Below w.heap.size w wr)) (fun i _ => k - (intOf i).toNat)
  case atStart => exact ⟨0, 1, A0, c0, Nat.zero_le _, rfl, ⟨by simp [zprod], by rw [zl_one]; omega⟩, K0.out.1, K0.out.2.1, K0.out.2.2.1, K0.out.2.2.2⟩
  case round =>
    clear K0
    obtain ⟨j, s, A, c1, hj, rfl, HI, HZ, HQ⟩ := hrel
    by_cases hlt : j < k
    · obtain ⟨G, o, rfl, hG, hcs⟩ := hl.cells (by omega)
      have hjl : j < l.length := by rw [hl.len]; exact hlt
      have hx := hb l[j] (List.getElem_mem hjl)
      have hz := (hl.nums l[j] (List.getElem_mem hjl)).below HQ.out.2.2
      have hc0 := (HQ.out.2.2.cell (p := ⟨G, o + j * 2, none⟩) hG).trans (hcs j hjl).1
      have hc1 := (HQ.out.2.2.cell (p := ⟨G, o + j * 2 + 1, none⟩) hG).trans (hcs j hjl).2
      generalize hy : l[j] = y at hx hz hc0 hc1
      obtain ⟨x, B, d⟩ := y
      have HY := Lib.hid hy
      clear hy hcs
      have hx' : zl x ≤ 1000 := hx
      have hz' : ZIn wr B d x := hz
      clear hx hz
      have hGr : G < wr.heap.size := Nat.lt_of_lt_of_le hG HQ.out.2.2.size
      have a0 := HQ.out.2.1.c0
      have a1 := HQ.out.2.1.c1
      have hlr := HQ.out.2.1.lt
      have hs : zl s ≤ 1000000 := by have := HI.out.2; have := Nat.mul_le_mul_right 1001 (Nat.le_trans hj hk); omega
      go_wp2_with fail
      refine (mul_z (HZ.out.below (below1 _ _)) (hz'.below (below1 _ _)) hs (by omega)).mono ?_
      rintro e w1 ⟨v, rfl, ⟨A2, c2, rfl, hz2⟩, hb1⟩
      have t0 := (HQ.out.1.alloc (.cells #[.bool (neg x), .slice B (zl x) d] 28)).below hb1 (by have := HQ.out.1.lt; simp; omega)
      have t1 := (HQ.out.2.1.alloc (.cells #[.bool (neg x), .slice B (zl x) d] 28)).below hb1 (by have := HQ.out.2.1.lt; simp; omega)
      have bw := thru HQ.out.2.2 (thru (below1 _ _) hb1)
      clear hb1 a0 a1 hc0 hc1
      have a0 := t1.c0
      have a1 := t1.c1
      have a2 := t1.f 0
      have a3 := t1.f 1
      have T0 := Lib.hid t0
      have T1 := Lib.hid t1
      have HZ2 := Lib.hid hz2
      have BW := Lib.hid bw
      clear t0 t1 hz2 bw hlr hGr
      go_wp2
      go_roundw
      case rel =>
        have h3 := HI.out
        refine ⟨j + 1, s * x, A2, c2, by omega, by go_num, ⟨by rw [zprod_take hjl, h3.1, HY.out], by have := zl_mul s x; omega⟩, ?_, T0.out.far2 (by omega) _ _, T1.out.put _ _, below_store2 BW.out (by omega) _ _⟩
        exact (HZ2.out.store (by rw [a0]; intro q hq; cases hq) _).store (by rw [World.cell?_setCell_other _ _ _ _ (by simp)]; rw [a1]; intro q hq; cases hq) _
      case measure => simp [intOf]; omega
    · have a0 := HQ.out.2.1.c0
      have a1 := HQ.out.2.1.c1
      have b0 := HQ.out.1.c0
      have b1 := HQ.out.1.c1
      have f0 := HQ.out.1.f 0
      have f1 := HQ.out.1.f 1
      have e : s = zprod l := by rw [HI.out.1, List.take_of_length_le (by rw [hl.len]; omega)]
      subst e
      go_wp2
      exact bodyPost_ret (v := .agg #[.bool (neg (zprod l)), .slice A (zl (zprod l)) c1]) (by simp [results, Try.results30, go_sem, b0, b1]) rfl ⟨_, rfl, ⟨_, _, rfl, U32.store2 HZ.out b0 b1 _ _⟩, below_store2 HQ.out.2.2 (Nat.le_refl _) _ _⟩

end Go.Proofs.Ytnldopjbiacbfaa
