/- More of layer 2: clones, limbs, small numbers. No condition. -/
import Derived.Test.YtbdngknpngcojaaDoorM4
import Derived.Test.YtbdngknpngcojaaDoorM5
import Derived.Lib.SliceRun

namespace Go.Proofs.YtbdngknpngcojaaDoor
open Go.RowKit Anv
end Go.Proofs.YtbdngknpngcojaaDoor

/- integer.Of, Sub, Times, Cmp, Small. No condition. -/
namespace Go.Proofs.YtbdngknpngcojaaDoor
open Go.RowKit Anv
theorem nl_le_of_lt {N k : Nat} (h : N < 4294967296 ^ k) : nl N ≤ k := dig_len_of_lt (by omega) h
end Go.Proofs.YtbdngknpngcojaaDoor

/- integer.Sub, Times, Cmp. No condition. -/
namespace Go.Proofs.YtbdngknpngcojaaDoor
open Go.RowKit Anv
end Go.Proofs.YtbdngknpngcojaaDoor

/- integer.Times, Small. No condition. -/
namespace Go.Proofs.YtbdngknpngcojaaDoor
open Go.RowKit Anv
def smallV (z : Int) : Value := if -9223372036854775808 ≤ z ∧ z ≤ 9223372036854775807 then .tuple #[.int .i64 z, .bool true] else .tuple #[.int .i64 0, .bool false]
end Go.Proofs.YtbdngknpngcojaaDoor

/- The reference's numbers: norm. No condition. -/
namespace Go.Proofs.YtbdngknpngcojaaDoor
open Go.RowKit Anv
def D (N : Nat) : List Nat := dig 65536 N
def dn (N : Nat) : Nat := (D N).length
def dl (z : Int) : Nat := dn z.natAbs
theorem val_D (N : Nat) : val 65536 (D N) = N := val_dig (by omega) N
theorem D_lt (N : Nat) : AllLt 65536 (D N) := dig_lt (by omega) N
theorem D_zero : D 0 = [] := dig_zero _
theorem wide {xs : List Nat} (h : AllLt 65536 xs) : AllLt 4294967296 xs := fun x hx => by have := h x hx; omega
theorem dn_zero : dn 0 = 0 := by unfold dn; rw [D_zero]; rfl
theorem dn_pos {N : Nat} (h : 0 < N) : 0 < dn N := by unfold dn D; rw [dig_pos (by omega) h]; simp
theorem dn_dpos (N : Nat) : decide (0 < dn N) = decide (0 < N) := by
  rcases Nat.eq_zero_or_pos N with h | h
  · subst h; rw [dn_zero]
  · have := dn_pos h; simp [h, this]
def RIn (w : World) (A : Option Addr) (c : Nat) (z : Int) : Prop := U32 w A (dl z) c (D z.natAbs)
def RAt (w : World) (v : Value) (z : Int) : Prop := ∃ A c, v = .agg #[.bool (neg z), .slice A (dl z) c] ∧ RIn w A c z
theorem RIn.below {w w' : World} {A : Option Addr} {c : Nat} {z : Int} (h : RIn w A c z) (hb : Below w.heap.size w w') : RIn w' A c z := U32.below h hb
theorem RAt.below {w w' : World} {v : Value} {z : Int} (h : RAt w v z) (hb : Below w.heap.size w w') : RAt w' v z := by
  obtain ⟨A, c, rfl, hz⟩ := h
  exact ⟨A, c, rfl, hz.below hb⟩
theorem sg_dl (b : Bool) (N : Nat) : dl (sg b N) = dn N := by unfold dl; rw [sg_abs]
theorem dn_eq {xs : List Nat} (h : AllLt 65536 xs) (m : Nat) (hm : m ≤ xs.length) (hz : ∀ i, m ≤ i → i < xs.length → xs.getD i 0 = 0) (hl : m = 0 ∨ xs.getD (m - 1) 0 ≠ 0) : m = dn (val 65536 xs) := by
  have h1 := take_eq_dig (by omega) h m hm hz hl
  unfold dn D
  rw [← h1]
  simp; omega
theorem take_dn {w : World} {A : Option Addr} {n c m : Nat} {xs : List Nat} (h : U32 w A n c xs) (hd : AllLt 65536 xs) (hm : m = dn (val 65536 xs)) (hmn : m ≤ n) (hz : ∀ i, m ≤ i → i < xs.length → xs.getD i 0 = 0) (hl : m = 0 ∨ xs.getD (m - 1) 0 ≠ 0) :
    U32 w A m c (D (val 65536 xs)) := by
  have h1 := take_eq_dig (by omega) hd m (by rw [h.len]; exact hmn) hz hl
  refine ⟨hm.symm, Nat.le_trans hmn h.cap, h.big, wide (D_lt _), fun hp => ?_⟩
  obtain ⟨b, off, hA, hb, hc⟩ := h.cells (by omega)
  refine ⟨b, off, hA, hb, fun i hi => ?_⟩
  rw [hc i (by omega)]
  unfold D
  rw [← h1]
  congr 3
  simp [List.getD, hi]
def NormPost (w : World) (A : Option Addr) (c : Nat) (b : Bool) (N : Nat) (e : Ending) (w' : World) : Prop :=
  e = .returned (.agg #[.bool (neg (sg b N)), .slice A (dl (sg b N)) c]) ∧ RIn w' A c (sg b N) ∧ Below w.heap.size w w'
theorem norm_fin {w w' : World} {A : Option Addr} {n c : Nat} {xs : List Nat} {b : Bool} (h : U32 w A n c xs) (hd : AllLt 65536 xs) (m : Nat) (bv : Bool) (hmn : m ≤ n) (hz : ∀ j, m ≤ j → j < n → xs.getD j 0 = 0)
    (hl : m = 0 ∨ xs.getD (m - 1) 0 ≠ 0) (hbv : bv = (b && decide (0 < m))) (hb : Below w.heap.size w w') : NormPost w A c b (val 65536 xs) (.returned (.agg #[.bool bv, .slice A m c])) w' := by
  have hz' : ∀ j, m ≤ j → j < xs.length → xs.getD j 0 = 0 := fun j h1 h2 => hz j h1 (by rw [← h.len]; exact h2)
  have hm := dn_eq hd m (by rw [h.len]; exact hmn) hz' hl
  have hU := take_dn h hd hm hmn hz' hl
  refine ⟨?_, ?_, hb⟩
  · rw [hbv, sg_dl, sg_neg, ← dn_dpos (val 65536 xs), ← hm]
  · unfold RIn
    rw [sg_dl, sg_abs, ← hm]
    exact hU.below hb
theorem norm_ref {b : Bool} {A : Option Addr} {n c : Nat} {xs : List Nat} {w : World} (h : U32 w A n c xs) (hd : AllLt 65536 xs) :
    Calls Tryd.prog 73 #[.bool b, .slice A n c] w (NormPost w A c b (val 65536 xs)) := by
  have hc := h.cap
  have hb := h.big
  unfold maxLen at hb
  go_enter Tryd.func73, Tryd.ntmps73
  go_wp2
  go_loop [5] (fun i => ∃ m : Nat, m ≤ n ∧ i = .int .i64 m ∧ Hid (∀ j, m ≤ j → j < n → xs.getD j 0 = 0)) (fun i => (intOf i).toNat)
  case atStart => exact ⟨n, Nat.le_refl _, rfl, fun j h1 h2 => by omega⟩
  case round =>
    obtain ⟨m, hm, rfl, HZ⟩ := hrel
    rcases m with _ | m
    · cases b
      · go_wp2
        exact bodyPost_ret (v := .agg #[.bool false, .slice A 0 c]) (by simp [results, Tryd.results73, go_sem]) rfl (norm_fin h hd 0 false (by omega) HZ.out (.inl rfl) (by simp) (below1 _ _))
      · go_wp2
        exact bodyPost_ret (v := .agg #[.bool false, .slice A 0 c]) (by simp [results, Tryd.results73, go_sem]) rfl (norm_fin h hd 0 false (by omega) HZ.out (.inl rfl) (by simp) (below1 _ _))
    · obtain ⟨bb, off, rfl, hbw, hcs⟩ := h.cells (by omega)
      have hcell := hcs m (by omega)
      clear hcs
      generalize hx : xs.getD m 0 = x at hcell
      have HX := Lib.hid hx
      clear hx
      by_cases hx : x = 0
      · subst hx
        go_wp2
        go_round
        case rel =>
          refine ⟨m, by omega, rfl, fun j h1 h2 => ?_⟩
          rcases Nat.eq_or_lt_of_le h1 with h3 | h3
          · rw [← h3]; exact HX.out
          · exact HZ.out j (by omega) h2
        case measure => simp [intOf]
      · have hx0 : ((x : Int) == 0) = false := by simp; omega
        cases b
        · go_wp2
          exact bodyPost_ret (v := .agg #[.bool false, .slice (some ⟨bb, off, none⟩) (m + 1) c]) (by simp [results, Tryd.results73, go_sem]) rfl (norm_fin h hd (m + 1) false (by omega) HZ.out (.inr (by rw [Nat.add_sub_cancel, HX.out]; exact hx)) (by simp) (below1 _ _))
        · go_wp2
          exact bodyPost_ret (v := .agg #[.bool true, .slice (some ⟨bb, off, none⟩) (m + 1) c]) (by simp [results, Tryd.results73, go_sem]) rfl (norm_fin h hd (m + 1) true (by omega) HZ.out (.inr (by rw [Nat.add_sub_cancel, HX.out]; exact hx)) (by simp) (below1 _ _))
end Go.Proofs.YtbdngknpngcojaaDoor

/- The reference's plus, minus. No condition. -/
namespace Go.Proofs.YtbdngknpngcojaaDoor
open Go.RowKit Anv
end Go.Proofs.YtbdngknpngcojaaDoor

/- The reference's minus. No condition. -/
namespace Go.Proofs.YtbdngknpngcojaaDoor
open Go.RowKit Anv
theorem minus_step (x y o : List Nat) (i r d r' : Nat) (hi : o.length = i) (h : val 65536 o + val 65536 (y.take i) = val 65536 (x.take i) + 65536 ^ i * r) (hd : d + y.getD i 0 + r = x.getD i 0 + 65536 * r') :
    val 65536 (o ++ [d]) + val 65536 (y.take (i + 1)) = val 65536 (x.take (i + 1)) + 65536 ^ (i + 1) * r' := by
  have h1 := sub_step 65536 x y (o ++ [0]) i r d r' (by simp; omega) (by rw [List.take_append_of_le_length (by omega), List.take_of_length_le (by omega)]; exact h) hd
  rw [List.take_of_length_le (by simp; omega)] at h1
  rw [← h1]
  congr 2
  rw [← hi, List.set_append_right _ _ (Nat.le_refl _)]
  simp
theorem minus_own {A B : Option Addr} {n c m d : Nat} {xs ys : List Nat} {w : World} (hx : U32 w A n c xs) (hy : U32 w B m d ys) (hdx : AllLt 65536 xs) (hdy : AllLt 65536 ys) (hn : n ≤ 1000000) (hle : val 65536 ys ≤ val 65536 xs) :
    Calls Tryd.prog 85 #[.slice A n c, .slice B m d] w fun e w' => ∃ v os, e = .returned v ∧ Own w.heap.size 105 w' v os ∧ os.length = n ∧ AllLt 65536 os ∧ val 65536 os = val 65536 xs - val 65536 ys ∧ Below w.heap.size w w' := by
  have HL := Lib.hid hle
  clear hle
  go_enter Tryd.func85, Tryd.ntmps85
  go_wp2
  go_loopw [5, 6, 7] (fun o cy i wr => ∃ (k r : Nat) (os : List Nat), k ≤ n ∧ i = .int .i64 k ∧ cy = .int .u32 r ∧ r ≤ 1 ∧
        Hid (os.length = k ∧ AllLt 65536 os ∧ val 65536 os + val 65536 (ys.take k) = val 65536 (xs.take k) + 65536 ^ k * r) ∧
        Hid (Own w.heap.size 105 wr o os) ∧ Hid (Below w.heap.size w wr)) (fun _ _ i _ => n - (intOf i).toNat)
  case atStart => exact ⟨0, 0, [], Nat.zero_le _, rfl, rfl, by omega, ⟨rfl, AllLt.nil _, by simp⟩, Own.nil _ _ _, Below.refl _ _⟩
  case round =>
    obtain ⟨k, r, os, hk, rfl, rfl, hr, HI, HO, HW⟩ := hrel
    by_cases hlx : k < n
    · obtain ⟨b, off, rfl, hwb, hcs⟩ := hx.cells (by omega)
      have hcx := (HW.out.cell (p := ⟨b, off + k, none⟩) hwb).trans (hcs k (by omega))
      have hxlt := hdx.get (by omega) k
      generalize hx : xs.getD k 0 = x at hcx hxlt
      have HX := Lib.hid hx
      clear hx hcs
      by_cases hly : k < m
      · obtain ⟨b2, off2, rfl, hwb2, hcs⟩ := hy.cells (by omega)
        have hcy := (HW.out.cell (p := ⟨b2, off2 + k, none⟩) hwb2).trans (hcs k (by omega))
        have hylt := hdy.get (by omega) k
        generalize hy : ys.getD k 0 = y at hcy hylt
        have HY := Lib.hid hy
        clear hy hcs
        by_cases hxy : x < r + y
        · go_wp2_with (at_builtin; refine wpList_append_new _ rfl (.tmp 36) (.tmp 40) 93 rfl 105 4 Tryd.underlying93 info_u32 w.heap.size _ os HO.out 1 _ [x + 65536 - (r + y)] (by simp [nums]; omega) rfl rfl rfl (by rw [HI.out.1]; simp only [maxLen]; omega) (by rw [HI.out.1]; omega) (HW.out.size) ?_; intro v1 w1 hO1 hs1 hB1; have HO1 := Lib.hid hO1; have HB1 := Lib.hid (hB1 _ _ (Nat.le_refl _) HW.out); clear hO1 hB1)
          go_roundw
          case rel =>
            have h3 := HI.out
            have h4 := minus_step xs ys os k r (x + 65536 - (r + y)) 1 h3.1 h3.2.2 (by rw [HX.out, HY.out]; omega)
            exact ⟨k + 1, 1, os ++ [x + 65536 - (r + y)], by omega, by go_num, rfl, by omega, ⟨by simp [h3.1], h3.2.1.append (AllLt.cons (by omega) (AllLt.nil _)), h4⟩, HO1.out, HB1.out⟩
          case measure => simp [intOf]; omega
        · go_wp2_with (at_builtin; refine wpList_append_new _ rfl (.tmp 36) (.tmp 40) 93 rfl 105 4 Tryd.underlying93 info_u32 w.heap.size _ os HO.out 1 _ [x - (r + y)] (by simp [nums]; omega) rfl rfl rfl (by rw [HI.out.1]; simp only [maxLen]; omega) (by rw [HI.out.1]; omega) (HW.out.size) ?_; intro v1 w1 hO1 hs1 hB1; have HO1 := Lib.hid hO1; have HB1 := Lib.hid (hB1 _ _ (Nat.le_refl _) HW.out); clear hO1 hB1)
          go_roundw
          case rel =>
            have h3 := HI.out
            have h4 := minus_step xs ys os k r (x - (r + y)) 0 h3.1 h3.2.2 (by rw [HX.out, HY.out]; omega)
            exact ⟨k + 1, 0, os ++ [x - (r + y)], by omega, by go_num, rfl, by omega, ⟨by simp [h3.1], h3.2.1.append (AllLt.cons (by omega) (AllLt.nil _)), h4⟩, HO1.out, HB1.out⟩
          case measure => simp [intOf]; omega
      · have hy0 : ys.getD k 0 = 0 := getD_ge (by rw [hy.len]; omega)
        have HY := Lib.hid hy0
        clear hy0
        by_cases hxy : x < r
        · go_wp2_with (at_builtin; refine wpList_append_new _ rfl (.tmp 36) (.tmp 40) 93 rfl 105 4 Tryd.underlying93 info_u32 w.heap.size _ os HO.out 1 _ [x + 65536 - (r)] (by simp [nums]; omega) rfl rfl rfl (by rw [HI.out.1]; simp only [maxLen]; omega) (by rw [HI.out.1]; omega) (HW.out.size) ?_; intro v1 w1 hO1 hs1 hB1; have HO1 := Lib.hid hO1; have HB1 := Lib.hid (hB1 _ _ (Nat.le_refl _) HW.out); clear hO1 hB1)
          go_roundw
          case rel =>
            have h3 := HI.out
            have h4 := minus_step xs ys os k r (x + 65536 - (r)) 1 h3.1 h3.2.2 (by rw [HX.out, HY.out]; omega)
            exact ⟨k + 1, 1, os ++ [x + 65536 - (r)], by omega, by go_num, rfl, by omega, ⟨by simp [h3.1], h3.2.1.append (AllLt.cons (by omega) (AllLt.nil _)), h4⟩, HO1.out, HB1.out⟩
          case measure => simp [intOf]; omega
        · go_wp2_with (at_builtin; refine wpList_append_new _ rfl (.tmp 36) (.tmp 40) 93 rfl 105 4 Tryd.underlying93 info_u32 w.heap.size _ os HO.out 1 _ [x - (r)] (by simp [nums]; omega) rfl rfl rfl (by rw [HI.out.1]; simp only [maxLen]; omega) (by rw [HI.out.1]; omega) (HW.out.size) ?_; intro v1 w1 hO1 hs1 hB1; have HO1 := Lib.hid hO1; have HB1 := Lib.hid (hB1 _ _ (Nat.le_refl _) HW.out); clear hO1 hB1)
          go_roundw
          case rel =>
            have h3 := HI.out
            have h4 := minus_step xs ys os k r (x - (r)) 0 h3.1 h3.2.2 (by rw [HX.out, HY.out]; omega)
            exact ⟨k + 1, 0, os ++ [x - (r)], by omega, by go_num, rfl, by omega, ⟨by simp [h3.1], h3.2.1.append (AllLt.cons (by omega) (AllLt.nil _)), h4⟩, HO1.out, HB1.out⟩
          case measure => simp [intOf]; omega
    · go_wp2
      go_ret
      have h3 := HI.out
      obtain rfl : k = n := by omega
      refine ⟨_, os, rfl, HO.out, h3.1, h3.2.1, ?_, HW.out⟩
      have e1 : os.take k = os := by rw [List.take_of_length_le (by omega)]
      exact sub_final xs ys os k r h3.2.1 h3.1 hx.len hdx hr (by rw [e1]; exact h3.2.2) HL.out
end Go.Proofs.YtbdngknpngcojaaDoor

/- The reference's size: digits held against digits. No condition. -/
namespace Go.Proofs.YtbdngknpngcojaaDoor
open Go.RowKit Anv
theorem size_ref {A B : Option Addr} {c d N M : Nat} {w : World} (hU : U32 w A (dn N) c (D N)) (kU : U32 w B (dn M) d (D M)) :
    Calls Tryd.prog 84 #[.slice A (dn N) c, .slice B (dn M) d] w fun e w' => e = .returned (.int .i64 (cmpI N M)) ∧ ∃ q, w' = w.drewN q := by
  have hbig := hU.big
  have hcap := hU.cap
  have kbig := kU.big
  have kcap := kU.cap
  unfold maxLen at hbig kbig
  by_cases h1 : dn N < dn M
  · have hne : ((dn N : Int) != (dn M : Int)) = true := by simp; omega
    go_enter Tryd.func84, Tryd.ntmps84
    go_wp2
    go_ret
    exact ⟨by rw [cmpI_lt (dig_len_lt (by omega) h1)]; rfl, 0, rfl⟩
  · by_cases h2 : dn M < dn N
    · have hne : ((dn N : Int) != (dn M : Int)) = true := by simp; omega
      go_enter Tryd.func84, Tryd.ntmps84
      go_wp2
      go_ret
      exact ⟨by rw [cmpI_gt (dig_len_lt (by omega) h2)]; rfl, 0, rfl⟩
    · have h3 : dn N = dn M := by omega
      have hne : ((dn N : Int) != (dn M : Int)) = false := by simp; omega
      have hne2 : ((dn N : Int) == (dn M : Int)) = true := by simp; omega
      have H3 := Lib.hid h3
      clear h3
      go_enter Tryd.func84, Tryd.ntmps84
      go_wp2
      go_loopw [5] (fun i wr => ∃ k : Nat, k ≤ dn N ∧ i = .int .i64 ((k : Int) - 1) ∧ Hid ((D N).drop k = (D M).drop k) ∧ Hid (∃ q, wr = w.drewN q)) (fun i _ => (intOf i + 1).toNat)
      case atStart => exact ⟨dn N, Nat.le_refl _, rfl, by show (D N).drop (dn N) = (D M).drop (dn N); rw [drop_all (xs := D N) (n := dn N) (Nat.le_refl _), drop_all (xs := D M) (n := dn N) (by rw [H3.out]; exact Nat.le_refl _)], 0, rfl⟩
      case round =>
        obtain ⟨k, hk, rfl, HD, HQ⟩ := hrel
        obtain ⟨q, rfl⟩ := HQ.out
        rcases k with _ | k
        · go_wp2
          go_ret
          refine ⟨?_, q, rfl⟩
          have h4 := HD.out
          rw [List.drop_zero, List.drop_zero] at h4
          have h5 : N = M := by rw [← val_D N, ← val_D M, h4]
          rw [h5, cmpI_eq]; rfl
        · rw [show (((k + 1 : Nat) : Int) - 1) = (k : Int) from by omega]
          obtain ⟨b, off, rfl, hbw, hcs⟩ := hU.cells (by omega)
          have hcx := hcs k (by omega)
          obtain ⟨b2, off2, rfl, hbw2, hcs2⟩ := kU.cells (by omega)
          have hcy := hcs2 k (by omega)
          clear hcs hcs2
          generalize hx : (D N).getD k 0 = x at hcx
          generalize hy : (D M).getD k 0 = y at hcy
          have HX := Lib.hid hx
          have HY := Lib.hid hy
          clear hx hy
          have hk0 : (0 : Int) ≤ (k : Int) := by omega
          have hk1 : (k : Int) < (dn N : Int) := by omega
          have hk2 : (k : Int) < (dn M : Int) := by omega
          have hkt : ((k : Int)).toNat = k := by omega
          have hlx : k < (D N).length := by show k < dn N; omega
          have hly : k < (D M).length := by show k < dn M; omega
          by_cases hxy : x < y
          · go_wp2_with fail
            go_quiet (fail)
            go_wp2_with fail
            go_ret
            refine ⟨?_, by simp only [World.drewN_drewN]; exact ⟨_, rfl⟩⟩
            rw [cmpI_lt]
            · rfl
            · rw [← val_D N, ← val_D M]
              exact val_lt_of _ _ k (D_lt N) HD.out hlx (by rw [HX.out, HY.out]; exact hxy) hly
          · by_cases hyx : y < x
            · go_wp2_with fail
              go_quiet (fail)
              go_wp2_with fail
              go_quiet (fail)
              go_wp2_with fail
              go_ret
              refine ⟨?_, by simp only [World.drewN_drewN]; exact ⟨_, rfl⟩⟩
              rw [cmpI_gt]
              · rfl
              · rw [← val_D N, ← val_D M]
                exact val_lt_of _ _ k (D_lt M) HD.out.symm hly (by rw [HX.out, HY.out]; exact hyx) hlx
            · go_wp2_with fail
              go_quiet (fail)
              go_wp2_with fail
              go_quiet (fail)
              go_wp2_with fail
              go_roundw
              case rel => exact ⟨k, by omega, rfl, by show (D N).drop k = (D M).drop k; rw [drop_step _ k hlx, drop_step _ k hly, HX.out, HY.out, HD.out, show x = y from by omega], by show ∃ q, _ = _; exact ⟨_, rfl⟩⟩
              case measure => simp [intOf]
theorem size_ref' {A B : Option Addr} {c d N M : Nat} {w : World} (hU : U32 w A (dn N) c (D N)) (kU : U32 w B (dn M) d (D M)) :
    Calls Tryd.prog 84 #[.slice A (dn N) c, .slice B (dn M) d] w fun e w' => e = .returned (.int .i64 (cmpI N M)) ∧ Below w.heap.size w w' := by
  refine (size_ref hU kU).mono ?_
  rintro e w' ⟨rfl, q, rfl⟩
  exact ⟨rfl, below_drewN' w q⟩
end Go.Proofs.YtbdngknpngcojaaDoor

/- The reference: signs, sums, differences. No condition. -/
namespace Go.Proofs.YtbdngknpngcojaaDoor
open Go.RowKit Anv
theorem norm_num' {b : Bool} {A : Option Addr} {c N : Nat} {w : World} (h : U32 w A (dn N) c (D N)) :
    Calls Tryd.prog 73 #[.bool b, .slice A (dn N) c] w (NormPost w A c b N) := by
  have h2 := norm_ref (b := b) h (D_lt N)
  rw [val_D] at h2
  exact h2
end Go.Proofs.YtbdngknpngcojaaDoor

/- The reference: sums. No condition. -/
namespace Go.Proofs.YtbdngknpngcojaaDoor
open Go.RowKit Anv
end Go.Proofs.YtbdngknpngcojaaDoor

/- The reference: comparisons; digits out of limbs and back. No condition. -/
namespace Go.Proofs.YtbdngknpngcojaaDoor
open Go.RowKit Anv
end Go.Proofs.YtbdngknpngcojaaDoor

/- The reference: digits out of limbs. No condition. -/
namespace Go.Proofs.YtbdngknpngcojaaDoor
open Go.RowKit Anv
def halves (xs : List Nat) : List Nat := xs.flatMap fun x => [x % 65536, x / 65536]
end Go.Proofs.YtbdngknpngcojaaDoor

/- The reference: limbs out of digits. No condition. -/
namespace Go.Proofs.YtbdngknpngcojaaDoor
open Go.RowKit Anv
def prs (ds : List Nat) (k : Nat) : List Nat := (List.range k).map fun j => ds.getD (2 * j) 0 + 65536 * ds.getD (2 * j + 1) 0
end Go.Proofs.YtbdngknpngcojaaDoor

/- The reference: small numbers, products. No condition. -/
namespace Go.Proofs.YtbdngknpngcojaaDoor
open Go.RowKit Anv
theorem D_pos {N : Nat} (h : 0 < N) : D N = (N % 65536) :: D (N / 65536) := dig_pos (by omega) h
theorem dn_le_of_lt {N k : Nat} (h : N < 65536 ^ k) : dn N ≤ k := dig_len_of_lt (by omega) h
theorem of_r {n : Int} {w : World} (h1 : -9223372036854775808 ≤ n) (h2 : n ≤ 9223372036854775807) :
    Calls Tryd.prog 64 #[.int .i64 n] w fun e w' => ∃ v, e = .returned v ∧ RAt w' v n ∧ Below w.heap.size w w' := by
  obtain ⟨N, hN⟩ : ∃ N, N = n.natAbs := ⟨_, rfl⟩
  have hNN : N < 18446744073709551616 := by omega
  have hdn : dn N ≤ 4 := dn_le_of_lt (by omega)
  have HN := Lib.hid hN
  have key : ∀ (b : Bool), b = decide (n < 0) → sg b N = n := by
    intro b hb
    subst hb hN
    by_cases h : n < 0 <;> simp [sg, h] <;> omega
  by_cases hn : n < 0
  · have hw : IntKind.u64.wrap (-IntKind.u64.wrap n) = (N : Int) := by rw [IntKind.wrap_u64, IntKind.wrap_u64]; omega
    have HK := Lib.hid (key true (by simp [hn]))
    clear key hN
    go_enter Tryd.func64, Tryd.ntmps64
    go_wp2
    go_loopw [3, 4] (fun u o wr => ∃ (m : Nat) (os : List Nat), m ≤ N ∧ u = .int .u64 m ∧ Hid (D N = os ++ D m) ∧ Hid (Own (w.heap.size + 1) 105 wr o os) ∧ Hid (Below (w.heap.size + 1) (w.alloc (.cells #[.bool false, .slice none 0 0] 95)) wr)) (fun u _ _ => (intOf u).toNat)
    case atStart => exact ⟨N, [], Nat.le_refl _, rfl, by show D N = [] ++ D N; rfl, Own.nil _ _ _, Below.refl _ _⟩
    case round =>
      obtain ⟨m, os, hm, rfl, HD, HO, HW⟩ := hrel
      have hol : os.length ≤ 4 := by
        have h5 : (D N).length ≤ 4 := hdn
        rw [HD.out, List.length_append] at h5; omega
      by_cases hpos : 0 < m
      · go_wp2_with (at_builtin; refine wpList_append_new _ rfl (.tmp 13) (.tmp 17) 93 rfl 105 4 Tryd.underlying93 info_u32 (w.heap.size + 1) _ os HO.out 1 _ [m % 65536] (by simp [nums]; try omega) rfl rfl rfl (by simp only [maxLen]; omega) (by omega) (by have := HW.out.size; simp at this; omega) ?_; intro v1 w1 hO1 hs1 hB1; have HO1 := Lib.hid hO1; have HB1 := Lib.hid (hB1 _ _ (Nat.le_refl _) HW.out); clear hO1 hB1)
        go_roundw
        case rel => exact ⟨m / 65536, os ++ [m % 65536], by omega, int_eq (by omega), by show D N = _; rw [HD.out, D_pos hpos]; simp, HO1.out, HB1.out⟩
        case measure => simp [intOf]; omega
      · have hm0 : m = 0 := by omega
        have e : os = D N := by rw [HD.out, hm0, D_zero, List.append_nil]
        subst e
        clear HD
        obtain ⟨A1, c1, rfl, hU, hf⟩ := HO.out.u32 (wide (D_lt N))
        have q := (Box2.new w 95 (.bool false) (.slice none 0 0)).below HW.out (Nat.lt_succ_self _)
        go_wp2_with fail
        refine (norm_num' hU).mono ?_
        rintro e w2 ⟨rfl, hz, hb⟩
        have q2 := q.below hb q.lt
        have hc0 := q2.c0
        have hc1 := q2.c1
        have hf0 := q2.f 0
        have hf1 := q2.f 1
        have hs := q2.lt
        rw [HK.out] at hz ⊢
        go_wp2
        exact bodyPost_ret (v := .agg #[.bool (neg n), .slice A1 (dl n) c1]) (by simp [results, Tryd.results64, go_sem, hc0, hc1]) rfl
          ⟨_, rfl, ⟨_, _, rfl, U32.store2 hz hc0 hc1 _ _⟩, below_store2 (thru (w := w) (W := wr) ((below1 w _).trans (HW.out.mono (Nat.le_succ _))) hb) (Nat.le_refl _) _ _⟩
  · obtain ⟨N', rfl⟩ : ∃ N' : Nat, n = (N' : Int) := ⟨n.natAbs, by omega⟩
    obtain rfl : N = N' := by omega
    have HK := Lib.hid (key false (by simp))
    clear key hN
    go_enter Tryd.func64, Tryd.ntmps64
    go_wp2
    go_loopw [3, 4] (fun u o wr => ∃ (m : Nat) (os : List Nat), m ≤ N ∧ u = .int .u64 m ∧ Hid (D N = os ++ D m) ∧ Hid (Own (w.heap.size + 1) 105 wr o os) ∧ Hid (Below (w.heap.size + 1) (w.alloc (.cells #[.bool false, .slice none 0 0] 95)) wr)) (fun u _ _ => (intOf u).toNat)
    case atStart => exact ⟨N, [], Nat.le_refl _, rfl, by show D N = [] ++ D N; rfl, Own.nil _ _ _, Below.refl _ _⟩
    case round =>
      obtain ⟨m, os, hm, rfl, HD, HO, HW⟩ := hrel
      have hol : os.length ≤ 4 := by
        have h5 : (D N).length ≤ 4 := hdn
        rw [HD.out, List.length_append] at h5; omega
      by_cases hpos : 0 < m
      · go_wp2_with (at_builtin; refine wpList_append_new _ rfl (.tmp 13) (.tmp 17) 93 rfl 105 4 Tryd.underlying93 info_u32 (w.heap.size + 1) _ os HO.out 1 _ [m % 65536] (by simp [nums]; try omega) rfl rfl rfl (by simp only [maxLen]; omega) (by omega) (by have := HW.out.size; simp at this; omega) ?_; intro v1 w1 hO1 hs1 hB1; have HO1 := Lib.hid hO1; have HB1 := Lib.hid (hB1 _ _ (Nat.le_refl _) HW.out); clear hO1 hB1)
        go_roundw
        case rel => exact ⟨m / 65536, os ++ [m % 65536], by omega, int_eq (by omega), by show D N = _; rw [HD.out, D_pos hpos]; simp, HO1.out, HB1.out⟩
        case measure => simp [intOf]; omega
      · have hm0 : m = 0 := by omega
        have e : os = D N := by rw [HD.out, hm0, D_zero, List.append_nil]
        subst e
        clear HD
        obtain ⟨A1, c1, rfl, hU, hf⟩ := HO.out.u32 (wide (D_lt N))
        have q := (Box2.new w 95 (.bool false) (.slice none 0 0)).below HW.out (Nat.lt_succ_self _)
        go_wp2_with fail
        rw [show decide ((N : Int) < 0) = false from by simp]
        refine (norm_num' hU).mono ?_
        rintro e w2 ⟨rfl, hz, hb⟩
        have q2 := q.below hb q.lt
        have hc0 := q2.c0
        have hc1 := q2.c1
        have hf0 := q2.f 0
        have hf1 := q2.f 1
        have hs := q2.lt
        rw [HK.out] at hz ⊢
        go_wp2
        exact bodyPost_ret (v := .agg #[.bool (neg (N : Int)), .slice A1 (dl (N : Int)) c1]) (by simp [results, Tryd.results64, go_sem, hc0, hc1]) rfl
          ⟨_, rfl, ⟨_, _, rfl, U32.store2 hz hc0 hc1 _ _⟩, below_store2 (thru (w := w) (W := wr) ((below1 w _).trans (HW.out.mono (Nat.le_succ _))) hb) (Nat.le_refl _) _ _⟩
end Go.Proofs.YtbdngknpngcojaaDoor

/- The reference: products. No condition. -/
namespace Go.Proofs.YtbdngknpngcojaaDoor
open Go.RowKit Anv
def RowInv (ys os : List Nat) (n m k q cc x T : Nat) : Prop :=
  os.length = n + m + 1 ∧ AllLt 65536 os ∧ val 65536 os + 65536 ^ (k + q) * cc = T + 65536 ^ k * (x * val 65536 (ys.take q)) ∧
    (∀ j, k + m + 1 ≤ j → os.getD j 0 = 0) ∧ (q ≤ m → os.getD (k + m) 0 = 0) ∧ (q = m + 1 → cc = 0) ∧ q ≤ m + 1
end Go.Proofs.YtbdngknpngcojaaDoor

/- The statements' own small functions: is, zero, live, long, of. No condition. -/
namespace Go.Proofs.YtbdngknpngcojaaDoor
open Go.RowKit Anv
end Go.Proofs.YtbdngknpngcojaaDoor

/- The statements' own small functions: live, long, of. No condition. -/
namespace Go.Proofs.YtbdngknpngcojaaDoor
open Go.RowKit Anv
def flat (l : List (Bool × Option Addr × Nat × Nat)) : List Value := l.flatMap fun x => [.bool x.1, .slice x.2.1 x.2.2.1 x.2.2.2]
def Arg (w : World) (v : Value) (b : Bool) (A : Option Addr) (n c N : Nat) : Prop := v = .agg #[.bool b, .slice A n c] ∧ NumIn w A n c N
end Go.Proofs.YtbdngknpngcojaaDoor

/- How many limbs and digits sums and products have. No condition. -/
namespace Go.Proofs.YtbdngknpngcojaaDoor
open Go.RowKit Anv
theorem lt_nl (N : Nat) : N < 4294967296 ^ nl N := lt_pow_dig (by omega) N
theorem lt_dn (N : Nat) : N < 65536 ^ dn N := lt_pow_dig (by omega) N
theorem nl_mono {N M : Nat} (h : N ≤ M) : nl N ≤ nl M := dig_len_le (by omega) h
theorem dn_mono {N M : Nat} (h : N ≤ M) : dn N ≤ dn M := dig_len_le (by omega) h
theorem len_add {b : Nat} (hb : 2 ≤ b) (N M i j : Nat) (h : N < b ^ i) (k : M < b ^ j) : N + M < b ^ (i + j + 1) := by
  have h1 : b ^ i ≤ b ^ (i + j) := Nat.pow_le_pow_right (by omega) (by omega)
  have h2 : b ^ j ≤ b ^ (i + j) := Nat.pow_le_pow_right (by omega) (by omega)
  have h3 := Nat.mul_le_mul_left (b ^ (i + j)) hb
  rw [Nat.pow_succ]; omega
theorem dn_add (N M : Nat) : dn (N + M) ≤ dn N + dn M + 1 := dn_le_of_lt (len_add (by omega) _ _ _ _ (lt_dn N) (lt_dn M))
section
variable {x y c : Int}
end
end Go.Proofs.YtbdngknpngcojaaDoor

/- Lists of whole numbers; Sum and Product. No condition. -/
namespace Go.Proofs.YtbdngknpngcojaaDoor
open Go.RowKit Anv
structure ZList (w : World) (a : Option Addr) (k : Nat) (l : List (Int × Option Addr × Nat)) : Prop where
  len : l.length = k
  cells : 0 < k → ∃ G o, a = some ⟨G, o, none⟩ ∧ G < w.heap.size ∧ ∀ i (h : i < l.length), w.cell? ⟨G, o + i * 2, none⟩ = some (.bool (neg l[i].1)) ∧ w.cell? ⟨G, o + i * 2 + 1, none⟩ = some (.slice l[i].2.1 (zl l[i].1) l[i].2.2)
  nums : ∀ x ∈ l, ZIn w x.2.1 x.2.2 x.1
theorem ZList.below {w w' : World} {a : Option Addr} {k : Nat} {l : List (Int × Option Addr × Nat)} (h : ZList w a k l) (hb : Below w.heap.size w w') : ZList w' a k l :=
  ⟨h.len, fun hp => by
    obtain ⟨G, o, ha, hG, hc⟩ := h.cells hp
    exact ⟨G, o, ha, Nat.lt_of_lt_of_le hG hb.size, fun i hi => ⟨(hb.cell (p := ⟨G, o + i * 2, none⟩) hG).trans (hc i hi).1, (hb.cell (p := ⟨G, o + i * 2 + 1, none⟩) hG).trans (hc i hi).2⟩⟩,
   fun x hx => (h.nums x hx).below hb⟩
theorem ZList.nil (w : World) : ZList w none 0 [] := ⟨rfl, fun h => by omega, fun x hx => by cases hx⟩
def zsum (l : List (Int × Option Addr × Nat)) : Int := l.foldl (fun s x => s + x.1) 0
def zprod (l : List (Int × Option Addr × Nat)) : Int := l.foldl (fun s x => s * x.1) 1
end Go.Proofs.YtbdngknpngcojaaDoor
