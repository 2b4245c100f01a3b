/- More of layer 2: clones, limbs, small numbers. No condition. -/
import Derived.Test.YtnldopjbiacbfaaDoorM8
import Derived.Test.YtnldopjbiacbfaaDoorM15
import Derived.Lib.SliceRun

namespace Go.Proofs.YtnldopjbiacbfaaDoor
open Go.RowKit Anv

theorem own_empty (w : World) (e : TypeId) : Own w.heap.size e (w.alloc (.cells #[] e)) (.slice (some ⟨w.heap.size, 0, none⟩) 0 0) [] :=
  ⟨rfl, .inr ⟨w.heap.size, 0, #[], rfl, Nat.le_refl _, heap_alloc_new w _, Nat.le_refl _, by simp [maxLen], rfl, rfl⟩⟩

theorem clone_u32 {A : Option Addr} {n c : Nat} {xs : List Nat} {w : World} (h : U32 w A n c xs) (hn : n ≤ 1000000) :
    Calls Tryd.prog 92 #[.slice A n c] w fun e w' => ∃ A' c', e = .returned (.slice A' n c') ∧ U32 w' A' n c' xs ∧ (∀ a, A' = some a → w.heap.size ≤ a.block) ∧ Below w.heap.size w w' := by
  have hl := h.len
  have HL := Lib.hid hl
  clear hl
  have heq := Lib.run_eql_slice_nil (P := Tryd.prog) w 22 45 A n c 0 0 Tryd.underlying22
  rcases A with _ | ad
  · go_enter Tryd.func92, Tryd.ntmps92
    go_wp2
    go_ret
    have h0 : n = 0 := by
      rcases Nat.eq_zero_or_pos n with h1 | h1
      · exact h1
      · obtain ⟨b, off, hA, _⟩ := h.cells h1; cases hA
    subst h0
    exact ⟨none, 0, rfl, ⟨HL.out, Nat.le_refl _, by simp [maxLen], h.lt, fun hp => by omega⟩, (fun a ha => by cases ha), Below.refl _ _⟩
  · go_enter Tryd.func92, Tryd.ntmps92
    go_wp2_with (at_builtin; refine wpList_append_u32 _ rfl (.tmp 5) (.tmp 6) 22 rfl 45 4 Tryd.underlying22 info_u32 w.heap.size _ [] (own_empty w 45) ad n c xs (h.below (below1 _ _)) rfl rfl (by simp only [maxLen, List.length_nil]; omega) (by simp only [List.length_nil]; omega) (by simp) ?_; intro v1 w1 hO hsz hB)
    go_ret
    have hO' : Own w.heap.size 45 w1 v1 xs := hO
    obtain ⟨A', c', rfl, hU, hf⟩ := hO'.u32 h.lt
    have hl := HL.out
    rw [hl] at hU
    exact ⟨A', c', ret_slice hl rfl, hU, hf, hB _ _ (Nat.le_refl _) (below1 _ _)⟩

theorem limbs_z {A : Option Addr} {c : Nat} {z : Int} {w : World} (h : ZIn w A c z) (hn : zl z ≤ 1000000) :
    Calls Tryd.prog 70 #[.agg #[.bool (neg z), .slice A (zl z) c]] w fun e w' => ∃ A' c', e = .returned (.tuple #[.bool (neg z), .slice A' (zl z) c']) ∧ ZIn w' A' c' z ∧ (∀ a, A' = some a → w.heap.size ≤ a.block) ∧ Below w.heap.size w w' := by
  go_enter Tryd.func70, Tryd.ntmps70
  go_wp2_with fail
  go_region_held3 (fun w' => w'.cell? ⟨w.heap.size, 0, none⟩ = some (.bool (neg z)) ∧ w'.cell? ⟨w.heap.size, 1, none⟩ = some (.slice A (zl z) c)) (first | exact ⟨q0.c0, q0.c1⟩ | go_keep)
    (first | (go_at_call 92; refine (clone_u32 (U32.below h (by exact (below1 _ _).drew)) hn).mono ?_; rintro e w1 ⟨A1, c1, rfl, hU, hf, hb⟩; obtain ⟨q0, hbw, hs⟩ := boxes1 (undrew hb)))
  go_wp2
  go_ret2
  exact ⟨A1, c1, rfl, hU, fun a ha => Nat.le_trans (by simp) (hf a ha), hbw⟩

end Go.Proofs.YtnldopjbiacbfaaDoor

/- integer.Of, Sub, Times, Cmp, Small. No condition. -/
namespace Go.Proofs.YtnldopjbiacbfaaDoor
open Go.RowKit Anv

theorem new_num {w : World} {t : TypeId} {g : Nat} {cs : Array Value} (ys : List Nat) (hg : g = w.heap.size) (hcs : cs = nums .u32 ys) (hl : AllLt 4294967296 ys) (hm : ys.length ≤ 1000) :
    NumIn (w.alloc (.cells cs t)) (some ⟨g, 0, none⟩) ys.length ys.length (val 4294967296 ys) := by
  subst hg hcs
  have h : Arr .u32 t (w.alloc (.cells (nums .u32 ys) t)) w.heap.size ys := heap_alloc_new w _
  exact ⟨ys, h.u32 hl rfl (by simp only [maxLen]; omega), rfl⟩

theorem two_num {w : World} {t : TypeId} {g : Nat} {a b : Int} (m : Nat) (hg : g = w.heap.size) (hm : m < 18446744073709551616) (ha : a = ((m % 4294967296 : Nat) : Int)) (hb : b = ((m / 4294967296 : Nat) : Int)) :
    NumIn (w.alloc (.cells #[.int .u32 a, .int .u32 b] t)) (some ⟨g, 0, none⟩) 2 2 m := by
  have h := new_num (w := w) (t := t) (cs := #[.int .u32 a, .int .u32 b]) [m % 4294967296, m / 4294967296] hg (by subst ha hb; simp [nums]) (by intro x hx; simp at hx; omega) (by simp)
  have e : val 4294967296 [m % 4294967296, m / 4294967296] = m := by simp; omega
  rw [e] at h
  exact h

theorem nl_le_of_lt {N k : Nat} (h : N < 4294967296 ^ k) : nl N ≤ k := dig_len_of_lt (by omega) h

theorem of_z {n : Int} {w : World} (h1 : -9223372036854775808 ≤ n) (h2 : n ≤ 9223372036854775807) :
    Calls Tryd.prog 72 #[.int .i64 n] w fun e w' => ∃ v, e = .returned v ∧ ZAt w' v n ∧ Below w.heap.size w w' := by
  by_cases hn : n < 0
  · obtain ⟨m, rfl⟩ : ∃ m : Nat, n = -(m : Int) := ⟨n.natAbs, by omega⟩
    have hw : IntKind.u64.wrap (-IntKind.u64.wrap (-(m : Int))) = (m : Int) := by rw [IntKind.wrap_u64, IntKind.wrap_u64]; omega
    have hnl : nl m ≤ 1000000 := by have := nl_le_of_lt (N := m) (k := 2) (by omega); omega
    go_enter Tryd.func72, Tryd.ntmps72
    go_wp2_with fail
    refine (make_z (b := true) (N := m) (two_num m (by simp) (by omega) (by omega) (by omega)) hnl).mono ?_
    rintro e w1 ⟨v, rfl, ⟨A1, c1, rfl, hz⟩, hb⟩
    have e1 : sg true m = -(m : Int) := rfl
    rw [e1] at hz ⊢
    have hbw := thru (below2 _ _ _) hb
    have q := ((Box2.new w 28 (.bool false) (.slice none 0 0)).alloc _).below hb (by simp; omega)
    have hc0 := q.c0
    have hc1 := q.c1
    have hf0 := q.f 0
    have hf1 := q.f 1
    have hs := q.lt
    go_wp2
    exact bodyPost_ret (v := .agg #[.bool (neg (-(m : Int))), .slice A1 (zl (-(m : Int))) c1]) (by simp [results, Tryd.results72, go_sem, hc0, hc1]) rfl ⟨_, rfl, ⟨_, _, rfl, U32.store2 hz hc0 hc1 _ _⟩, below_store2 hbw (Nat.le_refl _) _ _⟩
  · obtain ⟨m, rfl⟩ : ∃ m : Nat, n = (m : Int) := ⟨n.natAbs, by omega⟩
    have hnl : nl m ≤ 1000000 := by have := nl_le_of_lt (N := m) (k := 2) (by omega); omega
    go_enter Tryd.func72, Tryd.ntmps72
    go_wp2_with fail
    refine (make_z (b := false) (N := m) (two_num m (by simp) (by omega) (by omega) (by omega)) hnl).mono ?_
    rintro e w1 ⟨v, rfl, ⟨A1, c1, rfl, hz⟩, hb⟩
    have e1 : sg false m = (m : Int) := rfl
    rw [e1] at hz ⊢
    have hbw := thru (below2 _ _ _) hb
    have q := ((Box2.new w 28 (.bool false) (.slice none 0 0)).alloc _).below hb (by simp; omega)
    have hc0 := q.c0
    have hc1 := q.c1
    have hf0 := q.f 0
    have hf1 := q.f 1
    have hs := q.lt
    go_wp2
    exact bodyPost_ret (v := .agg #[.bool (neg (m : Int)), .slice A1 (zl (m : Int)) c1]) (by simp [results, Tryd.results72, go_sem, hc0, hc1]) rfl ⟨_, rfl, ⟨_, _, rfl, U32.store2 hz hc0 hc1 _ _⟩, below_store2 hbw (Nat.le_refl _) _ _⟩

theorem cmp_sign (x y : Int) : (if neg x then (if neg y then cmpI y.natAbs x.natAbs else -1) else if neg y then 1 else cmpI x.natAbs y.natAbs) = (x - y).sign := by
  unfold neg cmpI
  rcases Int.lt_trichotomy (x - y) 0 with h | h | h
  · rw [Int.sign_eq_neg_one_of_neg h]; (repeat' split) <;> simp_all <;> omega
  · rw [h]; (repeat' split) <;> simp_all <;> omega
  · rw [Int.sign_eq_one_of_pos h]; (repeat' split) <;> simp_all <;> omega

end Go.Proofs.YtnldopjbiacbfaaDoor

/- integer.Sub, Times, Cmp. No condition. -/
namespace Go.Proofs.YtnldopjbiacbfaaDoor
open Go.RowKit Anv

theorem zl_neg (z : Int) : zl (-z) = zl z := by unfold zl; rw [Int.natAbs_neg]

theorem sub_z {A B : Option Addr} {c d : Nat} {x y : Int} {w : World} (hx : ZIn w A c x) (hy : ZIn w B d y) (hn : zl x ≤ 1000000) (hm : zl y ≤ 1000000) :
    Calls Tryd.prog 108 #[.agg #[.bool (neg x), .slice A (zl x) c], .agg #[.bool (neg y), .slice B (zl y) d]] w fun e w' => ∃ v, e = .returned v ∧ ZAt w' v (x - y) ∧ Below w.heap.size w w' := by
  go_enter Tryd.func108, Tryd.ntmps108
  go_wp2_with fail
  go_region_held3 (fun w' => w'.cell? ⟨w.heap.size, 0, none⟩ = some (.bool (neg x)) ∧ w'.cell? ⟨w.heap.size, 1, none⟩ = some (.slice A (zl x) c) ∧ w'.cell? ⟨w.heap.size + 1, 0, none⟩ = some (.bool (neg y)) ∧ w'.cell? ⟨w.heap.size + 1, 1, none⟩ = some (.slice B (zl y) d)) (first | exact ⟨q0.c0, q0.c1, q1.c0, q1.c1⟩ | exact ⟨r0.c0, r0.c1, r1.c0, r1.c1⟩ | exact ⟨(r0.far2 (by omega) _ _).c0, (r0.far2 (by omega) _ _).c1, (r1.far2 (by omega) _ _).c0, (r1.far2 (by omega) _ _).c1⟩ | go_keep)
    (first | (go_at_call 110; refine (neg_z (ZIn.below hy (by exact (below3 _ _ _ _).drew))).mono ?_; rintro e w1 ⟨v, rfl, ⟨A1, c1, rfl, hz1⟩, hb⟩; obtain ⟨q0, q1, q2, hbw, hs⟩ := boxes3 (undrew hb)) | (go_at_call 76; refine (add_z (ZIn.below hx hbw) hz1 hn (by rw [zl_neg]; exact hm)).mono ?_; rintro e w2 ⟨v2, rfl, ⟨A2, c2, rfl, hz2⟩, hb2⟩; have r0 := q0.below hb2 q0.lt; have r1 := q1.below hb2 q1.lt; have r2 := q2.below hb2 q2.lt; have hc0 := r2.c0; have hc1 := r2.c1; have hf0 := r2.f 0; have hf1 := r2.f 1; have hs2 : w.heap.size + 1 + 1 < w2.heap.size := by have := hb2.size; omega))
  go_wp2
  rw [← Int.sub_eq_add_neg] at hz2 ⊢
  exact bodyPost_ret (v := .agg #[.bool (neg (x - y)), .slice A2 (zl (x - y)) c2]) (by simp [results, Tryd.results108, go_sem, hc0, hc1]) rfl ⟨_, rfl, ⟨_, _, rfl, U32.store2 hz2 hc0 hc1 _ _⟩, below_store2 (thru hbw hb2) (by omega) _ _⟩

theorem cmp_z {A B : Option Addr} {c d : Nat} {x y : Int} {w : World} (hx : ZIn w A c x) (hy : ZIn w B d y) :
    Calls Tryd.prog 75 #[.agg #[.bool (neg x), .slice A (zl x) c], .agg #[.bool (neg y), .slice B (zl y) d]] w fun e w' => e = .returned (.int .i64 (x - y).sign) ∧ Below w.heap.size w w' := by
  have e := cmp_sign x y
  rw [← e]
  have hb1 := cmpI_bd x.natAbs y.natAbs
  have hb2 := cmpI_bd y.natAbs x.natAbs
  clear e
  cases neg x <;> cases neg y
  · go_enter Tryd.func75, Tryd.ntmps75
    go_wp2_with fail
    refine (cmp_num' (NumIn.below (ZIn.num hx) (by exact below2 _ _ _)) (NumIn.below (ZIn.num hy) (by exact below2 _ _ _))).mono ?_
    rintro e w1 ⟨rfl, hb⟩
    go_wp2
    go_ret
    exact ⟨rfl, thru (below2 _ _ _) hb⟩
  · go_enter Tryd.func75, Tryd.ntmps75
    go_wp2
    go_ret
    exact ⟨rfl, below2 _ _ _⟩
  · go_enter Tryd.func75, Tryd.ntmps75
    go_wp2
    go_ret
    exact ⟨rfl, below2 _ _ _⟩
  · go_enter Tryd.func75, Tryd.ntmps75
    go_wp2_with fail
    refine (cmp_num' (NumIn.below (ZIn.num hy) (by exact below2 _ _ _)) (NumIn.below (ZIn.num hx) (by exact below2 _ _ _))).mono ?_
    rintro e w1 ⟨rfl, hb⟩
    go_wp2
    go_ret
    exact ⟨rfl, thru (below2 _ _ _) hb⟩

end Go.Proofs.YtnldopjbiacbfaaDoor

/- integer.Times, Small. No condition. -/
namespace Go.Proofs.YtnldopjbiacbfaaDoor
open Go.RowKit Anv

theorem zl_small {n : Int} (h1 : -9223372036854775808 ≤ n) (h2 : n ≤ 9223372036854775807) : zl n ≤ 2 := nl_le_of_lt (by omega)

theorem or_lo (x : Nat) (hx : x < 18446744073709551616) : bits .or .u64 0 (x : Int) = (x : Int) := by
  have := u64_or_nat 0 x (by omega) hx
  rw [Nat.zero_or] at this
  exact this
theorem or_hi (m x : Nat) (hm : m < 4294967296) (hx : x < 4294967296) : bits .or .u64 (m : Int) ((x : Int) * 4294967296) = ((m + 4294967296 * x : Nat) : Int) := by
  have h := u64_or_nat m (x * 4294967296) (by omega) (by omega)
  rw [Int.natCast_mul] at h
  rw [show ((4294967296 : Nat) : Int) = 4294967296 from rfl] at h
  rw [h]
  have h2 := Nat.two_pow_add_eq_or_of_lt (i := 32) (b := m) (by omega) x
  rw [show (2 : Nat) ^ 32 = 4294967296 from rfl] at h2
  rw [Nat.or_comm, Nat.mul_comm x, ← h2, Nat.add_comm]

/-- What Small answers. -/
def smallV (z : Int) : Value := if -9223372036854775808 ≤ z ∧ z ≤ 9223372036854775807 then .tuple #[.int .i64 z, .bool true] else .tuple #[.int .i64 0, .bool false]
theorem smallV_yes {z : Int} (h1 : -9223372036854775808 ≤ z) (h2 : z ≤ 9223372036854775807) : smallV z = .tuple #[.int .i64 z, .bool true] := if_pos ⟨h1, h2⟩
theorem smallV_no {z : Int} (h : z < -9223372036854775808 ∨ 9223372036854775807 < z) : smallV z = .tuple #[.int .i64 0, .bool false] := if_neg (by omega)
theorem neg_true {z : Int} (h : neg z = true) : z < 0 := by unfold neg at h; simpa using h
theorem neg_false {z : Int} (h : neg z = false) : 0 ≤ z := by unfold neg at h; simpa using h
theorem back_neg (m : Nat) (h : m ≤ 9223372036854775808) : wrap64 (IntKind.u64.wrap (-(m : Int))) = -(m : Int) := by
  unfold wrap64; rw [IntKind.wrap_u64]; omega

set_option maxRecDepth 100000 in
theorem small_neg {A : Option Addr} {c : Nat} {z : Int} {w : World} (hz : ZIn w A c z) (hneg : z < 0) :
    Calls Tryd.prog 77 #[.agg #[.bool (neg z), .slice A (zl z) c]] w fun e w' => e = .returned (smallV z) ∧ Below w.heap.size w w' := by
  have hbig := hz.big
  have hcap := hz.cap
  unfold maxLen at hbig
  by_cases h2 : 2 < zl z
  · have hne : smallV z = .tuple #[.int .i64 0, .bool false] := smallV_no (by
      rcases Int.lt_or_le z (-9223372036854775808) with h | h
      · exact .inl h
      · rcases Int.lt_or_le 9223372036854775807 z with h' | h'
        · exact .inr h'
        · have := zl_small h h'; omega)
    rw [hne]
    clear hne
    go_enter Tryd.func77, Tryd.ntmps77
    go_wp2
    go_ret2
    exact ⟨rfl, below1 _ _⟩
  · have hbx : neg z = true := by unfold neg; simpa using hneg
    rw [hbx]
    clear hbx
    go_enter Tryd.func77, Tryd.ntmps77
    go_wp2
    go_loop [4, 14] (fun u i => ∃ (k m : Nat), k ≤ zl z ∧ i = .int .i64 k ∧ u = .int .u64 m ∧ m < 18446744073709551616 ∧ Hid (m = val 4294967296 ((L z.natAbs).take k))) (fun _ i => zl z - (intOf i).toNat)
    case atStart => exact ⟨0, 0, Nat.zero_le _, rfl, rfl, by omega, by show _ = _; simp⟩
    case round =>
      obtain ⟨k, m, hk, rfl, rfl, hm, HM⟩ := hrel
      by_cases hlt : k < zl z
      · obtain ⟨b, off, rfl, hbw, hcs⟩ := hz.cells (by omega)
        have hcx := hcs k hlt
        have hxlt := (L_lt z.natAbs).get (by omega) k
        generalize hx : (L z.natAbs).getD k 0 = x at hcx hxlt
        have HV := Lib.hid hx
        clear hx hcs
        rcases k with _ | k
        · have hm0 : m = 0 := by have := HM.out; simpa using this
          subst hm0
          rw [Nat.add_zero] at hcx
          have ho := or_lo x (by omega)
          have HO := Lib.hid ho
          clear ho
          go_wp2
          go_round
          case rel =>
            refine ⟨1, x, hlt, rfl, int_eq HO.out, by omega, ?_⟩
            show x = _
            rw [val_take_step, HV.out]; simp
          case measure => simp [intOf]; omega
        · obtain rfl : k = 0 := by omega
          have hm32 : m < 4294967296 := by
            have h5 := HM.out
            have h6 := (L_lt z.natAbs).get (b := 4294967296) (by omega) 0
            rw [val_take_step] at h5
            simp at h5; simp at h6; omega
          have ho := or_hi m x hm32 hxlt
          have HO := Lib.hid ho
          clear ho
          go_wp2
          go_round
          case rel =>
            refine ⟨2, m + 4294967296 * x, hlt, rfl, int_eq HO.out, by omega, ?_⟩
            show m + 4294967296 * x = _
            rw [val_take_step _ _ (0 + 1), HV.out, ← HM.out]
          case measure => simp [intOf]; omega
      · have hfull : m = z.natAbs := by
          have h5 := HM.out
          rw [List.take_of_length_le (by show zl z ≤ k; omega), val_L] at h5
          exact h5
        have HF := Lib.hid hfull
        have HM2 := Lib.hid hm
        clear hfull hm
        by_cases hc : m ≤ 9223372036854775808
        · go_wp2
          go_ret2
          refine ⟨?_, below1 _ _⟩
          have e : z = -(m : Int) := by rw [HF.out]; omega
          rw [smallV_yes (by omega) (by omega)]
          show Ending.returned (.tuple #[.int .i64 (wrap64 (IntKind.u64.wrap (-(m : Int)))), .bool true]) = _
          rw [back_neg m hc, ← e]
        · go_wp2
          go_ret2
          refine ⟨?_, below1 _ _⟩
          have e : z = -(m : Int) := by rw [HF.out]; omega
          rw [smallV_no (by omega)]
          rfl

end Go.Proofs.YtnldopjbiacbfaaDoor

/- The reference's numbers: norm. No condition. -/
namespace Go.Proofs.YtnldopjbiacbfaaDoor
open Go.RowKit Anv

/-- The digits of a number to the base 65536, as the reference has them. -/
def D (N : Nat) : List Nat := dig 65536 N
def dn (N : Nat) : Nat := (D N).length
/-- How many digits a whole number has. -/
def dl (z : Int) : Nat := dn z.natAbs
theorem val_D (N : Nat) : val 65536 (D N) = N := val_dig (by omega) N
theorem D_lt (N : Nat) : AllLt 65536 (D N) := dig_lt (by omega) N
theorem D_zero : D 0 = [] := dig_zero _
theorem wide {xs : List Nat} (h : AllLt 65536 xs) : AllLt 4294967296 xs := fun x hx => by have := h x hx; omega
theorem dn_zero : dn 0 = 0 := by unfold dn; rw [D_zero]; rfl
theorem dn_pos {N : Nat} (h : 0 < N) : 0 < dn N := by unfold dn D; rw [dig_pos (by omega) h]; simp
theorem dn_dpos (N : Nat) : decide (0 < dn N) = decide (0 < N) := by
  rcases Nat.eq_zero_or_pos N with h | h
  · subst h; rw [dn_zero]
  · have := dn_pos h; simp [h, this]
/-- The digits of a whole number lie at A. -/
def RIn (w : World) (A : Option Addr) (c : Nat) (z : Int) : Prop := U32 w A (dl z) c (D z.natAbs)
/-- The value of a whole number of the reference. -/
def RAt (w : World) (v : Value) (z : Int) : Prop := ∃ A c, v = .agg #[.bool (neg z), .slice A (dl z) c] ∧ RIn w A c z
theorem RIn.below {w w' : World} {A : Option Addr} {c : Nat} {z : Int} (h : RIn w A c z) (hb : Below w.heap.size w w') : RIn w' A c z := U32.below h hb
theorem RAt.below {w w' : World} {v : Value} {z : Int} (h : RAt w v z) (hb : Below w.heap.size w w') : RAt w' v z := by
  obtain ⟨A, c, rfl, hz⟩ := h
  exact ⟨A, c, rfl, hz.below hb⟩
theorem sg_dl (b : Bool) (N : Nat) : dl (sg b N) = dn N := by unfold dl; rw [sg_abs]

theorem dn_eq {xs : List Nat} (h : AllLt 65536 xs) (m : Nat) (hm : m ≤ xs.length) (hz : ∀ i, m ≤ i → i < xs.length → xs.getD i 0 = 0) (hl : m = 0 ∨ xs.getD (m - 1) 0 ≠ 0) : m = dn (val 65536 xs) := by
  have h1 := take_eq_dig (by omega) h m hm hz hl
  unfold dn D
  rw [← h1]
  simp; omega

theorem take_dn {w : World} {A : Option Addr} {n c m : Nat} {xs : List Nat} (h : U32 w A n c xs) (hd : AllLt 65536 xs) (hm : m = dn (val 65536 xs)) (hmn : m ≤ n) (hz : ∀ i, m ≤ i → i < xs.length → xs.getD i 0 = 0) (hl : m = 0 ∨ xs.getD (m - 1) 0 ≠ 0) :
    U32 w A m c (D (val 65536 xs)) := by
  have h1 := take_eq_dig (by omega) hd m (by rw [h.len]; exact hmn) hz hl
  refine ⟨hm.symm, Nat.le_trans hmn h.cap, h.big, wide (D_lt _), fun hp => ?_⟩
  obtain ⟨b, off, hA, hb, hc⟩ := h.cells (by omega)
  refine ⟨b, off, hA, hb, fun i hi => ?_⟩
  rw [hc i (by omega)]
  unfold D
  rw [← h1]
  congr 3
  simp [List.getD, hi]

/-- What norm answers, behind a name. -/
def NormPost (w : World) (A : Option Addr) (c : Nat) (b : Bool) (N : Nat) (e : Ending) (w' : World) : Prop :=
  e = .returned (.agg #[.bool (neg (sg b N)), .slice A (dl (sg b N)) c]) ∧ RIn w' A c (sg b N) ∧ Below w.heap.size w w'

theorem norm_fin {w w' : World} {A : Option Addr} {n c : Nat} {xs : List Nat} {b : Bool} (h : U32 w A n c xs) (hd : AllLt 65536 xs) (m : Nat) (bv : Bool) (hmn : m ≤ n) (hz : ∀ j, m ≤ j → j < n → xs.getD j 0 = 0)
    (hl : m = 0 ∨ xs.getD (m - 1) 0 ≠ 0) (hbv : bv = (b && decide (0 < m))) (hb : Below w.heap.size w w') : NormPost w A c b (val 65536 xs) (.returned (.agg #[.bool bv, .slice A m c])) w' := by
  have hz' : ∀ j, m ≤ j → j < xs.length → xs.getD j 0 = 0 := fun j h1 h2 => hz j h1 (by rw [← h.len]; exact h2)
  have hm := dn_eq hd m (by rw [h.len]; exact hmn) hz' hl
  have hU := take_dn h hd hm hmn hz' hl
  refine ⟨?_, ?_, hb⟩
  · rw [hbv, sg_dl, sg_neg, ← dn_dpos (val 65536 xs), ← hm]
  · unfold RIn
    rw [sg_dl, sg_abs, ← hm]
    exact hU.below hb

theorem norm_ref {b : Bool} {A : Option Addr} {n c : Nat} {xs : List Nat} {w : World} (h : U32 w A n c xs) (hd : AllLt 65536 xs) :
    Calls Tryd.prog 84 #[.bool b, .slice A n c] w (NormPost w A c b (val 65536 xs)) := by
  have hc := h.cap
  have hb := h.big
  unfold maxLen at hb
  go_enter Tryd.func84, Tryd.ntmps84
  go_wp2
  go_loop [5] (fun i => ∃ m : Nat, m ≤ n ∧ i = .int .i64 m ∧ Hid (∀ j, m ≤ j → j < n → xs.getD j 0 = 0)) (fun i => (intOf i).toNat)
  case atStart => exact ⟨n, Nat.le_refl _, rfl, fun j h1 h2 => by omega⟩
  case round =>
    obtain ⟨m, hm, rfl, HZ⟩ := hrel
    rcases m with _ | m
    · cases b
      · go_wp2
        exact bodyPost_ret (v := .agg #[.bool false, .slice A 0 c]) (by simp [results, Tryd.results84, go_sem]) rfl (norm_fin h hd 0 false (by omega) HZ.out (.inl rfl) (by simp) (below1 _ _))
      · go_wp2
        exact bodyPost_ret (v := .agg #[.bool false, .slice A 0 c]) (by simp [results, Tryd.results84, go_sem]) rfl (norm_fin h hd 0 false (by omega) HZ.out (.inl rfl) (by simp) (below1 _ _))
    · obtain ⟨bb, off, rfl, hbw, hcs⟩ := h.cells (by omega)
      have hcell := hcs m (by omega)
      clear hcs
      generalize hx : xs.getD m 0 = x at hcell
      have HX := Lib.hid hx
      clear hx
      by_cases hx : x = 0
      · subst hx
        go_wp2
        go_round
        case rel =>
          refine ⟨m, by omega, rfl, fun j h1 h2 => ?_⟩
          rcases Nat.eq_or_lt_of_le h1 with h3 | h3
          · rw [← h3]; exact HX.out
          · exact HZ.out j (by omega) h2
        case measure => simp [intOf]
      · have hx0 : ((x : Int) == 0) = false := by simp; omega
        cases b
        · go_wp2
          exact bodyPost_ret (v := .agg #[.bool false, .slice (some ⟨bb, off, none⟩) (m + 1) c]) (by simp [results, Tryd.results84, go_sem]) rfl (norm_fin h hd (m + 1) false (by omega) HZ.out (.inr (by rw [Nat.add_sub_cancel, HX.out]; exact hx)) (by simp) (below1 _ _))
        · go_wp2
          exact bodyPost_ret (v := .agg #[.bool true, .slice (some ⟨bb, off, none⟩) (m + 1) c]) (by simp [results, Tryd.results84, go_sem]) rfl (norm_fin h hd (m + 1) true (by omega) HZ.out (.inr (by rw [Nat.add_sub_cancel, HX.out]; exact hx)) (by simp) (below1 _ _))

end Go.Proofs.YtnldopjbiacbfaaDoor

/- The reference's plus, minus. No condition. -/
namespace Go.Proofs.YtnldopjbiacbfaaDoor
open Go.RowKit Anv

theorem plus_step (x y o : List Nat) (i c : Nat) (hi : o.length = i)
    (h : val 65536 o + 65536 ^ i * c = val 65536 (x.take i) + val 65536 (y.take i)) :
    val 65536 (o ++ [(c + x.getD i 0 + y.getD i 0) % 65536]) + 65536 ^ (i + 1) * ((c + x.getD i 0 + y.getD i 0) / 65536) = val 65536 (x.take (i + 1)) + val 65536 (y.take (i + 1)) := by
  have h1 := add_step 65536 x y (o ++ [0]) i c (by simp; omega) (by rw [List.take_append_of_le_length (by omega), List.take_of_length_le (by omega)]; exact h)
  rw [List.take_of_length_le (by simp; omega)] at h1
  rw [← h1]
  congr 2
  rw [← hi, List.set_append_right _ _ (Nat.le_refl _)]
  simp

theorem plus_ref {A B : Option Addr} {n c m d : Nat} {xs ys : List Nat} {w : World} (hx : U32 w A n c xs) (hy : U32 w B m d ys) (hdx : AllLt 65536 xs) (hdy : AllLt 65536 ys) (hn : n ≤ 1000000) (hm : m ≤ 1000000) :
    Calls Tryd.prog 116 #[.slice A n c, .slice B m d] w fun e w' => ∃ A' k c' os, e = .returned (.slice A' k c') ∧ U32 w' A' k c' os ∧ AllLt 65536 os ∧ k ≤ n + m + 2 ∧ val 65536 os = val 65536 xs + val 65536 ys ∧ Below w.heap.size w w' := by
  go_enter Tryd.func116, Tryd.ntmps116
  go_wp2
  go_loopw [5, 6, 7] (fun o cy i wr => ∃ (k cc : Nat) (os : List Nat), k ≤ max n m + 1 ∧ i = .int .i64 k ∧ cy = .int .u32 cc ∧ cc ≤ 1 ∧
        Hid ((k = max n m + 1 → cc = 0) ∧ os.length = k ∧ AllLt 65536 os ∧ val 65536 os + 65536 ^ k * cc = val 65536 (xs.take k) + val 65536 (ys.take k)) ∧
        Hid (Own w.heap.size 45 wr o os) ∧ Hid (Below w.heap.size w wr)) (fun _ _ i _ => max n m + 1 - (intOf i).toNat)
  case atStart => exact ⟨0, 0, [], Nat.zero_le _, rfl, rfl, by omega, ⟨fun _ => rfl, rfl, AllLt.nil _, by simp⟩, Own.nil _ _ _, Below.refl _ _⟩
  case round =>
    obtain ⟨k, cc, os, hk, rfl, rfl, hcc, HI, HO, HW⟩ := hrel
    by_cases hend : k < n ∨ k < m ∨ 0 < cc
    · have hkk : k < max n m + 1 := by
        rcases Nat.lt_or_ge k (max n m + 1) with h1 | h1
        · exact h1
        · have := HI.out.1 (by omega); omega
      by_cases hlx : k < n
      · by_cases hly : k < m
        · obtain ⟨b, off, rfl, hwb, hcs⟩ := hx.cells (by omega)
          have hcx := (HW.out.cell (p := ⟨b, off + k, none⟩) hwb).trans (hcs k (by omega))
          have hxlt := hdx.get (by omega) k
          generalize hx : xs.getD k 0 = x at hcx hxlt
          have HX := Lib.hid hx
          clear hx hcs
          obtain ⟨b2, off2, rfl, hwb2, hcs⟩ := hy.cells (by omega)
          have hcy := (HW.out.cell (p := ⟨b2, off2 + k, none⟩) hwb2).trans (hcs k (by omega))
          have hylt := hdy.get (by omega) k
          generalize hy : ys.getD k 0 = y at hcy hylt
          have HY := Lib.hid hy
          clear hy hcs
          go_wp2_with (at_builtin; refine wpList_append_new _ rfl (.tmp 44) (.tmp 47) 22 rfl 45 4 Tryd.underlying22 info_u32 w.heap.size _ os HO.out 1 _ [(cc + x + y) % 65536] (by simp [nums]) rfl rfl rfl (by rw [HI.out.2.1]; simp only [maxLen]; omega) (by rw [HI.out.2.1]; omega) (HW.out.size) ?_; intro v1 w1 hO1 hs1 hB1; have HO1 := Lib.hid hO1; have HB1 := Lib.hid (hB1 _ _ (Nat.le_refl _) HW.out); clear hO1 hB1)
          go_roundw
          case rel =>
            have h3 := HI.out
            have h4 := plus_step xs ys os k cc h3.2.1 h3.2.2.2
            rw [HX.out, HY.out] at h4
            exact ⟨k + 1, (cc + x + y) / 65536, os ++ [(cc + x + y) % 65536], by omega, by go_num, int_eq (by omega), by omega, ⟨fun _ => by omega, by simp [h3.2.1], h3.2.2.1.append (AllLt.cons (Nat.mod_lt _ (by omega)) (AllLt.nil _)), h4⟩, HO1.out, HB1.out⟩
          case measure => simp [intOf]; omega
        · obtain ⟨b, off, rfl, hwb, hcs⟩ := hx.cells (by omega)
          have hcx := (HW.out.cell (p := ⟨b, off + k, none⟩) hwb).trans (hcs k (by omega))
          have hxlt := hdx.get (by omega) k
          generalize hx : xs.getD k 0 = x at hcx hxlt
          have HX := Lib.hid hx
          clear hx hcs
          have hy0 : ys.getD k 0 = 0 := getD_ge (by rw [hy.len]; omega)
          have HY := Lib.hid hy0
          clear hy0
          go_wp2_with (at_builtin; refine wpList_append_new _ rfl (.tmp 44) (.tmp 47) 22 rfl 45 4 Tryd.underlying22 info_u32 w.heap.size _ os HO.out 1 _ [(cc + x) % 65536] (by simp [nums]) rfl rfl rfl (by rw [HI.out.2.1]; simp only [maxLen]; omega) (by rw [HI.out.2.1]; omega) (HW.out.size) ?_; intro v1 w1 hO1 hs1 hB1; have HO1 := Lib.hid hO1; have HB1 := Lib.hid (hB1 _ _ (Nat.le_refl _) HW.out); clear hO1 hB1)
          go_roundw
          case rel =>
            have h3 := HI.out
            have h4 := plus_step xs ys os k cc h3.2.1 h3.2.2.2
            rw [HX.out, HY.out, Nat.add_zero] at h4
            exact ⟨k + 1, (cc + x) / 65536, os ++ [(cc + x) % 65536], by omega, by go_num, int_eq (by omega), by omega, ⟨fun _ => by omega, by simp [h3.2.1], h3.2.2.1.append (AllLt.cons (Nat.mod_lt _ (by omega)) (AllLt.nil _)), h4⟩, HO1.out, HB1.out⟩
          case measure => simp [intOf]; omega
      · by_cases hly : k < m
        · have hx0 : xs.getD k 0 = 0 := getD_ge (by rw [hx.len]; omega)
          have HX := Lib.hid hx0
          clear hx0
          obtain ⟨b2, off2, rfl, hwb2, hcs⟩ := hy.cells (by omega)
          have hcy := (HW.out.cell (p := ⟨b2, off2 + k, none⟩) hwb2).trans (hcs k (by omega))
          have hylt := hdy.get (by omega) k
          generalize hy : ys.getD k 0 = y at hcy hylt
          have HY := Lib.hid hy
          clear hy hcs
          go_wp2_with (at_builtin; refine wpList_append_new _ rfl (.tmp 44) (.tmp 47) 22 rfl 45 4 Tryd.underlying22 info_u32 w.heap.size _ os HO.out 1 _ [(cc + y) % 65536] (by simp [nums]) rfl rfl rfl (by rw [HI.out.2.1]; simp only [maxLen]; omega) (by rw [HI.out.2.1]; omega) (HW.out.size) ?_; intro v1 w1 hO1 hs1 hB1; have HO1 := Lib.hid hO1; have HB1 := Lib.hid (hB1 _ _ (Nat.le_refl _) HW.out); clear hO1 hB1)
          go_roundw
          case rel =>
            have h3 := HI.out
            have h4 := plus_step xs ys os k cc h3.2.1 h3.2.2.2
            rw [HX.out, HY.out, Nat.add_zero] at h4
            exact ⟨k + 1, (cc + y) / 65536, os ++ [(cc + y) % 65536], by omega, by go_num, int_eq (by omega), by omega, ⟨fun _ => by omega, by simp [h3.2.1], h3.2.2.1.append (AllLt.cons (Nat.mod_lt _ (by omega)) (AllLt.nil _)), h4⟩, HO1.out, HB1.out⟩
          case measure => simp [intOf]; omega
        · have hcc1 : 0 < cc := by omega
          have hx0 : xs.getD k 0 = 0 := getD_ge (by rw [hx.len]; omega)
          have HX := Lib.hid hx0
          clear hx0
          have hy0 : ys.getD k 0 = 0 := getD_ge (by rw [hy.len]; omega)
          have HY := Lib.hid hy0
          clear hy0
          go_wp2_with (at_builtin; refine wpList_append_new _ rfl (.tmp 44) (.tmp 47) 22 rfl 45 4 Tryd.underlying22 info_u32 w.heap.size _ os HO.out 1 _ [(cc) % 65536] (by simp [nums]) rfl rfl rfl (by rw [HI.out.2.1]; simp only [maxLen]; omega) (by rw [HI.out.2.1]; omega) (HW.out.size) ?_; intro v1 w1 hO1 hs1 hB1; have HO1 := Lib.hid hO1; have HB1 := Lib.hid (hB1 _ _ (Nat.le_refl _) HW.out); clear hO1 hB1)
          go_roundw
          case rel =>
            have h3 := HI.out
            have h4 := plus_step xs ys os k cc h3.2.1 h3.2.2.2
            rw [HX.out, HY.out, Nat.add_zero, Nat.add_zero] at h4
            exact ⟨k + 1, (cc) / 65536, os ++ [(cc) % 65536], by omega, by go_num, int_eq (by omega), by omega, ⟨fun _ => by omega, by simp [h3.2.1], h3.2.2.1.append (AllLt.cons (Nat.mod_lt _ (by omega)) (AllLt.nil _)), h4⟩, HO1.out, HB1.out⟩
          case measure => simp [intOf]; omega
    · go_wp2
      go_ret
      have h3 := HI.out
      obtain ⟨A', c', rfl, hU, hf⟩ := HO.out.u32 (wide h3.2.2.1)
      refine ⟨A', os.length, c', os, rfl, hU, h3.2.2.1, by rw [h3.2.1]; omega, ?_, HW.out⟩
      have h4 := h3.2.2.2
      rw [show cc = 0 from by omega, List.take_of_length_le (by rw [hx.len]; omega), List.take_of_length_le (by rw [hy.len]; omega)] at h4
      simpa using h4

end Go.Proofs.YtnldopjbiacbfaaDoor

/- The reference's minus. No condition. -/
namespace Go.Proofs.YtnldopjbiacbfaaDoor
open Go.RowKit Anv

theorem minus_step (x y o : List Nat) (i r d r' : Nat) (hi : o.length = i) (h : val 65536 o + val 65536 (y.take i) = val 65536 (x.take i) + 65536 ^ i * r) (hd : d + y.getD i 0 + r = x.getD i 0 + 65536 * r') :
    val 65536 (o ++ [d]) + val 65536 (y.take (i + 1)) = val 65536 (x.take (i + 1)) + 65536 ^ (i + 1) * r' := by
  have h1 := sub_step 65536 x y (o ++ [0]) i r d r' (by simp; omega) (by rw [List.take_append_of_le_length (by omega), List.take_of_length_le (by omega)]; exact h) hd
  rw [List.take_of_length_le (by simp; omega)] at h1
  rw [← h1]
  congr 2
  rw [← hi, List.set_append_right _ _ (Nat.le_refl _)]
  simp

theorem minus_own {A B : Option Addr} {n c m d : Nat} {xs ys : List Nat} {w : World} (hx : U32 w A n c xs) (hy : U32 w B m d ys) (hdx : AllLt 65536 xs) (hdy : AllLt 65536 ys) (hn : n ≤ 1000000) (hle : val 65536 ys ≤ val 65536 xs) :
    Calls Tryd.prog 115 #[.slice A n c, .slice B m d] w fun e w' => ∃ v os, e = .returned v ∧ Own w.heap.size 45 w' v os ∧ os.length = n ∧ AllLt 65536 os ∧ val 65536 os = val 65536 xs - val 65536 ys ∧ Below w.heap.size w w' := by
  have HL := Lib.hid hle
  clear hle
  go_enter Tryd.func115, Tryd.ntmps115
  go_wp2
  go_loopw [5, 6, 7] (fun o cy i wr => ∃ (k r : Nat) (os : List Nat), k ≤ n ∧ i = .int .i64 k ∧ cy = .int .u32 r ∧ r ≤ 1 ∧
        Hid (os.length = k ∧ AllLt 65536 os ∧ val 65536 os + val 65536 (ys.take k) = val 65536 (xs.take k) + 65536 ^ k * r) ∧
        Hid (Own w.heap.size 45 wr o os) ∧ Hid (Below w.heap.size w wr)) (fun _ _ i _ => n - (intOf i).toNat)
  case atStart => exact ⟨0, 0, [], Nat.zero_le _, rfl, rfl, by omega, ⟨rfl, AllLt.nil _, by simp⟩, Own.nil _ _ _, Below.refl _ _⟩
  case round =>
    obtain ⟨k, r, os, hk, rfl, rfl, hr, HI, HO, HW⟩ := hrel
    by_cases hlx : k < n
    · obtain ⟨b, off, rfl, hwb, hcs⟩ := hx.cells (by omega)
      have hcx := (HW.out.cell (p := ⟨b, off + k, none⟩) hwb).trans (hcs k (by omega))
      have hxlt := hdx.get (by omega) k
      generalize hx : xs.getD k 0 = x at hcx hxlt
      have HX := Lib.hid hx
      clear hx hcs
      by_cases hly : k < m
      · obtain ⟨b2, off2, rfl, hwb2, hcs⟩ := hy.cells (by omega)
        have hcy := (HW.out.cell (p := ⟨b2, off2 + k, none⟩) hwb2).trans (hcs k (by omega))
        have hylt := hdy.get (by omega) k
        generalize hy : ys.getD k 0 = y at hcy hylt
        have HY := Lib.hid hy
        clear hy hcs
        by_cases hxy : x < r + y
        · go_wp2_with (at_builtin; refine wpList_append_new _ rfl (.tmp 36) (.tmp 40) 22 rfl 45 4 Tryd.underlying22 info_u32 w.heap.size _ os HO.out 1 _ [x + 65536 - (r + y)] (by simp [nums]; omega) rfl rfl rfl (by rw [HI.out.1]; simp only [maxLen]; omega) (by rw [HI.out.1]; omega) (HW.out.size) ?_; intro v1 w1 hO1 hs1 hB1; have HO1 := Lib.hid hO1; have HB1 := Lib.hid (hB1 _ _ (Nat.le_refl _) HW.out); clear hO1 hB1)
          go_roundw
          case rel =>
            have h3 := HI.out
            have h4 := minus_step xs ys os k r (x + 65536 - (r + y)) 1 h3.1 h3.2.2 (by rw [HX.out, HY.out]; omega)
            exact ⟨k + 1, 1, os ++ [x + 65536 - (r + y)], by omega, by go_num, rfl, by omega, ⟨by simp [h3.1], h3.2.1.append (AllLt.cons (by omega) (AllLt.nil _)), h4⟩, HO1.out, HB1.out⟩
          case measure => simp [intOf]; omega
        · go_wp2_with (at_builtin; refine wpList_append_new _ rfl (.tmp 36) (.tmp 40) 22 rfl 45 4 Tryd.underlying22 info_u32 w.heap.size _ os HO.out 1 _ [x - (r + y)] (by simp [nums]; omega) rfl rfl rfl (by rw [HI.out.1]; simp only [maxLen]; omega) (by rw [HI.out.1]; omega) (HW.out.size) ?_; intro v1 w1 hO1 hs1 hB1; have HO1 := Lib.hid hO1; have HB1 := Lib.hid (hB1 _ _ (Nat.le_refl _) HW.out); clear hO1 hB1)
          go_roundw
          case rel =>
            have h3 := HI.out
            have h4 := minus_step xs ys os k r (x - (r + y)) 0 h3.1 h3.2.2 (by rw [HX.out, HY.out]; omega)
            exact ⟨k + 1, 0, os ++ [x - (r + y)], by omega, by go_num, rfl, by omega, ⟨by simp [h3.1], h3.2.1.append (AllLt.cons (by omega) (AllLt.nil _)), h4⟩, HO1.out, HB1.out⟩
          case measure => simp [intOf]; omega
      · have hy0 : ys.getD k 0 = 0 := getD_ge (by rw [hy.len]; omega)
        have HY := Lib.hid hy0
        clear hy0
        by_cases hxy : x < r
        · go_wp2_with (at_builtin; refine wpList_append_new _ rfl (.tmp 36) (.tmp 40) 22 rfl 45 4 Tryd.underlying22 info_u32 w.heap.size _ os HO.out 1 _ [x + 65536 - (r)] (by simp [nums]; omega) rfl rfl rfl (by rw [HI.out.1]; simp only [maxLen]; omega) (by rw [HI.out.1]; omega) (HW.out.size) ?_; intro v1 w1 hO1 hs1 hB1; have HO1 := Lib.hid hO1; have HB1 := Lib.hid (hB1 _ _ (Nat.le_refl _) HW.out); clear hO1 hB1)
          go_roundw
          case rel =>
            have h3 := HI.out
            have h4 := minus_step xs ys os k r (x + 65536 - (r)) 1 h3.1 h3.2.2 (by rw [HX.out, HY.out]; omega)
            exact ⟨k + 1, 1, os ++ [x + 65536 - (r)], by omega, by go_num, rfl, by omega, ⟨by simp [h3.1], h3.2.1.append (AllLt.cons (by omega) (AllLt.nil _)), h4⟩, HO1.out, HB1.out⟩
          case measure => simp [intOf]; omega
        · go_wp2_with (at_builtin; refine wpList_append_new _ rfl (.tmp 36) (.tmp 40) 22 rfl 45 4 Tryd.underlying22 info_u32 w.heap.size _ os HO.out 1 _ [x - (r)] (by simp [nums]; omega) rfl rfl rfl (by rw [HI.out.1]; simp only [maxLen]; omega) (by rw [HI.out.1]; omega) (HW.out.size) ?_; intro v1 w1 hO1 hs1 hB1; have HO1 := Lib.hid hO1; have HB1 := Lib.hid (hB1 _ _ (Nat.le_refl _) HW.out); clear hO1 hB1)
          go_roundw
          case rel =>
            have h3 := HI.out
            have h4 := minus_step xs ys os k r (x - (r)) 0 h3.1 h3.2.2 (by rw [HX.out, HY.out]; omega)
            exact ⟨k + 1, 0, os ++ [x - (r)], by omega, by go_num, rfl, by omega, ⟨by simp [h3.1], h3.2.1.append (AllLt.cons (by omega) (AllLt.nil _)), h4⟩, HO1.out, HB1.out⟩
          case measure => simp [intOf]; omega
    · go_wp2
      go_ret
      have h3 := HI.out
      obtain rfl : k = n := by omega
      refine ⟨_, os, rfl, HO.out, h3.1, h3.2.1, ?_, HW.out⟩
      have e1 : os.take k = os := by rw [List.take_of_length_le (by omega)]
      exact sub_final xs ys os k r h3.2.1 h3.1 hx.len hdx hr (by rw [e1]; exact h3.2.2) HL.out

theorem minus_ref {A B : Option Addr} {n c m d : Nat} {xs ys : List Nat} {w : World} (hx : U32 w A n c xs) (hy : U32 w B m d ys) (hdx : AllLt 65536 xs) (hdy : AllLt 65536 ys) (hn : n ≤ 1000000) (hle : val 65536 ys ≤ val 65536 xs) :
    Calls Tryd.prog 115 #[.slice A n c, .slice B m d] w fun e w' => ∃ A' c' os, e = .returned (.slice A' n c') ∧ U32 w' A' n c' os ∧ AllLt 65536 os ∧ val 65536 os = val 65536 xs - val 65536 ys ∧ (∀ a, A' = some a → w.heap.size ≤ a.block) ∧ Below w.heap.size w w' := by
  refine (minus_own hx hy hdx hdy hn hle).mono ?_
  rintro e w' ⟨v, os, rfl, hO, hl, ha, hv, hb⟩
  obtain ⟨A', c', rfl, hU, hf⟩ := hO.u32 (wide ha)
  rw [hl] at hU ⊢
  exact ⟨A', c', os, rfl, hU, ha, hv, hf, hb⟩

end Go.Proofs.YtnldopjbiacbfaaDoor

/- The reference's size: digits held against digits. No condition. -/
namespace Go.Proofs.YtnldopjbiacbfaaDoor
open Go.RowKit Anv

theorem size_ref {A B : Option Addr} {c d N M : Nat} {w : World} (hU : U32 w A (dn N) c (D N)) (kU : U32 w B (dn M) d (D M)) :
    Calls Tryd.prog 114 #[.slice A (dn N) c, .slice B (dn M) d] w fun e w' => e = .returned (.int .i64 (cmpI N M)) ∧ ∃ q, w' = w.drewN q := by
  have hbig := hU.big
  have hcap := hU.cap
  have kbig := kU.big
  have kcap := kU.cap
  unfold maxLen at hbig kbig
  by_cases h1 : dn N < dn M
  · have hne : ((dn N : Int) != (dn M : Int)) = true := by simp; omega
    go_enter Tryd.func114, Tryd.ntmps114
    go_wp2
    go_ret
    exact ⟨by rw [cmpI_lt (dig_len_lt (by omega) h1)]; rfl, 0, rfl⟩
  · by_cases h2 : dn M < dn N
    · have hne : ((dn N : Int) != (dn M : Int)) = true := by simp; omega
      go_enter Tryd.func114, Tryd.ntmps114
      go_wp2
      go_ret
      exact ⟨by rw [cmpI_gt (dig_len_lt (by omega) h2)]; rfl, 0, rfl⟩
    · have h3 : dn N = dn M := by omega
      have hne : ((dn N : Int) != (dn M : Int)) = false := by simp; omega
      have hne2 : ((dn N : Int) == (dn M : Int)) = true := by simp; omega
      have H3 := Lib.hid h3
      clear h3
      go_enter Tryd.func114, Tryd.ntmps114
      go_wp2
      go_loopw [5] (fun i wr => ∃ k : Nat, k ≤ dn N ∧ i = .int .i64 ((k : Int) - 1) ∧ Hid ((D N).drop k = (D M).drop k) ∧ Hid (∃ q, wr = w.drewN q)) (fun i _ => (intOf i + 1).toNat)
      case atStart => exact ⟨dn N, Nat.le_refl _, rfl, by show (D N).drop (dn N) = (D M).drop (dn N); rw [drop_all (xs := D N) (n := dn N) (Nat.le_refl _), drop_all (xs := D M) (n := dn N) (by rw [H3.out]; exact Nat.le_refl _)], 0, rfl⟩
      case round =>
        obtain ⟨k, hk, rfl, HD, HQ⟩ := hrel
        obtain ⟨q, rfl⟩ := HQ.out
        rcases k with _ | k
        · go_wp2
          go_ret
          refine ⟨?_, q, rfl⟩
          have h4 := HD.out
          rw [List.drop_zero, List.drop_zero] at h4
          have h5 : N = M := by rw [← val_D N, ← val_D M, h4]
          rw [h5, cmpI_eq]; rfl
        · rw [show (((k + 1 : Nat) : Int) - 1) = (k : Int) from by omega]
          obtain ⟨b, off, rfl, hbw, hcs⟩ := hU.cells (by omega)
          have hcx := hcs k (by omega)
          obtain ⟨b2, off2, rfl, hbw2, hcs2⟩ := kU.cells (by omega)
          have hcy := hcs2 k (by omega)
          clear hcs hcs2
          generalize hx : (D N).getD k 0 = x at hcx
          generalize hy : (D M).getD k 0 = y at hcy
          have HX := Lib.hid hx
          have HY := Lib.hid hy
          clear hx hy
          have hk0 : (0 : Int) ≤ (k : Int) := by omega
          have hk1 : (k : Int) < (dn N : Int) := by omega
          have hk2 : (k : Int) < (dn M : Int) := by omega
          have hkt : ((k : Int)).toNat = k := by omega
          have hlx : k < (D N).length := by show k < dn N; omega
          have hly : k < (D M).length := by show k < dn M; omega
          by_cases hxy : x < y
          · go_wp2_with fail
            go_quiet (fail)
            go_wp2_with fail
            go_ret
            refine ⟨?_, by simp only [World.drewN_drewN]; exact ⟨_, rfl⟩⟩
            rw [cmpI_lt]
            · rfl
            · rw [← val_D N, ← val_D M]
              exact val_lt_of _ _ k (D_lt N) HD.out hlx (by rw [HX.out, HY.out]; exact hxy) hly
          · by_cases hyx : y < x
            · go_wp2_with fail
              go_quiet (fail)
              go_wp2_with fail
              go_quiet (fail)
              go_wp2_with fail
              go_ret
              refine ⟨?_, by simp only [World.drewN_drewN]; exact ⟨_, rfl⟩⟩
              rw [cmpI_gt]
              · rfl
              · rw [← val_D N, ← val_D M]
                exact val_lt_of _ _ k (D_lt M) HD.out.symm hly (by rw [HX.out, HY.out]; exact hyx) hlx
            · go_wp2_with fail
              go_quiet (fail)
              go_wp2_with fail
              go_quiet (fail)
              go_wp2_with fail
              go_roundw
              case rel => exact ⟨k, by omega, rfl, by show (D N).drop k = (D M).drop k; rw [drop_step _ k hlx, drop_step _ k hly, HX.out, HY.out, HD.out, show x = y from by omega], by show ∃ q, _ = _; exact ⟨_, rfl⟩⟩
              case measure => simp [intOf]

theorem size_ref' {A B : Option Addr} {c d N M : Nat} {w : World} (hU : U32 w A (dn N) c (D N)) (kU : U32 w B (dn M) d (D M)) :
    Calls Tryd.prog 114 #[.slice A (dn N) c, .slice B (dn M) d] w fun e w' => e = .returned (.int .i64 (cmpI N M)) ∧ Below w.heap.size w w' := by
  refine (size_ref hU kU).mono ?_
  rintro e w' ⟨rfl, q, rfl⟩
  exact ⟨rfl, below_drewN' w q⟩

end Go.Proofs.YtnldopjbiacbfaaDoor

/- The reference: signs, sums, differences. No condition. -/
namespace Go.Proofs.YtnldopjbiacbfaaDoor
open Go.RowKit Anv

theorem dl_neg (z : Int) : dl (-z) = dl z := by unfold dl; rw [Int.natAbs_neg]
theorem norm_num' {b : Bool} {A : Option Addr} {c N : Nat} {w : World} (h : U32 w A (dn N) c (D N)) :
    Calls Tryd.prog 84 #[.bool b, .slice A (dn N) c] w (NormPost w A c b N) := by
  have h2 := norm_ref (b := b) h (D_lt N)
  rw [val_D] at h2
  exact h2

theorem sign_r {A : Option Addr} {c : Nat} {z : Int} {w : World} :
    Calls Tryd.prog 27 #[.agg #[.bool (neg z), .slice A (dl z) c]] w fun e w' => e = .returned (.int .i64 z.sign) ∧ Below w.heap.size w w' := by
  rcases Int.lt_trichotomy z 0 with h | h | h
  · have h1 : neg z = true := by unfold neg; simp [h]
    have h2 : 0 < dl z := dn_pos (by omega)
    have h3 : ((dl z : Int) == 0) = false := by simp; omega
    have h4 : z.sign = -1 := Int.sign_eq_neg_one_of_neg h
    rw [h1, h4]
    clear h1 h4 h
    go_enter Tryd.func27, Tryd.ntmps27
    go_wp2
    go_ret
    exact ⟨rfl, (Below.refl _ _).alloc (Nat.le_refl _) _⟩
  · subst h
    have h1 : neg 0 = false := by unfold neg; simp
    have h2 : dl 0 = 0 := dn_zero
    rw [h1, h2]
    clear h1 h2
    go_enter Tryd.func27, Tryd.ntmps27
    go_wp2
    go_ret
    exact ⟨rfl, (Below.refl _ _).alloc (Nat.le_refl _) _⟩
  · have h1 : neg z = false := by unfold neg; simp; omega
    have h2 : 0 < dl z := dn_pos (by omega)
    have h3 : ((dl z : Int) == 0) = false := by simp; omega
    have h4 : z.sign = 1 := Int.sign_eq_one_of_pos h
    rw [h1, h4]
    clear h1 h4 h
    go_enter Tryd.func27, Tryd.ntmps27
    go_wp2
    go_ret
    exact ⟨rfl, (Below.refl _ _).alloc (Nat.le_refl _) _⟩

theorem neg_r {A : Option Addr} {c : Nat} {z : Int} {w : World} (h : RIn w A c z) :
    Calls Tryd.prog 123 #[.agg #[.bool (neg z), .slice A (dl z) c]] w fun e w' => ∃ v, e = .returned v ∧ RAt w' v (-z) ∧ Below w.heap.size w w' := by
  go_enter Tryd.func123, Tryd.ntmps123
  go_wp2_with fail
  refine (norm_num' (h.below (below2 _ _ _))).mono ?_
  rintro e w1 ⟨rfl, hz, hb⟩
  rw [sg_not] at hz ⊢
  have HZ := Lib.hid hz
  clear hz
  obtain ⟨hc, hf⟩ := bcell hb
  have hs : w.heap.size + 1 < w1.heap.size := by have := hb.size; simp at this; omega
  go_wp2
  exact bodyPost_ret (v := .agg #[.bool (neg (-z)), .slice A (dl (-z)) c]) (by simp [results, Tryd.results123, go_sem, hc]) rfl
    ⟨_, rfl, ⟨_, _, rfl, U32.store2 HZ.out (by simp [hc]) (by simp [hc]) _ _⟩, below_store2 (thru (below2 _ _ _) hb) (by omega) _ _⟩

theorem abs_r {A : Option Addr} {c : Nat} {z : Int} {w : World} (h : RIn w A c z) :
    Calls Tryd.prog 111 #[.agg #[.bool (neg z), .slice A (dl z) c]] w fun e w' => ∃ v, e = .returned v ∧ RAt w' v (z.natAbs : Int) ∧ Below w.heap.size w w' := by
  go_enter Tryd.func111, Tryd.ntmps111
  go_wp2_with fail
  refine (norm_num' (h.below (below2 _ _ _))).mono ?_
  rintro e w1 ⟨rfl, hz, hb⟩
  rw [sg_false] at hz ⊢
  have HZ := Lib.hid hz
  clear hz
  obtain ⟨hc, hf⟩ := bcell hb
  have hs : w.heap.size + 1 < w1.heap.size := by have := hb.size; simp at this; omega
  go_wp2
  exact bodyPost_ret (v := .agg #[.bool (neg (z.natAbs : Int)), .slice A (dl (z.natAbs : Int)) c]) (by simp [results, Tryd.results111, go_sem, hc]) rfl
    ⟨_, rfl, ⟨_, _, rfl, U32.store2 HZ.out (by simp [hc]) (by simp [hc]) _ _⟩, below_store2 (thru (below2 _ _ _) hb) (by omega) _ _⟩

end Go.Proofs.YtnldopjbiacbfaaDoor

/- The reference: sums. No condition. -/
namespace Go.Proofs.YtnldopjbiacbfaaDoor
open Go.RowKit Anv

theorem add_same_r {A B : Option Addr} {c d : Nat} {x y : Int} {w : World} (hx : RIn w A c x) (hy : RIn w B d y) (hn : dl x ≤ 1000000) (hm : dl y ≤ 1000000) (bx : Bool) (HE : Hid (sg bx (x.natAbs + y.natAbs) = x + y)) :
    Calls Tryd.prog 90 #[.agg #[.bool bx, .slice A (dl x) c], .agg #[.bool bx, .slice B (dl y) d]] w fun e w' => ∃ v, e = .returned v ∧ RAt w' v (x + y) ∧ Below w.heap.size w w' := by
  go_enter Tryd.func90, Tryd.ntmps90
  go_wp2_with fail
  go_region_held3 (fun w' => w'.cell? ⟨w.heap.size, 0, none⟩ = some (.bool bx) ∧ w'.cell? ⟨w.heap.size, 1, none⟩ = some (.slice A (dl x) c) ∧ w'.cell? ⟨w.heap.size + 1, 0, none⟩ = some (.bool bx) ∧ w'.cell? ⟨w.heap.size + 1, 1, none⟩ = some (.slice B (dl y) d)) (first | exact ⟨t0.c0, t0.c1, t1.c0, t1.c1⟩ | exact ⟨r0.c0, r0.c1, r1.c0, r1.c1⟩ | exact ⟨(r0.far2 (by omega) _ _).c0, (r0.far2 (by omega) _ _).c1, (r1.far2 (by omega) _ _).c0, (r1.far2 (by omega) _ _).c1⟩ | go_keep)
    (first | (go_at_call 116; refine (plus_ref (U32.below hx (by exact (below3 _ _ _ _).drew)) (U32.below hy (by exact (below3 _ _ _ _).drew)) (D_lt _) (D_lt _) hn hm).mono ?_; rintro e w2 ⟨A1, k1, c1, os, rfl, hU, hdo, hk1, hv, hb⟩; clear hk1; obtain ⟨t0, t1, t2, hbw2, hs⟩ := boxes3 (undrew hb); rw [val_D, val_D] at hv) | (go_at_call 84; refine (norm_ref hU hdo).mono ?_; rintro e w3 ⟨rfl, hz, hb3⟩; have r0 := t0.below hb3 t0.lt; have r1 := t1.below hb3 t1.lt; have r2 := t2.below hb3 t2.lt; have hc0 := r2.c0; have hc1 := r2.c1; have hf0 := r2.f 0; have hf1 := r2.f 1; have hs2 := r2.lt))
  go_wp2
  rw [hv] at hz
  rw [HE.out] at hz ⊢
  exact bodyPost_ret (v := .agg #[.bool (neg (x + y)), .slice A1 (dl (x + y)) c1]) (by simp [results, Tryd.results90, go_sem, hc0, hc1]) rfl ⟨_, rfl, ⟨_, _, rfl, U32.store2 hz hc0 hc1 _ _⟩, below_store2 (thru hbw2 hb3) (by omega) _ _⟩

theorem add_lt_r {A B : Option Addr} {c d : Nat} {x y : Int} {w : World} (hx : RIn w A c x) (hy : RIn w B d y) (hm : dl y ≤ 1000000) (bx : Bool) (HE : Hid (sg (!bx) (y.natAbs - x.natAbs) = x + y)) (hlt : x.natAbs < y.natAbs) :
    Calls Tryd.prog 90 #[.agg #[.bool bx, .slice A (dl x) c], .agg #[.bool !bx, .slice B (dl y) d]] w fun e w' => ∃ v, e = .returned v ∧ RAt w' v (x + y) ∧ Below w.heap.size w w' := by
  have hcb : ¬ 0 ≤ cmpI x.natAbs y.natAbs := by have := (cmpI_neg x.natAbs y.natAbs).2 hlt; omega
  have hbd := cmpI_bd x.natAbs y.natAbs
  have ht : (bx == !bx) = false := by cases bx <;> rfl
  go_enter Tryd.func90, Tryd.ntmps90
  go_wp2_with fail
  refine (size_ref' (U32.below hx (by exact (below3 _ _ _ _))) (U32.below hy (by exact (below3 _ _ _ _)))).mono ?_
  rintro e w1 ⟨rfl, hb⟩
  obtain ⟨q0, q1, q2, hbw, hs⟩ := boxes3 hb
  have a0 := q0.c0
  have a1 := q0.c1
  have a2 := q1.c0
  have a3 := q1.c1
  clear hb
  go_wp2_with fail
  go_region_held3 (fun w' => w'.cell? ⟨w.heap.size, 0, none⟩ = some (.bool bx) ∧ w'.cell? ⟨w.heap.size, 1, none⟩ = some (.slice A (dl x) c) ∧ w'.cell? ⟨w.heap.size + 1, 0, none⟩ = some (.bool !bx) ∧ w'.cell? ⟨w.heap.size + 1, 1, none⟩ = some (.slice B (dl y) d)) (first | exact ⟨q0.c0, q0.c1, q1.c0, q1.c1⟩ | exact ⟨t0.c0, t0.c1, t1.c0, t1.c1⟩ | exact ⟨r0.c0, r0.c1, r1.c0, r1.c1⟩ | exact ⟨(r0.far2 (by omega) _ _).c0, (r0.far2 (by omega) _ _).c1, (r1.far2 (by omega) _ _).c0, (r1.far2 (by omega) _ _).c1⟩ | go_keep)
    (first | (go_at_call 115; refine (minus_ref (U32.below hy (by exact hbw.drew)) (U32.below hx (by exact hbw.drew)) (D_lt _) (D_lt _) hm (by rw [val_D, val_D]; omega)).mono ?_; rintro e w2 ⟨A1, c1, os, rfl, hU, hdo, hv, _, hb⟩; have t0 := q0.below (undrew hb) q0.lt; have t1 := q1.below (undrew hb) q1.lt; have t2 := q2.below (undrew hb) q2.lt; have hbw2 := thru hbw (undrew hb); rw [val_D, val_D] at hv) | (go_at_call 84; refine (norm_ref hU hdo).mono ?_; rintro e w3 ⟨rfl, hz, hb3⟩; have r0 := t0.below hb3 t0.lt; have r1 := t1.below hb3 t1.lt; have r2 := t2.below hb3 t2.lt; have hc0 := r2.c0; have hc1 := r2.c1; have hf0 := r2.f 0; have hf1 := r2.f 1; have hs2 := r2.lt))
  go_wp2
  rw [hv] at hz
  rw [HE.out] at hz ⊢
  exact bodyPost_ret (v := .agg #[.bool (neg (x + y)), .slice A1 (dl (x + y)) c1]) (by simp [results, Tryd.results90, go_sem, hc0, hc1]) rfl ⟨_, rfl, ⟨_, _, rfl, U32.store2 hz hc0 hc1 _ _⟩, below_store2 (thru hbw2 hb3) (by omega) _ _⟩

theorem add_ge_r {A B : Option Addr} {c d : Nat} {x y : Int} {w : World} (hx : RIn w A c x) (hy : RIn w B d y) (hn : dl x ≤ 1000000) (bx : Bool) (HE : Hid (sg bx (x.natAbs - y.natAbs) = x + y)) (hlt : ¬ x.natAbs < y.natAbs) :
    Calls Tryd.prog 90 #[.agg #[.bool bx, .slice A (dl x) c], .agg #[.bool !bx, .slice B (dl y) d]] w fun e w' => ∃ v, e = .returned v ∧ RAt w' v (x + y) ∧ Below w.heap.size w w' := by
  have hcb : 0 ≤ cmpI x.natAbs y.natAbs := by
    rcases Int.lt_or_le (cmpI x.natAbs y.natAbs) 0 with h | h
    · exact absurd ((cmpI_neg x.natAbs y.natAbs).1 h) hlt
    · exact h
  have hbd := cmpI_bd x.natAbs y.natAbs
  have ht : (bx == !bx) = false := by cases bx <;> rfl
  go_enter Tryd.func90, Tryd.ntmps90
  go_wp2_with fail
  refine (size_ref' (U32.below hx (by exact (below3 _ _ _ _))) (U32.below hy (by exact (below3 _ _ _ _)))).mono ?_
  rintro e w1 ⟨rfl, hb⟩
  obtain ⟨q0, q1, q2, hbw, hs⟩ := boxes3 hb
  have a0 := q0.c0
  have a1 := q0.c1
  have a2 := q1.c0
  have a3 := q1.c1
  clear hb
  go_wp2_with fail
  go_region_held3 (fun w' => w'.cell? ⟨w.heap.size, 0, none⟩ = some (.bool bx) ∧ w'.cell? ⟨w.heap.size, 1, none⟩ = some (.slice A (dl x) c) ∧ w'.cell? ⟨w.heap.size + 1, 0, none⟩ = some (.bool !bx) ∧ w'.cell? ⟨w.heap.size + 1, 1, none⟩ = some (.slice B (dl y) d)) (first | exact ⟨q0.c0, q0.c1, q1.c0, q1.c1⟩ | exact ⟨t0.c0, t0.c1, t1.c0, t1.c1⟩ | exact ⟨r0.c0, r0.c1, r1.c0, r1.c1⟩ | exact ⟨(r0.far2 (by omega) _ _).c0, (r0.far2 (by omega) _ _).c1, (r1.far2 (by omega) _ _).c0, (r1.far2 (by omega) _ _).c1⟩ | go_keep)
    (first | (go_at_call 115; refine (minus_ref (U32.below hx (by exact hbw.drew)) (U32.below hy (by exact hbw.drew)) (D_lt _) (D_lt _) hn (by rw [val_D, val_D]; omega)).mono ?_; rintro e w2 ⟨A1, c1, os, rfl, hU, hdo, hv, _, hb⟩; have t0 := q0.below (undrew hb) q0.lt; have t1 := q1.below (undrew hb) q1.lt; have t2 := q2.below (undrew hb) q2.lt; have hbw2 := thru hbw (undrew hb); rw [val_D, val_D] at hv) | (go_at_call 84; refine (norm_ref hU hdo).mono ?_; rintro e w3 ⟨rfl, hz, hb3⟩; have r0 := t0.below hb3 t0.lt; have r1 := t1.below hb3 t1.lt; have r2 := t2.below hb3 t2.lt; have hc0 := r2.c0; have hc1 := r2.c1; have hf0 := r2.f 0; have hf1 := r2.f 1; have hs2 := r2.lt))
  go_wp2
  rw [hv] at hz
  rw [HE.out] at hz ⊢
  exact bodyPost_ret (v := .agg #[.bool (neg (x + y)), .slice A1 (dl (x + y)) c1]) (by simp [results, Tryd.results90, go_sem, hc0, hc1]) rfl ⟨_, rfl, ⟨_, _, rfl, U32.store2 hz hc0 hc1 _ _⟩, below_store2 (thru hbw2 hb3) (by omega) _ _⟩

theorem add_r {A B : Option Addr} {c d : Nat} {x y : Int} {w : World} (hx : RIn w A c x) (hy : RIn w B d y) (hn : dl x ≤ 1000000) (hm : dl y ≤ 1000000) :
    Calls Tryd.prog 90 #[.agg #[.bool (neg x), .slice A (dl x) c], .agg #[.bool (neg y), .slice B (dl y) d]] w fun e w' => ∃ v, e = .returned v ∧ RAt w' v (x + y) ∧ Below w.heap.size w w' := by
  by_cases h : neg x = neg y
  · rw [← h]
    exact add_same_r hx hy hn hm (neg x) (sg_add x y h)
  · have h2 : neg y = !neg x := by cases h3 : neg x <;> cases h4 : neg y <;> simp_all
    rw [h2]
    by_cases hlt : x.natAbs < y.natAbs
    · refine add_lt_r hx hy hm (neg x) ?_ hlt
      rw [← h2, sg_sub y x (fun h3 => h h3.symm) (by omega), Int.add_comm]
      exact rfl
    · exact add_ge_r hx hy hn (neg x) (sg_sub x y h (by omega)) hlt

theorem sub_r {A B : Option Addr} {c d : Nat} {x y : Int} {w : World} (hx : RIn w A c x) (hy : RIn w B d y) (hn : dl x ≤ 1000000) (hm : dl y ≤ 1000000) :
    Calls Tryd.prog 112 #[.agg #[.bool (neg x), .slice A (dl x) c], .agg #[.bool (neg y), .slice B (dl y) d]] w fun e w' => ∃ v, e = .returned v ∧ RAt w' v (x - y) ∧ Below w.heap.size w w' := by
  go_enter Tryd.func112, Tryd.ntmps112
  go_wp2_with fail
  go_region_held3 (fun w' => w'.cell? ⟨w.heap.size, 0, none⟩ = some (.bool (neg x)) ∧ w'.cell? ⟨w.heap.size, 1, none⟩ = some (.slice A (dl x) c) ∧ w'.cell? ⟨w.heap.size + 1, 0, none⟩ = some (.bool (neg y)) ∧ w'.cell? ⟨w.heap.size + 1, 1, none⟩ = some (.slice B (dl y) d)) (first | exact ⟨q0.c0, q0.c1, q1.c0, q1.c1⟩ | exact ⟨r0.c0, r0.c1, r1.c0, r1.c1⟩ | exact ⟨(r0.far2 (by omega) _ _).c0, (r0.far2 (by omega) _ _).c1, (r1.far2 (by omega) _ _).c0, (r1.far2 (by omega) _ _).c1⟩ | go_keep)
    (first | (go_at_call 123; refine (neg_r (RIn.below hy (by exact (below3 _ _ _ _).drew))).mono ?_; rintro e w1 ⟨v, rfl, ⟨A1, c1, rfl, hz1⟩, hb⟩; obtain ⟨q0, q1, q2, hbw, hs⟩ := boxes3 (undrew hb)) | (go_at_call 90; refine (add_r (RIn.below hx hbw) hz1 hn (by rw [dl_neg]; exact hm)).mono ?_; rintro e w2 ⟨v2, rfl, ⟨A2, c2, rfl, hz2⟩, hb2⟩; have r0 := q0.below hb2 q0.lt; have r1 := q1.below hb2 q1.lt; have r2 := q2.below hb2 q2.lt; have hc0 := r2.c0; have hc1 := r2.c1; have hf0 := r2.f 0; have hf1 := r2.f 1; have hs2 : w.heap.size + 1 + 1 < w2.heap.size := by have := hb2.size; omega))
  go_wp2
  rw [← Int.sub_eq_add_neg] at hz2 ⊢
  exact bodyPost_ret (v := .agg #[.bool (neg (x - y)), .slice A2 (dl (x - y)) c2]) (by simp [results, Tryd.results112, go_sem, hc0, hc1]) rfl ⟨_, rfl, ⟨_, _, rfl, U32.store2 hz2 hc0 hc1 _ _⟩, below_store2 (thru hbw hb2) (by omega) _ _⟩

end Go.Proofs.YtnldopjbiacbfaaDoor

/- The reference: comparisons; digits out of limbs and back. No condition. -/
namespace Go.Proofs.YtnldopjbiacbfaaDoor
open Go.RowKit Anv

theorem sign_bd (z : Int) : -1 ≤ z.sign ∧ z.sign ≤ 1 := by
  rcases Int.lt_trichotomy z 0 with h | h | h
  · rw [Int.sign_eq_neg_one_of_neg h]; omega
  · subst h; simp
  · rw [Int.sign_eq_one_of_pos h]; omega

/-- The reference's comparison, as it is reckoned. -/
theorem cmp_sign' (x y : Int) : (if x.sign ≠ y.sign then (if x.sign < y.sign then -1 else 1) else if x.sign < 0 then cmpI y.natAbs x.natAbs else cmpI x.natAbs y.natAbs) = (x - y).sign := by
  rw [← cmp_sign x y]
  unfold neg
  rcases Int.lt_trichotomy x 0 with h | h | h <;> rcases Int.lt_trichotomy y 0 with h' | h' | h'
  all_goals (try subst h); (try subst h')
  all_goals simp_all [Int.sign_eq_neg_one_of_neg, Int.sign_eq_one_of_pos, cmpI]
  all_goals (repeat' split) <;> omega

end Go.Proofs.YtnldopjbiacbfaaDoor

/- The reference: digits out of limbs. No condition. -/
namespace Go.Proofs.YtnldopjbiacbfaaDoor
open Go.RowKit Anv

/-- Limbs, halved. -/
def halves (xs : List Nat) : List Nat := xs.flatMap fun x => [x % 65536, x / 65536]
theorem halves_snoc (xs : List Nat) (x : Nat) : halves (xs ++ [x]) = halves xs ++ [x % 65536, x / 65536] := by simp [halves]
theorem halves_len (xs : List Nat) : (halves xs).length = 2 * xs.length := by
  induction xs with
  | nil => rfl
  | cons x xs ih => simp [halves] at ih ⊢; omega
theorem halves_lt {xs : List Nat} (h : AllLt 4294967296 xs) : AllLt 65536 (halves xs) := by
  intro y hy
  simp [halves] at hy
  obtain ⟨x, hx, hy⟩ := hy
  have := h x hx
  omega
theorem val_halves (xs : List Nat) : val 65536 (halves xs) = val 4294967296 xs := by
  induction xs with
  | nil => rfl
  | cons x xs ih =>
    have e : halves (x :: xs) = [x % 65536, x / 65536] ++ halves xs := by simp [halves]
    rw [e, val_append, ih]
    simp
    omega

theorem halves_take {xs : List Nat} {k x : Nat} (hk : k < xs.length) (hx : xs.getD k 0 = x) : halves (xs.take (k + 1)) = halves (xs.take k) ++ [x % 65536, x / 65536] := by
  rw [List.take_succ_eq_append_getElem hk, halves_snoc, ← getD_lt hk, hx]

theorem make_r {b : Bool} {A : Option Addr} {n c : Nat} {xs : List Nat} {w : World} (hx : U32 w A n c xs) (hn : n ≤ 1000000) :
    Calls Tryd.prog 79 #[.bool b, .slice A n c] w fun e w' => ∃ v, e = .returned v ∧ RAt w' v (sg b (val 4294967296 xs)) ∧ Below w.heap.size w w' := by
  go_enter Tryd.func79, Tryd.ntmps79
  go_wp2
  go_loopw [5, 6] (fun o i wr => ∃ k : Nat, k ≤ n ∧ i = .int .i64 k ∧ Hid (Own (w.heap.size + 1) 45 wr o (halves (xs.take k))) ∧ Hid (Below (w.heap.size + 1) (w.alloc (.cells #[.bool false, .slice none 0 0] 30)) wr)) (fun _ i _ => n - (intOf i).toNat)
  case atStart => exact ⟨0, Nat.zero_le _, rfl, Own.nil _ _ _, Below.refl _ _⟩
  case round =>
    obtain ⟨k, hk, rfl, HO, HW⟩ := hrel
    by_cases hlt : k < n
    · obtain ⟨b1, off, rfl, hwb, hcs⟩ := hx.cells (by omega)
      have hcx := ((HW.out.cell (p := ⟨b1, off + k, none⟩) (by show b1 < _; omega)).trans (World.cell?_alloc_lt w _ ⟨b1, off + k, none⟩ hwb)).trans (hcs k hlt)
      have hxlt := hx.lt.get (by omega) k
      generalize hx : xs.getD k 0 = x at hcx hxlt
      have HX := Lib.hid hx
      clear hx hcs
      have hk0 : (0 : Int) ≤ (k : Int) := by omega
      have hk1 : (k : Int) < (n : Int) := by omega
      have hkt : ((k : Int)).toNat = k := by omega
      have hm1 : (x : Int).tmod 65536 = (x : Int) % 65536 := Int.tmod_eq_emod_of_nonneg (by omega)
      have hm2 : IntKind.u32.wrap ((x : Int) / 65536) = (x : Int) / 65536 := IntWalk.u32_in _ (by omega)
      go_wp2_with fail
      go_region_held3 (fun w' => w'.cell? ⟨b1, off + k, none⟩ = some (.int .u32 x)) (first | go_keep | (exact hkeep))
        ((refine step_append_nums rfl (.tmp 13) (.tmp 24) 22 rfl 45 4 Tryd.underlying22 info_u32 (w.heap.size + 1) _ (halves (xs.take k)) (Own.drew (HO.out.below (below1 _ _) (Nat.le_refl _))) ⟨wr.heap.size, 0, none⟩ 2 2 [x % 65536, x / 65536] rfl (cells_new' wr _ _ (by simp [nums])) (by rfl) (by rfl) ?_ ?_ ?_ ?_; (rw [halves_len, List.length_take]; simp only [maxLen]; omega); (rw [halves_len, List.length_take]; omega); (have := HW.out.size; simp at this; simp; omega); intro v1 w1 hO1 hs1 hB1; have HO1 := Lib.hid hO1; have hB1' := hB1 _ _ (Nat.le_refl _) ((HW.out.alloc (by have := HW.out.size; simp at this; omega) _).drew); have HB1 := Lib.hid hB1'; have hkeep : w1.cell? ⟨b1, off + k, none⟩ = some (.int .u32 x) := ((hB1'.cell (p := ⟨b1, off + k, none⟩) (by show b1 < _; omega)).trans ((HW.out.cell (p := ⟨b1, off + k, none⟩) (by show b1 < _; omega)).symm)).trans hcx; clear hO1 hB1 hB1'))
      go_wp2
      go_roundw
      case rel => exact ⟨k + 1, by omega, by go_num, by rw [halves_take (by rw [hx.len]; exact hlt) HX.out]; exact HO1.out, HB1.out⟩
      case measure => simp [intOf]; omega
    · have hL : AllLt 65536 (halves (xs.take k)) := halves_lt (hx.lt.take k)
      obtain ⟨A1, c1, rfl, hU, hf⟩ := HO.out.u32 (wide hL)
      have hv : val 65536 (halves (xs.take k)) = val 4294967296 xs := by rw [val_halves, List.take_of_length_le (by rw [hx.len]; omega)]
      have HV := Lib.hid hv
      have q := (Box2.new w 30 (.bool false) (.slice none 0 0)).below HW.out (Nat.lt_succ_self _)
      clear hv hf
      go_wp2_with fail
      refine (norm_ref hU hL).mono ?_
      rintro e w2 ⟨rfl, hz, hb⟩
      have q2 := q.below hb q.lt
      have hc0 := q2.c0
      have hc1 := q2.c1
      have hf0 := q2.f 0
      have hf1 := q2.f 1
      have hs := q2.lt
      rw [HV.out] at hz ⊢
      go_wp2
      exact bodyPost_ret (v := .agg #[.bool (neg (sg b (val 4294967296 xs))), .slice A1 (dl (sg b (val 4294967296 xs))) c1]) (by simp [results, Tryd.results79, go_sem, hc0, hc1]) rfl
        ⟨_, rfl, ⟨_, _, rfl, U32.store2 hz hc0 hc1 _ _⟩, below_store2 (thru (w := w) (W := wr) ((below1 w _).trans (HW.out.mono (Nat.le_succ _))) hb) (Nat.le_refl _) _ _⟩

end Go.Proofs.YtnldopjbiacbfaaDoor

/- The reference: limbs out of digits. No condition. -/
namespace Go.Proofs.YtnldopjbiacbfaaDoor
open Go.RowKit Anv

/-- The first k limbs out of digits. -/
def prs (ds : List Nat) (k : Nat) : List Nat := (List.range k).map fun j => ds.getD (2 * j) 0 + 65536 * ds.getD (2 * j + 1) 0
theorem prs_succ (ds : List Nat) (k : Nat) : prs ds (k + 1) = prs ds k ++ [ds.getD (2 * k) 0 + 65536 * ds.getD (2 * k + 1) 0] := by
  simp [prs, List.range_succ]
theorem prs_len (ds : List Nat) (k : Nat) : (prs ds k).length = k := by simp [prs]
theorem prs_lt {ds : List Nat} (h : AllLt 65536 ds) (k : Nat) : AllLt 4294967296 (prs ds k) := by
  intro x hx
  simp [prs] at hx
  obtain ⟨j, _, rfl⟩ := hx
  have h1 := h.get (by omega) (2 * j)
  have h2 := h.get (by omega) (2 * j + 1)
  simp at h1 h2
  omega
theorem val_prs (ds : List Nat) (k : Nat) : val 4294967296 (prs ds k) = val 65536 (ds.take (2 * k)) := by
  induction k with
  | zero => simp [prs]
  | succ k ih =>
    rw [prs_succ, val_append, ih, prs_len, show 2 * (k + 1) = 2 * k + 1 + 1 from by omega, val_take_step, val_take_step, val_cons, val_nil, Nat.mul_zero, Nat.add_zero, Nat.mul_add, Nat.add_assoc]
    have e : (4294967296 : Nat) ^ k = 65536 ^ (2 * k) := by rw [Nat.pow_mul]
    rw [e, Nat.pow_succ, Nat.mul_assoc]
theorem prs_L {N k : Nat} (h1 : 2 * k ≤ dn N + 1) (h2 : dn N ≤ 2 * k) : prs (D N) k = L N := by
  have hv : val 4294967296 (prs (D N) k) = N := by
    rw [val_prs, List.take_of_length_le h2, val_D]
  have hn : Norm (prs (D N) k) := by
    rcases k with _ | k
    · simp [Norm, prs]
    · rw [prs_succ]
      unfold Norm
      rw [List.getLast?_concat]
      intro h3
      have h4 : (D N).getD (2 * k) 0 + 65536 * (D N).getD (2 * k + 1) 0 = 0 := by simpa using h3
      have h5 := dig_norm (b := 65536) (by omega) N
      unfold Norm at h5
      rw [List.getLast?_eq_getElem?] at h5
      have h6 : dn N = (dig 65536 N).length := rfl
      rcases Nat.lt_or_ge (2 * k + 1) (dn N) with h7 | h7
      · have h8 : (D N).getD (2 * k + 1) 0 = 0 := by omega
        have h9 : (dig 65536 N).length - 1 = 2 * k + 1 := by omega
        rw [h9] at h5
        apply h5
        rw [getD_lt (by exact h7)] at h8
        rw [List.getElem?_eq_getElem (by omega)]
        exact congrArg some h8
      · have h8 : (D N).getD (2 * k) 0 = 0 := by omega
        have h9 : (dig 65536 N).length - 1 = 2 * k := by omega
        rw [h9] at h5
        apply h5
        rw [getD_lt (by show 2 * k < dn N; omega)] at h8
        rw [List.getElem?_eq_getElem (by omega)]
        exact congrArg some h8
  rw [← L_of (prs_lt (D_lt N) k) hn, hv]

theorem limbs_r {A : Option Addr} {c : Nat} {z : Int} {w : World} (hz : RIn w A c z) (hn : dl z ≤ 1000000) :
    Calls Tryd.prog 83 #[.agg #[.bool (neg z), .slice A (dl z) c]] w fun e w' => ∃ A' c', e = .returned (.slice A' (zl z) c') ∧ ZIn w' A' c' z ∧ Below w.heap.size w w' := by
  go_enter Tryd.func83, Tryd.ntmps83
  go_wp2
  go_loopw [3, 4] (fun o i wr => ∃ k : Nat, 2 * k ≤ dl z + 1 ∧ i = .int .i64 ((2 * k : Nat) : Int) ∧ Hid (Own (w.heap.size + 1) 45 wr o (prs (D z.natAbs) k)) ∧ Hid (Below (w.heap.size + 1) (w.alloc (.cells #[.bool (neg z), .slice A (dl z) c] 30)) wr)) (fun _ i _ => dl z + 2 - (intOf i).toNat)
  case atStart => exact ⟨0, by omega, rfl, Own.nil _ _ _, Below.refl _ _⟩
  case round =>
    obtain ⟨k, hk, rfl, HO, HW⟩ := hrel
    have q := (Box2.new w 30 (.bool (neg z)) (.slice A (dl z) c)).below HW.out (Nat.lt_succ_self _)
    have a1 := q.c1
    clear q
    obtain ⟨i, hi⟩ : ∃ i, i = 2 * k := ⟨_, rfl⟩
    rw [← hi]
    have HI := Lib.hid hi
    by_cases hlt : i < dl z
    · obtain ⟨b1, off, rfl, hwb, hcs⟩ := hz.cells (by omega)
      have hcx := ((HW.out.cell (p := ⟨b1, off + i, none⟩) (by show b1 < _; omega)).trans (World.cell?_alloc_lt w _ ⟨b1, off + i, none⟩ hwb)).trans (hcs i hlt)
      have hxlt := (D_lt z.natAbs).get (by omega) i
      by_cases hlt2 : i + 1 < dl z
      · have hcy := ((HW.out.cell (p := ⟨b1, off + (i + 1), none⟩) (by show b1 < _; omega)).trans (World.cell?_alloc_lt w _ ⟨b1, off + (i + 1), none⟩ hwb)).trans (hcs (i + 1) hlt2)
        have hylt := (D_lt z.natAbs).get (by omega) (i + 1)
        generalize hx : (D z.natAbs).getD i 0 = x at hcx hxlt
        generalize hy : (D z.natAbs).getD (i + 1) 0 = y at hcy hylt
        have HX := Lib.hid hx
        have HY := Lib.hid hy
        clear hx hy hcs hi
        go_wp2_with (at_builtin; refine wpList_append_new _ rfl (.tmp 25) (.tmp 34) 22 rfl 45 4 Tryd.underlying22 info_u32 (w.heap.size + 1) _ (prs (D z.natAbs) k) HO.out 1 _ [x + 65536 * y] (by simp [nums]) rfl rfl rfl (by rw [prs_len]; simp only [maxLen]; omega) (by rw [prs_len]; omega) (by have := HW.out.size; simp at this; omega) ?_; intro v1 w1 hO1 hs1 hB1; have HO1 := Lib.hid hO1; have HB1 := Lib.hid (hB1 _ _ (Nat.le_refl _) HW.out); clear hO1 hB1)
        go_roundw
        case rel => exact ⟨k + 1, by have := HI.out; omega, by have := HI.out; go_num, by rw [prs_succ, ← HI.out, HX.out, HY.out]; exact HO1.out, HB1.out⟩
        case measure => simp [intOf]; omega
      · have hy : (D z.natAbs).getD (i + 1) 0 = 0 := getD_ge (by show dl z ≤ _; omega)
        generalize hx : (D z.natAbs).getD i 0 = x at hcx hxlt
        have HX := Lib.hid hx
        have HY := Lib.hid hy
        clear hx hy hcs hi
        go_wp2_with (at_builtin; refine wpList_append_new _ rfl (.tmp 25) (.tmp 34) 22 rfl 45 4 Tryd.underlying22 info_u32 (w.heap.size + 1) _ (prs (D z.natAbs) k) HO.out 1 _ [x] (by simp [nums]) rfl rfl rfl (by rw [prs_len]; simp only [maxLen]; omega) (by rw [prs_len]; omega) (by have := HW.out.size; simp at this; omega) ?_; intro v1 w1 hO1 hs1 hB1; have HO1 := Lib.hid hO1; have HB1 := Lib.hid (hB1 _ _ (Nat.le_refl _) HW.out); clear hO1 hB1)
        go_roundw
        case rel => exact ⟨k + 1, by have := HI.out; omega, by have := HI.out; go_num, by rw [prs_succ, ← HI.out, HX.out, HY.out]; exact HO1.out, HB1.out⟩
        case measure => simp [intOf]; omega
    · clear hi
      go_wp2
      go_ret
      have e := prs_L (N := z.natAbs) (k := k) (by show 2 * k ≤ dl z + 1; omega) (by show dl z ≤ 2 * k; have := HI.out; omega)
      have hO := HO.out
      rw [e] at hO
      obtain ⟨A', c', rfl, hU, _⟩ := hO.u32 (L_lt _)
      exact ⟨A', c', rfl, hU, (below1 w _).trans (HW.out.mono (Nat.le_succ _))⟩

end Go.Proofs.YtnldopjbiacbfaaDoor

/- The reference: small numbers, products. No condition. -/
namespace Go.Proofs.YtnldopjbiacbfaaDoor
open Go.RowKit Anv

theorem D_pos {N : Nat} (h : 0 < N) : D N = (N % 65536) :: D (N / 65536) := dig_pos (by omega) h
theorem dn_le_of_lt {N k : Nat} (h : N < 65536 ^ k) : dn N ≤ k := dig_len_of_lt (by omega) h

theorem of_r {n : Int} {w : World} (h1 : -9223372036854775808 ≤ n) (h2 : n ≤ 9223372036854775807) :
    Calls Tryd.prog 91 #[.int .i64 n] w fun e w' => ∃ v, e = .returned v ∧ RAt w' v n ∧ Below w.heap.size w w' := by
  obtain ⟨N, hN⟩ : ∃ N, N = n.natAbs := ⟨_, rfl⟩
  have hNN : N < 18446744073709551616 := by omega
  have hdn : dn N ≤ 4 := dn_le_of_lt (by omega)
  have HN := Lib.hid hN
  have key : ∀ (b : Bool), b = decide (n < 0) → sg b N = n := by
    intro b hb
    subst hb hN
    by_cases h : n < 0 <;> simp [sg, h] <;> omega
  by_cases hn : n < 0
  · have hw : IntKind.u64.wrap (-IntKind.u64.wrap n) = (N : Int) := by rw [IntKind.wrap_u64, IntKind.wrap_u64]; omega
    have HK := Lib.hid (key true (by simp [hn]))
    clear key hN
    go_enter Tryd.func91, Tryd.ntmps91
    go_wp2
    go_loopw [3, 4] (fun u o wr => ∃ (m : Nat) (os : List Nat), m ≤ N ∧ u = .int .u64 m ∧ Hid (D N = os ++ D m) ∧ Hid (Own (w.heap.size + 1) 45 wr o os) ∧ Hid (Below (w.heap.size + 1) (w.alloc (.cells #[.bool false, .slice none 0 0] 30)) wr)) (fun u _ _ => (intOf u).toNat)
    case atStart => exact ⟨N, [], Nat.le_refl _, rfl, by show D N = [] ++ D N; rfl, Own.nil _ _ _, Below.refl _ _⟩
    case round =>
      obtain ⟨m, os, hm, rfl, HD, HO, HW⟩ := hrel
      have hol : os.length ≤ 4 := by
        have h5 : (D N).length ≤ 4 := hdn
        rw [HD.out, List.length_append] at h5; omega
      by_cases hpos : 0 < m
      · go_wp2_with (at_builtin; refine wpList_append_new _ rfl (.tmp 13) (.tmp 17) 22 rfl 45 4 Tryd.underlying22 info_u32 (w.heap.size + 1) _ os HO.out 1 _ [m % 65536] (by simp [nums]; try omega) rfl rfl rfl (by simp only [maxLen]; omega) (by omega) (by have := HW.out.size; simp at this; omega) ?_; intro v1 w1 hO1 hs1 hB1; have HO1 := Lib.hid hO1; have HB1 := Lib.hid (hB1 _ _ (Nat.le_refl _) HW.out); clear hO1 hB1)
        go_roundw
        case rel => exact ⟨m / 65536, os ++ [m % 65536], by omega, int_eq (by omega), by show D N = _; rw [HD.out, D_pos hpos]; simp, HO1.out, HB1.out⟩
        case measure => simp [intOf]; omega
      · have hm0 : m = 0 := by omega
        have e : os = D N := by rw [HD.out, hm0, D_zero, List.append_nil]
        subst e
        clear HD
        obtain ⟨A1, c1, rfl, hU, hf⟩ := HO.out.u32 (wide (D_lt N))
        have q := (Box2.new w 30 (.bool false) (.slice none 0 0)).below HW.out (Nat.lt_succ_self _)
        go_wp2_with fail
        refine (norm_num' hU).mono ?_
        rintro e w2 ⟨rfl, hz, hb⟩
        have q2 := q.below hb q.lt
        have hc0 := q2.c0
        have hc1 := q2.c1
        have hf0 := q2.f 0
        have hf1 := q2.f 1
        have hs := q2.lt
        rw [HK.out] at hz ⊢
        go_wp2
        exact bodyPost_ret (v := .agg #[.bool (neg n), .slice A1 (dl n) c1]) (by simp [results, Tryd.results91, go_sem, hc0, hc1]) rfl
          ⟨_, rfl, ⟨_, _, rfl, U32.store2 hz hc0 hc1 _ _⟩, below_store2 (thru (w := w) (W := wr) ((below1 w _).trans (HW.out.mono (Nat.le_succ _))) hb) (Nat.le_refl _) _ _⟩
  · obtain ⟨N', rfl⟩ : ∃ N' : Nat, n = (N' : Int) := ⟨n.natAbs, by omega⟩
    obtain rfl : N = N' := by omega
    have HK := Lib.hid (key false (by simp))
    clear key hN
    go_enter Tryd.func91, Tryd.ntmps91
    go_wp2
    go_loopw [3, 4] (fun u o wr => ∃ (m : Nat) (os : List Nat), m ≤ N ∧ u = .int .u64 m ∧ Hid (D N = os ++ D m) ∧ Hid (Own (w.heap.size + 1) 45 wr o os) ∧ Hid (Below (w.heap.size + 1) (w.alloc (.cells #[.bool false, .slice none 0 0] 30)) wr)) (fun u _ _ => (intOf u).toNat)
    case atStart => exact ⟨N, [], Nat.le_refl _, rfl, by show D N = [] ++ D N; rfl, Own.nil _ _ _, Below.refl _ _⟩
    case round =>
      obtain ⟨m, os, hm, rfl, HD, HO, HW⟩ := hrel
      have hol : os.length ≤ 4 := by
        have h5 : (D N).length ≤ 4 := hdn
        rw [HD.out, List.length_append] at h5; omega
      by_cases hpos : 0 < m
      · go_wp2_with (at_builtin; refine wpList_append_new _ rfl (.tmp 13) (.tmp 17) 22 rfl 45 4 Tryd.underlying22 info_u32 (w.heap.size + 1) _ os HO.out 1 _ [m % 65536] (by simp [nums]; try omega) rfl rfl rfl (by simp only [maxLen]; omega) (by omega) (by have := HW.out.size; simp at this; omega) ?_; intro v1 w1 hO1 hs1 hB1; have HO1 := Lib.hid hO1; have HB1 := Lib.hid (hB1 _ _ (Nat.le_refl _) HW.out); clear hO1 hB1)
        go_roundw
        case rel => exact ⟨m / 65536, os ++ [m % 65536], by omega, int_eq (by omega), by show D N = _; rw [HD.out, D_pos hpos]; simp, HO1.out, HB1.out⟩
        case measure => simp [intOf]; omega
      · have hm0 : m = 0 := by omega
        have e : os = D N := by rw [HD.out, hm0, D_zero, List.append_nil]
        subst e
        clear HD
        obtain ⟨A1, c1, rfl, hU, hf⟩ := HO.out.u32 (wide (D_lt N))
        have q := (Box2.new w 30 (.bool false) (.slice none 0 0)).below HW.out (Nat.lt_succ_self _)
        go_wp2_with fail
        rw [show decide ((N : Int) < 0) = false from by simp]
        refine (norm_num' hU).mono ?_
        rintro e w2 ⟨rfl, hz, hb⟩
        have q2 := q.below hb q.lt
        have hc0 := q2.c0
        have hc1 := q2.c1
        have hf0 := q2.f 0
        have hf1 := q2.f 1
        have hs := q2.lt
        rw [HK.out] at hz ⊢
        go_wp2
        exact bodyPost_ret (v := .agg #[.bool (neg (N : Int)), .slice A1 (dl (N : Int)) c1]) (by simp [results, Tryd.results91, go_sem, hc0, hc1]) rfl
          ⟨_, rfl, ⟨_, _, rfl, U32.store2 hz hc0 hc1 _ _⟩, below_store2 (thru (w := w) (W := wr) ((below1 w _).trans (HW.out.mono (Nat.le_succ _))) hb) (Nat.le_refl _) _ _⟩

end Go.Proofs.YtnldopjbiacbfaaDoor

/- The reference: products. No condition. -/
namespace Go.Proofs.YtnldopjbiacbfaaDoor
open Go.RowKit Anv

/-- What stands while a row of a product is laid: T is what was there. -/
def RowInv (ys os : List Nat) (n m k q cc x T : Nat) : Prop :=
  os.length = n + m + 1 ∧ AllLt 65536 os ∧ val 65536 os + 65536 ^ (k + q) * cc = T + 65536 ^ k * (x * val 65536 (ys.take q)) ∧
    (∀ j, k + m + 1 ≤ j → os.getD j 0 = 0) ∧ (q ≤ m → os.getD (k + m) 0 = 0) ∧ (q = m + 1 → cc = 0) ∧ q ≤ m + 1

theorem row_step {ys os : List Nat} {n m k q cc x T o y : Nat} (h : RowInv ys os n m k q cc x T) (hk : k < n) (hcc : cc < 65536) (hx : x < 65536) (hy : y < 65536) (hqm : q < m ∨ q = m ∧ y = 0) (hyy : ys.getD q 0 = y) (ho : os.getD (k + q) 0 = o) :
    RowInv ys (os.set (k + q) ((cc + o + x * y) % 65536)) n m k (q + 1) ((cc + o + x * y) / 65536) x T ∧ (cc + o + x * y) / 65536 < 65536 := by
  obtain ⟨h1, h2, h3, h4, h5, h6, h7⟩ := h
  have h8 := mul_step 65536 ys os k q cc x T (by omega) h3
  rw [hyy, ho] at h8
  have hol : o < 65536 := by rw [← ho]; exact h2.get (by omega) _
  have hmc := mul_carry 65536 cc x y o (by omega) hcc hx hy hol
  have e : cc + x * y + o = cc + o + x * y := by omega
  rw [e] at h8 hmc
  refine ⟨⟨by simpa using h1, h2.set _ (Nat.mod_lt _ (by omega)), h8, fun j hj => by rw [dset_ne (by omega)]; exact h4 j hj, fun hq => ?_, fun hq => ?_, by omega⟩, hmc.1⟩
  · rw [dset_ne (by omega)]; exact h5 (by omega)
  · have hqe : q = m := by omega
    have hy0 : y = 0 := by
      rcases hqm with h | h
      · omega
      · exact h.2
    have ho0 : o = 0 := by rw [← ho, hqe]; exact h5 (by omega)
    subst hy0 ho0
    rw [Nat.mul_zero]
    omega

set_option maxHeartbeats 800000 in
theorem mul_r {A B : Option Addr} {c d : Nat} {x y : Int} {w : World} (hx : RIn w A c x) (hy : RIn w B d y) (hn : dl x ≤ 1000000) (hm : dl y ≤ 1000000) :
    Calls Tryd.prog 29 #[.agg #[.bool (neg x), .slice A (dl x) c], .agg #[.bool (neg y), .slice B (dl y) d]] w fun e w' => ∃ v, e = .returned v ∧ RAt w' v (x * y) ∧ Below w.heap.size w w' := by
  have HS := Lib.hid (sg_mul x y)
  obtain ⟨n, hxn⟩ : ∃ n, n = dl x := ⟨_, rfl⟩
  obtain ⟨m, hym⟩ : ∃ m, m = dl y := ⟨_, rfl⟩
  obtain ⟨xs, hxs⟩ : ∃ xs, xs = D x.natAbs := ⟨_, rfl⟩
  obtain ⟨ys, hys⟩ : ∃ ys, ys = D y.natAbs := ⟨_, rfl⟩
  have ux : U32 w A n c xs := by rw [hxn, hxs]; exact hx
  have uy : U32 w B m d ys := by rw [hym, hys]; exact hy
  have dx : AllLt 65536 xs := by rw [hxs]; exact D_lt _
  have dy : AllLt 65536 ys := by rw [hys]; exact D_lt _
  have HX := Lib.hid hxs
  have HY := Lib.hid hys
  rw [← hxn, ← hym]
  rw [← hxn] at hn
  rw [← hym] at hm
  clear hx hy hxn hym hxs hys
  go_enter Tryd.func29, Tryd.ntmps29
  go_wp2_with (at_make; refine wpList_make_nums _ rfl _ _ 22 rfl 45 .u32 4 Tryd.underlying22 info_u32 _ _ _ _ (n + m + 1) rfl rfl (by omega) (by omega) (by omega) (by omega) ?_; intro w1 hA1 hB1 hz1)
  obtain ⟨q0, q1, q2, hbw, hs⟩ := boxes3 hB1
  rw [size3] at hA1
  have HA := Lib.hid hA1
  have HQ := Lib.hid (And.intro q0 (And.intro q1 (And.intro q2 hbw)))
  clear hA1 hB1 hz1 q0 q1 q2 hbw hs
  go_loopw [6] (fun i wr => ∃ (k : Nat) (os : List Nat), k ≤ n ∧ i = .int .i64 k ∧
      Hid (os.length = n + m + 1 ∧ AllLt 65536 os ∧ val 65536 os = val 65536 (xs.take k) * val 65536 ys ∧ ∀ j, k + m ≤ j → os.getD j 0 = 0) ∧
      Hid (Arr .u32 45 wr (w.heap.size + 1 + 1 + 1) os) ∧
      Hid (Box2 30 wr w.heap.size (.bool (neg x)) (.slice A n c) ∧ Box2 30 wr (w.heap.size + 1) (.bool (neg y)) (.slice B m d) ∧ Box2 30 wr (w.heap.size + 1 + 1) (.bool false) (.slice none 0 0) ∧ Below w.heap.size w wr)) (fun i _ => n - (intOf i).toNat)
  case atStart => exact ⟨0, _, Nat.zero_le _, rfl, ⟨by simp, AllLt.zeros (by omega) _, by rw [val_zeros]; simp, fun j _ => zeros_getD _ _⟩, HA.out, HQ.out⟩
  case round =>
    clear HA HQ
    obtain ⟨k, os, hk, rfl, HI, HR, HQ⟩ := hrel
    have a01 := HQ.out.1.c1
    have a11 := HQ.out.2.1.c1
    by_cases hlt : k < n
    · go_wp2
      obtain ⟨wo, rfl⟩ : ∃ wo : World, wo = wr := ⟨_, rfl⟩
      have hxlt := dx.get (b := 65536) (by omega) k
      generalize hx : xs.getD k 0 = xk at hxlt
      have HXK := Lib.hid hx
      clear hx
      go_loopw [7, 8] (fun cy j wr => ∃ (q cc : Nat) (os : List Nat), q ≤ m + 1 ∧ j = .int .i64 q ∧ cy = .int .u64 cc ∧ cc < 65536 ∧
          Hid (RowInv ys os n m k q cc xk (val 65536 (xs.take k) * val 65536 ys)) ∧
          Hid (Arr .u32 45 wr (w.heap.size + 1 + 1 + 1) os) ∧
          Hid (Box2 30 wr w.heap.size (.bool (neg x)) (.slice A n c) ∧ Box2 30 wr (w.heap.size + 1) (.bool (neg y)) (.slice B m d) ∧ Box2 30 wr (w.heap.size + 1 + 1) (.bool false) (.slice none 0 0) ∧ Below w.heap.size w wr)) (fun _ j _ => m + 1 - (intOf j).toNat)
      case atStart => exact ⟨0, 0, os, by omega, rfl, rfl, by omega, ⟨HI.out.1, HI.out.2.1, by simp [HI.out.2.2.1], fun j hj => HI.out.2.2.2 j (by omega), fun _ => HI.out.2.2.2 _ (by omega), by omega, by omega⟩, HR.out, HQ.out⟩
      case round =>
        clear HI HR HQ a01 a11
        obtain ⟨q, cc, os, hq, rfl, rfl, hcc, HI, HR, HQ⟩ := hrel
        have a01 := HQ.out.1.c1
        have a11 := HQ.out.2.1.c1
        by_cases hqm : q < m
        · obtain ⟨b1, off1, rfl, hw1, hcs1⟩ := ux.cells (by omega)
          have hcx := (HQ.out.2.2.2.cell (p := ⟨b1, off1 + k, none⟩) hw1).trans (hcs1 k hlt)
          rw [HXK.out] at hcx
          obtain ⟨b2, off2, rfl, hw2, hcs2⟩ := uy.cells (by omega)
          have hcy := (HQ.out.2.2.2.cell (p := ⟨b2, off2 + q, none⟩) hw2).trans (hcs2 q hqm)
          have hylt := dy.get (b := 65536) (by omega) q
          generalize hyq : ys.getD q 0 = yq at hcy hylt
          have HYQ := Lib.hid hyq
          clear hyq hcs1 hcs2
          have hco := HR.out.cell (k + q) (by rw [HI.out.1]; omega)
          have hfo := HR.out.frozen (k + q)
          have holt := HI.out.2.1.get (b := 65536) (by omega) (k + q)
          generalize ho : os.getD (k + q) 0 = o at hco holt
          have HO := Lib.hid ho
          clear ho
          have hst := row_step HI.out hlt hcc hxlt hylt (.inl hqm) HYQ.out HO.out
          have hdlt := hst.2
          have HST := Lib.hid hst.1
          clear hst
          have hxy : xk * yq ≤ 65535 * 65535 := Nat.mul_le_mul (by omega) (by omega)
          have hk0 : (0 : Int) ≤ (k : Int) := by omega
          have hk1 : (k : Int) < (n : Int) := by omega
          have hkt : ((k : Int)).toNat = k := by omega
          have hq0 : (0 : Int) ≤ (q : Int) := by omega
          have hq1 : (q : Int) < (m : Int) := by omega
          have hqt : ((q : Int)).toNat = q := by omega
          go_upto_region 11 with fail
          have v1 : IntKind.u64.wrap ((xk : Int) * yq) = (xk : Int) * yq := IntWalk.u64_in _ (by rw [← Int.natCast_mul]; omega)
          have v2 : IntKind.u64.wrap ((cc : Int) + o + (xk : Int) * yq) = (cc : Int) + o + (xk : Int) * yq := IntWalk.u64_in _ (by rw [← Int.natCast_mul]; omega)
          go_quiet (fail)
          clear v1 v2
          have R' : Arr .u32 45 (wr.drewN nq) (w.heap.size + 1 + 1 + 1) os := HR.out
          have Q' : Hid (Box2 30 (wr.drewN nq) w.heap.size (.bool (neg x)) (.slice (some ⟨b1, off1, none⟩) n c) ∧ Box2 30 (wr.drewN nq) (w.heap.size + 1) (.bool (neg y)) (.slice (some ⟨b2, off2, none⟩) m d) ∧ Box2 30 (wr.drewN nq) (w.heap.size + 1 + 1) (.bool false) (.slice none 0 0) ∧ Below w.heap.size w (wr.drewN nq)) := ⟨HQ.out.1, HQ.out.2.1, HQ.out.2.2.1, bdrewN HQ.out.2.2.2 nq⟩
          have RH := Lib.hid R'
          have hco' : (wr.drewN nq).cell? ⟨w.heap.size + 1 + 1 + 1, k + q, none⟩ = some (.int .u32 o) := hco
          have hfo' : (wr.drewN nq).frozen? ⟨w.heap.size + 1 + 1 + 1, k + q, none⟩ = false := hfo
          clear R' hco hfo hcx hcy a01 a11 HR HQ
          generalize wr.drewN nq = W2 at *
          go_wp2
          go_roundw
          case rel => exact ⟨q + 1, (cc + o + xk * yq) / 65536, os.set (k + q) ((cc + o + xk * yq) % 65536), by omega, by go_num, int_eq (by omega), hdlt, HST.out, RH.out.set' _ _ _ (by omega), Q'.out.1.far (by simp <;> omega) _, Q'.out.2.1.far (by simp <;> omega) _, Q'.out.2.2.1.far (by simp <;> omega) _, Q'.out.2.2.2.setCell (by simp <;> omega) _⟩
          case measure => simp [intOf] <;> omega
        · by_cases hcz : 0 < cc
          · have hqe : q = m := by
              have h7 := HI.out.2.2.2.2.2
              rcases Nat.lt_or_ge m q with h | h
              · have := h7.1 (by omega); omega
              · omega
            subst hqe
            have hco := HR.out.cell (k + q) (by rw [HI.out.1]; omega)
            have hfo := HR.out.frozen (k + q)
            have ho0 := HI.out.2.2.2.2.1 (Nat.le_refl _)
            rw [ho0] at hco
            have hst := row_step (y := 0) HI.out hlt hcc hxlt (by omega) (.inr ⟨rfl, rfl⟩) (getD_ge (by rw [uy.len]; exact Nat.le_refl _)) ho0
            rw [Nat.mul_zero, Nat.add_zero, Nat.add_zero] at hst
            have hdlt := hst.2
            have HST := Lib.hid hst.1
            clear hst ho0
            go_wp2
            go_roundw
            case rel => exact ⟨q + 1, cc / 65536, os.set (k + q) (cc % 65536), by omega, by go_num, int_eq (by omega), hdlt, HST.out, HR.out.set' _ _ _ (by omega), HQ.out.1.far (by simp <;> omega) _, HQ.out.2.1.far (by simp <;> omega) _, HQ.out.2.2.1.far (by simp <;> omega) _, HQ.out.2.2.2.setCell (by simp <;> omega) _⟩
            case measure => simp [intOf] <;> omega
          · go_wp2
            go_roundw
            case rel =>
              have h3 := HI.out
              have hcz' : cc = 0 := by omega
              have hv := h3.2.2.1
              rw [hcz', Nat.mul_zero, Nat.add_zero, List.take_of_length_le (l := ys) (by rw [uy.len]; omega)] at hv
              exact ⟨k + 1, os, by omega, by go_num, ⟨h3.1, h3.2.1, by rw [hv, val_take_step, HXK.out, Nat.add_mul, Nat.mul_assoc], fun j hj => h3.2.2.2.1 j (by omega)⟩, HR.out, HQ.out⟩
            case measure => simp [intOf] <;> omega
    · have h3 := HI.out
      have hv : val 65536 os = x.natAbs * y.natAbs := by
        rw [h3.2.2.1, List.take_of_length_le (by rw [ux.len]; omega), HX.out, HY.out, val_D, val_D]
      have HV := Lib.hid hv
      have hlt' := h3.2.1
      have hU := HR.out.u32 (wide h3.2.1) h3.1 (by simp only [maxLen]; omega)
      have a00 := HQ.out.1.c0
      have a10 := HQ.out.2.1.c0
      clear hv h3
      go_wp2_with fail
      refine (norm_ref hU hlt').mono ?_
      rintro e w2 ⟨rfl, hz, hb⟩
      have t2 := HQ.out.2.2.1.below hb HQ.out.2.2.1.lt
      have hc0 := t2.c0
      have hc1 := t2.c1
      have hf0 := t2.f 0
      have hf1 := t2.f 1
      have hs2 := t2.lt
      rw [HV.out, HS.out] at hz ⊢
      go_wp2
      exact bodyPost_ret (v := .agg #[.bool (neg (x * y)), .slice (some ⟨w.heap.size + 1 + 1 + 1, 0, none⟩) (dl (x * y)) (n + m + 1)]) (by simp [results, Tryd.results29, go_sem, hc0, hc1]) rfl
        ⟨_, rfl, ⟨_, _, rfl, U32.store2 hz hc0 hc1 _ _⟩, below_store2 (thru HQ.out.2.2.2 hb) (by omega) _ _⟩

end Go.Proofs.YtnldopjbiacbfaaDoor

/- The statements' own small functions: is, zero, live, long, of. No condition. -/
namespace Go.Proofs.YtnldopjbiacbfaaDoor
open Go.RowKit Anv

set_option maxHeartbeats 400000 in
theorem is_true {A B : Option Addr} {c d : Nat} {z : Int} {w : World} (hx : ZIn w A c z) (hy : RIn w B d z) (hn : zl z ≤ 1000000) (hm : dl z ≤ 1000000) :
    Calls Tryd.prog 28 #[.agg #[.bool (neg z), .slice A (zl z) c], .agg #[.bool (neg z), .slice B (dl z) d]] w fun e w' => e = .returned (.bool true) ∧ Below w.heap.size w w' := by
  have hnn : (neg z != neg z) = false := by simp
  have hln : ((zl z : Int) != (zl z : Int)) = false := by simp
  go_enter Tryd.func28, Tryd.ntmps28
  go_wp2_with fail
  refine (limbs_z (hx.below (below2 _ _ _)) hn).mono ?_
  rintro e w1 ⟨A1, c1, rfl, h1, hf1, hb1⟩
  obtain ⟨q0, q1, hbw, hs⟩ := boxes2 hb1
  have a2 := q1.c0
  have a3 := q1.c1
  clear hf1 hb1 q0
  go_wp2_with fail
  refine (limbs_r (hy.below hbw) hm).mono ?_
  rintro e w2 ⟨A2, c2, rfl, h2, hb2⟩
  have r1 := q1.below hb2 q1.lt
  have h1' := h1.below hb2
  have hbw2 := thru hbw hb2
  have b2 := r1.c0
  have b3 := r1.c1
  clear a2 a3 q1 hb2 h1 hbw hs
  go_wp2
  go_loopw [8] (fun i wr => ∃ k : Nat, k ≤ zl z ∧ i = .int .i64 k ∧ Hid (∃ q, wr = w2.drewN q)) (fun i _ => zl z - (intOf i).toNat)
  case atStart => exact ⟨0, Nat.zero_le _, rfl, 0, rfl⟩
  case round =>
    obtain ⟨k, hk, rfl, HQ⟩ := hrel
    obtain ⟨q, rfl⟩ := HQ.out
    clear HQ
    by_cases hlt : k < zl z
    · obtain ⟨o1, f1, rfl, hw1, hcs1⟩ := h1'.cells (by omega)
      have hcx := hcs1 k hlt
      obtain ⟨o2, f2, rfl, hw2, hcs2⟩ := h2.cells (by omega)
      have hcy := hcs2 k hlt
      clear hcs1 hcs2
      generalize hx : (L z.natAbs).getD k 0 = x at hcx hcy
      clear hx
      have hk0 : (0 : Int) ≤ (k : Int) := by omega
      have hk1 : (k : Int) < (zl z : Int) := by omega
      have hkt : ((k : Int)).toNat = k := by omega
      have hxx : ((x : Int) != (x : Int)) = false := by simp
      go_wp2_with fail
      go_quiet (fail)
      go_wp2_with fail
      go_roundw
      case rel => exact ⟨k + 1, by omega, by go_num, by show ∃ q, _ = _; exact ⟨_, rfl⟩⟩
      case measure => simp [intOf]; omega
    · go_wp2
      go_ret
      exact ⟨rfl, bdrewN hbw2 q⟩

theorem zl_zero : zl 0 = 0 := nl_zero
theorem dl_zero : dl 0 = 0 := dn_zero
theorem neg_zero : neg 0 = false := by unfold neg; simp
theorem R0 (w : World) : RIn w none 0 0 := ⟨by show (D 0).length = dl 0; rw [D_zero, dl_zero]; rfl, by rw [dl_zero]; exact Nat.le_refl _, by simp [maxLen], wide (D_lt _), fun hp => by rw [dl_zero] at hp; omega⟩

theorem zero_true {A : Option Addr} {c : Nat} {w : World} (hx : ZIn w A c 0) :
    Calls Tryd.prog 26 #[.agg #[.bool false, .slice A 0 c]] w fun e w' => e = .returned (.bool true) ∧ Below w.heap.size w w' := by
  have hi := fun (w1 : World) (hb : Below w.heap.size w w1) => is_true (z := 0) (B := none) (d := 0) (hx.below hb) (R0 w1) (by rw [zl_zero]; omega) (by rw [dl_zero]; omega)
  have hs := fun (w1 : World) => sign_z (A := A) (c := c) (z := 0) (w := w1)
  rw [neg_zero, zl_zero] at hs
  rw [neg_zero, zl_zero, dl_zero] at hi
  have HI := Lib.hid hi
  have HS := Lib.hid hs
  clear hi hs
  go_enter Tryd.func26, Tryd.ntmps26
  go_wp2_with fail
  refine (HI.out _ (below1 _ _)).mono ?_
  rintro e w1 ⟨rfl, hb⟩
  obtain ⟨q0, hbw, hsz⟩ := boxes1 hb
  have a0 := q0.c0
  have a1 := q0.c1
  go_wp2_with fail
  refine (HS.out _).mono ?_
  rintro e w2 ⟨rfl, hb2⟩
  go_wp2
  go_ret
  exact ⟨rfl, thru hbw hb2⟩

end Go.Proofs.YtnldopjbiacbfaaDoor

/- The statements' own small functions: live, long, of. No condition. -/
namespace Go.Proofs.YtnldopjbiacbfaaDoor
open Go.RowKit Anv

theorem live_true (w : World) : Calls Tryd.prog 17 #[] w fun e w' => e = .returned (.bool true) ∧ Below w.heap.size w w' := by
  have z1 := zl_small (n := -7) (by omega) (by omega)
  have z2 := zl_small (n := 2) (by omega) (by omega)
  have h7 : zl (-7) ≤ 1000000 := by omega
  have h2 : zl 2 ≤ 1000000 := by omega
  have hs : smallV (-5) = .tuple #[.int .i64 (-5), .bool true] := smallV_yes (by omega) (by omega)
  have HS := Lib.hid hs
  clear z1 z2 hs
  go_enter Tryd.func17, Tryd.ntmps17
  go_wp2_with fail
  refine (of_z (n := -7) (by omega) (by omega)).mono ?_
  rintro e w1 ⟨v, rfl, ⟨A1, c1, rfl, hz1⟩, hb1⟩
  go_wp2_with fail
  refine (of_z (n := 2) (by omega) (by omega)).mono ?_
  rintro e w2 ⟨v, rfl, ⟨A2, c2, rfl, hz2⟩, hb2⟩
  go_wp2_with fail
  refine (add_z (hz1.below hb2) hz2 h7 h2).mono ?_
  rintro e w3 ⟨v, rfl, ⟨A3, c3, rfl, hz3⟩, hb3⟩
  go_wp2_with fail
  refine (small_neg (z := -5) hz3 (by omega)).mono ?_
  rintro e w4 ⟨rfl, hb4⟩
  rw [HS.out]
  go_wp2
  go_ret
  exact ⟨rfl, thru (thru (thru hb1 hb2) hb3) hb4⟩

/-- The cells of a list of the statements' numbers. -/
def flat (l : List (Bool × Option Addr × Nat × Nat)) : List Value := l.flatMap fun x => [.bool x.1, .slice x.2.1 x.2.2.1 x.2.2.2]
theorem flat_len (l : List (Bool × Option Addr × Nat × Nat)) : (flat l).length = 2 * l.length := by
  induction l with
  | nil => rfl
  | cons x l ih => simp [flat] at ih ⊢; omega
theorem flat_at (l : List (Bool × Option Addr × Nat × Nat)) (i : Nat) (h : i < l.length) : (flat l)[2 * i + 1]? = some (.slice l[i].2.1 l[i].2.2.1 l[i].2.2.2) := by
  induction l generalizing i with
  | nil => simp at h
  | cons x l ih =>
    have e : flat (x :: l) = .bool x.1 :: .slice x.2.1 x.2.2.1 x.2.2.2 :: flat l := rfl
    rw [e]
    rcases i with _ | i
    · rfl
    · have := ih i (by simpa using h)
      rw [show 2 * (i + 1) + 1 = 2 * i + 1 + 1 + 1 from by omega, List.getElem?_cons_succ, List.getElem?_cons_succ, this]
      rfl

theorem long_any {g k : Nat} (l : List (Bool × Option Addr × Nat × Nat)) {t : TypeId} {w : World} (hg : w.heap[g]? = some (.cells (flat l).toArray t (0, 0))) (hk : l.length = k) (hl : k ≤ 100) (hb : ∀ x ∈ l, x.2.2.1 ≤ maxLen) :
    Calls Tryd.prog 18 #[.slice (some ⟨g, 0, none⟩) k k] w fun e w' => e = .returned (.bool (l.any fun x => decide (60 < x.2.2.1))) ∧ w = w' := by
  go_enter Tryd.func18, Tryd.ntmps18
  go_wp2
  go_loop [3] (fun i => ∃ j : Nat, j ≤ k ∧ i = .int .i64 j ∧ Hid (∀ q, q < j → ∀ h : q < l.length, ¬ 60 < l[q].2.2.1)) (fun i => k - (intOf i).toNat)
  case atStart => exact ⟨0, Nat.zero_le _, rfl, fun q hq => by omega⟩
  case round =>
    obtain ⟨j, hj, rfl, HI⟩ := hrel
    by_cases hlt : j < k
    · have hjl : j < l.length := by omega
      have hc : w.cell? ⟨g, j * 2 + 1, none⟩ = some (.slice l[j].2.1 l[j].2.2.1 l[j].2.2.2) := by
        rw [Nat.mul_comm, cell_of_row w g (2 * j + 1) _ t (0, 0) hg]
        simpa using flat_at l j hjl
      have hbj := hb l[j] (List.getElem_mem hjl)
      unfold maxLen at hbj
      obtain ⟨nn, hnn⟩ : ∃ nn, l[j].2.2.1 = nn := ⟨_, rfl⟩
      rw [hnn] at hc hbj
      have HN := Lib.hid hnn
      clear hnn hg hb
      by_cases h60 : 60 < nn
      · go_wp2
        go_ret
        refine ⟨?_, rfl⟩
        have e : (l.any fun x => decide (60 < x.2.2.1)) = true := by
          rw [List.any_eq_true]
          exact ⟨l[j], List.getElem_mem hjl, by rw [HN.out]; simp [h60]⟩
        rw [e]; rfl
      · go_wp2
        go_round
        case rel =>
          refine ⟨j + 1, by omega, by go_num, fun q hq h => ?_⟩
          rcases Nat.eq_or_lt_of_le (Nat.le_of_lt_succ hq) with h1 | h1
          · subst h1; rw [HN.out]; exact h60
          · exact HI.out q h1 h
        case measure => simp [intOf]; omega
    · clear hg hb
      go_wp2
      go_ret
      refine ⟨?_, rfl⟩
      have e : (l.any fun x => decide (60 < x.2.2.1)) = false := by
        rw [List.any_eq_false]
        intro x hx
        obtain ⟨q, hq, rfl⟩ := List.getElem_of_mem hx
        have := HI.out q (by omega) hq
        simpa using this
      rw [e]; rfl

/-- What is handed to a statement as a number. -/
def Arg (w : World) (v : Value) (b : Bool) (A : Option Addr) (n c N : Nat) : Prop := v = .agg #[.bool b, .slice A n c] ∧ NumIn w A n c N

set_option maxHeartbeats 400000 in
theorem of_any {b : Bool} {A : Option Addr} {n c : Nat} {xs : List Nat} {w : World} (h : U32 w A n c xs) (hn : n ≤ 60) :
    Calls Tryd.prog 19 #[.agg #[.bool b, .slice A n c]] w fun e w' => ∃ v u, e = .returned (.tuple #[v, u]) ∧ ZAt w' v (sg b (val 4294967296 xs)) ∧ RAt w' u (sg b (val 4294967296 xs)) ∧ Below w.heap.size w w' := by
  have hN : nl (val 4294967296 xs) ≤ 1000000 := by
    have h1 := val_lt h.lt
    rw [h.len] at h1
    have := nl_le_of_lt h1
    omega
  go_enter Tryd.func19, Tryd.ntmps19
  go_wp2_with fail
  go_region_held3 (fun w' => w'.cell? ⟨w.heap.size, 0, none⟩ = some (.bool b) ∧ w'.cell? ⟨w.heap.size, 1, none⟩ = some (.slice A n c)) (first | (with_reducible exact ⟨q0.c0, q0.c1⟩) | (with_reducible exact ⟨r0.c0, r0.c1⟩) | (with_reducible exact ⟨(s1 _ _).c0, (s1 _ _).c1⟩) | (with_reducible exact ⟨(s2 _ _).c0, (s2 _ _).c1⟩) | (with_reducible exact ⟨(s12 _ _ _ _).c0, (s12 _ _ _ _).c1⟩) | (with_reducible exact ⟨(s21 _ _ _ _).c0, (s21 _ _ _ _).c1⟩) | go_keep)
    (first | (go_at_call 78; refine (make_z (NumIn.below ⟨_, h, rfl⟩ (by exact (below3 _ _ _ _).drew)) hN).mono ?_; rintro e w1 ⟨v, rfl, ⟨A1, c1, rfl, hz1⟩, hb⟩; obtain ⟨q0, q1, q2, hbw, hs⟩ := boxes3 (undrew hb)) | (go_at_call 79; refine (make_r (U32.below h hbw) (by omega)).mono ?_; rintro e w2 ⟨u, rfl, ⟨A2, c2, rfl, hz2⟩, hb2⟩; have r0 := q0.below hb2 q0.lt; have r1 := q1.below hb2 q1.lt; have r2 := q2.below hb2 q2.lt; have hc0 := r1.c0; have hc1 := r1.c1; have hf0 := r1.f 0; have hf1 := r1.f 1; have hd0 := r2.c0; have hd1 := r2.c1; have hg0 := r2.f 0; have hg1 := r2.f 1; have hs2 := r2.lt; have s1 := fun u u' => r0.far2 (k := w.heap.size + 1) (by omega) u u'; have s2 := fun u u' => r0.far2 (k := w.heap.size + 1 + 1) (by omega) u u'; have s12 := fun u u' v v' => (r0.far2 (k := w.heap.size + 1) (by omega) u u').far2 (k := w.heap.size + 1 + 1) (by omega) v v'; have s21 := fun u u' v v' => (r0.far2 (k := w.heap.size + 1 + 1) (by omega) u u').far2 (k := w.heap.size + 1) (by omega) v v'))
  go_wp2
  have r2' := fun u u' => r2.far2 (k := w.heap.size + 1) (by omega) u u'
  have hz1' := hz1.below hb2
  exact bodyPost_ret (v := .tuple #[.agg #[.bool (neg (sg b (val 4294967296 xs))), .slice A1 (zl (sg b (val 4294967296 xs))) c1], .agg #[.bool (neg (sg b (val 4294967296 xs))), .slice A2 (dl (sg b (val 4294967296 xs))) c2]]) (by simp [results, Tryd.results19, go_sem, hc0, hc1, hd0, hd1]) rfl
    ⟨_, _, rfl, ⟨_, _, rfl, U32.store2 (U32.store2 hz1' hc0 hc1 _ _) (r2' _ _).c0 (r2' _ _).c1 _ _⟩, ⟨_, _, rfl, U32.store2 (U32.store2 hz2 hc0 hc1 _ _) (r2' _ _).c0 (r2' _ _).c1 _ _⟩, below_store2 (below_store2 (thru hbw hb2) (by omega) _ _) (by omega) _ _⟩

end Go.Proofs.YtnldopjbiacbfaaDoor

/- How many limbs and digits sums and products have. No condition. -/
namespace Go.Proofs.YtnldopjbiacbfaaDoor
open Go.RowKit Anv

theorem lt_nl (N : Nat) : N < 4294967296 ^ nl N := lt_pow_dig (by omega) N
theorem lt_dn (N : Nat) : N < 65536 ^ dn N := lt_pow_dig (by omega) N
theorem nl_mono {N M : Nat} (h : N ≤ M) : nl N ≤ nl M := dig_len_le (by omega) h
theorem dn_mono {N M : Nat} (h : N ≤ M) : dn N ≤ dn M := dig_len_le (by omega) h
theorem pow_pos' (b n : Nat) (hb : 0 < b) : 1 ≤ b ^ n := Nat.pow_pos hb
theorem len_add {b : Nat} (hb : 2 ≤ b) (N M i j : Nat) (h : N < b ^ i) (k : M < b ^ j) : N + M < b ^ (i + j + 1) := by
  have h1 : b ^ i ≤ b ^ (i + j) := Nat.pow_le_pow_right (by omega) (by omega)
  have h2 : b ^ j ≤ b ^ (i + j) := Nat.pow_le_pow_right (by omega) (by omega)
  have h3 := Nat.mul_le_mul_left (b ^ (i + j)) hb
  rw [Nat.pow_succ]; omega
theorem len_mul {b : Nat} (_hb : 2 ≤ b) (N M i j : Nat) (h : N < b ^ i) (k : M < b ^ j) : N * M < b ^ (i + j) := by
  rw [Nat.pow_add]
  exact Nat.mul_lt_mul'' h k
theorem nl_add (N M : Nat) : nl (N + M) ≤ nl N + nl M + 1 := nl_le_of_lt (len_add (by omega) _ _ _ _ (lt_nl N) (lt_nl M))
theorem nl_mul (N M : Nat) : nl (N * M) ≤ nl N + nl M := nl_le_of_lt (len_mul (by omega) _ _ _ _ (lt_nl N) (lt_nl M))
theorem dn_add (N M : Nat) : dn (N + M) ≤ dn N + dn M + 1 := dn_le_of_lt (len_add (by omega) _ _ _ _ (lt_dn N) (lt_dn M))
theorem dn_mul (N M : Nat) : dn (N * M) ≤ dn N + dn M := dn_le_of_lt (len_mul (by omega) _ _ _ _ (lt_dn N) (lt_dn M))
theorem zl_add (x y : Int) : zl (x + y) ≤ zl x + zl y + 1 := Nat.le_trans (nl_mono (Int.natAbs_add_le x y)) (nl_add _ _)
theorem zl_sub (x y : Int) : zl (x - y) ≤ zl x + zl y + 1 := by
  rw [Int.sub_eq_add_neg, ← zl_neg y]; exact zl_add x (-y)
theorem zl_mul (x y : Int) : zl (x * y) ≤ zl x + zl y := by unfold zl; rw [Int.natAbs_mul]; exact nl_mul _ _
theorem zl_abs (x : Int) : zl (x.natAbs : Int) = zl x := by unfold zl; rw [Int.natAbs_natCast]
theorem dl_add (x y : Int) : dl (x + y) ≤ dl x + dl y + 1 := Nat.le_trans (dn_mono (Int.natAbs_add_le x y)) (dn_add _ _)
theorem dl_sub (x y : Int) : dl (x - y) ≤ dl x + dl y + 1 := by
  rw [Int.sub_eq_add_neg, ← dl_neg y]; exact dl_add x (-y)
theorem dl_mul (x y : Int) : dl (x * y) ≤ dl x + dl y := by unfold dl; rw [Int.natAbs_mul]; exact dn_mul _ _
theorem dl_abs (x : Int) : dl (x.natAbs : Int) = dl x := by unfold dl; rw [Int.natAbs_natCast]
theorem dl_small {n : Int} (h1 : -9223372036854775808 ≤ n) (h2 : n ≤ 9223372036854775807) : dl n ≤ 4 := dn_le_of_lt (by omega)

section
variable {x y c : Int}
theorem lz_neg (lx : zl x ≤ 60) : zl (-x) ≤ 1000000 := by rw [zl_neg]; omega
theorem lr_neg (lx : dl x ≤ 120) : dl (-x) ≤ 1000000 := by rw [dl_neg]; omega
theorem lz_abs (lx : zl x ≤ 60) : zl (x.natAbs : Int) ≤ 1000000 := by rw [zl_abs]; omega
theorem lr_abs (lx : dl x ≤ 120) : dl (x.natAbs : Int) ≤ 1000000 := by rw [dl_abs]; omega
theorem lz_add (lx : zl x ≤ 60) (ly : zl y ≤ 60) : zl (x + y) ≤ 1000000 := by have := zl_add x y; omega
theorem lr_add (lx : dl x ≤ 120) (ly : dl y ≤ 120) : dl (x + y) ≤ 1000000 := by have := dl_add x y; omega
theorem lz_sub (lx : zl x ≤ 60) (ly : zl y ≤ 60) : zl (x - y) ≤ 1000000 := by have := zl_sub x y; omega
theorem lr_sub (lx : dl x ≤ 120) (ly : dl y ≤ 120) : dl (x - y) ≤ 1000000 := by have := dl_sub x y; omega
theorem lz_mul (lx : zl x ≤ 60) (ly : zl y ≤ 60) : zl (x * y) ≤ 1000000 := by have := zl_mul x y; omega
theorem lr_mul (lx : dl x ≤ 120) (ly : dl y ≤ 120) : dl (x * y) ≤ 1000000 := by have := dl_mul x y; omega
theorem lz_times (lx : zl x ≤ 60) (h1 : -9223372036854775808 ≤ c) (h2 : c ≤ 9223372036854775807) : zl (x * c) ≤ 1000000 := by have := zl_mul x c; have := zl_small h1 h2; omega
theorem lr_times (lx : dl x ≤ 120) (h1 : -9223372036854775808 ≤ c) (h2 : c ≤ 9223372036854775807) : dl (x * c) ≤ 1000000 := by have := dl_mul x c; have := dl_small h1 h2; omega
end

theorem long1 {b0 : Bool} {A0 : Option Addr} {n0 c0 : Nat} {w : World} (h0 : n0 ≤ maxLen) (b : Bool) (hb : b = decide (60 < n0)) :
    Calls Tryd.prog 18 #[.slice (some ⟨w.heap.size, 0, none⟩) 1 1] (w.alloc (.cells #[.bool b0, .slice A0 n0 c0] 24)) fun e w' => e = .returned (.bool b) ∧ Below w.heap.size w w' := by
  refine (long_any (k := 1) [(b0, A0, n0, c0)] (heap_alloc_new w _) rfl (by omega) (by
    intro x hx
    simp only [List.mem_cons, List.not_mem_nil, or_false] at hx
    rcases hx with rfl
    · exact h0)).mono ?_
  rintro e w' ⟨rfl, rfl⟩
  refine ⟨?_, below1 _ _⟩
  subst hb
  simp

theorem long2 {b0 : Bool} {A0 : Option Addr} {n0 c0 : Nat} {b1 : Bool} {A1 : Option Addr} {n1 c1 : Nat} {w : World} (h0 : n0 ≤ maxLen) (h1 : n1 ≤ maxLen) (b : Bool) (hb : b = decide (60 < n0 ∨ 60 < n1)) :
    Calls Tryd.prog 18 #[.slice (some ⟨w.heap.size, 0, none⟩) 2 2] (w.alloc (.cells #[.bool b0, .slice A0 n0 c0, .bool b1, .slice A1 n1 c1] 24)) fun e w' => e = .returned (.bool b) ∧ Below w.heap.size w w' := by
  refine (long_any (k := 2) [(b0, A0, n0, c0), (b1, A1, n1, c1)] (heap_alloc_new w _) rfl (by omega) (by
    intro x hx
    simp only [List.mem_cons, List.not_mem_nil, or_false] at hx
    rcases hx with rfl | rfl
    · exact h0
    · exact h1)).mono ?_
  rintro e w' ⟨rfl, rfl⟩
  refine ⟨?_, below1 _ _⟩
  subst hb
  simp

theorem long3 {b0 : Bool} {A0 : Option Addr} {n0 c0 : Nat} {b1 : Bool} {A1 : Option Addr} {n1 c1 : Nat} {b2 : Bool} {A2 : Option Addr} {n2 c2 : Nat} {w : World} (h0 : n0 ≤ maxLen) (h1 : n1 ≤ maxLen) (h2 : n2 ≤ maxLen) (b : Bool) (hb : b = decide (60 < n0 ∨ 60 < n1 ∨ 60 < n2)) :
    Calls Tryd.prog 18 #[.slice (some ⟨w.heap.size, 0, none⟩) 3 3] (w.alloc (.cells #[.bool b0, .slice A0 n0 c0, .bool b1, .slice A1 n1 c1, .bool b2, .slice A2 n2 c2] 24)) fun e w' => e = .returned (.bool b) ∧ Below w.heap.size w w' := by
  refine (long_any (k := 3) [(b0, A0, n0, c0), (b1, A1, n1, c1), (b2, A2, n2, c2)] (heap_alloc_new w _) rfl (by omega) (by
    intro x hx
    simp only [List.mem_cons, List.not_mem_nil, or_false] at hx
    rcases hx with rfl | rfl | rfl
    · exact h0
    · exact h1
    · exact h2)).mono ?_
  rintro e w' ⟨rfl, rfl⟩
  refine ⟨?_, below1 _ _⟩
  subst hb
  simp

/-- A number out of a statement's argument. -/
theorem of_some {b : Bool} {A : Option Addr} {n c : Nat} {xs : List Nat} {w : World} (h : U32 w A n c xs) (hn : n ≤ 60) :
    Calls Tryd.prog 19 #[.agg #[.bool b, .slice A n c]] w fun e w' => ∃ (x : Int) (A' B' : Option Addr) (c' d' : Nat), e = .returned (.tuple #[.agg #[.bool (neg x), .slice A' (zl x) c'], .agg #[.bool (neg x), .slice B' (dl x) d']]) ∧ ZIn w' A' c' x ∧ RIn w' B' d' x ∧ zl x ≤ 60 ∧ dl x ≤ 120 ∧ Below w.heap.size w w' := by
  refine (of_any h hn).mono ?_
  rintro e w' ⟨v, u, rfl, ⟨A', c', rfl, hz⟩, ⟨B', d', rfl, hr⟩, hb⟩
  have h1 := val_lt h.lt
  rw [h.len] at h1
  have h2 := nl_le_of_lt h1
  have h3 : dn (val 4294967296 xs) ≤ 2 * n := dn_le_of_lt (by rw [Nat.pow_mul]; exact h1)
  exact ⟨_, A', B', c', d', rfl, hz, hr, by rw [sg_zl]; omega, by rw [sg_dl]; omega, hb⟩

end Go.Proofs.YtnldopjbiacbfaaDoor

/- Lists of whole numbers; Sum and Product. No condition. -/
namespace Go.Proofs.YtnldopjbiacbfaaDoor
open Go.RowKit Anv

/-- A slice of whole numbers, each with where its limbs lie. -/
structure ZList (w : World) (a : Option Addr) (k : Nat) (l : List (Int × Option Addr × Nat)) : Prop where
  len : l.length = k
  cells : 0 < k → ∃ G o, a = some ⟨G, o, none⟩ ∧ G < w.heap.size ∧ ∀ i (h : i < l.length), w.cell? ⟨G, o + i * 2, none⟩ = some (.bool (neg l[i].1)) ∧ w.cell? ⟨G, o + i * 2 + 1, none⟩ = some (.slice l[i].2.1 (zl l[i].1) l[i].2.2)
  nums : ∀ x ∈ l, ZIn w x.2.1 x.2.2 x.1

theorem ZList.below {w w' : World} {a : Option Addr} {k : Nat} {l : List (Int × Option Addr × Nat)} (h : ZList w a k l) (hb : Below w.heap.size w w') : ZList w' a k l :=
  ⟨h.len, fun hp => by
    obtain ⟨G, o, ha, hG, hc⟩ := h.cells hp
    exact ⟨G, o, ha, Nat.lt_of_lt_of_le hG hb.size, fun i hi => ⟨(hb.cell (p := ⟨G, o + i * 2, none⟩) hG).trans (hc i hi).1, (hb.cell (p := ⟨G, o + i * 2 + 1, none⟩) hG).trans (hc i hi).2⟩⟩,
   fun x hx => (h.nums x hx).below hb⟩

theorem ZList.nil (w : World) : ZList w none 0 [] := ⟨rfl, fun h => by omega, fun x hx => by cases hx⟩

def zsum (l : List (Int × Option Addr × Nat)) : Int := l.foldl (fun s x => s + x.1) 0
def zprod (l : List (Int × Option Addr × Nat)) : Int := l.foldl (fun s x => s * x.1) 1
theorem zsum_take {l : List (Int × Option Addr × Nat)} {i : Nat} (h : i < l.length) : zsum (l.take (i + 1)) = zsum (l.take i) + l[i].1 := by
  unfold zsum; rw [List.take_succ_eq_append_getElem h, List.foldl_append]; rfl
theorem zprod_take {l : List (Int × Option Addr × Nat)} {i : Nat} (h : i < l.length) : zprod (l.take (i + 1)) = zprod (l.take i) * l[i].1 := by
  unfold zprod; rw [List.take_succ_eq_append_getElem h, List.foldl_append]; rfl
theorem zl_one : zl 1 = 1 := by
  unfold zl nl L
  rw [show (1 : Int).natAbs = 1 from rfl, dig_pos (by omega) (by omega)]
  rw [show (1 : Nat) / 4294967296 = 0 from by omega, dig_zero]
  rfl

end Go.Proofs.YtnldopjbiacbfaaDoor
