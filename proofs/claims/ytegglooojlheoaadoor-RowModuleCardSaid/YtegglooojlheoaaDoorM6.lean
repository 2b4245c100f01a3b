/- More of layer 2: clones, limbs, small numbers. No condition. -/
import Derived.Test.YtegglooojlheoaaDoorM4
import Derived.Test.YtegglooojlheoaaDoorM5
import Derived.Lib.SliceRun

namespace Go.Proofs.YtegglooojlheoaaDoor
open Go.RowKit Anv
end Go.Proofs.YtegglooojlheoaaDoor

/- integer.Of, Sub, Times, Cmp, Small. No condition. -/
namespace Go.Proofs.YtegglooojlheoaaDoor
open Go.RowKit Anv
theorem new_num {w : World} {t : TypeId} {g : Nat} {cs : Array Value} (ys : List Nat) (hg : g = w.heap.size) (hcs : cs = nums .u32 ys) (hl : AllLt 4294967296 ys) (hm : ys.length ≤ 1000) :
    NumIn (w.alloc (.cells cs t)) (some ⟨g, 0, none⟩) ys.length ys.length (val 4294967296 ys) := by
  subst hg hcs
  have h : Arr .u32 t (w.alloc (.cells (nums .u32 ys) t)) w.heap.size ys := heap_alloc_new w _
  exact ⟨ys, h.u32 hl rfl (by simp only [maxLen]; omega), rfl⟩
theorem two_num {w : World} {t : TypeId} {g : Nat} {a b : Int} (m : Nat) (hg : g = w.heap.size) (hm : m < 18446744073709551616) (ha : a = ((m % 4294967296 : Nat) : Int)) (hb : b = ((m / 4294967296 : Nat) : Int)) :
    NumIn (w.alloc (.cells #[.int .u32 a, .int .u32 b] t)) (some ⟨g, 0, none⟩) 2 2 m := by
  have h := new_num (w := w) (t := t) (cs := #[.int .u32 a, .int .u32 b]) [m % 4294967296, m / 4294967296] hg (by subst ha hb; simp [nums]) (by intro x hx; simp at hx; omega) (by simp)
  have e : val 4294967296 [m % 4294967296, m / 4294967296] = m := by simp; omega
  rw [e] at h
  exact h
theorem nl_le_of_lt {N k : Nat} (h : N < 4294967296 ^ k) : nl N ≤ k := dig_len_of_lt (by omega) h
theorem of_z {n : Int} {w : World} (h1 : -9223372036854775808 ≤ n) (h2 : n ≤ 9223372036854775807) :
    Calls Tryd.prog 43 #[.int .i64 n] w fun e w' => ∃ v, e = .returned v ∧ ZAt w' v n ∧ Below w.heap.size w w' := by
  by_cases hn : n < 0
  · obtain ⟨m, rfl⟩ : ∃ m : Nat, n = -(m : Int) := ⟨n.natAbs, by omega⟩
    have hw : IntKind.u64.wrap (-IntKind.u64.wrap (-(m : Int))) = (m : Int) := by rw [IntKind.wrap_u64, IntKind.wrap_u64]; omega
    have hnl : nl m ≤ 1000000 := by have := nl_le_of_lt (N := m) (k := 2) (by omega); omega
    go_enter Tryd.func43, Tryd.ntmps43
    go_wp2_with fail
    refine (make_z (b := true) (N := m) (two_num m (by simp) (by omega) (by omega) (by omega)) hnl).mono ?_
    rintro e w1 ⟨v, rfl, ⟨A1, c1, rfl, hz⟩, hb⟩
    have e1 : sg true m = -(m : Int) := rfl
    rw [e1] at hz ⊢
    have hbw := thru (below2 _ _ _) hb
    have q := ((Box2.new w 36 (.bool false) (.slice none 0 0)).alloc _).below hb (by simp; omega)
    have hc0 := q.c0
    have hc1 := q.c1
    have hf0 := q.f 0
    have hf1 := q.f 1
    have hs := q.lt
    go_wp2
    exact bodyPost_ret (v := .agg #[.bool (neg (-(m : Int))), .slice A1 (zl (-(m : Int))) c1]) (by simp [results, Tryd.results43, go_sem, hc0, hc1]) rfl ⟨_, rfl, ⟨_, _, rfl, U32.store2 hz hc0 hc1 _ _⟩, below_store2 hbw (Nat.le_refl _) _ _⟩
  · obtain ⟨m, rfl⟩ : ∃ m : Nat, n = (m : Int) := ⟨n.natAbs, by omega⟩
    have hnl : nl m ≤ 1000000 := by have := nl_le_of_lt (N := m) (k := 2) (by omega); omega
    go_enter Tryd.func43, Tryd.ntmps43
    go_wp2_with fail
    refine (make_z (b := false) (N := m) (two_num m (by simp) (by omega) (by omega) (by omega)) hnl).mono ?_
    rintro e w1 ⟨v, rfl, ⟨A1, c1, rfl, hz⟩, hb⟩
    have e1 : sg false m = (m : Int) := rfl
    rw [e1] at hz ⊢
    have hbw := thru (below2 _ _ _) hb
    have q := ((Box2.new w 36 (.bool false) (.slice none 0 0)).alloc _).below hb (by simp; omega)
    have hc0 := q.c0
    have hc1 := q.c1
    have hf0 := q.f 0
    have hf1 := q.f 1
    have hs := q.lt
    go_wp2
    exact bodyPost_ret (v := .agg #[.bool (neg (m : Int)), .slice A1 (zl (m : Int)) c1]) (by simp [results, Tryd.results43, go_sem, hc0, hc1]) rfl ⟨_, rfl, ⟨_, _, rfl, U32.store2 hz hc0 hc1 _ _⟩, below_store2 hbw (Nat.le_refl _) _ _⟩
theorem cmp_sign (x y : Int) : (if neg x then (if neg y then cmpI y.natAbs x.natAbs else -1) else if neg y then 1 else cmpI x.natAbs y.natAbs) = (x - y).sign := by
  unfold neg cmpI
  rcases Int.lt_trichotomy (x - y) 0 with h | h | h
  · rw [Int.sign_eq_neg_one_of_neg h]; (repeat' split) <;> simp_all <;> omega
  · rw [h]; (repeat' split) <;> simp_all <;> omega
  · rw [Int.sign_eq_one_of_pos h]; (repeat' split) <;> simp_all <;> omega
end Go.Proofs.YtegglooojlheoaaDoor

/- integer.Sub, Times, Cmp. No condition. -/
namespace Go.Proofs.YtegglooojlheoaaDoor
open Go.RowKit Anv
theorem zl_neg (z : Int) : zl (-z) = zl z := by unfold zl; rw [Int.natAbs_neg]
theorem sub_z {A B : Option Addr} {c d : Nat} {x y : Int} {w : World} (hx : ZIn w A c x) (hy : ZIn w B d y) (hn : zl x ≤ 1000000) (hm : zl y ≤ 1000000) :
    Calls Tryd.prog 99 #[.agg #[.bool (neg x), .slice A (zl x) c], .agg #[.bool (neg y), .slice B (zl y) d]] w fun e w' => ∃ v, e = .returned v ∧ ZAt w' v (x - y) ∧ Below w.heap.size w w' := by
  go_enter Tryd.func99, Tryd.ntmps99
  go_wp2_with fail
  go_region_held3 (fun w' => w'.cell? ⟨w.heap.size, 0, none⟩ = some (.bool (neg x)) ∧ w'.cell? ⟨w.heap.size, 1, none⟩ = some (.slice A (zl x) c) ∧ w'.cell? ⟨w.heap.size + 1, 0, none⟩ = some (.bool (neg y)) ∧ w'.cell? ⟨w.heap.size + 1, 1, none⟩ = some (.slice B (zl y) d)) (first | exact ⟨q0.c0, q0.c1, q1.c0, q1.c1⟩ | exact ⟨r0.c0, r0.c1, r1.c0, r1.c1⟩ | exact ⟨(r0.far2 (by omega) _ _).c0, (r0.far2 (by omega) _ _).c1, (r1.far2 (by omega) _ _).c0, (r1.far2 (by omega) _ _).c1⟩ | go_keep)
    (first | (go_at_call 103; refine (neg_z (ZIn.below hy (by exact (below3 _ _ _ _).drew))).mono ?_; rintro e w1 ⟨v, rfl, ⟨A1, c1, rfl, hz1⟩, hb⟩; obtain ⟨q0, q1, q2, hbw, hs⟩ := boxes3 (undrew hb)) | (go_at_call 85; refine (add_z (ZIn.below hx hbw) hz1 hn (by rw [zl_neg]; exact hm)).mono ?_; rintro e w2 ⟨v2, rfl, ⟨A2, c2, rfl, hz2⟩, hb2⟩; have r0 := q0.below hb2 q0.lt; have r1 := q1.below hb2 q1.lt; have r2 := q2.below hb2 q2.lt; have hc0 := r2.c0; have hc1 := r2.c1; have hf0 := r2.f 0; have hf1 := r2.f 1; have hs2 : w.heap.size + 1 + 1 < w2.heap.size := by have := hb2.size; omega))
  go_wp2
  rw [← Int.sub_eq_add_neg] at hz2 ⊢
  exact bodyPost_ret (v := .agg #[.bool (neg (x - y)), .slice A2 (zl (x - y)) c2]) (by simp [results, Tryd.results99, go_sem, hc0, hc1]) rfl ⟨_, rfl, ⟨_, _, rfl, U32.store2 hz2 hc0 hc1 _ _⟩, below_store2 (thru hbw hb2) (by omega) _ _⟩
theorem cmp_z {A B : Option Addr} {c d : Nat} {x y : Int} {w : World} (hx : ZIn w A c x) (hy : ZIn w B d y) :
    Calls Tryd.prog 42 #[.agg #[.bool (neg x), .slice A (zl x) c], .agg #[.bool (neg y), .slice B (zl y) d]] w fun e w' => e = .returned (.int .i64 (x - y).sign) ∧ Below w.heap.size w w' := by
  have e := cmp_sign x y
  rw [← e]
  have hb1 := cmpI_bd x.natAbs y.natAbs
  have hb2 := cmpI_bd y.natAbs x.natAbs
  clear e
  cases neg x <;> cases neg y
  · go_enter Tryd.func42, Tryd.ntmps42
    go_wp2_with fail
    refine (cmp_num' (NumIn.below (ZIn.num hx) (by exact below2 _ _ _)) (NumIn.below (ZIn.num hy) (by exact below2 _ _ _))).mono ?_
    rintro e w1 ⟨rfl, hb⟩
    go_wp2
    go_ret
    exact ⟨rfl, thru (below2 _ _ _) hb⟩
  · go_enter Tryd.func42, Tryd.ntmps42
    go_wp2
    go_ret
    exact ⟨rfl, below2 _ _ _⟩
  · go_enter Tryd.func42, Tryd.ntmps42
    go_wp2
    go_ret
    exact ⟨rfl, below2 _ _ _⟩
  · go_enter Tryd.func42, Tryd.ntmps42
    go_wp2_with fail
    refine (cmp_num' (NumIn.below (ZIn.num hy) (by exact below2 _ _ _)) (NumIn.below (ZIn.num hx) (by exact below2 _ _ _))).mono ?_
    rintro e w1 ⟨rfl, hb⟩
    go_wp2
    go_ret
    exact ⟨rfl, thru (below2 _ _ _) hb⟩
end Go.Proofs.YtegglooojlheoaaDoor

/- integer.Times, Small. No condition. -/
namespace Go.Proofs.YtegglooojlheoaaDoor
open Go.RowKit Anv
theorem zl_small {n : Int} (h1 : -9223372036854775808 ≤ n) (h2 : n ≤ 9223372036854775807) : zl n ≤ 2 := nl_le_of_lt (by omega)
def smallV (z : Int) : Value := if -9223372036854775808 ≤ z ∧ z ≤ 9223372036854775807 then .tuple #[.int .i64 z, .bool true] else .tuple #[.int .i64 0, .bool false]
theorem neg_true {z : Int} (h : neg z = true) : z < 0 := by unfold neg at h; simpa using h
theorem neg_false {z : Int} (h : neg z = false) : 0 ≤ z := by unfold neg at h; simpa using h
end Go.Proofs.YtegglooojlheoaaDoor

/- The reference's numbers: norm. No condition. -/
namespace Go.Proofs.YtegglooojlheoaaDoor
open Go.RowKit Anv
def D (N : Nat) : List Nat := dig 65536 N
def dn (N : Nat) : Nat := (D N).length
def dl (z : Int) : Nat := dn z.natAbs
theorem D_lt (N : Nat) : AllLt 65536 (D N) := dig_lt (by omega) N
theorem D_zero : D 0 = [] := dig_zero _
theorem wide {xs : List Nat} (h : AllLt 65536 xs) : AllLt 4294967296 xs := fun x hx => by have := h x hx; omega
theorem dn_zero : dn 0 = 0 := by unfold dn; rw [D_zero]; rfl
theorem dn_pos {N : Nat} (h : 0 < N) : 0 < dn N := by unfold dn D; rw [dig_pos (by omega) h]; simp
theorem dn_dpos (N : Nat) : decide (0 < dn N) = decide (0 < N) := by
  rcases Nat.eq_zero_or_pos N with h | h
  · subst h; rw [dn_zero]
  · have := dn_pos h; simp [h, this]
def RIn (w : World) (A : Option Addr) (c : Nat) (z : Int) : Prop := U32 w A (dl z) c (D z.natAbs)
def RAt (w : World) (v : Value) (z : Int) : Prop := ∃ A c, v = .agg #[.bool (neg z), .slice A (dl z) c] ∧ RIn w A c z
theorem RIn.below {w w' : World} {A : Option Addr} {c : Nat} {z : Int} (h : RIn w A c z) (hb : Below w.heap.size w w') : RIn w' A c z := U32.below h hb
theorem RAt.below {w w' : World} {v : Value} {z : Int} (h : RAt w v z) (hb : Below w.heap.size w w') : RAt w' v z := by
  obtain ⟨A, c, rfl, hz⟩ := h
  exact ⟨A, c, rfl, hz.below hb⟩
theorem sg_dl (b : Bool) (N : Nat) : dl (sg b N) = dn N := by unfold dl; rw [sg_abs]
theorem dn_eq {xs : List Nat} (h : AllLt 65536 xs) (m : Nat) (hm : m ≤ xs.length) (hz : ∀ i, m ≤ i → i < xs.length → xs.getD i 0 = 0) (hl : m = 0 ∨ xs.getD (m - 1) 0 ≠ 0) : m = dn (val 65536 xs) := by
  have h1 := take_eq_dig (by omega) h m hm hz hl
  unfold dn D
  rw [← h1]
  simp; omega
theorem take_dn {w : World} {A : Option Addr} {n c m : Nat} {xs : List Nat} (h : U32 w A n c xs) (hd : AllLt 65536 xs) (hm : m = dn (val 65536 xs)) (hmn : m ≤ n) (hz : ∀ i, m ≤ i → i < xs.length → xs.getD i 0 = 0) (hl : m = 0 ∨ xs.getD (m - 1) 0 ≠ 0) :
    U32 w A m c (D (val 65536 xs)) := by
  have h1 := take_eq_dig (by omega) hd m (by rw [h.len]; exact hmn) hz hl
  refine ⟨hm.symm, Nat.le_trans hmn h.cap, h.big, wide (D_lt _), fun hp => ?_⟩
  obtain ⟨b, off, hA, hb, hc⟩ := h.cells (by omega)
  refine ⟨b, off, hA, hb, fun i hi => ?_⟩
  rw [hc i (by omega)]
  unfold D
  rw [← h1]
  congr 3
  simp [List.getD, hi]
def NormPost (w : World) (A : Option Addr) (c : Nat) (b : Bool) (N : Nat) (e : Ending) (w' : World) : Prop :=
  e = .returned (.agg #[.bool (neg (sg b N)), .slice A (dl (sg b N)) c]) ∧ RIn w' A c (sg b N) ∧ Below w.heap.size w w'
theorem norm_fin {w w' : World} {A : Option Addr} {n c : Nat} {xs : List Nat} {b : Bool} (h : U32 w A n c xs) (hd : AllLt 65536 xs) (m : Nat) (bv : Bool) (hmn : m ≤ n) (hz : ∀ j, m ≤ j → j < n → xs.getD j 0 = 0)
    (hl : m = 0 ∨ xs.getD (m - 1) 0 ≠ 0) (hbv : bv = (b && decide (0 < m))) (hb : Below w.heap.size w w') : NormPost w A c b (val 65536 xs) (.returned (.agg #[.bool bv, .slice A m c])) w' := by
  have hz' : ∀ j, m ≤ j → j < xs.length → xs.getD j 0 = 0 := fun j h1 h2 => hz j h1 (by rw [← h.len]; exact h2)
  have hm := dn_eq hd m (by rw [h.len]; exact hmn) hz' hl
  have hU := take_dn h hd hm hmn hz' hl
  refine ⟨?_, ?_, hb⟩
  · rw [hbv, sg_dl, sg_neg, ← dn_dpos (val 65536 xs), ← hm]
  · unfold RIn
    rw [sg_dl, sg_abs, ← hm]
    exact hU.below hb
theorem norm_ref {b : Bool} {A : Option Addr} {n c : Nat} {xs : List Nat} {w : World} (h : U32 w A n c xs) (hd : AllLt 65536 xs) :
    Calls Tryd.prog 97 #[.bool b, .slice A n c] w (NormPost w A c b (val 65536 xs)) := by
  have hc := h.cap
  have hb := h.big
  unfold maxLen at hb
  go_enter Tryd.func97, Tryd.ntmps97
  go_wp2
  go_loop [5] (fun i => ∃ m : Nat, m ≤ n ∧ i = .int .i64 m ∧ Hid (∀ j, m ≤ j → j < n → xs.getD j 0 = 0)) (fun i => (intOf i).toNat)
  case atStart => exact ⟨n, Nat.le_refl _, rfl, fun j h1 h2 => by omega⟩
  case round =>
    obtain ⟨m, hm, rfl, HZ⟩ := hrel
    rcases m with _ | m
    · cases b
      · go_wp2
        exact bodyPost_ret (v := .agg #[.bool false, .slice A 0 c]) (by simp [results, Tryd.results97, go_sem]) rfl (norm_fin h hd 0 false (by omega) HZ.out (.inl rfl) (by simp) (below1 _ _))
      · go_wp2
        exact bodyPost_ret (v := .agg #[.bool false, .slice A 0 c]) (by simp [results, Tryd.results97, go_sem]) rfl (norm_fin h hd 0 false (by omega) HZ.out (.inl rfl) (by simp) (below1 _ _))
    · obtain ⟨bb, off, rfl, hbw, hcs⟩ := h.cells (by omega)
      have hcell := hcs m (by omega)
      clear hcs
      generalize hx : xs.getD m 0 = x at hcell
      have HX := Lib.hid hx
      clear hx
      by_cases hx : x = 0
      · subst hx
        go_wp2
        go_round
        case rel =>
          refine ⟨m, by omega, rfl, fun j h1 h2 => ?_⟩
          rcases Nat.eq_or_lt_of_le h1 with h3 | h3
          · rw [← h3]; exact HX.out
          · exact HZ.out j (by omega) h2
        case measure => simp [intOf]
      · have hx0 : ((x : Int) == 0) = false := by simp; omega
        cases b
        · go_wp2
          exact bodyPost_ret (v := .agg #[.bool false, .slice (some ⟨bb, off, none⟩) (m + 1) c]) (by simp [results, Tryd.results97, go_sem]) rfl (norm_fin h hd (m + 1) false (by omega) HZ.out (.inr (by rw [Nat.add_sub_cancel, HX.out]; exact hx)) (by simp) (below1 _ _))
        · go_wp2
          exact bodyPost_ret (v := .agg #[.bool true, .slice (some ⟨bb, off, none⟩) (m + 1) c]) (by simp [results, Tryd.results97, go_sem]) rfl (norm_fin h hd (m + 1) true (by omega) HZ.out (.inr (by rw [Nat.add_sub_cancel, HX.out]; exact hx)) (by simp) (below1 _ _))
end Go.Proofs.YtegglooojlheoaaDoor

/- The reference's plus, minus. No condition. -/
namespace Go.Proofs.YtegglooojlheoaaDoor
open Go.RowKit Anv
end Go.Proofs.YtegglooojlheoaaDoor

/- The reference's minus. No condition. -/
namespace Go.Proofs.YtegglooojlheoaaDoor
open Go.RowKit Anv
end Go.Proofs.YtegglooojlheoaaDoor

/- The reference's size: digits held against digits. No condition. -/
namespace Go.Proofs.YtegglooojlheoaaDoor
open Go.RowKit Anv
end Go.Proofs.YtegglooojlheoaaDoor

/- The reference: signs, sums, differences. No condition. -/
namespace Go.Proofs.YtegglooojlheoaaDoor
open Go.RowKit Anv
end Go.Proofs.YtegglooojlheoaaDoor

/- The reference: sums. No condition. -/
namespace Go.Proofs.YtegglooojlheoaaDoor
open Go.RowKit Anv
end Go.Proofs.YtegglooojlheoaaDoor

/- The reference: comparisons; digits out of limbs and back. No condition. -/
namespace Go.Proofs.YtegglooojlheoaaDoor
open Go.RowKit Anv
theorem sign_bd (z : Int) : -1 ≤ z.sign ∧ z.sign ≤ 1 := by
  rcases Int.lt_trichotomy z 0 with h | h | h
  · rw [Int.sign_eq_neg_one_of_neg h]; omega
  · subst h; simp
  · rw [Int.sign_eq_one_of_pos h]; omega
end Go.Proofs.YtegglooojlheoaaDoor

/- The reference: digits out of limbs. No condition. -/
namespace Go.Proofs.YtegglooojlheoaaDoor
open Go.RowKit Anv
def halves (xs : List Nat) : List Nat := xs.flatMap fun x => [x % 65536, x / 65536]
theorem halves_snoc (xs : List Nat) (x : Nat) : halves (xs ++ [x]) = halves xs ++ [x % 65536, x / 65536] := by simp [halves]
theorem halves_len (xs : List Nat) : (halves xs).length = 2 * xs.length := by
  induction xs with
  | nil => rfl
  | cons x xs ih => simp [halves] at ih ⊢; omega
theorem halves_lt {xs : List Nat} (h : AllLt 4294967296 xs) : AllLt 65536 (halves xs) := by
  intro y hy
  simp [halves] at hy
  obtain ⟨x, hx, hy⟩ := hy
  have := h x hx
  omega
theorem val_halves (xs : List Nat) : val 65536 (halves xs) = val 4294967296 xs := by
  induction xs with
  | nil => rfl
  | cons x xs ih =>
    have e : halves (x :: xs) = [x % 65536, x / 65536] ++ halves xs := by simp [halves]
    rw [e, val_append, ih]
    simp
    omega
theorem halves_take {xs : List Nat} {k x : Nat} (hk : k < xs.length) (hx : xs.getD k 0 = x) : halves (xs.take (k + 1)) = halves (xs.take k) ++ [x % 65536, x / 65536] := by
  rw [List.take_succ_eq_append_getElem hk, halves_snoc, ← getD_lt hk, hx]
theorem make_r {b : Bool} {A : Option Addr} {n c : Nat} {xs : List Nat} {w : World} (hx : U32 w A n c xs) (hn : n ≤ 1000000) :
    Calls Tryd.prog 20 #[.bool b, .slice A n c] w fun e w' => ∃ v, e = .returned v ∧ RAt w' v (sg b (val 4294967296 xs)) ∧ Below w.heap.size w w' := by
  go_enter Tryd.func20, Tryd.ntmps20
  go_wp2
  go_loopw [5, 6] (fun o i wr => ∃ k : Nat, k ≤ n ∧ i = .int .i64 k ∧ Hid (Own (w.heap.size + 1) 141 wr o (halves (xs.take k))) ∧ Hid (Below (w.heap.size + 1) (w.alloc (.cells #[.bool false, .slice none 0 0] 39)) wr)) (fun _ i _ => n - (intOf i).toNat)
  case atStart => exact ⟨0, Nat.zero_le _, rfl, Own.nil _ _ _, Below.refl _ _⟩
  case round =>
    obtain ⟨k, hk, rfl, HO, HW⟩ := hrel
    by_cases hlt : k < n
    · obtain ⟨b1, off, rfl, hwb, hcs⟩ := hx.cells (by omega)
      have hcx := ((HW.out.cell (p := ⟨b1, off + k, none⟩) (by show b1 < _; omega)).trans (World.cell?_alloc_lt w _ ⟨b1, off + k, none⟩ hwb)).trans (hcs k hlt)
      have hxlt := hx.lt.get (by omega) k
      generalize hx : xs.getD k 0 = x at hcx hxlt
      have HX := Lib.hid hx
      clear hx hcs
      have hk0 : (0 : Int) ≤ (k : Int) := by omega
      have hk1 : (k : Int) < (n : Int) := by omega
      have hkt : ((k : Int)).toNat = k := by omega
      have hm1 : (x : Int).tmod 65536 = (x : Int) % 65536 := Int.tmod_eq_emod_of_nonneg (by omega)
      have hm2 : IntKind.u32.wrap ((x : Int) / 65536) = (x : Int) / 65536 := IntWalk.u32_in _ (by omega)
      go_wp2_with fail
      go_region_held3 (fun w' => w'.cell? ⟨b1, off + k, none⟩ = some (.int .u32 x)) (first | go_keep | (exact hkeep))
        ((refine step_append_nums rfl (.tmp 13) (.tmp 24) 23 rfl 141 4 Tryd.underlying23 info_u32 (w.heap.size + 1) _ (halves (xs.take k)) (Own.drew (HO.out.below (below1 _ _) (Nat.le_refl _))) ⟨wr.heap.size, 0, none⟩ 2 2 [x % 65536, x / 65536] rfl (cells_new' wr _ _ (by simp [nums])) (by rfl) (by rfl) ?_ ?_ ?_ ?_; (rw [halves_len, List.length_take]; simp only [maxLen]; omega); (rw [halves_len, List.length_take]; omega); (have := HW.out.size; simp at this; simp; omega); intro v1 w1 hO1 hs1 hB1; have HO1 := Lib.hid hO1; have hB1' := hB1 _ _ (Nat.le_refl _) ((HW.out.alloc (by have := HW.out.size; simp at this; omega) _).drew); have HB1 := Lib.hid hB1'; have hkeep : w1.cell? ⟨b1, off + k, none⟩ = some (.int .u32 x) := ((hB1'.cell (p := ⟨b1, off + k, none⟩) (by show b1 < _; omega)).trans ((HW.out.cell (p := ⟨b1, off + k, none⟩) (by show b1 < _; omega)).symm)).trans hcx; clear hO1 hB1 hB1'))
      go_wp2
      go_roundw
      case rel => exact ⟨k + 1, by omega, by go_num, by rw [halves_take (by rw [hx.len]; exact hlt) HX.out]; exact HO1.out, HB1.out⟩
      case measure => simp [intOf]; omega
    · have hL : AllLt 65536 (halves (xs.take k)) := halves_lt (hx.lt.take k)
      obtain ⟨A1, c1, rfl, hU, hf⟩ := HO.out.u32 (wide hL)
      have hv : val 65536 (halves (xs.take k)) = val 4294967296 xs := by rw [val_halves, List.take_of_length_le (by rw [hx.len]; omega)]
      have HV := Lib.hid hv
      have q := (Box2.new w 39 (.bool false) (.slice none 0 0)).below HW.out (Nat.lt_succ_self _)
      clear hv hf
      go_wp2_with fail
      refine (norm_ref hU hL).mono ?_
      rintro e w2 ⟨rfl, hz, hb⟩
      have q2 := q.below hb q.lt
      have hc0 := q2.c0
      have hc1 := q2.c1
      have hf0 := q2.f 0
      have hf1 := q2.f 1
      have hs := q2.lt
      rw [HV.out] at hz ⊢
      go_wp2
      exact bodyPost_ret (v := .agg #[.bool (neg (sg b (val 4294967296 xs))), .slice A1 (dl (sg b (val 4294967296 xs))) c1]) (by simp [results, Tryd.results20, go_sem, hc0, hc1]) rfl
        ⟨_, rfl, ⟨_, _, rfl, U32.store2 hz hc0 hc1 _ _⟩, below_store2 (thru (w := w) (W := wr) ((below1 w _).trans (HW.out.mono (Nat.le_succ _))) hb) (Nat.le_refl _) _ _⟩
end Go.Proofs.YtegglooojlheoaaDoor

/- The reference: limbs out of digits. No condition. -/
namespace Go.Proofs.YtegglooojlheoaaDoor
open Go.RowKit Anv
def prs (ds : List Nat) (k : Nat) : List Nat := (List.range k).map fun j => ds.getD (2 * j) 0 + 65536 * ds.getD (2 * j + 1) 0
end Go.Proofs.YtegglooojlheoaaDoor

/- The reference: small numbers, products. No condition. -/
namespace Go.Proofs.YtegglooojlheoaaDoor
open Go.RowKit Anv
end Go.Proofs.YtegglooojlheoaaDoor

/- The reference: products. No condition. -/
namespace Go.Proofs.YtegglooojlheoaaDoor
open Go.RowKit Anv
def RowInv (ys os : List Nat) (n m k q cc x T : Nat) : Prop :=
  os.length = n + m + 1 ∧ AllLt 65536 os ∧ val 65536 os + 65536 ^ (k + q) * cc = T + 65536 ^ k * (x * val 65536 (ys.take q)) ∧
    (∀ j, k + m + 1 ≤ j → os.getD j 0 = 0) ∧ (q ≤ m → os.getD (k + m) 0 = 0) ∧ (q = m + 1 → cc = 0) ∧ q ≤ m + 1
end Go.Proofs.YtegglooojlheoaaDoor

/- The statements' own small functions: is, zero, live, long, of. No condition. -/
namespace Go.Proofs.YtegglooojlheoaaDoor
open Go.RowKit Anv
theorem zl_zero : zl 0 = 0 := nl_zero
theorem neg_zero : neg 0 = false := by unfold neg; simp
end Go.Proofs.YtegglooojlheoaaDoor

/- The statements' own small functions: live, long, of. No condition. -/
namespace Go.Proofs.YtegglooojlheoaaDoor
open Go.RowKit Anv
def flat (l : List (Bool × Option Addr × Nat × Nat)) : List Value := l.flatMap fun x => [.bool x.1, .slice x.2.1 x.2.2.1 x.2.2.2]
def Arg (w : World) (v : Value) (b : Bool) (A : Option Addr) (n c N : Nat) : Prop := v = .agg #[.bool b, .slice A n c] ∧ NumIn w A n c N
end Go.Proofs.YtegglooojlheoaaDoor

/- How many limbs and digits sums and products have. No condition. -/
namespace Go.Proofs.YtegglooojlheoaaDoor
open Go.RowKit Anv
theorem lt_nl (N : Nat) : N < 4294967296 ^ nl N := lt_pow_dig (by omega) N
theorem nl_mono {N M : Nat} (h : N ≤ M) : nl N ≤ nl M := dig_len_le (by omega) h
theorem len_add {b : Nat} (hb : 2 ≤ b) (N M i j : Nat) (h : N < b ^ i) (k : M < b ^ j) : N + M < b ^ (i + j + 1) := by
  have h1 : b ^ i ≤ b ^ (i + j) := Nat.pow_le_pow_right (by omega) (by omega)
  have h2 : b ^ j ≤ b ^ (i + j) := Nat.pow_le_pow_right (by omega) (by omega)
  have h3 := Nat.mul_le_mul_left (b ^ (i + j)) hb
  rw [Nat.pow_succ]; omega
theorem len_mul {b : Nat} (_hb : 2 ≤ b) (N M i j : Nat) (h : N < b ^ i) (k : M < b ^ j) : N * M < b ^ (i + j) := by
  rw [Nat.pow_add]
  exact Nat.mul_lt_mul'' h k
theorem nl_add (N M : Nat) : nl (N + M) ≤ nl N + nl M + 1 := nl_le_of_lt (len_add (by omega) _ _ _ _ (lt_nl N) (lt_nl M))
theorem nl_mul (N M : Nat) : nl (N * M) ≤ nl N + nl M := nl_le_of_lt (len_mul (by omega) _ _ _ _ (lt_nl N) (lt_nl M))
theorem zl_add (x y : Int) : zl (x + y) ≤ zl x + zl y + 1 := Nat.le_trans (nl_mono (Int.natAbs_add_le x y)) (nl_add _ _)
theorem zl_mul (x y : Int) : zl (x * y) ≤ zl x + zl y := by unfold zl; rw [Int.natAbs_mul]; exact nl_mul _ _
theorem zl_abs (x : Int) : zl (x.natAbs : Int) = zl x := by unfold zl; rw [Int.natAbs_natCast]
section
variable {x y c : Int}
end
end Go.Proofs.YtegglooojlheoaaDoor

/- Lists of whole numbers; Sum and Product. No condition. -/
namespace Go.Proofs.YtegglooojlheoaaDoor
open Go.RowKit Anv
structure ZList (w : World) (a : Option Addr) (k : Nat) (l : List (Int × Option Addr × Nat)) : Prop where
  len : l.length = k
  cells : 0 < k → ∃ G o, a = some ⟨G, o, none⟩ ∧ G < w.heap.size ∧ ∀ i (h : i < l.length), w.cell? ⟨G, o + i * 2, none⟩ = some (.bool (neg l[i].1)) ∧ w.cell? ⟨G, o + i * 2 + 1, none⟩ = some (.slice l[i].2.1 (zl l[i].1) l[i].2.2)
  nums : ∀ x ∈ l, ZIn w x.2.1 x.2.2 x.1
theorem ZList.below {w w' : World} {a : Option Addr} {k : Nat} {l : List (Int × Option Addr × Nat)} (h : ZList w a k l) (hb : Below w.heap.size w w') : ZList w' a k l :=
  ⟨h.len, fun hp => by
    obtain ⟨G, o, ha, hG, hc⟩ := h.cells hp
    exact ⟨G, o, ha, Nat.lt_of_lt_of_le hG hb.size, fun i hi => ⟨(hb.cell (p := ⟨G, o + i * 2, none⟩) hG).trans (hc i hi).1, (hb.cell (p := ⟨G, o + i * 2 + 1, none⟩) hG).trans (hc i hi).2⟩⟩,
   fun x hx => (h.nums x hx).below hb⟩
theorem ZList.nil (w : World) : ZList w none 0 [] := ⟨rfl, fun h => by omega, fun x hx => by cases hx⟩
def zsum (l : List (Int × Option Addr × Nat)) : Int := l.foldl (fun s x => s + x.1) 0
def zprod (l : List (Int × Option Addr × Nat)) : Int := l.foldl (fun s x => s * x.1) 1
end Go.Proofs.YtegglooojlheoaaDoor
