/- integer.Of, Sub, Times, Cmp, Small. No condition. -/
import Derived.Test.YtnldopjbiacbfaaInt3
namespace Go.Proofs.Ytnldopjbiacbfaa
open Go.RowKit Anv

theorem new_num {w : World} {t : TypeId} {g : Nat} {cs : Array Value} (ys : List Nat) (hg : g = w.heap.size) (hcs : cs = nums .u32 ys) (hl : AllLt 4294967296 ys) (hm : ys.length ≤ 1000) :
    NumIn (w.alloc (.cells cs t)) (some ⟨g, 0, none⟩) ys.length ys.length (val 4294967296 ys) := by
  subst hg hcs
  have h : Arr .u32 t (w.alloc (.cells (nums .u32 ys) t)) w.heap.size ys := heap_alloc_new w _
  exact ⟨ys, h.u32 hl rfl (by simp only [maxLen]; omega), rfl⟩

theorem two_num {w : World} {t : TypeId} {g : Nat} {a b : Int} (m : Nat) (hg : g = w.heap.size) (hm : m < 18446744073709551616) (ha : a = ((m % 4294967296 : Nat) : Int)) (hb : b = ((m / 4294967296 : Nat) : Int)) :
    NumIn (w.alloc (.cells #[.int .u32 a, .int .u32 b] t)) (some ⟨g, 0, none⟩) 2 2 m := by
  have h := new_num (w := w) (t := t) (cs := #[.int .u32 a, .int .u32 b]) [m % 4294967296, m / 4294967296] hg (by subst ha hb; simp [nums]) (by intro x hx; simp at hx; omega) (by simp)
  have e : val 4294967296 [m % 4294967296, m / 4294967296] = m := by simp; omega
  rw [e] at h
  exact h

theorem nl_le_of_lt {N k : Nat} (h : N < 4294967296 ^ k) : nl N ≤ k := dig_len_of_lt (by omega) h

theorem of_z {n : Int} {w : World} (h1 : -9223372036854775808 ≤ n) (h2 : n ≤ 9223372036854775807) :
    Calls Try.prog 31 #[.int .i64 n] w fun e w' => ∃ v, e = .returned v ∧ ZAt w' v n ∧ Below w.heap.size w w' := by
  by_cases hn : n < 0
  · obtain ⟨m, rfl⟩ : ∃ m : Nat, n = -(m : Int) := ⟨n.natAbs, by omega⟩
    have hw : IntKind.u64.wrap (-IntKind.u64.wrap (-(m : Int))) = (m : Int) := by rw [IntKind.wrap_u64, IntKind.wrap_u64]; omega
    have hnl : nl m ≤ 1000000 := by have := nl_le_of_lt (N := m) (k := 2) (by omega); omega
    go_enter Try.func31, Try.ntmps31
    go_wp2_with fail
    refine (make_z (b := true) (N := m) (two_num m (by simp) (by omega) (by omega) (by omega)) hnl).mono ?_
    rintro e w1 ⟨v, rfl, ⟨A1, c1, rfl, hz⟩, hb⟩
    have e1 : sg true m = -(m : Int) := rfl
    rw [e1] at hz ⊢
    have hbw := thru (below2 _ _ _) hb
    have q := ((Box2.new w 28 (.bool false) (.slice none 0 0)).alloc _).below hb (by simp; omega)
    have hc0 := q.c0
    have hc1 := q.c1
    have hf0 := q.f 0
    have hf1 := q.f 1
    have hs := q.lt
    go_wp2
    exact bodyPost_ret (v := .agg #[.bool (neg (-(m : Int))), .slice A1 (zl (-(m : Int))) c1]) (by simp [results, Try.results31, go_sem, hc0, hc1]) rfl ⟨_, rfl, ⟨_, _, rfl, U32.store2 hz hc0 hc1 _ _⟩, below_store2 hbw (Nat.le_refl _) _ _⟩
  · obtain ⟨m, rfl⟩ : ∃ m : Nat, n = (m : Int) := ⟨n.natAbs, by omega⟩
    have hnl : nl m ≤ 1000000 := by have := nl_le_of_lt (N := m) (k := 2) (by omega); omega
    go_enter Try.func31, Try.ntmps31
    go_wp2_with fail
    refine (make_z (b := false) (N := m) (two_num m (by simp) (by omega) (by omega) (by omega)) hnl).mono ?_
    rintro e w1 ⟨v, rfl, ⟨A1, c1, rfl, hz⟩, hb⟩
    have e1 : sg false m = (m : Int) := rfl
    rw [e1] at hz ⊢
    have hbw := thru (below2 _ _ _) hb
    have q := ((Box2.new w 28 (.bool false) (.slice none 0 0)).alloc _).below hb (by simp; omega)
    have hc0 := q.c0
    have hc1 := q.c1
    have hf0 := q.f 0
    have hf1 := q.f 1
    have hs := q.lt
    go_wp2
    exact bodyPost_ret (v := .agg #[.bool (neg (m : Int)), .slice A1 (zl (m : Int)) c1]) (by simp [results, Try.results31, go_sem, hc0, hc1]) rfl ⟨_, rfl, ⟨_, _, rfl, U32.store2 hz hc0 hc1 _ _⟩, below_store2 hbw (Nat.le_refl _) _ _⟩

theorem cmp_sign (x y : Int) : (if neg x then (if neg y then cmpI y.natAbs x.natAbs else -1) else if neg y then 1 else cmpI x.natAbs y.natAbs) = (x - y).sign := by
  unfold neg cmpI
  rcases Int.lt_trichotomy (x - y) 0 with h | h | h
  · rw [Int.sign_eq_neg_one_of_neg h]; (repeat' split) <;> simp_all <;> omega
  · rw [h]; (repeat' split) <;> simp_all <;> omega
  · rw [Int.sign_eq_one_of_pos h]; (repeat' split) <;> simp_all <;> omega

end Go.Proofs.Ytnldopjbiacbfaa
