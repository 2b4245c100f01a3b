/- The statements' own small functions: live, long, of. No condition. -/
import Derived.Test.YtnldopjbiacbfaaLaw1
namespace Go.Proofs.Ytnldopjbiacbfaa
open Go.RowKit Anv

theorem live_true (w : World) : Calls Try.prog 8 #[] w fun e w' => e = .returned (.bool true) ∧ Below w.heap.size w w' := by
  have z1 := zl_small (n := -7) (by omega) (by omega)
  have z2 := zl_small (n := 2) (by omega) (by omega)
  have h7 : zl (-7) ≤ 1000000 := by omega
  have h2 : zl 2 ≤ 1000000 := by omega
  have hs : smallV (-5) = .tuple #[.int .i64 (-5), .bool true] := smallV_yes (by omega) (by omega)
  have HS := Lib.hid hs
  clear z1 z2 hs
  go_enter Try.func8, Try.ntmps8
  go_wp2_with fail
  refine (of_z (n := -7) (by omega) (by omega)).mono ?_
  rintro e w1 ⟨v, rfl, ⟨A1, c1, rfl, hz1⟩, hb1⟩
  go_wp2_with fail
  refine (of_z (n := 2) (by omega) (by omega)).mono ?_
  rintro e w2 ⟨v, rfl, ⟨A2, c2, rfl, hz2⟩, hb2⟩
  go_wp2_with fail
  refine (add_z (hz1.below hb2) hz2 h7 h2).mono ?_
  rintro e w3 ⟨v, rfl, ⟨A3, c3, rfl, hz3⟩, hb3⟩
  go_wp2_with fail
  refine (small_neg (z := -5) hz3 (by omega)).mono ?_
  rintro e w4 ⟨rfl, hb4⟩
  rw [HS.out]
  go_wp2
  go_ret
  exact ⟨rfl, thru (thru (thru hb1 hb2) hb3) hb4⟩

/-- The cells of a list of the statements' numbers. -/
def flat (l : List (Bool × Option Addr × Nat × Nat)) : List Value := l.flatMap fun x => [.bool x.1, .slice x.2.1 x.2.2.1 x.2.2.2]
theorem flat_len (l : List (Bool × Option Addr × Nat × Nat)) : (flat l).length = 2 * l.length := by
  induction l with
  | nil => rfl
  | cons x l ih => simp [flat] at ih ⊢; omega
theorem flat_at (l : List (Bool × Option Addr × Nat × Nat)) (i : Nat) (h : i < l.length) : (flat l)[2 * i + 1]? = some (.slice l[i].2.1 l[i].2.2.1 l[i].2.2.2) := by
  induction l generalizing i with
  | nil => simp at h
  | cons x l ih =>
    have e : flat (x :: l) = .bool x.1 :: .slice x.2.1 x.2.2.1 x.2.2.2 :: flat l := rfl
    rw [e]
    rcases i with _ | i
    · rfl
    · have := ih i (by simpa using h)
      rw [show 2 * (i + 1) + 1 = 2 * i + 1 + 1 + 1 from by omega, List.getElem?_cons_succ, List.getElem?_cons_succ, this]
      rfl

theorem long_any {g k : Nat} (l : List (Bool × Option Addr × Nat × Nat)) {t : TypeId} {w : World} (hg : w.heap[g]? = some (.cells (flat l).toArray t (0, 0))) (hk : l.length = k) (hl : k ≤ 100) (hb : ∀ x ∈ l, x.2.2.1 ≤ maxLen) :
    Calls Try.prog 9 #[.slice (some ⟨g, 0, none⟩) k k] w fun e w' => e = .returned (.bool (l.any fun x => decide (60 < x.2.2.1))) ∧ w = w' := by
  go_enter Try.func9, Try.ntmps9
  go_wp2
  go_loop [3] (fun i => ∃ j : Nat, j ≤ k ∧ i = .int .i64 j ∧ Hid (∀ q, q < j → ∀ h : q < l.length, ¬ 60 < l[q].2.2.1)) (fun i => k - (intOf i).toNat)
  case atStart => exact ⟨0, Nat.zero_le _, rfl, fun q hq => by omega⟩
  case round =>
    obtain ⟨j, hj, rfl, HI⟩ := hrel
    by_cases hlt : j < k
    · have hjl : j < l.length := by omega
      have hc : w.cell? ⟨g, j * 2 + 1, none⟩ = some (.slice l[j].2.1 l[j].2.2.1 l[j].2.2.2) := by
        rw [Nat.mul_comm, cell_of_row w g (2 * j + 1) _ t (0, 0) hg]
        simpa using flat_at l j hjl
      have hbj := hb l[j] (List.getElem_mem hjl)
      unfold maxLen at hbj
      obtain ⟨nn, hnn⟩ : ∃ nn, l[j].2.2.1 = nn := ⟨_, rfl⟩
      rw [hnn] at hc hbj
      have HN := Lib.hid hnn
      clear hnn hg hb
      by_cases h60 : 60 < nn
      · go_wp2
        go_ret
        refine ⟨?_, rfl⟩
        have e : (l.any fun x => decide (60 < x.2.2.1)) = true := by
          rw [List.any_eq_true]
          exact ⟨l[j], List.getElem_mem hjl, by rw [HN.out]; simp [h60]⟩
        rw [e]; rfl
      · go_wp2
        go_round
        case rel =>
          refine ⟨j + 1, by omega, by go_num, fun q hq h => ?_⟩
          rcases Nat.eq_or_lt_of_le (Nat.le_of_lt_succ hq) with h1 | h1
          · subst h1; rw [HN.out]; exact h60
          · exact HI.out q h1 h
        case measure => simp [intOf]; omega
    · clear hg hb
      go_wp2
      go_ret
      refine ⟨?_, rfl⟩
      have e : (l.any fun x => decide (60 < x.2.2.1)) = false := by
        rw [List.any_eq_false]
        intro x hx
        obtain ⟨q, hq, rfl⟩ := List.getElem_of_mem hx
        have := HI.out q (by omega) hq
        simpa using this
      rw [e]; rfl

/-- What is handed to a statement as a number. -/
def Arg (w : World) (v : Value) (b : Bool) (A : Option Addr) (n c N : Nat) : Prop := v = .agg #[.bool b, .slice A n c] ∧ NumIn w A n c N

set_option maxHeartbeats 400000 in
theorem of_any {b : Bool} {A : Option Addr} {n c : Nat} {xs : List Nat} {w : World} (h : U32 w A n c xs) (hn : n ≤ 60) :
    Calls Try.prog 10 #[.agg #[.bool b, .slice A n c]] w fun e w' => ∃ v u, e = .returned (.tuple #[v, u]) ∧ ZAt w' v (sg b (val 4294967296 xs)) ∧ RAt w' u (sg b (val 4294967296 xs)) ∧ Below w.heap.size w w' := by
  have hN : nl (val 4294967296 xs) ≤ 1000000 := by
    have h1 := val_lt h.lt
    rw [h.len] at h1
    have := nl_le_of_lt h1
    omega
  go_enter Try.func10, Try.ntmps10
  go_wp2_with fail
  go_region_held3 (fun w' => w'.cell? ⟨w.heap.size, 0, none⟩ = some (.bool b) ∧ w'.cell? ⟨w.heap.size, 1, none⟩ = some (.slice A n c)) (first | (with_reducible exact ⟨q0.c0, q0.c1⟩) | (with_reducible exact ⟨r0.c0, r0.c1⟩) | (with_reducible exact ⟨(s1 _ _).c0, (s1 _ _).c1⟩) | (with_reducible exact ⟨(s2 _ _).c0, (s2 _ _).c1⟩) | (with_reducible exact ⟨(s12 _ _ _ _).c0, (s12 _ _ _ _).c1⟩) | (with_reducible exact ⟨(s21 _ _ _ _).c0, (s21 _ _ _ _).c1⟩) | go_keep)
    (first | (go_at_call 28; refine (make_z (NumIn.below ⟨_, h, rfl⟩ (by exact (below3 _ _ _ _).drew)) hN).mono ?_; rintro e w1 ⟨v, rfl, ⟨A1, c1, rfl, hz1⟩, hb⟩; obtain ⟨q0, q1, q2, hbw, hs⟩ := boxes3 (undrew hb)) | (go_at_call 44; refine (make_r (U32.below h hbw) (by omega)).mono ?_; rintro e w2 ⟨u, rfl, ⟨A2, c2, rfl, hz2⟩, hb2⟩; have r0 := q0.below hb2 q0.lt; have r1 := q1.below hb2 q1.lt; have r2 := q2.below hb2 q2.lt; have hc0 := r1.c0; have hc1 := r1.c1; have hf0 := r1.f 0; have hf1 := r1.f 1; have hd0 := r2.c0; have hd1 := r2.c1; have hg0 := r2.f 0; have hg1 := r2.f 1; have hs2 := r2.lt; have s1 := fun u u' => r0.far2 (k := w.heap.size + 1) (by omega) u u'; have s2 := fun u u' => r0.far2 (k := w.heap.size + 1 + 1) (by omega) u u'; have s12 := fun u u' v v' => (r0.far2 (k := w.heap.size + 1) (by omega) u u').far2 (k := w.heap.size + 1 + 1) (by omega) v v'; have s21 := fun u u' v v' => (r0.far2 (k := w.heap.size + 1 + 1) (by omega) u u').far2 (k := w.heap.size + 1) (by omega) v v'))
  go_wp2
  have r2' := fun u u' => r2.far2 (k := w.heap.size + 1) (by omega) u u'
  have hz1' := hz1.below hb2
  exact bodyPost_ret (v := .tuple #[.agg #[.bool (neg (sg b (val 4294967296 xs))), .slice A1 (zl (sg b (val 4294967296 xs))) c1], .agg #[.bool (neg (sg b (val 4294967296 xs))), .slice A2 (dl (sg b (val 4294967296 xs))) c2]]) (by simp [results, Try.results10, go_sem, hc0, hc1, hd0, hd1]) rfl
    ⟨_, _, rfl, ⟨_, _, rfl, U32.store2 (U32.store2 hz1' hc0 hc1 _ _) (r2' _ _).c0 (r2' _ _).c1 _ _⟩, ⟨_, _, rfl, U32.store2 (U32.store2 hz2 hc0 hc1 _ _) (r2' _ _).c0 (r2' _ _).c1 _ _⟩, below_store2 (below_store2 (thru hbw hb2) (by omega) _ _) (by omega) _ _⟩

end Go.Proofs.Ytnldopjbiacbfaa
