/- More of layer 2: clones, limbs, small numbers. No condition. -/
import Derived.Test.YtnldopjbiacbfaaInt2
import Derived.Test.YtnldopjbiacbfaaApp
import Derived.Lib.SliceRun
namespace Go.Proofs.Ytnldopjbiacbfaa
open Go.RowKit Anv

theorem own_empty (w : World) (e : TypeId) : Own w.heap.size e (w.alloc (.cells #[] e)) (.slice (some ⟨w.heap.size, 0, none⟩) 0 0) [] :=
  ⟨rfl, .inr ⟨w.heap.size, 0, #[], rfl, Nat.le_refl _, heap_alloc_new w _, Nat.le_refl _, by simp [maxLen], rfl, rfl⟩⟩

theorem clone_u32 {A : Option Addr} {n c : Nat} {xs : List Nat} {w : World} (h : U32 w A n c xs) (hn : n ≤ 1000000) :
    Calls Try.prog 62 #[.slice A n c] w fun e w' => ∃ A' c', e = .returned (.slice A' n c') ∧ U32 w' A' n c' xs ∧ (∀ a, A' = some a → w.heap.size ≤ a.block) ∧ Below w.heap.size w w' := by
  have hl := h.len
  have HL := Lib.hid hl
  clear hl
  have heq := Lib.run_eql_slice_nil (P := Try.prog) w 22 74 A n c 0 0 Try.underlying22
  rcases A with _ | ad
  · go_enter Try.func62, Try.ntmps62
    go_wp2
    go_ret
    have h0 : n = 0 := by
      rcases Nat.eq_zero_or_pos n with h1 | h1
      · exact h1
      · obtain ⟨b, off, hA, _⟩ := h.cells h1; cases hA
    subst h0
    exact ⟨none, 0, rfl, ⟨HL.out, Nat.le_refl _, by simp [maxLen], h.lt, fun hp => by omega⟩, (fun a ha => by cases ha), Below.refl _ _⟩
  · go_enter Try.func62, Try.ntmps62
    go_wp2_with (at_builtin; refine wpList_append_u32 _ rfl (.tmp 5) (.tmp 6) 22 rfl 74 4 Try.underlying22 info_u32 w.heap.size _ [] (own_empty w 74) ad n c xs (h.below (below1 _ _)) rfl rfl (by simp only [maxLen, List.length_nil]; omega) (by simp only [List.length_nil]; omega) (by simp) ?_; intro v1 w1 hO hsz hB)
    go_ret
    have hO' : Own w.heap.size 74 w1 v1 xs := hO
    obtain ⟨A', c', rfl, hU, hf⟩ := hO'.u32 h.lt
    have hl := HL.out
    rw [hl] at hU
    exact ⟨A', c', ret_slice hl rfl, hU, hf, hB _ _ (Nat.le_refl _) (below1 _ _)⟩

theorem limbs_z {A : Option Addr} {c : Nat} {z : Int} {w : World} (h : ZIn w A c z) (hn : zl z ≤ 1000000) :
    Calls Try.prog 43 #[.agg #[.bool (neg z), .slice A (zl z) c]] w fun e w' => ∃ A' c', e = .returned (.tuple #[.bool (neg z), .slice A' (zl z) c']) ∧ ZIn w' A' c' z ∧ (∀ a, A' = some a → w.heap.size ≤ a.block) ∧ Below w.heap.size w w' := by
  go_enter Try.func43, Try.ntmps43
  go_wp2_with fail
  go_region_held3 (fun w' => w'.cell? ⟨w.heap.size, 0, none⟩ = some (.bool (neg z)) ∧ w'.cell? ⟨w.heap.size, 1, none⟩ = some (.slice A (zl z) c)) (first | exact ⟨q0.c0, q0.c1⟩ | go_keep)
    (first | (go_at_call 62; refine (clone_u32 (U32.below h (by exact (below1 _ _).drew)) hn).mono ?_; rintro e w1 ⟨A1, c1, rfl, hU, hf, hb⟩; obtain ⟨q0, hbw, hs⟩ := boxes1 (undrew hb)))
  go_wp2
  go_ret2
  exact ⟨A1, c1, rfl, hU, fun a ha => Nat.le_trans (by simp) (hf a ha), hbw⟩

end Go.Proofs.Ytnldopjbiacbfaa
