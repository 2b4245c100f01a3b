/- The reference: digits out of limbs. No condition. -/
import Derived.Test.YtnldopjbiacbfaaRef7
namespace Go.Proofs.Ytnldopjbiacbfaa
open Go.RowKit Anv

/-- Limbs, halved. -/
def halves (xs : List Nat) : List Nat := xs.flatMap fun x => [x % 65536, x / 65536]
theorem halves_snoc (xs : List Nat) (x : Nat) : halves (xs ++ [x]) = halves xs ++ [x % 65536, x / 65536] := by simp [halves]
theorem halves_len (xs : List Nat) : (halves xs).length = 2 * xs.length := by
  induction xs with
  | nil => rfl
  | cons x xs ih => simp [halves] at ih ⊢; omega
theorem halves_lt {xs : List Nat} (h : AllLt 4294967296 xs) : AllLt 65536 (halves xs) := by
  intro y hy
  simp [halves] at hy
  obtain ⟨x, hx, hy⟩ := hy
  have := h x hx
  omega
theorem val_halves (xs : List Nat) : val 65536 (halves xs) = val 4294967296 xs := by
  induction xs with
  | nil => rfl
  | cons x xs ih =>
    have e : halves (x :: xs) = [x % 65536, x / 65536] ++ halves xs := by simp [halves]
    rw [e, val_append, ih]
    simp
    omega

theorem halves_take {xs : List Nat} {k x : Nat} (hk : k < xs.length) (hx : xs.getD k 0 = x) : halves (xs.take (k + 1)) = halves (xs.take k) ++ [x % 65536, x / 65536] := by
  rw [List.take_succ_eq_append_getElem hk, halves_snoc, ← getD_lt hk, hx]

theorem make_r {b : Bool} {A : Option Addr} {n c : Nat} {xs : List Nat} {w : World} (hx : U32 w A n c xs) (hn : n ≤ 1000000) :
    Calls Try.prog 44 #[.bool b, .slice A n c] w fun e w' => ∃ v, e = .returned v ∧ RAt w' v (sg b (val 4294967296 xs)) ∧ Below w.heap.size w w' := by
  go_enter Try.func44, Try.ntmps44
  go_wp2
  go_loopw [5, 6] (fun o i wr => ∃ k : Nat, k ≤ n ∧ i = .int .i64 k ∧ Hid (Own (w.heap.size + 1) 74 wr o (halves (xs.take k))) ∧ Hid (Below (w.heap.size + 1) (w.alloc (.cells #[.bool false, .slice none 0 0] 30)) wr)) (fun _ i _ => n - (intOf i).toNat)
  case atStart => exact ⟨0, Nat.zero_le _, rfl, Own.nil _ _ _, Below.refl _ _⟩
  case round =>
    obtain ⟨k, hk, rfl, HO, HW⟩ := hrel
    by_cases hlt : k < n
    · obtain ⟨b1, off, rfl, hwb, hcs⟩ := hx.cells (by omega)
      have hcx := ((HW.out.cell (p := ⟨b1, off + k, none⟩) (by show b1 < _; omega)).trans (World.cell?_alloc_lt w _ ⟨b1, off + k, none⟩ hwb)).trans (hcs k hlt)
      have hxlt := hx.lt.get (by omega) k
      generalize hx : xs.getD k 0 = x at hcx hxlt
      have HX := Lib.hid hx
      clear hx hcs
      have hk0 : (0 : Int) ≤ (k : Int) := by omega
      have hk1 : (k : Int) < (n : Int) := by omega
      have hkt : ((k : Int)).toNat = k := by omega
      have hm1 : (x : Int).tmod 65536 = (x : Int) % 65536 := Int.tmod_eq_emod_of_nonneg (by omega)
      have hm2 : IntKind.u32.wrap ((x : Int) / 65536) = (x : Int) / 65536 := IntWalk.u32_in _ (by omega)
      go_wp2_with fail
      go_region_held3 (fun w' => w'.cell? ⟨b1, off + k, none⟩ = some (.int .u32 x)) (first | go_keep | (exact hkeep))
        ((refine step_append_nums rfl (.tmp 13) (.tmp 24) 22 rfl 74 4 Try.underlying22 info_u32 (w.heap.size + 1) _ (halves (xs.take k)) (Own.drew (HO.out.below (below1 _ _) (Nat.le_refl _))) ⟨wr.heap.size, 0, none⟩ 2 2 [x % 65536, x / 65536] rfl (cells_new' wr _ _ (by simp [nums])) (by rfl) (by rfl) ?_ ?_ ?_ ?_; (rw [halves_len, List.length_take]; simp only [maxLen]; omega); (rw [halves_len, List.length_take]; omega); (have := HW.out.size; simp at this; simp; omega); intro v1 w1 hO1 hs1 hB1; have HO1 := Lib.hid hO1; have hB1' := hB1 _ _ (Nat.le_refl _) ((HW.out.alloc (by have := HW.out.size; simp at this; omega) _).drew); have HB1 := Lib.hid hB1'; have hkeep : w1.cell? ⟨b1, off + k, none⟩ = some (.int .u32 x) := ((hB1'.cell (p := ⟨b1, off + k, none⟩) (by show b1 < _; omega)).trans ((HW.out.cell (p := ⟨b1, off + k, none⟩) (by show b1 < _; omega)).symm)).trans hcx; clear hO1 hB1 hB1'))
      go_wp2
      go_roundw
      case rel => exact ⟨k + 1, by omega, by go_num, by rw [halves_take (by rw [hx.len]; exact hlt) HX.out]; exact HO1.out, HB1.out⟩
      case measure => simp [intOf]; omega
    · have hL : AllLt 65536 (halves (xs.take k)) := halves_lt (hx.lt.take k)
      obtain ⟨A1, c1, rfl, hU, hf⟩ := HO.out.u32 (wide hL)
      have hv : val 65536 (halves (xs.take k)) = val 4294967296 xs := by rw [val_halves, List.take_of_length_le (by rw [hx.len]; omega)]
      have HV := Lib.hid hv
      have q := (Box2.new w 30 (.bool false) (.slice none 0 0)).below HW.out (Nat.lt_succ_self _)
      clear hv hf
      go_wp2_with fail
      refine (norm_ref hU hL).mono ?_
      rintro e w2 ⟨rfl, hz, hb⟩
      have q2 := q.below hb q.lt
      have hc0 := q2.c0
      have hc1 := q2.c1
      have hf0 := q2.f 0
      have hf1 := q2.f 1
      have hs := q2.lt
      rw [HV.out] at hz ⊢
      go_wp2
      exact bodyPost_ret (v := .agg #[.bool (neg (sg b (val 4294967296 xs))), .slice A1 (dl (sg b (val 4294967296 xs))) c1]) (by simp [results, Try.results44, go_sem, hc0, hc1]) rfl
        ⟨_, rfl, ⟨_, _, rfl, U32.store2 hz hc0 hc1 _ _⟩, below_store2 (thru (w := w) (W := wr) ((below1 w _).trans (HW.out.mono (Nat.le_succ _))) hb) (Nat.le_refl _) _ _⟩

end Go.Proofs.Ytnldopjbiacbfaa
