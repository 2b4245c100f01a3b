/- What a slice of limbs reads as; the first contracts. No condition. -/
import Derived.Test.YtegglooojlheoaaDoorRows
import Derived.Test.YtegglooojlheoaaDoorM1
import Derived.WalkKit
import Derived.WalkLawsBesides
import Derived.WalkSpells
import Derived.Outline
import Derived.Lib.Hide

namespace Go.Proofs.YtegglooojlheoaaDoor
open Go.RowKit Anv
structure U32 (w : World) (A : Option Addr) (n c : Nat) (xs : List Nat) : Prop where
  len : xs.length = n
  cap : n ≤ c
  big : c ≤ maxLen
  lt : AllLt 4294967296 xs
  cells : 0 < n → ∃ b off, A = some ⟨b, off, none⟩ ∧ b < w.heap.size ∧ ∀ i, i < n → w.cell? ⟨b, off + i, none⟩ = some (.int .u32 (xs.getD i 0 : Nat))
def tl (xs : List Nat) : Nat := (trim xs).length
theorem tl_eq {xs : List Nat} (h : AllLt 4294967296 xs) (m : Nat) (hm : m ≤ xs.length) (hz : ∀ i, m ≤ i → i < xs.length → xs.getD i 0 = 0) (hl : m = 0 ∨ xs.getD (m - 1) 0 ≠ 0) : m = tl xs := by
  have h1 := take_eq_dig (by omega) h m hm hz hl
  unfold tl
  rw [trim_eq (by omega) h, ← h1]
  simp; omega
def L (N : Nat) : List Nat := dig 4294967296 N
theorem val_L (N : Nat) : val 4294967296 (L N) = N := val_dig (by omega) N
theorem L_lt (N : Nat) : AllLt 4294967296 (L N) := dig_lt (by omega) N
theorem L_zero : L 0 = [] := dig_zero _
theorem trim_L {xs : List Nat} (h : AllLt 4294967296 xs) : trim xs = L (val 4294967296 xs) := trim_eq (by omega) h
theorem tl_L {xs : List Nat} (h : AllLt 4294967296 xs) : tl xs = (L (val 4294967296 xs)).length := by unfold tl; rw [trim_L h]
theorem tl_le (xs : List Nat) : tl xs ≤ xs.length := by
  obtain ⟨n, hn⟩ := trim_spec xs
  have := congrArg List.length hn
  simp at this
  unfold tl; omega
theorem take_tl {xs : List Nat} (h : AllLt 4294967296 xs) : xs.take (tl xs) = L (val 4294967296 xs) := by
  obtain ⟨n, hn⟩ := trim_spec xs
  rw [← trim_L h]
  conv => lhs; rw [hn]
  unfold tl
  conv => lhs; rw [← hn]
  conv => lhs; arg 2; rw [hn]
  simp
theorem U32.trim {w : World} {A : Option Addr} {n c : Nat} {xs : List Nat} (h : U32 w A n c xs) : U32 w A (tl xs) (tl xs) (L (val 4294967296 xs)) := by
  have hl := tl_le xs
  rw [h.len] at hl
  refine ⟨(tl_L h.lt).symm, Nat.le_refl _, ?_, L_lt _, fun hp => ?_⟩
  · have := h.cap; have := h.big; omega
  · obtain ⟨b, off, hA, hb, hc⟩ := h.cells (by omega)
    refine ⟨b, off, hA, hb, fun i hi => ?_⟩
    rw [hc i (by omega), ← take_tl h.lt]
    congr 3
    simp [List.getD, hi]
theorem U32.below {w w' : World} {A : Option Addr} {n c : Nat} {xs : List Nat} (h : U32 w A n c xs) (hb : Below w.heap.size w w') : U32 w' A n c xs :=
  ⟨h.len, h.cap, h.big, h.lt, fun hp => by
    obtain ⟨b, off, hA, hlt, hc⟩ := h.cells hp
    exact ⟨b, off, hA, Nat.lt_of_lt_of_le hlt hb.size, fun i hi => (hb.cell (p := ⟨b, off + i, none⟩) hlt).trans (hc i hi)⟩⟩
def NumAt (B : Nat) (w : World) (v : Value) (N : Nat) : Prop :=
  ∃ A c, v = .slice A (L N).length c ∧ U32 w A (L N).length c (L N) ∧ ∀ a, A = some a → B ≤ a.block
def nl (N : Nat) : Nat := (L N).length
def NumIn (w : World) (A : Option Addr) (n c : Nat) (N : Nat) : Prop := ∃ xs, U32 w A n c xs ∧ val 4294967296 xs = N
theorem NumIn.below {w w' : World} {A : Option Addr} {n c N : Nat} (h : NumIn w A n c N) (hb : Below w.heap.size w w') : NumIn w' A n c N := by
  obtain ⟨xs, hx, hv⟩ := h
  exact ⟨xs, hx.below hb, hv⟩
theorem U32.num {w : World} {A : Option Addr} {n c N : Nat} (h : U32 w A n c (L N)) : NumIn w A n c N := ⟨_, h, val_L N⟩
def cmpI (N M : Nat) : Int := if N < M then -1 else if M < N then 1 else 0
theorem cmpI_lt {N M : Nat} (h : N < M) : cmpI N M = -1 := if_pos h
theorem cmpI_gt {N M : Nat} (h : M < N) : cmpI N M = 1 := by unfold cmpI; rw [if_neg (by omega), if_pos h]
theorem cmpI_eq (N : Nat) : cmpI N N = 0 := by unfold cmpI; rw [if_neg (by omega), if_neg (by omega)]
theorem cmpI_bd (N M : Nat) : -1 ≤ cmpI N M ∧ cmpI N M ≤ 1 := by unfold cmpI; (repeat' split) <;> omega
theorem cmpI_neg (N M : Nat) : cmpI N M < 0 ↔ N < M := by unfold cmpI; (repeat' split) <;> omega
theorem below_drewN' (w : World) (n : Nat) : Below w.heap.size w (w.drewN n) := ⟨rfl, rfl, rfl, Nat.le_refl _, fun _ _ => rfl⟩
theorem below1 (w : World) (o : Obj) : Below w.heap.size w (w.alloc o) := (Below.refl _ _).alloc (Nat.le_refl _) _
theorem below2 (w : World) (o o' : Obj) : Below w.heap.size w ((w.alloc o).alloc o') := (below1 w o).alloc (by simp) _
theorem below3 (w : World) (o o' o'' : Obj) : Below w.heap.size w (((w.alloc o).alloc o').alloc o'') := (below2 w o o').alloc (by simp; omega) _
theorem thru {w W w' : World} (h : Below w.heap.size w W) (k : Below W.heap.size W w') : Below w.heap.size w w' := h.trans (k.mono h.size)
theorem U32.store {w : World} {A : Option Addr} {n c : Nat} {xs : List Nat} (h : U32 w A n c xs) {p : Addr} (hp : ∀ x, w.cell? p ≠ some (.int .u32 x)) (u : Value) : U32 (w.setCell p u) A n c xs :=
  ⟨h.len, h.cap, h.big, h.lt, fun h0 => by
    obtain ⟨b, off, rfl, hlt, hc⟩ := h.cells h0
    refine ⟨b, off, rfl, by simp [World.setCell]; exact hlt, fun i hi => ?_⟩
    rw [World.cell?_setCell_other]
    · exact hc i hi
    · intro e
      exact hp _ (by rw [e]; exact hc i hi)⟩
theorem U32.store2 {w : World} {A : Option Addr} {n c : Nat} {xs : List Nat} (h : U32 w A n c xs) {g : Nat} (h0 : w.cell? ⟨g, 0, none⟩ = some (.bool false)) (h1 : w.cell? ⟨g, 1, none⟩ = some (.slice none 0 0)) (u u' : Value) :
    U32 ((w.setCell ⟨g, 0, none⟩ u).setCell ⟨g, 1, none⟩ u') A n c xs :=
  (h.store (by rw [h0]; intro x hx; cases hx) u).store (by
    rw [World.cell?_setCell_other]
    · rw [h1]; intro x hx; cases hx
    · simp) u'
theorem below_store2 {w w1 : World} {g : Nat} (h : Below w.heap.size w w1) (hg : w.heap.size ≤ g) (u u' : Value) : Below w.heap.size w ((w1.setCell ⟨g, 0, none⟩ u).setCell ⟨g, 1, none⟩ u') :=
  (h.setCell (by exact hg) u).setCell (by exact hg) u'
theorem int_eq {k : IntKind} {a b : Int} (h : a = b) : Value.int k a = Value.int k b := by rw [h]
theorem and_one (v : Int) (h : 0 ≤ v) (h2 : v < 18446744073709551616) : bits .and .u64 v 1 = v % 2 := by
  rw [u64_and v 1 h h2 (by omega) (by omega)]
  rw [show (1 : Int).toNat = 1 from rfl, Nat.and_one_is_mod]
  omega
theorem borrow_yes (x s : Nat) (hx : x < 4294967296) (hs : s ≤ 4294967296) (h : x < s) :
    bits .and .u64 (IntKind.u64.wrap ((x : Int) - s) / 4294967296) 1 = 1 ∧ IntKind.u64.wrap ((x : Int) - s) % 4294967296 = ((x + 4294967296 - s : Nat) : Int) := by
  rw [IntKind.wrap_u64]
  have e : ((x : Int) - s) % 18446744073709551616 = (x : Int) - s + 18446744073709551616 := by omega
  rw [e, and_one _ (by omega) (by omega)]
  omega
theorem borrow_no (x s : Nat) (hx : x < 4294967296) (h : ¬ x < s) :
    bits .and .u64 (((x : Int) - s) / 4294967296) 1 = 0 ∧ ((x : Int) - s) = ((x - s : Nat) : Int) := by
  rw [and_one _ (by omega) (by omega)]
  omega
theorem ret_slice {A : Option Addr} {m m' k k' : Nat} (h : m = m') (h' : k = k') : Ending.returned (.slice A m k) = .returned (.slice A m' k') := by rw [h, h']
end Go.Proofs.YtegglooojlheoaaDoor

/- limb.trim: a list without high noughts is the list's own beginning. No condition. -/
namespace Go.Proofs.YtegglooojlheoaaDoor
open Go.RowKit Anv
theorem trim_any (A : Option Addr) (n c : Nat) (xs : List Nat) (w : World) (h : U32 w A n c xs) :
    Calls Tryd.prog 136 #[.slice A n c] w fun e w' => e = .returned (.slice A (tl xs) (tl xs)) ∧ w = w' := by
  have hc := h.cap
  have hb := h.big
  unfold maxLen at hb
  go_enter Tryd.func136, Tryd.ntmps136
  go_wp2
  go_loop [3] (fun i => ∃ m : Nat, m ≤ n ∧ i = .int .i64 m ∧ Hid (∀ j, m ≤ j → j < n → xs.getD j 0 = 0)) (fun i => (intOf i).toNat)
  case atStart => exact ⟨n, Nat.le_refl _, rfl, fun j h1 h2 => by omega⟩
  case round =>
    obtain ⟨m, hm, rfl, HZ⟩ := hrel
    rcases m with _ | m
    · go_wp2
      go_ret
      have e := tl_eq h.lt 0 (by omega) (fun j h1 h2 => HZ.out j h1 (by rw [← h.len]; exact h2)) (.inl rfl)
      exact ⟨ret_slice e e, rfl⟩
    · obtain ⟨b, off, rfl, hbw, hcs⟩ := h.cells (by omega)
      have hcell := hcs m (by omega)
      clear hcs
      generalize hx : xs.getD m 0 = x at hcell
      have HX := Lib.hid hx
      clear hx
      by_cases hx : x = 0
      · subst hx
        go_wp2
        go_round
        case rel =>
          refine ⟨m, by omega, rfl, fun j h1 h2 => ?_⟩
          rcases Nat.eq_or_lt_of_le h1 with h3 | h3
          · rw [← h3]; exact HX.out
          · exact HZ.out j (by omega) h2
        case measure => simp [intOf]
      · have hx0 : ((x : Int) == 0) = false := by simp; omega
        go_wp2
        go_ret
        have e := tl_eq h.lt (m + 1) (by rw [h.len]; omega) (fun j h1 h2 => HZ.out j h1 (by rw [← h.len]; exact h2)) (.inr (by rw [Nat.add_sub_cancel, HX.out]; exact hx))
        exact ⟨ret_slice e e, rfl⟩
theorem trim_num (A : Option Addr) (n c N : Nat) (w : World) (h : NumIn w A n c N) :
    Calls Tryd.prog 136 #[.slice A n c] w fun e w' => e = .returned (.slice A (nl N) (nl N)) ∧ U32 w A (nl N) (nl N) (L N) ∧ w = w' := by
  obtain ⟨xs, hx, rfl⟩ := h
  refine (trim_any A n c xs w hx).mono ?_
  rintro e w' ⟨rfl, rfl⟩
  have h1 := tl_L hx.lt
  have h2 := hx.trim
  rw [h1] at h2 ⊢
  exact ⟨rfl, h2, rfl⟩
end Go.Proofs.YtegglooojlheoaaDoor
