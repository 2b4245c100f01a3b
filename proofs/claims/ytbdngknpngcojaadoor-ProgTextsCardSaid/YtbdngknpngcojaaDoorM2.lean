/- What a slice of limbs reads as; the first contracts. No condition. -/
import Derived.Test.YtbdngknpngcojaaDoorRows
import Derived.Test.YtbdngknpngcojaaDoorM1
import Derived.WalkKit
import Derived.WalkLawsBesides
import Derived.WalkSpells
import Derived.Outline
import Derived.Lib.Hide

namespace Go.Proofs.YtbdngknpngcojaaDoor
open Go.RowKit Anv
structure U32 (w : World) (A : Option Addr) (n c : Nat) (xs : List Nat) : Prop where
  len : xs.length = n
  cap : n ≤ c
  big : c ≤ maxLen
  lt : AllLt 4294967296 xs
  cells : 0 < n → ∃ b off, A = some ⟨b, off, none⟩ ∧ b < w.heap.size ∧ ∀ i, i < n → w.cell? ⟨b, off + i, none⟩ = some (.int .u32 (xs.getD i 0 : Nat))
def tl (xs : List Nat) : Nat := (trim xs).length
def L (N : Nat) : List Nat := dig 4294967296 N
theorem val_L (N : Nat) : val 4294967296 (L N) = N := val_dig (by omega) N
theorem L_lt (N : Nat) : AllLt 4294967296 (L N) := dig_lt (by omega) N
theorem trim_L {xs : List Nat} (h : AllLt 4294967296 xs) : trim xs = L (val 4294967296 xs) := trim_eq (by omega) h
theorem tl_L {xs : List Nat} (h : AllLt 4294967296 xs) : tl xs = (L (val 4294967296 xs)).length := by unfold tl; rw [trim_L h]
theorem tl_le (xs : List Nat) : tl xs ≤ xs.length := by
  obtain ⟨n, hn⟩ := trim_spec xs
  have := congrArg List.length hn
  simp at this
  unfold tl; omega
theorem take_tl {xs : List Nat} (h : AllLt 4294967296 xs) : xs.take (tl xs) = L (val 4294967296 xs) := by
  obtain ⟨n, hn⟩ := trim_spec xs
  rw [← trim_L h]
  conv => lhs; rw [hn]
  unfold tl
  conv => lhs; rw [← hn]
  conv => lhs; arg 2; rw [hn]
  simp
theorem U32.trim {w : World} {A : Option Addr} {n c : Nat} {xs : List Nat} (h : U32 w A n c xs) : U32 w A (tl xs) (tl xs) (L (val 4294967296 xs)) := by
  have hl := tl_le xs
  rw [h.len] at hl
  refine ⟨(tl_L h.lt).symm, Nat.le_refl _, ?_, L_lt _, fun hp => ?_⟩
  · have := h.cap; have := h.big; omega
  · obtain ⟨b, off, hA, hb, hc⟩ := h.cells (by omega)
    refine ⟨b, off, hA, hb, fun i hi => ?_⟩
    rw [hc i (by omega), ← take_tl h.lt]
    congr 3
    simp [List.getD, hi]
theorem U32.below {w w' : World} {A : Option Addr} {n c : Nat} {xs : List Nat} (h : U32 w A n c xs) (hb : Below w.heap.size w w') : U32 w' A n c xs :=
  ⟨h.len, h.cap, h.big, h.lt, fun hp => by
    obtain ⟨b, off, hA, hlt, hc⟩ := h.cells hp
    exact ⟨b, off, hA, Nat.lt_of_lt_of_le hlt hb.size, fun i hi => (hb.cell (p := ⟨b, off + i, none⟩) hlt).trans (hc i hi)⟩⟩
def NumAt (B : Nat) (w : World) (v : Value) (N : Nat) : Prop :=
  ∃ A c, v = .slice A (L N).length c ∧ U32 w A (L N).length c (L N) ∧ ∀ a, A = some a → B ≤ a.block
def nl (N : Nat) : Nat := (L N).length
def NumIn (w : World) (A : Option Addr) (n c : Nat) (N : Nat) : Prop := ∃ xs, U32 w A n c xs ∧ val 4294967296 xs = N
theorem NumIn.below {w w' : World} {A : Option Addr} {n c N : Nat} (h : NumIn w A n c N) (hb : Below w.heap.size w w') : NumIn w' A n c N := by
  obtain ⟨xs, hx, hv⟩ := h
  exact ⟨xs, hx.below hb, hv⟩
theorem U32.num {w : World} {A : Option Addr} {n c N : Nat} (h : U32 w A n c (L N)) : NumIn w A n c N := ⟨_, h, val_L N⟩
def cmpI (N M : Nat) : Int := if N < M then -1 else if M < N then 1 else 0
theorem cmpI_lt {N M : Nat} (h : N < M) : cmpI N M = -1 := if_pos h
theorem cmpI_gt {N M : Nat} (h : M < N) : cmpI N M = 1 := by unfold cmpI; rw [if_neg (by omega), if_pos h]
theorem cmpI_eq (N : Nat) : cmpI N N = 0 := by unfold cmpI; rw [if_neg (by omega), if_neg (by omega)]
theorem cmpI_bd (N M : Nat) : -1 ≤ cmpI N M ∧ cmpI N M ≤ 1 := by unfold cmpI; (repeat' split) <;> omega
theorem below_drewN' (w : World) (n : Nat) : Below w.heap.size w (w.drewN n) := ⟨rfl, rfl, rfl, Nat.le_refl _, fun _ _ => rfl⟩
theorem below1 (w : World) (o : Obj) : Below w.heap.size w (w.alloc o) := (Below.refl _ _).alloc (Nat.le_refl _) _
theorem thru {w W w' : World} (h : Below w.heap.size w W) (k : Below W.heap.size W w') : Below w.heap.size w w' := h.trans (k.mono h.size)
theorem U32.store {w : World} {A : Option Addr} {n c : Nat} {xs : List Nat} (h : U32 w A n c xs) {p : Addr} (hp : ∀ x, w.cell? p ≠ some (.int .u32 x)) (u : Value) : U32 (w.setCell p u) A n c xs :=
  ⟨h.len, h.cap, h.big, h.lt, fun h0 => by
    obtain ⟨b, off, rfl, hlt, hc⟩ := h.cells h0
    refine ⟨b, off, rfl, by simp [World.setCell]; exact hlt, fun i hi => ?_⟩
    rw [World.cell?_setCell_other]
    · exact hc i hi
    · intro e
      exact hp _ (by rw [e]; exact hc i hi)⟩
theorem U32.store2 {w : World} {A : Option Addr} {n c : Nat} {xs : List Nat} (h : U32 w A n c xs) {g : Nat} (h0 : w.cell? ⟨g, 0, none⟩ = some (.bool false)) (h1 : w.cell? ⟨g, 1, none⟩ = some (.slice none 0 0)) (u u' : Value) :
    U32 ((w.setCell ⟨g, 0, none⟩ u).setCell ⟨g, 1, none⟩ u') A n c xs :=
  (h.store (by rw [h0]; intro x hx; cases hx) u).store (by
    rw [World.cell?_setCell_other]
    · rw [h1]; intro x hx; cases hx
    · simp) u'
theorem below_store2 {w w1 : World} {g : Nat} (h : Below w.heap.size w w1) (hg : w.heap.size ≤ g) (u u' : Value) : Below w.heap.size w ((w1.setCell ⟨g, 0, none⟩ u).setCell ⟨g, 1, none⟩ u') :=
  (h.setCell (by exact hg) u).setCell (by exact hg) u'
theorem int_eq {k : IntKind} {a b : Int} (h : a = b) : Value.int k a = Value.int k b := by rw [h]
end Go.Proofs.YtbdngknpngcojaaDoor

/- limb.trim: a list without high noughts is the list's own beginning. No condition. -/
namespace Go.Proofs.YtbdngknpngcojaaDoor
open Go.RowKit Anv
end Go.Proofs.YtbdngknpngcojaaDoor
