/- Lasting facts on numbers. No condition. -/
import Derived.Test.YtnldopjbiacbfaaM9
import Derived.Test.YtnldopjbiacbfaaM4

namespace Go.Proofs.Ytnldopjbiacbfaa
open Go.RowKit Anv

theorem u32_keep {w w' : World} {A : Option Addr} {n c : Nat} {xs : List Nat} (h : U32 w A n c xs) (hk : ∀ b, (0 < n ∧ ∃ off, A = some ⟨b, off, none⟩) → w'.heap[b]? = w.heap[b]?) : U32 w' A n c xs :=
  ⟨h.len, h.cap, h.big, h.lt, fun hp => by
    obtain ⟨b, off, rfl, hlt, hc⟩ := h.cells hp
    have hb := hk b ⟨hp, off, rfl⟩
    have hlt' : b < w'.heap.size := by
      rcases Nat.lt_or_ge b w'.heap.size with h1 | h1
      · exact h1
      · rw [Array.getElem?_eq_none h1] at hb
        rw [Array.getElem?_eq_getElem hlt] at hb; cases hb
    exact ⟨b, off, rfl, hlt', fun i hi => (World.cell?_of_block (w := w) (a := ⟨b, off + i, none⟩) hb).trans (hc i hi)⟩⟩
/-- The slice A reads as xs. -/
def pfU (A : Option Addr) (n c : Nat) (xs : List Nat) : PF :=
  ⟨fun w => U32 w A n c xs, fun b => 0 < n ∧ ∃ off, A = some ⟨b, off, none⟩, fun h ⟨hp, off, e⟩ => by
    obtain ⟨b, o, e', hlt, _⟩ := h.cells hp
    rw [e] at e'; cases e'; exact hlt, fun h hk => u32_keep h hk⟩
/-- The limbs of z lie at A. -/
def pfZ (A : Option Addr) (c : Nat) (z : Int) : PF := pfU A (zl z) c (L z.natAbs)

/-- No limb. -/
def notU : Value → Bool
  | .int .u32 _ => false
  | _ => true
def noU (own : List Bk) : Bool := own.all fun e => e.c.toList.all notU
theorem St.addU {w0 w : World} {own : List Bk} {ps : List PF} {A : Option Addr} {n c : Nat} {xs : List Nat} (h : St w0 w own ps) (hu : U32 w A n c xs) (hn : noU own = true) : St w0 w own (pfU A n c xs :: ps) :=
  h.addP (pfU A n c xs) hu fun e he hf => by
    obtain ⟨hp, off, rfl⟩ := hf
    obtain ⟨b, o, e', _, hc⟩ := hu.cells hp
    cases e'
    have h1 := hc 0 hp
    rw [cell_of_row w _ _ _ _ _ (h.mine e he).2] at h1
    have h2 := List.all_eq_true.1 (List.all_eq_true.1 hn e he) _ (Array.mem_toList_iff.2 (Array.mem_of_getElem? h1))
    simp [notU] at h2
theorem St.addZ {w0 w : World} {own : List Bk} {ps : List PF} {A : Option Addr} {c : Nat} {z : Int} (h : St w0 w own ps) (hu : ZIn w A c z) (hn : noU own = true) : St w0 w own (pfZ A c z :: ps) := St.addU h hu hn

end Go.Proofs.Ytnldopjbiacbfaa
