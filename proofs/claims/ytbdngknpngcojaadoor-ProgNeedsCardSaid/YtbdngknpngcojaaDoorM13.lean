/- Lasting facts on numbers. No condition. -/
import Derived.Test.YtbdngknpngcojaaDoorM12
import Derived.Test.YtbdngknpngcojaaDoorM4
import Derived.Test.YtbdngknpngcojaaDoorM3

namespace Go.Proofs.YtbdngknpngcojaaDoor
open Go.RowKit Anv
theorem u32_keep {w w' : World} {A : Option Addr} {n c : Nat} {xs : List Nat} (h : U32 w A n c xs) (hk : ∀ b, (0 < n ∧ ∃ off, A = some ⟨b, off, none⟩) → w'.heap[b]? = w.heap[b]?) : U32 w' A n c xs :=
  ⟨h.len, h.cap, h.big, h.lt, fun hp => by
    obtain ⟨b, off, rfl, hlt, hc⟩ := h.cells hp
    have hb := hk b ⟨hp, off, rfl⟩
    have hlt' : b < w'.heap.size := by
      rcases Nat.lt_or_ge b w'.heap.size with h1 | h1
      · exact h1
      · rw [Array.getElem?_eq_none h1] at hb
        rw [Array.getElem?_eq_getElem hlt] at hb; cases hb
    exact ⟨b, off, rfl, hlt', fun i hi => (World.cell?_of_block (w := w) (a := ⟨b, off + i, none⟩) hb).trans (hc i hi)⟩⟩
def pfU (A : Option Addr) (n c : Nat) (xs : List Nat) : PF :=
  ⟨fun w => U32 w A n c xs, fun b => 0 < n ∧ ∃ off, A = some ⟨b, off, none⟩, fun h ⟨hp, off, e⟩ => by
    obtain ⟨b, o, e', hlt, _⟩ := h.cells hp
    rw [e] at e'; cases e'; exact hlt, fun h _ hk => u32_keep h hk⟩
def pfZ (A : Option Addr) (c : Nat) (z : Int) : PF := pfU A (zl z) c (L z.natAbs)
def notU : Value → Bool
  | .int .u32 _ => false
  | _ => true
def noU (own : List Bk) : Bool := own.all fun e => e.c.toList.all notU
end Go.Proofs.YtbdngknpngcojaaDoor

/- Rows of numbers: read through what is known of them. Over any program. No condition. -/
namespace Go.Proofs.YtbdngknpngcojaaDoor
open Go.RowKit Anv
def ab (A : Option Addr) : Nat := match A with
  | some a => a.block
  | none => 0
def ao (A : Option Addr) : Nat := match A with
  | some a => a.off
  | none => 0
section
variable {P : Program} {K : Act → World → Prop} {Q : Exit → Act → World → Prop} {N : Nat} {dq : List Deferred} {a : Act} {l : List (Nat × Value)} {w w0 : World} {own : List Bk} {ps : List PF}
variable {d : Nat} {ty : TypeId} {pos : String} {af : Array Edge} {gd : Option (Nat × Bool)}
theorem U32.ab {A : Option Addr} {n c : Nat} {xs : List Nat} (h : U32 w A n c xs) (hp : 0 < n) : A = some ⟨ab A, ao A, none⟩ := by
  obtain ⟨b, off, rfl, _, _⟩ := h.cells hp
  rfl
theorem U32.at {A : Option Addr} {n c : Nat} {xs : List Nat} (h : U32 w A n c xs) {i : Nat} (hi : i < n) : w.cell? ⟨Go.Proofs.YtbdngknpngcojaaDoor.ab A, ao A + i, none⟩ = some (.int .u32 (xs.getD i 0 : Nat)) := by
  obtain ⟨b, off, rfl, _, hc⟩ := h.cells (by omega)
  exact hc i hi
end
end Go.Proofs.YtbdngknpngcojaaDoor

/- Rows of numbers that the call itself fills; quotients, shifts. Over any program. No condition. -/
namespace Go.Proofs.YtbdngknpngcojaaDoor
open Go.RowKit Anv
section
variable {P : Program} {K : Act → World → Prop} {Q : Exit → Act → World → Prop} {N : Nat} {dq : List Deferred} {a : Act} {l : List (Nat × Value)} {w w0 : World} {own : List Bk} {ps : List PF}
variable {d : Nat} {ty : TypeId} {pos : String} {af : Array Edge} {gd : Option (Nat × Bool)}
end
end Go.Proofs.YtbdngknpngcojaaDoor
