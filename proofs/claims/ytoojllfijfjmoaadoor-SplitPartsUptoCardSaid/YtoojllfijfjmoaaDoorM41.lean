/- integer.Read: the number of a text. Printed by pv/gen_iread.py. No condition. -/
import Derived.Test.YtoojllfijfjmoaaDoorM39
import Derived.Test.YtoojllfijfjmoaaDoorM15
import Derived.Test.YtoojllfijfjmoaaDoorM40

namespace Go.Proofs.YtoojllfijfjmoaaDoor.W
open Go.RowKit Anv Go.Lib
theorem St.addR {w0 w : World} {own ps : List PF} {A : Option Addr} {c : Nat} {z : Int} (h : St w0 w own ps) (hu : RIn w A c z) (hn : NoUs own) : St w0 w own (pfR A c z :: ps) := St.addU h hu hn
def BadD (f : Nat) (d : List UInt8) (k : Nat) : Prop :=
  ((d.getD k 0).toNat < 48 ∨ 57 < (d.getD k 0).toNat) ∨ (k = 1 ∧ (d.getD 0 0).toNat = 48) ∨ (k = 0 ∧ f = 1 ∧ (d.getD 0 0).toNat = 48)
def Fb (f : Nat) (d : List UInt8) (b : Nat) : Prop := ((b < d.length ∧ BadD f d b) ∨ (b = 0 ∧ d.length = 0)) ∧ ∀ q, q < b → ¬ BadD f d q
def Ok (f : Nat) (d : List UInt8) : Prop := 0 < d.length ∧ ∀ q, q < d.length → ¬ BadD f d q
theorem not_bad {f k : Nat} {d : List UInt8} (h : ¬ BadD f d k) : 48 ≤ (d.getD k 0).toNat ∧ (d.getD k 0).toNat ≤ 57 ∧ (k = 1 → (d.getD 0 0).toNat ≠ 48) ∧ (k = 0 → f = 1 → (d.getD 0 0).toNat ≠ 48) := by
  unfold BadD at h
  refine ⟨by omega, by omega, fun h1 h2 => h (.inr (.inl ⟨h1, h2⟩)), fun h1 h2 h3 => h (.inr (.inr ⟨h1, h2, h3⟩))⟩
theorem Ok.ne {f : Nat} {d : List UInt8} (h : Ok f d) : d ≠ [] := by intro e; have := h.1; rw [e] at this; simp at this
theorem Ok.ok {f : Nat} {d : List UInt8} (h : Ok f d) : ∀ j, j < d.length → ¬ BadAt d j := by
  intro j hj hb
  have h1 := h.2 j hj
  obtain ⟨a1, a2, _, _⟩ := not_bad h1
  unfold BadAt at hb
  have h48 : 0 < j ∧ (d.getD 0 0).toNat = 48 := by omega
  have h2 := not_bad (h.2 1 (by omega))
  exact h2.2.2.1 rfl h48.2
end Go.Proofs.YtoojllfijfjmoaaDoor.W

/- The reference's reading of a number. Printed by pv/gen_iread.py. No condition. -/
namespace Go.Proofs.YtoojllfijfjmoaaDoor.W
open Go.RowKit Anv Go.Lib
theorem ok_first {f : Nat} {d : List UInt8} (h : Ok f d) : 0 < d.length ∧ 48 ≤ (d.getD 0 0).toNat ∧ (d.getD 0 0).toNat ≤ 57 ∧ (f = 1 → (d.getD 0 0).toNat ≠ 48) := by
  obtain ⟨h1, h2, _, h4⟩ := not_bad (h.2 0 h.1)
  exact ⟨h.1, h1, h2, h4 rfl⟩
end Go.Proofs.YtoojllfijfjmoaaDoor.W

/- IntegerTexts, IntegerReads: the laws' walks. Printed by pv/gen_ilaw.py. No condition. -/
namespace Go.Proofs.YtoojllfijfjmoaaDoor.W
open Go.RowKit Anv Go.Lib
theorem ok_textN (N f : Nat) (h : f = 1 → 0 < N) : Ok f (textN N) := by
  refine ⟨List.length_pos_iff.2 (textN_ne N), fun q hq hb => ?_⟩
  have h1 := textN_ok N q hq
  unfold BadAt at h1
  unfold BadD at hb
  have h2 : ¬ (q = 0 ∧ f = 1 ∧ ((textN N).getD 0 0).toNat = 48) := fun ⟨_, h3, h4⟩ => textN_head (h h3) h4
  omega
theorem textZ_cases (z : Int) : (neg z = true ∧ 0 < z.natAbs ∧ textZ z = 45 :: textN z.natAbs ∧ sg true z.natAbs = z) ∨ (neg z = false ∧ textZ z = textN z.natAbs ∧ sg false z.natAbs = z) := by
  have hs := sg_self z
  unfold textZ
  cases h : neg z with
  | true =>
    refine .inl ⟨rfl, ?_, rfl, by rw [← h]; exact hs⟩
    unfold neg at h
    have := of_decide_eq_true h
    omega
  | false => exact .inr ⟨rfl, rfl, by rw [← h]; exact hs⟩
end Go.Proofs.YtoojllfijfjmoaaDoor.W
