/- Reading a number's text: plain laws; strings' operations. No condition. -/
import Derived.Test.YtoojllfijfjmoaaDoorM9
import Derived.Test.YtoojllfijfjmoaaDoorM18
import Derived.Test.YtoojllfijfjmoaaDoorM27
import Derived.Lib.OthersKept
import Derived.Laws.Strings2
import Derived.Test.YtoojllfijfjmoaaDoorM15

namespace Go.Proofs.YtoojllfijfjmoaaDoor
open Anv
def BadAt (l : List UInt8) (i : Nat) : Prop := (l.getD i 0).toNat < 48 ∨ 57 < (l.getD i 0).toNat ∨ (0 < i ∧ (l.getD 0 0).toNat = 48)
def numOf (l : List UInt8) : Nat := l.foldl (fun a c => a * 10 + (c.toNat - 48)) 0
theorem numOf_foldl (l : List UInt8) : ∀ a, l.foldl (fun a c => a * 10 + (c.toNat - 48)) a = a * 10 ^ l.length + numOf l := by
  induction l with
  | nil => intro a; simp [numOf]
  | cons c l ih =>
    intro a
    unfold numOf
    rw [List.foldl_cons, List.foldl_cons, ih, ih, List.length_cons, Nat.pow_succ, Nat.add_mul, Nat.mul_assoc, Nat.zero_mul, Nat.zero_add, Nat.mul_comm (10 ^ l.length) 10, Nat.add_assoc]
theorem numOf_app (l m : List UInt8) : numOf (l ++ m) = numOf l * 10 ^ m.length + numOf m := by
  unfold numOf
  rw [List.foldl_append, numOf_foldl m]
  rfl
theorem numOf_one (c : UInt8) : numOf [c] = c.toNat - 48 := by simp [numOf]
theorem dch_toNat {d : Nat} (h : d < 10) : (dch d).toNat = 48 + d := by
  have : ∀ d : Fin 10, (dch d.1).toNat = 48 + d.1 := by decide
  exact this ⟨d, h⟩
theorem numOf_textN (N : Nat) : numOf (textN N) = N := by
  induction N using Nat.strongRecOn with
  | _ N ih =>
    rcases Nat.eq_zero_or_pos N with h | h
    · subst h; rfl
    · by_cases h10 : N < 10
      · rw [textN_one h h10, numOf_one, dch_toNat h10]; omega
      · have e : N = N / 10 * 10 + N % 10 := by omega
        have h1 := textN_ten (q := N / 10) (d := N % 10) (by omega) (Nat.mod_lt _ (by omega))
        rw [← e] at h1
        rw [h1, numOf_app, ih (N / 10) (by omega), numOf_one, dch_toNat (Nat.mod_lt _ (by omega)), show [dch (N % 10)].length = 1 from rfl]
        omega
theorem textN_dgt (N : Nat) : ∀ c ∈ textN N, 48 ≤ c.toNat ∧ c.toNat ≤ 57 := by
  intro c hc
  unfold textN at hc
  split at hc
  · simp at hc; subst hc; decide
  · obtain ⟨d, hd, rfl⟩ := List.mem_map.1 hc
    have := dig_lt (b := 10) (by omega) N d (by simpa using hd)
    rw [dch_toNat this]
    omega
theorem textN_ne (N : Nat) : textN N ≠ [] := by
  unfold textN
  split
  · simp
  · rename_i h
    rw [dig_pos (by omega) (by omega)]
    simp
theorem textN_head {N : Nat} (h : 0 < N) : (((textN N).getD 0 0).toNat ≠ 48) := by
  induction N using Nat.strongRecOn with
  | _ N ih =>
    by_cases h10 : N < 10
    · rw [textN_one h h10]
      have := dch_toNat h10
      simp [List.getD]
      omega
    · have e : N = N / 10 * 10 + N % 10 := by omega
      have h1 := textN_ten (q := N / 10) (d := N % 10) (by omega) (Nat.mod_lt _ (by omega))
      rw [← e] at h1
      rw [h1]
      have h2 := ih (N / 10) (by omega) (by omega)
      have h3 := List.length_pos_iff.2 (textN_ne (N / 10))
      have h4 : ((textN (N / 10)) ++ [dch (N % 10)]).getD 0 0 = (textN (N / 10)).getD 0 0 := by rw [List.getD_eq_getElem?_getD, List.getD_eq_getElem?_getD, List.getElem?_append_left h3]
      rw [h4]; exact h2
theorem textN_ok (N : Nat) : ∀ i, i < (textN N).length → ¬ BadAt (textN N) i := by
  intro i hi hb
  have hd := textN_dgt N ((textN N).getD i 0) (by simp [List.getD, hi])
  rcases hb with hb | hb | ⟨h0, hb⟩
  · omega
  · omega
  · rcases Nat.eq_zero_or_pos N with h | h
    · subst h; simp [textN] at hi; omega
    · exact textN_head h hb
theorem textN_len {N k : Nat} (hk : 0 < k) (h : N < 10 ^ k) : (textN N).length ≤ k := by
  unfold textN
  split
  · simp; omega
  · rw [List.length_map, List.length_reverse]
    exact dig_len_of_lt (by omega) h
end Go.Proofs.YtoojllfijfjmoaaDoor
namespace Go.Proofs.YtoojllfijfjmoaaDoor.W
open Go.RowKit Anv Go.Lib
section
variable {P : Program} {K : Act → World → Prop} {Q : Exit → Act → World → Prop} {N : Nat} {dq : List Deferred} {a : Act} {l : List (Nat × Value)} {w w0 : World} {own ps : List PF}
variable {d : Nat} {ty : TypeId} {pos : String} {af : Array Edge} {gd : Option (Nat × Bool)}
def iterF (k : Nat) (s : List UInt8) (p : Nat) : PF :=
  ⟨fun w => w.heap[k]? = some (.stringIter ⟨s.toArray⟩ p), fun b => b = k, fun h e => e ▸ lt_of_block h, fun h _ hk => (hk k rfl).trans h⟩
end
end Go.Proofs.YtoojllfijfjmoaaDoor.W

/- limb.Read. Printed by pv/gen_read.py. No condition. -/
namespace Go.Proofs.YtoojllfijfjmoaaDoor.W
open Go.RowKit Anv Go.Lib
section
variable {P : Program} {N : Nat} {dq : List Deferred} {a : Act} {l : List (Nat × Value)} {w : World} {d : Nat} {ty : TypeId} {pos : String} {af : Array Edge} {gd : Option (Nat × Bool)}
end
end Go.Proofs.YtoojllfijfjmoaaDoor.W
