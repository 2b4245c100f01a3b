/- Reading a number's text: plain laws; strings' operations. No condition. -/
import Derived.Test.YtbdngknpngcojaaDoorM9
import Derived.Test.YtbdngknpngcojaaDoorM18
import Derived.Test.YtbdngknpngcojaaDoorM27
import Derived.Lib.OthersKept
import Derived.Laws.Strings2
import Derived.Test.YtbdngknpngcojaaDoorM15

namespace Go.Proofs.YtbdngknpngcojaaDoor
open Anv
def BadAt (l : List UInt8) (i : Nat) : Prop := (l.getD i 0).toNat < 48 ∨ 57 < (l.getD i 0).toNat ∨ (0 < i ∧ (l.getD 0 0).toNat = 48)
def numOf (l : List UInt8) : Nat := l.foldl (fun a c => a * 10 + (c.toNat - 48)) 0
theorem numOf_foldl (l : List UInt8) : ∀ a, l.foldl (fun a c => a * 10 + (c.toNat - 48)) a = a * 10 ^ l.length + numOf l := by
  induction l with
  | nil => intro a; simp [numOf]
  | cons c l ih =>
    intro a
    unfold numOf
    rw [List.foldl_cons, List.foldl_cons, ih, ih, List.length_cons, Nat.pow_succ, Nat.add_mul, Nat.mul_assoc, Nat.zero_mul, Nat.zero_add, Nat.mul_comm (10 ^ l.length) 10, Nat.add_assoc]
theorem numOf_app (l m : List UInt8) : numOf (l ++ m) = numOf l * 10 ^ m.length + numOf m := by
  unfold numOf
  rw [List.foldl_append, numOf_foldl m]
  rfl
theorem numOf_one (c : UInt8) : numOf [c] = c.toNat - 48 := by simp [numOf]
theorem numOf_take_succ {l : List UInt8} {p : Nat} (h : p < l.length) : numOf (l.take (p + 1)) = numOf (l.take p) * 10 + ((l.getD p 0).toNat - 48) := by
  rw [List.take_succ_eq_append_getElem h, numOf_app, numOf_one]
  simp [List.getD, h]
theorem dch_toNat {d : Nat} (h : d < 10) : (dch d).toNat = 48 + d := by
  have : ∀ d : Fin 10, (dch d.1).toNat = 48 + d.1 := by decide
  exact this ⟨d, h⟩
theorem numOf_textN (N : Nat) : numOf (textN N) = N := by
  induction N using Nat.strongRecOn with
  | _ N ih =>
    rcases Nat.eq_zero_or_pos N with h | h
    · subst h; rfl
    · by_cases h10 : N < 10
      · rw [textN_one h h10, numOf_one, dch_toNat h10]; omega
      · have e : N = N / 10 * 10 + N % 10 := by omega
        have h1 := textN_ten (q := N / 10) (d := N % 10) (by omega) (Nat.mod_lt _ (by omega))
        rw [← e] at h1
        rw [h1, numOf_app, ih (N / 10) (by omega), numOf_one, dch_toNat (Nat.mod_lt _ (by omega)), show [dch (N % 10)].length = 1 from rfl]
        omega
theorem textN_dgt (N : Nat) : ∀ c ∈ textN N, 48 ≤ c.toNat ∧ c.toNat ≤ 57 := by
  intro c hc
  unfold textN at hc
  split at hc
  · simp at hc; subst hc; decide
  · obtain ⟨d, hd, rfl⟩ := List.mem_map.1 hc
    have := dig_lt (b := 10) (by omega) N d (by simpa using hd)
    rw [dch_toNat this]
    omega
theorem textN_ne (N : Nat) : textN N ≠ [] := by
  unfold textN
  split
  · simp
  · rename_i h
    rw [dig_pos (by omega) (by omega)]
    simp
theorem textN_len {N k : Nat} (hk : 0 < k) (h : N < 10 ^ k) : (textN N).length ≤ k := by
  unfold textN
  split
  · simp; omega
  · rw [List.length_map, List.length_reverse]
    exact dig_len_of_lt (by omega) h
end Go.Proofs.YtbdngknpngcojaaDoor
namespace Go.Proofs.YtbdngknpngcojaaDoor.W
open Go.RowKit Anv Go.Lib
section
variable {P : Program} {K : Act → World → Prop} {Q : Exit → Act → World → Prop} {N : Nat} {dq : List Deferred} {a : Act} {l : List (Nat × Value)} {w w0 : World} {own ps : List PF}
variable {d : Nat} {ty : TypeId} {pos : String} {af : Array Edge} {gd : Option (Nat × Bool)}
theorem rn_idxS {x y : Operand} {T i : Nat} {k : IntKind} {s : List UInt8} (h : EnvD dq N a l) (hT : P.underlying T = some .string) (hx : evl l x = some (.string ⟨s.toArray⟩)) (hy : evl l y = some (.int k (i : Nat))) (hi : i < s.length) :
    (execOp a.eval ⟨some d, .index T x y, ty, pos, af, gd⟩).run P w = .ok (.value (.int .u8 ((s.getD i 0).toNat : Nat))) w := by
  have hs : i < (⟨s.toArray⟩ : ByteArray).size := by simpa [ByteArray.size] using hi
  rw [rn_index h hT hx hy hs]
  have e : (⟨s.toArray⟩ : ByteArray)[i] = s.getD i 0 := by
    simp [List.getD, hi]
    rfl
  rw [e]
theorem rn_lenS {x : Operand} {T : Nat} {s : List UInt8} (h : EnvD dq N a l) (hT : P.underlying T = some .string) (hx : evl l x = some (.string ⟨s.toArray⟩)) :
    (execOp a.eval ⟨some d, .call ⟨.builtin .len, #[x], #[T]⟩, ty, pos, af, gd⟩).run P w = .ok (.value (.int .i64 (s.length : Nat))) w := by
  rw [rn_slen h hT hx, show (⟨s.toArray⟩ : ByteArray).size = s.length by simp [ByteArray.size]]
theorem rn_min {x y : Operand} {T T' : Nat} {m n : Nat} (h : EnvD dq N a l) (hx : evl l x = some (.int .i64 (m : Nat))) (hy : evl l y = some (.int .i64 (n : Nat))) :
    (execOp a.eval ⟨some d, .call ⟨.builtin .min, #[x, y], #[T, T']⟩, ty, pos, af, gd⟩).run P w = .ok (.value (.int .i64 (min m n : Nat))) w := by
  have hv := h.ev hx
  have hv' := h.ev hy
  have e : ((min m n : Nat) : Int) = if (n : Int) < (m : Int) then (n : Int) else (m : Int) := by
    split
    · rw [Nat.min_eq_right (by omega)]
    · rw [Nat.min_eq_left (by omega)]
  rw [e]
  generalize a.eval = ρ at hv hv' ⊢
  simp [hv, hv', go_sem]
  split <;> omega
theorem rn_takeS {x y : Operand} {T n : Nat} {k : IntKind} {s : List UInt8} (h : EnvD dq N a l) (hT : P.underlying T = some .string) (hx : evl l x = some (.string ⟨s.toArray⟩)) (hy : evl l y = some (.int k (n : Nat))) (hn : n ≤ s.length) :
    (execOp a.eval ⟨some d, .slice T x none (some y) none, ty, pos, af, gd⟩).run P w = .ok (.value (.string ⟨(s.take n).toArray⟩)) w := by
  have hv := h.ev hx
  have hv' := h.ev hy
  have hr := run_slice_string_h (P := P) w T ⟨s.toArray⟩ hT k (n : Int) (by omega) (by simp [ByteArray.size]; omega)
  rw [Int.toNat_natCast, ByteArray.extract_mk, List.drop_zero, Nat.sub_zero] at hr
  simp only [execOp, Option.map_none, Option.map_some, hv, hv']
  rw [Sem.run_bind, run_sliceAt_string _ _ _ _ _ _ hT, hr]
  rfl
theorem rn_dropS {x y : Operand} {T n : Nat} {k : IntKind} {s : List UInt8} (h : EnvD dq N a l) (hT : P.underlying T = some .string) (hx : evl l x = some (.string ⟨s.toArray⟩)) (hy : evl l y = some (.int k (n : Nat))) (hn : n ≤ s.length) :
    (execOp a.eval ⟨some d, .slice T x (some y) none none, ty, pos, af, gd⟩).run P w = .ok (.value (.string ⟨(s.drop n).toArray⟩)) w := by
  have hv := h.ev hx
  have hv' := h.ev hy
  have hr := run_slice_string_l (P := P) w T ⟨s.toArray⟩ hT k (n : Int) (by omega) (by simp [ByteArray.size]; omega)
  have hsz : (⟨s.toArray⟩ : ByteArray).size = s.length := by simp [ByteArray.size]
  rw [Int.toNat_natCast, ByteArray.extract_mk, hsz, List.take_of_length_le (by simp)] at hr
  simp only [execOp, Option.map_none, Option.map_some, hv, hv']
  rw [Sem.run_bind, run_sliceAt_string _ _ _ _ _ _ hT, hr]
  rfl
def iterF (k : Nat) (s : List UInt8) (p : Nat) : PF :=
  ⟨fun w => w.heap[k]? = some (.stringIter ⟨s.toArray⟩ p), fun b => b = k, fun h e => e ▸ lt_of_block h, fun h _ hk => (hk k rfl).trans h⟩
end
end Go.Proofs.YtbdngknpngcojaaDoor.W

/- limb.Read. Printed by pv/gen_read.py. No condition. -/
namespace Go.Proofs.YtbdngknpngcojaaDoor.W
open Go.RowKit Anv Go.Lib
section
variable {P : Program} {N : Nat} {dq : List Deferred} {a : Act} {l : List (Nat × Value)} {w : World} {d : Nat} {ty : TypeId} {pos : String} {af : Array Edge} {gd : Option (Nat × Bool)}
theorem rn_spot0 : (execOp a.eval ⟨some d, .build 59 #[], ty, pos, af, gd⟩).run Tryd.prog w = .ok (.value (.agg #[.int .i64 0, .int .i64 0])) w := by
  have hz : (zeroValue 59).run Tryd.prog w = .ok (.agg #[.int .i64 0, .int .i64 0]) w := by obtain ⟨i, hi, hv⟩ := zero_anvil_api_Spot; simp [zeroValue, typeInfo, hi, hv]
  simp [execOp, Instr.build, hz, run_underlying Tryd.underlying59, Sem.run_bind, run_sizeOf ty_anvil_api_Errno.size, run_sizeOf ty_int.size, Instr.fill, Value.cells]
end
end Go.Proofs.YtbdngknpngcojaaDoor.W
