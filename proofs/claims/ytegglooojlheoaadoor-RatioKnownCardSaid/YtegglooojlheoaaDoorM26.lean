/- Reading a number's text: plain laws; strings' operations. No condition. -/
import Derived.Test.YtegglooojlheoaaDoorM2
import Derived.Test.YtegglooojlheoaaDoorM14
import Derived.Test.YtegglooojlheoaaDoorM25
import Derived.Lib.OthersKept
import Derived.Laws.Strings2
import Derived.Test.YtegglooojlheoaaDoorM11

namespace Go.Proofs.YtegglooojlheoaaDoor
open Anv
def BadAt (l : List UInt8) (i : Nat) : Prop := (l.getD i 0).toNat < 48 ∨ 57 < (l.getD i 0).toNat ∨ (0 < i ∧ (l.getD 0 0).toNat = 48)
def numOf (l : List UInt8) : Nat := l.foldl (fun a c => a * 10 + (c.toNat - 48)) 0
theorem numOf_foldl (l : List UInt8) : ∀ a, l.foldl (fun a c => a * 10 + (c.toNat - 48)) a = a * 10 ^ l.length + numOf l := by
  induction l with
  | nil => intro a; simp [numOf]
  | cons c l ih =>
    intro a
    unfold numOf
    rw [List.foldl_cons, List.foldl_cons, ih, ih, List.length_cons, Nat.pow_succ, Nat.add_mul, Nat.mul_assoc, Nat.zero_mul, Nat.zero_add, Nat.mul_comm (10 ^ l.length) 10, Nat.add_assoc]
theorem numOf_nil : numOf [] = 0 := rfl
theorem numOf_app (l m : List UInt8) : numOf (l ++ m) = numOf l * 10 ^ m.length + numOf m := by
  unfold numOf
  rw [List.foldl_append, numOf_foldl m]
  rfl
theorem numOf_one (c : UInt8) : numOf [c] = c.toNat - 48 := by simp [numOf]
theorem numOf_lt {l : List UInt8} (h : ∀ c ∈ l, c.toNat ≤ 57) : numOf l < 10 ^ l.length := by
  have key : ∀ (k : Nat) (l : List UInt8), l.length = k → (∀ c ∈ l, c.toNat ≤ 57) → numOf l < 10 ^ k := by
    intro k
    induction k with
    | zero => intro l hl _; rw [List.length_eq_zero_iff.1 hl]; exact Nat.one_pos
    | succ k ih =>
      intro l hl h
      have hne : l ≠ [] := by intro e; subst e; simp at hl
      rw [← List.dropLast_concat_getLast hne, numOf_app, numOf_one]
      have h1 := ih l.dropLast (by simp [hl]) fun c hc => h c ((List.dropLast_sublist l).subset hc)
      have h2 := h _ (List.getLast_mem hne)
      rw [show [l.getLast hne].length = 1 from rfl, Nat.pow_one, Nat.pow_succ]
      omega
  exact key _ l rfl h
theorem numOf_take_succ {l : List UInt8} {p : Nat} (h : p < l.length) : numOf (l.take (p + 1)) = numOf (l.take p) * 10 + ((l.getD p 0).toNat - 48) := by
  rw [List.take_succ_eq_append_getElem h, numOf_app, numOf_one]
  simp [List.getD, h]
theorem dch_toNat {d : Nat} (h : d < 10) : (dch d).toNat = 48 + d := by
  have : ∀ d : Fin 10, (dch d.1).toNat = 48 + d.1 := by decide
  exact this ⟨d, h⟩
theorem numOf_textN (N : Nat) : numOf (textN N) = N := by
  induction N using Nat.strongRecOn with
  | _ N ih =>
    rcases Nat.eq_zero_or_pos N with h | h
    · subst h; rfl
    · by_cases h10 : N < 10
      · rw [textN_one h h10, numOf_one, dch_toNat h10]; omega
      · have e : N = N / 10 * 10 + N % 10 := by omega
        have h1 := textN_ten (q := N / 10) (d := N % 10) (by omega) (Nat.mod_lt _ (by omega))
        rw [← e] at h1
        rw [h1, numOf_app, ih (N / 10) (by omega), numOf_one, dch_toNat (Nat.mod_lt _ (by omega)), show [dch (N % 10)].length = 1 from rfl]
        omega
theorem textN_dgt (N : Nat) : ∀ c ∈ textN N, 48 ≤ c.toNat ∧ c.toNat ≤ 57 := by
  intro c hc
  unfold textN at hc
  split at hc
  · simp at hc; subst hc; decide
  · obtain ⟨d, hd, rfl⟩ := List.mem_map.1 hc
    have := dig_lt (b := 10) (by omega) N d (by simpa using hd)
    rw [dch_toNat this]
    omega
theorem textN_ne (N : Nat) : textN N ≠ [] := by
  unfold textN
  split
  · simp
  · rename_i h
    rw [dig_pos (by omega) (by omega)]
    simp
theorem textN_head {N : Nat} (h : 0 < N) : (((textN N).getD 0 0).toNat ≠ 48) := by
  induction N using Nat.strongRecOn with
  | _ N ih =>
    by_cases h10 : N < 10
    · rw [textN_one h h10]
      have := dch_toNat h10
      simp [List.getD]
      omega
    · have e : N = N / 10 * 10 + N % 10 := by omega
      have h1 := textN_ten (q := N / 10) (d := N % 10) (by omega) (Nat.mod_lt _ (by omega))
      rw [← e] at h1
      rw [h1]
      have h2 := ih (N / 10) (by omega) (by omega)
      have h3 := List.length_pos_iff.2 (textN_ne (N / 10))
      have h4 : ((textN (N / 10)) ++ [dch (N % 10)]).getD 0 0 = (textN (N / 10)).getD 0 0 := by rw [List.getD_eq_getElem?_getD, List.getD_eq_getElem?_getD, List.getElem?_append_left h3]
      rw [h4]; exact h2
theorem textN_ok (N : Nat) : ∀ i, i < (textN N).length → ¬ BadAt (textN N) i := by
  intro i hi hb
  have hd := textN_dgt N ((textN N).getD i 0) (by simp [List.getD, hi])
  rcases hb with hb | hb | ⟨h0, hb⟩
  · omega
  · omega
  · rcases Nat.eq_zero_or_pos N with h | h
    · subst h; simp [textN] at hi; omega
    · exact textN_head h hb
theorem textN_numOf : ∀ (k : Nat) (l : List UInt8), l.length = k → l ≠ [] → (∀ i, i < l.length → ¬ BadAt l i) → textN (numOf l) = l := by
  intro k
  induction k with
  | zero => intro l hl hne _; exact absurd (List.length_eq_zero_iff.1 hl) hne
  | succ k ih =>
    intro l hl hne hok
    have hc := hok k (by omega)
    have hd : 48 ≤ (l.getD k 0).toNat ∧ (l.getD k 0).toNat ≤ 57 := by
      refine ⟨Nat.le_of_not_lt fun h => hc (.inl h), Nat.le_of_not_lt fun h => hc (.inr (.inl h))⟩
    have hkl : k < l.length := by omega
    have hsplit : l = l.take k ++ [l.getD k 0] := by
      conv => lhs; rw [← List.take_length (l := l), hl, List.take_succ_eq_append_getElem hkl]
      simp [List.getD, hkl]
    have hdc : dch ((l.getD k 0).toNat - 48) = l.getD k 0 := by
      unfold dch
      rw [show 48 + ((l.getD k 0).toNat - 48) = (l.getD k 0).toNat by omega]
      exact UInt8.ofNat_toNat
    have hn : numOf l = numOf (l.take k) * 10 + ((l.getD k 0).toNat - 48) := by
      conv => lhs; rw [hsplit]
      rw [numOf_app, numOf_one]; rfl
    rcases Nat.eq_zero_or_pos k with hk | hk
    · subst hk
      rw [hn]
      have h0 : l.take 0 = [] := rfl
      rw [h0, numOf_nil, Nat.zero_mul, Nat.zero_add]
      conv => rhs; rw [hsplit, h0, List.nil_append]
      rcases Nat.eq_zero_or_pos ((l.getD 0 0).toNat - 48) with h | h
      · rw [h, textN_zero]
        have : l.getD 0 0 = 48 := by rw [← hdc, h]; rfl
        rw [this]
      · rw [textN_one h (by omega), hdc]
    · have htl : (l.take k).length = k := by simp; omega
      have hg : ∀ i, i < k → (l.take k).getD i 0 = l.getD i 0 := fun i hi => by simp [List.getD, hi]
      have ih1 := ih (l.take k) htl (by intro e; rw [e] at htl; simp at htl; omega) fun i hi hb => hok i (by omega) (by
        unfold BadAt at hb ⊢
        rw [hg i (by omega), hg 0 (by omega)] at hb
        exact hb)
      have hpos : 0 < numOf (l.take k) := by
        rcases Nat.eq_zero_or_pos (numOf (l.take k)) with h | h
        · exfalso
          rw [h, textN_zero] at ih1
          have h48 : (l.getD 0 0).toNat = 48 := by rw [← hg 0 (by omega), ← ih1]; rfl
          exact hok k hkl (.inr (.inr ⟨hk, h48⟩))
        · exact h
      rw [hn, textN_ten hpos (by omega), ih1, hdc]
      exact hsplit.symm
theorem textN_len {N k : Nat} (hk : 0 < k) (h : N < 10 ^ k) : (textN N).length ≤ k := by
  unfold textN
  split
  · simp; omega
  · rw [List.length_map, List.length_reverse]
    exact dig_len_of_lt (by omega) h
end Go.Proofs.YtegglooojlheoaaDoor
namespace Go.Proofs.YtegglooojlheoaaDoor.W
open Go.RowKit Anv Go.Lib
section
variable {P : Program} {K : Act → World → Prop} {Q : Exit → Act → World → Prop} {N : Nat} {dq : List Deferred} {a : Act} {l : List (Nat × Value)} {w w0 : World} {own ps : List PF}
variable {d : Nat} {ty : TypeId} {pos : String} {af : Array Edge} {gd : Option (Nat × Bool)}
theorem rn_idxS {x y : Operand} {T i : Nat} {k : IntKind} {s : List UInt8} (h : EnvD dq N a l) (hT : P.underlying T = some .string) (hx : evl l x = some (.string ⟨s.toArray⟩)) (hy : evl l y = some (.int k (i : Nat))) (hi : i < s.length) :
    (execOp a.eval ⟨some d, .index T x y, ty, pos, af, gd⟩).run P w = .ok (.value (.int .u8 ((s.getD i 0).toNat : Nat))) w := by
  have hs : i < (⟨s.toArray⟩ : ByteArray).size := by simpa [ByteArray.size] using hi
  rw [rn_index h hT hx hy hs]
  have e : (⟨s.toArray⟩ : ByteArray)[i] = s.getD i 0 := by
    simp [List.getD, hi]
    rfl
  rw [e]
theorem rn_lenS {x : Operand} {T : Nat} {s : List UInt8} (h : EnvD dq N a l) (hT : P.underlying T = some .string) (hx : evl l x = some (.string ⟨s.toArray⟩)) :
    (execOp a.eval ⟨some d, .call ⟨.builtin .len, #[x], #[T]⟩, ty, pos, af, gd⟩).run P w = .ok (.value (.int .i64 (s.length : Nat))) w := by
  rw [rn_slen h hT hx, show (⟨s.toArray⟩ : ByteArray).size = s.length by simp [ByteArray.size]]
theorem rn_min {x y : Operand} {T T' : Nat} {m n : Nat} (h : EnvD dq N a l) (hx : evl l x = some (.int .i64 (m : Nat))) (hy : evl l y = some (.int .i64 (n : Nat))) :
    (execOp a.eval ⟨some d, .call ⟨.builtin .min, #[x, y], #[T, T']⟩, ty, pos, af, gd⟩).run P w = .ok (.value (.int .i64 (min m n : Nat))) w := by
  have hv := h.ev hx
  have hv' := h.ev hy
  have e : ((min m n : Nat) : Int) = if (n : Int) < (m : Int) then (n : Int) else (m : Int) := by
    split
    · rw [Nat.min_eq_right (by omega)]
    · rw [Nat.min_eq_left (by omega)]
  rw [e]
  generalize a.eval = ρ at hv hv' ⊢
  simp [hv, hv', go_sem]
  split <;> omega
theorem rn_takeS {x y : Operand} {T n : Nat} {k : IntKind} {s : List UInt8} (h : EnvD dq N a l) (hT : P.underlying T = some .string) (hx : evl l x = some (.string ⟨s.toArray⟩)) (hy : evl l y = some (.int k (n : Nat))) (hn : n ≤ s.length) :
    (execOp a.eval ⟨some d, .slice T x none (some y) none, ty, pos, af, gd⟩).run P w = .ok (.value (.string ⟨(s.take n).toArray⟩)) w := by
  have hv := h.ev hx
  have hv' := h.ev hy
  have hr := run_slice_string_h (P := P) w T ⟨s.toArray⟩ hT k (n : Int) (by omega) (by simp [ByteArray.size]; omega)
  rw [Int.toNat_natCast, ByteArray.extract_mk, List.drop_zero, Nat.sub_zero] at hr
  simp only [execOp, Option.map_none, Option.map_some, hv, hv']
  rw [Sem.run_bind, run_sliceAt_string _ _ _ _ _ _ hT, hr]
  rfl
theorem rn_dropS {x y : Operand} {T n : Nat} {k : IntKind} {s : List UInt8} (h : EnvD dq N a l) (hT : P.underlying T = some .string) (hx : evl l x = some (.string ⟨s.toArray⟩)) (hy : evl l y = some (.int k (n : Nat))) (hn : n ≤ s.length) :
    (execOp a.eval ⟨some d, .slice T x (some y) none none, ty, pos, af, gd⟩).run P w = .ok (.value (.string ⟨(s.drop n).toArray⟩)) w := by
  have hv := h.ev hx
  have hv' := h.ev hy
  have hr := run_slice_string_l (P := P) w T ⟨s.toArray⟩ hT k (n : Int) (by omega) (by simp [ByteArray.size]; omega)
  have hsz : (⟨s.toArray⟩ : ByteArray).size = s.length := by simp [ByteArray.size]
  rw [Int.toNat_natCast, ByteArray.extract_mk, hsz, List.take_of_length_le (by simp)] at hr
  simp only [execOp, Option.map_none, Option.map_some, hv, hv']
  rw [Sem.run_bind, run_sliceAt_string _ _ _ _ _ _ hT, hr]
  rfl
def iterF (k : Nat) (s : List UInt8) (p : Nat) : PF :=
  ⟨fun w => w.heap[k]? = some (.stringIter ⟨s.toArray⟩ p), fun b => b = k, fun h e => e ▸ lt_of_block h, fun h _ hk => (hk k rfl).trans h⟩
theorem op_range {T : Nat} {x : Operand} {s : List UInt8} (h : EnvD dq N a l) (hs : St w0 w own ps) (hd : Nat.blt d N = true) (hT : P.underlying T = some .string) (hx : evl l x = some (.string ⟨s.toArray⟩))
    (hK : ∀ a' w' g, EnvD dq N a' ((d, .pointer (some ⟨g, 0, none⟩)) :: l) → St w0 w' (iterF g s 0 :: own) ps → K a' w') :
    Oper.wp P ⟨some d, .range T x, ty, pos, af, gd⟩ a w K Q := by
  have hr : (execOp a.eval ⟨some d, .range T x, ty, pos, af, gd⟩).run P w = .ok (.value (.pointer (some ⟨w.heap.size, 0, none⟩))) (w.iter ⟨s.toArray⟩ 0) := by
    simp only [execOp, h.ev hx]
    rw [Sem.run_bind, run_range_string w T _ hT]
    rfl
  unfold Oper.wp
  rw [hr]
  exact hK _ _ _ (h.put hd _) (hs.add ((Below.refl _ _).alloc (Nat.le_refl _) _) (iterF w.heap.size s 0) (World.iter_heap w _ 0) fun _ hb => Nat.le_of_eq hb.symm)
theorem op_next {k g p : Nat} {x : Operand} {s : List UInt8} (h : EnvD dq N a l) (hs : St w0 w own ps) (hd : Nat.blt d N = true) (hx : evl l x = some (.pointer (some ⟨g, 0, none⟩))) (hk : own[k]? = some (iterF g s p)) (hp : p < s.length) (ha : (s.getD p 0).toNat < 128)
    (hK : ∀ a' w', EnvD dq N a' ((d, .tuple #[.bool true, .int .i64 (p : Nat), .int .i32 ((s.getD p 0).toNat : Nat)]) :: l) → St w0 w' (own.set k (iterF g s (p + 1))) ps → K a' w') :
    Oper.wp P ⟨some d, .next x true, ty, pos, af, gd⟩ a w K Q := by
  have hg : w.heap[g]? = some (.stringIter ⟨s.toArray⟩ p) := hs.owns hk
  have hlt : p < (⟨s.toArray⟩ : ByteArray).size := by simpa [ByteArray.size] using hp
  have e : (⟨s.toArray⟩ : ByteArray)[p] = s.getD p 0 := by
    simp [List.getD, hp]
    rfl
  have hr : (execOp a.eval ⟨some d, .next x true, ty, pos, af, gd⟩).run P w = .ok (.value (.tuple #[.bool true, .int .i64 (p : Nat), .int .i32 ((s.getD p 0).toNat : Nat)])) (w.iterAt g ⟨s.toArray⟩ (p + 1)) := by
    simp only [execOp, h.ev hx]
    rw [Sem.run_bind, run_next_ascii_at w g _ p _ hg hlt (by rw [e]; exact ha), e]
    rfl
  unfold Oper.wp
  rw [hr]
  refine hK _ _ (h.put hd _) (hs.step' hk (iterAt_heap w g _ p (p + 1) hg) (fun b hb => .inl hb) rfl rfl rfl (by rw [iterAt_size]; exact Nat.le_refl _) fun b _ hb => iterAt_other w g b _ _ hb)
theorem op_next_end {k g p : Nat} {x : Operand} {s : List UInt8} (h : EnvD dq N a l) (hs : St w0 w own ps) (hd : Nat.blt d N = true) (hx : evl l x = some (.pointer (some ⟨g, 0, none⟩))) (hk : own[k]? = some (iterF g s p)) (hp : s.length ≤ p)
    (hK : ∀ a', EnvD dq N a' ((d, .tuple #[.bool false]) :: l) → K a' w) :
    Oper.wp P ⟨some d, .next x true, ty, pos, af, gd⟩ a w K Q := by
  have hg : w.heap[g]? = some (.stringIter ⟨s.toArray⟩ p) := hs.owns hk
  have hr : (execOp a.eval ⟨some d, .next x true, ty, pos, af, gd⟩).run P w = .ok (.value (.tuple #[.bool false])) w := by
    simp only [execOp, h.ev hx]
    rw [Sem.run_bind, run_next_end_at w g _ p _ hg (by simp [ByteArray.size]; omega)]
    rfl
  unfold Oper.wp
  rw [hr]
  exact hK _ (h.put hd _)
end
end Go.Proofs.YtegglooojlheoaaDoor.W

/- limb.Read. Printed by pv/gen_read.py. No condition. -/
namespace Go.Proofs.YtegglooojlheoaaDoor.W
open Go.RowKit Anv Go.Lib
theorem digits_of {l : List UInt8} (h : ∀ j, j < l.length → ¬ BadAt l j) : ∀ c ∈ l, 48 ≤ c.toNat ∧ c.toNat ≤ 57 := by
  intro c hc
  obtain ⟨i, hi, rfl⟩ := List.getElem_of_mem hc
  have h1 := h i hi
  have e : l.getD i 0 = l[i] := by simp [List.getD, hi]
  unfold BadAt at h1
  rw [e] at h1
  omega
theorem nobad {l : List UInt8} {j : Nat} (h : ¬ BadAt l j) : 48 ≤ (l.getD j 0).toNat ∧ (l.getD j 0).toNat ≤ 57 ∧ (0 < j → (l.getD 0 0).toNat ≠ 48) := by
  unfold BadAt at h
  omega
theorem read_split {l : List UInt8} (hok : ∀ j, j < l.length → ¬ BadAt l j) (j : Nat) :
    (l.length ≤ j) ∨ (j < l.length ∧ 48 ≤ (l.getD j 0).toNat ∧ (l.getD j 0).toNat ≤ 57 ∧ j = 0) ∨ (j < l.length ∧ 48 ≤ (l.getD j 0).toNat ∧ (l.getD j 0).toNat ≤ 57 ∧ 0 < j ∧ (l.getD 0 0).toNat ≠ 48) := by
  by_cases h : l.length ≤ j
  · exact .inl h
  · have := nobad (hok j (by omega))
    by_cases h0 : j = 0
    · exact .inr (.inl ⟨by omega, this.1, this.2.1, h0⟩)
    · exact .inr (.inr ⟨by omega, this.1, this.2.1, by omega, this.2.2 (by omega)⟩)
theorem next_split {t : List UInt8} (htdg : ∀ c ∈ t, 48 ≤ c.toNat ∧ c.toNat ≤ 57) (htl : t.length ≤ 9) (p : Nat) :
    (t.length ≤ p) ∨ (p < t.length ∧ 48 ≤ (t.getD p 0).toNat ∧ (t.getD p 0).toNat ≤ 57 ∧ numOf (t.take p) < 100000000 ∧ 10 ^ p ≤ 100000000) := by
  by_cases h : t.length ≤ p
  · exact .inl h
  · refine .inr ⟨by omega, ?_⟩
    have hc := htdg (t.getD p 0) (by simp [List.getD, show p < t.length by omega])
    have hp : 10 ^ p ≤ 10 ^ 8 := Nat.pow_le_pow_right (by decide) (by omega)
    have hn := numOf_lt (l := t.take p) fun c hc => (htdg c (List.mem_of_mem_take hc)).2
    rw [List.length_take, Nat.min_eq_left (by omega)] at hn
    exact ⟨hc.1, hc.2, by omega, by omega⟩
theorem beq48_f {c : Nat} (h : c ≠ 48) : (((c : Nat) : Int) == (48 : Int)) = false := by simp; omega
theorem mul10 {s : Nat} (h : s ≤ 100000000) : IntKind.u32.wrap (((s : Nat) : Int) * 10) = ((s * 10 : Nat) : Int) := by rw [IntWalk.u32_in _ (by omega)]; omega
theorem u32_nil (w : World) : U32 w none (nl 0) 0 (L 0) := by rw [nl_zero, L_zero]; exact u32_none w
theorem nl_numOf {l : List UInt8} (h : ∀ c ∈ l, c.toNat ≤ 57) (hl : l.length ≤ 65536) : nl (numOf l) ≤ 65536 := by
  have h1 := numOf_lt h
  refine Nat.le_trans (nl_le_of_lt (k := l.length) (Nat.lt_of_lt_of_le h1 (Nat.pow_le_pow_left (by decide) _))) hl
section
variable {P : Program} {N : Nat} {dq : List Deferred} {a : Act} {l : List (Nat × Value)} {w : World} {d : Nat} {ty : TypeId} {pos : String} {af : Array Edge} {gd : Option (Nat × Bool)}
theorem rn_spot0 : (execOp a.eval ⟨some d, .build 79 #[], ty, pos, af, gd⟩).run Tryd.prog w = .ok (.value (.agg #[.int .i64 0, .int .i64 0])) w := by
  have hz : (zeroValue 79).run Tryd.prog w = .ok (.agg #[.int .i64 0, .int .i64 0]) w := by obtain ⟨i, hi, hv⟩ := zero_anvil_api_Spot; simp [zeroValue, typeInfo, hi, hv]
  simp [execOp, Instr.build, hz, run_underlying Tryd.underlying79, Sem.run_bind, run_sizeOf ty_anvil_api_Errno.size, run_sizeOf ty_int.size, Instr.fill, Value.cells]
theorem rn_spot2 {x y : Operand} {v u : Int} (h : EnvD dq N a l) (hx : evl l x = some (.int .i64 v)) (hy : evl l y = some (.int .i64 u)) :
    (execOp a.eval ⟨some d, .build 79 #[(0, x), (1, y)], ty, pos, af, gd⟩).run Tryd.prog w = .ok (.value (.agg #[.int .i64 v, .int .i64 u])) w := by
  have hz : (zeroValue 79).run Tryd.prog w = .ok (.agg #[.int .i64 0, .int .i64 0]) w := by obtain ⟨i, hi, hv⟩ := zero_anvil_api_Spot; simp [zeroValue, typeInfo, hi, hv]
  simp [execOp, h.ev hx, h.ev hy, Instr.build, hz, run_underlying Tryd.underlying79, Sem.run_bind, run_sizeOf ty_anvil_api_Errno.size, run_sizeOf ty_int.size, Instr.fill, Value.cells]
end
set_option maxRecDepth 100000 in
set_option maxHeartbeats 4000000 in
theorem read_ok {l : List UInt8} {w0 : World} (hl : l.length ≤ 65536) (hne : l ≠ []) (hok : ∀ j, j < l.length → ¬ BadAt l j) :
    Calls Tryd.prog 143 #[.string ⟨l.toArray⟩] w0 fun e w' => ∃ v, e = .returned (.tuple #[v, .agg #[.int .i64 0, .int .i64 0]]) ∧ NumAt w0.heap.size w' v (numOf l) ∧ Below w0.heap.size w0 w' := by
  have hdg := digits_of hok
  refine enter Tryd.func143 rfl Tryd.ntmps143 rfl ?_
  intro a henv hst
  refine wp_seq ?_
  refine region_seq ?_
  refine sv (v := .slice none 0 0) henv rfl (rn_assign henv rfl) ?_
  clear henv a; intro a henv
  refine seq_step rfl (op_alloc (c := #[.int .i64 0, .int .i64 0]) henv hst rfl zero_anvil_api_Spot rfl ?_)
  clear henv hst a; intro a w2 g1 henv hst
  refine wpList_nil ?_
  refine th_n ?_
  refine wp_seq ?_
  refine wp_seq ?_
  refine region_seq ?_
  revert a
  refine mA rfl rfl ?_
  refine sA (v := .int .i64 (l.length : Nat)) rfl (fun _ henv => rn_lenS henv Tryd.underlying9 rfl) ?_
  refine sA (v := .bool (decide (((l.length : Nat) : Int) > (65536 : Int)))) rfl (fun _ henv => rn_bin henv rfl rfl rfl) ?_
  intro a henv
  refine wpList_nil ?_
  refine th_n ?_
  refine if_f henv rfl (decide_eq_false (by omega)) ?_
  refine wp_skip ?_
  refine th_n ?_
  refine wp_seq ?_
  refine wp_seq ?_
  refine region_seq ?_
  revert a
  refine mA rfl rfl ?_
  refine sA (v := .bool (decide (l = []))) rfl (fun _ henv => rn_eqls (s := l) (t := []) henv rfl rfl) ?_
  intro a henv
  refine wpList_nil ?_
  refine th_n ?_
  refine if_f henv rfl (decide_eq_false hne) ?_
  refine wp_skip ?_
  refine th_n ?_
  refine wp_seq ?_
  refine wp_seq ?_
  refine region_seq ?_
  revert a
  refine mA rfl rfl ?_
  refine sA (v := .int .i64 (l.length : Nat)) rfl (fun _ henv => rn_lenS henv Tryd.underlying9 rfl) ?_
  refine mA rfl rfl ?_
  intro a henv
  refine wpList_nil ?_
  refine th_n ?_
  refine wp_block ?_
  refine wp_loop_ghost (fun mz a w => ∃ j : Nat, l.length - j = mz ∧ Env 77 a [(0, .string ⟨l.toArray⟩), (3, .pointer (some ⟨g1, 0, none⟩)), (19, .int .i64 (l.length : Nat)), (20, .int .i64 (j : Nat))] ∧ St w0 w [bk g1 #[.int .i64 0, .int .i64 0] 79] [] ∧ j ≤ l.length) _ ⟨0, rfl, henv.sub ⟨rfl, rfl, rfl, rfl, trivial⟩, hst.pick [0] [] (by decide), (Nat.zero_le _)⟩ ?_
  clear henv hst a
  rintro mz a w3 ⟨j, rfl, henv, hst, hj⟩
  have hmx : l.length ≤ 9223372036854775807 := by omega
  rcases read_split hok j with ⟨hje⟩ | ⟨hlt, h1, h2, h0⟩ | ⟨hlt, h1, h2, h0, h3⟩
  · refine wp_seq ?_
    refine region_seq ?_
    refine sv (v := .bool (decide (((j : Nat) : Int) < ((l.length : Nat) : Int)))) henv rfl (rn_bin henv rfl rfl rfl) ?_
    clear henv a; intro a henv
    refine wpList_nil ?_
    refine th_n ?_
    refine wp_seq ?_
    refine if_f henv rfl (decide_eq_false (by omega)) ?_
    refine wp_exit ?_
    refine th_x (th_x (bl_x (th_n ?_)))
    refine wp_seq ?_
    refine region_seq ?_
    refine sv (v := .slice none 0 0) henv rfl (rn_assign henv rfl) ?_
    clear henv a; intro a henv
    refine wpList_nil ?_
    refine th_n ?_
    refine wp_seq ?_
    refine wp_block ?_
    replace hst := hst.addU (u32_nil _) ⟨nou_bk rfl, trivial⟩
    refine wp_loop_ghost (fun mz a w => ∃ r : List UInt8, ∃ N : Nat, ∃ A1 : Option Addr, ∃ c1 : Nat, r.length = mz ∧ Env 77 a [(0, .string ⟨r.toArray⟩), (3, .pointer (some ⟨g1, 0, none⟩)), (5, .slice A1 (nl N) c1)] ∧ St w0 w [bk g1 #[.int .i64 0, .int .i64 0] 79] [pfU A1 (nl N) c1 (L N)] ∧ (∃ q, q ++ r = l ∧ numOf q = N) ∧ (∀ x, A1 = some x → w0.heap.size ≤ x.block)) _ ⟨l, 0, none, 0, rfl, henv.sub ⟨rfl, rfl, (by rw [nl_zero]; rfl), trivial⟩, hst.pick [0] [0] (by decide), ⟨[], rfl, rfl⟩, (fun x h => by cases h)⟩ ?_
    clear henv hst a
    rintro mz a w4 ⟨r, N, A1, c1, rfl, henv, hst, hrN, hF⟩
    obtain ⟨q0, hq0, hqN⟩ := hrN
    have hrd : ∀ c ∈ r, 48 ≤ c.toNat ∧ c.toNat ≤ 57 := fun c hc => hdg c (by rw [← hq0]; exact List.mem_append_right _ hc)
    have hnN : nl N ≤ 65536 := by rw [← hqN]; exact nl_numOf (l := q0) (fun c hc => (hdg c (by rw [← hq0]; exact List.mem_append_left _ hc)).2) (by have := congrArg List.length hq0; rw [List.length_append] at this; omega)
    have hrl : r.length ≤ l.length := by have := congrArg List.length hq0; rw [List.length_append] at this; omega
    refine wp_seq ?_
    refine wp_seq ?_
    refine region_seq ?_
    revert a
    refine mA rfl rfl ?_
    refine sA (v := .int .i64 (r.length : Nat)) rfl (fun _ henv => rn_lenS henv Tryd.underlying9 rfl) ?_
    refine sA (v := .bool (decide (((r.length : Nat) : Int) > (0 : Int)))) rfl (fun _ henv => rn_bin henv rfl rfl rfl) ?_
    intro a henv
    refine wpList_nil ?_
    refine th_n ?_
    refine if_split henv rfl (fun hc5 => ?_) (fun hc5 => ?_)
    · have hr0 : 0 < r.length := by have := of_decide_eq_true hc5; omega
      refine wp_skip ?_
      refine th_n ?_
      refine wp_block ?_
      refine wp_seq ?_
      refine region_seq ?_
      revert a
      refine mA rfl rfl ?_
      refine sA (v := .int .i64 (r.length : Nat)) rfl (fun _ henv => rn_lenS henv Tryd.underlying9 rfl) ?_
      refine sA (v := .int .i64 (min r.length 9 : Nat)) rfl (fun _ henv => rn_min (n := 9) henv rfl rfl) ?_
      refine aA rfl rfl ?_
      intro a henv
      refine wpList_nil ?_
      refine th_n ?_
      refine wp_seq ?_
      refine region_seq ?_
      revert a
      refine aA rfl rfl ?_
      refine aA rfl rfl ?_
      intro a henv
      refine wpList_nil ?_
      refine th_n ?_
      refine wp_seq ?_
      refine wp_seq ?_
      refine region_seq ?_
      revert a
      refine mA rfl rfl ?_
      refine mA rfl rfl ?_
      refine sA (v := .string ⟨(r.take (min r.length 9)).toArray⟩) rfl (fun _ henv => rn_takeS (n := min r.length 9) henv Tryd.underlying9 rfl rfl (Nat.min_le_left _ _)) ?_
      intro a henv
      refine seq_step rfl (op_range henv hst rfl Tryd.underlying9 rfl ?_)
      clear henv hst a; intro a w7 g6 henv hst
      refine wpList_nil ?_
      obtain ⟨t, ht⟩ : ∃ t, r.take (min r.length 9) = t := ⟨_, rfl⟩
      rw [ht] at henv hst
      have htl : t.length ≤ 9 := by rw [← ht, List.length_take]; omega
      have htl0 : t.length = min r.length 9 := by rw [← ht, List.length_take]; omega
      have htdg : ∀ c ∈ t, 48 ≤ c.toNat ∧ c.toNat ≤ 57 := fun c hc => hrd c (List.mem_of_mem_take (by rw [ht]; exact hc))
      have htd : t ++ r.drop (min r.length 9) = r := by rw [← ht]; exact List.take_append_drop _ _
      refine th_n ?_
      refine wp_block ?_
      refine wp_loop_ghost (fun mz a w => ∃ p : Nat, t.length - p = mz ∧ Env 77 a [(0, .string ⟨r.toArray⟩), (3, .pointer (some ⟨g1, 0, none⟩)), (5, .slice A1 (nl N) c1), (6, .int .i64 (min r.length 9 : Nat)), (7, .int .u32 (numOf (t.take p) : Nat)), (8, .int .u32 (10 ^ p : Nat)), (54, .pointer (some ⟨g6, 0, none⟩))] ∧ St w0 w [iterF g6 t p, bk g1 #[.int .i64 0, .int .i64 0] 79] [pfU A1 (nl N) c1 (L N)] ∧ p ≤ t.length) _ ⟨0, rfl, henv.sub ⟨rfl, rfl, rfl, rfl, rfl, rfl, rfl, trivial⟩, hst.pick [0, 1] [0] (by decide), (Nat.zero_le _)⟩ ?_
      clear henv hst a
      rintro mz a w8 ⟨p, rfl, henv, hst, hpl⟩
      rcases next_split htdg htl p with ⟨hpe⟩ | ⟨hp, hc1, hc2, hs1, hs2⟩
      · refine wp_seq ?_
        refine region_seq ?_
        refine seq_step rfl (op_next_end (k := 0) henv hst rfl rfl rfl hpe ?_)
        clear henv a; intro a henv
        refine sv (v := .bool false) henv rfl (rn_extract henv rfl rfl) ?_
        clear henv a; intro a henv
        refine wpList_nil ?_
        refine th_n ?_
        refine wp_seq ?_
        refine if_f henv rfl (rfl) ?_
        refine wp_exit ?_
        refine th_x (th_x (bl_x (th_n ?_)))
        refine wp_seq ?_
        have hpt : p = t.length := by omega
        subst hpt
        rw [List.take_length] at henv
        have hnt : numOf t < 4294967296 := Nat.lt_of_lt_of_le (numOf_lt fun c hc => (htdg c hc).2) (Nat.le_trans (Nat.pow_le_pow_right (by decide) htl) (by decide))
        have hst9 : 10 ^ t.length < 4294967296 := Nat.lt_of_le_of_lt (Nat.pow_le_pow_right (by decide) htl) (by decide)
        have hnl1 : nl (numOf t) ≤ 1 := nl_le_of_lt (by omega)
        have hnl2 : nl (10 ^ t.length) ≤ 1 := nl_le_of_lt (by omega)
        refine region_seq ?_
        revert a
        refine mA rfl rfl ?_
        refine mA rfl rfl ?_
        intro a henv
        have hs9 := nl_mul N (10 ^ t.length)
        refine seq_step rfl (op_call henv rfl Tryd.call156 rfl (muls_num (N := N) (q := 10 ^ t.length) ⟨_, (show U32 _ A1 (nl N) c1 (L N) from hst.pat (k := 0) rfl), (val_L _)⟩ (by omega) (by omega)) ?_)
        rintro e w12 ⟨_, rfl, ⟨A10, c11, rfl, hU, hA⟩, hb⟩
        refine ⟨_, rfl, ?_⟩
        clear henv a; intro a henv
        replace hst := hst.freshU hb hU hA
        clear hU
        clear hA
        clear hb
        refine sv (v := .int .u32 (numOf t : Nat)) henv rfl (rn_move henv rfl) ?_
        clear henv a; intro a henv
        refine seq_step rfl (op_buildSlice (z := 1) (pv := #[(0, .int .u32 (numOf t : Nat))]) (c := #[.int .u32 (numOf t : Nat)]) henv hst rfl Tryd.underlying23 (ty_uint32.size) zero_uint32 (by decide) (by decide) rfl (by kernel_rfl) ?_)
        clear henv hst a; intro a w14 g13 henv hst
        replace hst := hst.giveU (k := 0) (n := 1) (xs := [numOf t]) rfl (lt1 hnt) rfl (by decide)
        have hs15 := nl_add (N * (10 ^ t.length)) (numOf t)
        have hst0 := hst
        refine seq_step rfl (op_call henv rfl Tryd.call132 rfl (add_num (N := (N * (10 ^ t.length))) (M := numOf t) ⟨_, (show U32 _ A10 (nl (N * (10 ^ t.length))) c11 (L (N * (10 ^ t.length))) from hst.pat (k := 1) rfl), (val_L _)⟩ ⟨_, (show U32 _ (some ⟨g13, 0, none⟩) 1 1 ([numOf t]) from hst.pat (k := 0) rfl), L_one⟩ (by omega) (by omega)) ?_)
        rintro e w18 ⟨_, rfl, ⟨A16, c17, rfl, hU, hA⟩, hb⟩
        refine ⟨_, rfl, ?_⟩
        clear henv a; intro a henv
        replace hst := hst.freshU hb hU hA
        clear hU
        have hF2 : ∀ x, A16 = some x → w0.heap.size ≤ x.block := fun x hx => Nat.le_trans hst0.below.size (hA x hx)
        clear hA hst0
        clear hb
        refine sv (v := .slice A16 (nl ((N * (10 ^ t.length)) + (numOf t))) c17) henv rfl (rn_assign henv rfl) ?_
        clear henv a; intro a henv
        refine wpList_nil ?_
        refine th_n ?_
        refine region_seq ?_
        revert a
        refine mA rfl rfl ?_
        refine mA rfl rfl ?_
        refine sA (v := .string ⟨(r.drop (min r.length 9)).toArray⟩) rfl (fun _ henv => rn_dropS (n := min r.length 9) henv Tryd.underlying9 rfl rfl (Nat.min_le_left _ _)) ?_
        refine aA rfl rfl ?_
        intro a henv
        refine wpList_nil ?_
        refine bl_n ?_
        exact th_n ⟨_, (by rw [List.length_drop]; omega), ⟨r.drop (min r.length 9), ((N * (10 ^ t.length)) + (numOf t)), A16, c17, rfl, henv.sub ⟨rfl, rfl, rfl, trivial⟩, hst.pick [1] [0] (by decide), ⟨q0 ++ t, by rw [List.append_assoc, htd, hq0], by rw [numOf_app, hqN]⟩, hF2⟩⟩
      · refine wp_seq ?_
        refine region_seq ?_
        refine seq_step rfl (op_next (k := 0) henv hst rfl rfl rfl hp (by omega) ?_)
        clear henv hst a; intro a w19 henv hst
        refine sv (v := .bool true) henv rfl (rn_extract henv rfl rfl) ?_
        clear henv a; intro a henv
        refine wpList_nil ?_
        refine th_n ?_
        refine wp_seq ?_
        refine if_t henv rfl (rfl) ?_
        refine wp_skip ?_
        refine th_n ?_
        refine wp_block ?_
        refine wp_seq ?_
        refine region_seq ?_
        revert a
        refine sA (v := .int .i32 ((t.getD p 0).toNat : Nat)) rfl (fun _ henv => rn_extract henv rfl rfl) ?_
        refine aA rfl rfl ?_
        intro a henv
        refine wpList_nil ?_
        refine th_n ?_
        refine wp_seq ?_
        refine region_seq ?_
        revert a
        refine mA rfl rfl ?_
        refine sA (v := .int .u32 (10 * (numOf (t.take p)) : Nat)) rfl (fun _ henv => rn_mul henv rfl rfl (by rw [IntWalk.u32_in _ (by omega)]; omega)) ?_
        refine mA rfl rfl ?_
        refine sA (v := .int .i32 ((t.getD p 0).toNat - 48 : Nat)) rfl (fun _ henv => rn_sub henv rfl rfl (by rw [IntWalk.i32_in _ (by omega)]; omega)) ?_
        refine sA (v := .int .u32 ((t.getD p 0).toNat - 48 : Nat)) rfl (fun _ henv => rn_conv henv rfl Tryd.underlying21 Tryd.underlying141 (IntWalk.u32_in _ (by omega))) ?_
        refine sA (v := .int .u32 ((10 * (numOf (t.take p))) + ((t.getD p 0).toNat - 48) : Nat)) rfl (fun _ henv => rn_add henv rfl rfl (by rw [IntWalk.u32_in _ (by omega)]; omega)) ?_
        refine aA rfl rfl ?_
        intro a henv
        refine wpList_nil ?_
        refine th_n ?_
        refine region_seq ?_
        revert a
        refine mA rfl rfl ?_
        refine sA (v := .int .u32 (10 ^ p * 10 : Nat)) rfl (fun _ henv => rn_mul henv rfl rfl (mul10 hs2)) ?_
        refine aA rfl rfl ?_
        intro a henv
        refine wpList_nil ?_
        refine bl_n ?_
        rw [show (10 * numOf (t.take p) + ((t.getD p 0).toNat - 48)) = numOf (t.take (p + 1)) by rw [numOf_take_succ hp, Nat.mul_comm], show 10 ^ p * 10 = 10 ^ (p + 1) from (Nat.pow_succ 10 p).symm] at henv
        exact th_n ⟨_, (by omega), ⟨p + 1, rfl, henv.sub ⟨rfl, rfl, rfl, rfl, rfl, rfl, rfl, trivial⟩, hst.pick [0, 1] [0] (by decide), (by omega)⟩⟩
    · have hr0 : r = [] := List.length_eq_zero_iff.1 (by have := of_decide_eq_false hc5; omega)
      refine wp_exit ?_
      refine th_x (th_x (bl_x (th_n ?_)))
      refine wp_seq ?_
      refine region_seq ?_
      revert a
      refine mA rfl rfl ?_
      refine sA (v := .agg #[.int .i64 0, .int .i64 0]) rfl (fun _ henv => rn_spot0) ?_
      refine aA rfl rfl ?_
      intro a henv
      refine seq_step rfl (op_store (k := 0) (c' := #[.int .i64 0, .int .i64 0]) henv hst (ty_anvil_api_Spot.size) rfl rfl rfl rfl (by simp) rfl rfl ?_)
      clear henv hst a; intro a w20 henv hst
      refine wpList_nil ?_
      refine th_n ?_
      refine wp_ret ?_
      refine leave henv (res2 Tryd.results143 (RV.tmp henv rfl) (RV.cell henv ty_anvil_api_Spot rfl (hst.oat (k := 0) rfl) rfl)) ?_
      subst hr0
      rw [List.append_nil] at hq0
      subst hq0
      subst hqN
      exact ⟨_, rfl, ⟨_, _, rfl, hst.pat (k := 0) rfl, hF⟩, hst.below⟩
  · refine wp_seq ?_
    refine region_seq ?_
    refine sv (v := .bool (decide (((j : Nat) : Int) < ((l.length : Nat) : Int)))) henv rfl (rn_bin henv rfl rfl rfl) ?_
    clear henv a; intro a henv
    refine wpList_nil ?_
    refine th_n ?_
    refine wp_seq ?_
    refine if_t henv rfl (decide_eq_true (by omega)) ?_
    refine wp_skip ?_
    refine th_n ?_
    refine wp_seq ?_
    refine wp_block ?_
    refine wp_seq ?_
    refine region_seq ?_
    revert a
    refine mA rfl rfl ?_
    refine aA rfl rfl ?_
    intro a henv
    refine wpList_nil ?_
    refine th_n ?_
    refine wp_seq ?_
    refine region_seq ?_
    revert a
    refine mA rfl rfl ?_
    refine mA rfl rfl ?_
    refine sA (v := .int .u8 ((l.getD j 0).toNat : Nat)) rfl (fun _ henv => rn_idxS (i := j) henv Tryd.underlying9 rfl rfl hlt) ?_
    refine sA (v := .bool (decide ((((l.getD j 0).toNat : Nat) : Int) < (48 : Int)))) rfl (fun _ henv => rn_bin henv rfl rfl rfl) ?_
    intro a henv
    rw [show (decide ((((l.getD j 0).toNat : Nat) : Int) < (48 : Int))) = false from decide_eq_false (by omega)] at henv
    revert a
    refine mA rfl rfl ?_
    refine gA (v := .string ⟨l.toArray⟩) rfl rfl rfl rfl (fun _ henv => rn_move henv rfl) ?_
    refine gA (v := .int .i64 (j : Nat)) rfl rfl rfl rfl (fun _ henv => rn_move henv rfl) ?_
    refine gA (v := .int .u8 ((l.getD j 0).toNat : Nat)) rfl rfl rfl rfl (fun _ henv => rn_idxS (i := j) henv Tryd.underlying9 rfl rfl hlt) ?_
    refine gA (v := .bool (decide ((((l.getD j 0).toNat : Nat) : Int) > (57 : Int)))) rfl rfl rfl rfl (fun _ henv => rn_bin henv rfl rfl rfl) ?_
    intro a henv
    rw [show (decide ((((l.getD j 0).toNat : Nat) : Int) > (57 : Int))) = false from decide_eq_false (by omega)] at henv
    revert a
    refine sA (v := .bool false) rfl (fun _ henv => rn_pick henv rfl rfl) ?_
    refine mA rfl rfl ?_
    refine gA (v := .int .i64 (j : Nat)) rfl rfl rfl rfl (fun _ henv => rn_move henv rfl) ?_
    refine gA (v := .bool (decide (((j : Nat) : Int) > (0 : Int)))) rfl rfl rfl rfl (fun _ henv => rn_bin henv rfl rfl rfl) ?_
    intro a henv
    rw [show (decide (((j : Nat) : Int) > (0 : Int))) = false from decide_eq_false (by omega)] at henv
    revert a
    refine gA (v := .bool false) rfl rfl rfl rfl (fun _ henv => rn_move henv rfl) ?_
    refine kA rfl rfl rfl rfl rfl ?_
    refine kA rfl rfl rfl rfl rfl ?_
    refine kA rfl rfl rfl rfl rfl ?_
    refine gA (v := .bool false) rfl rfl rfl rfl (fun _ henv => rn_pick henv rfl rfl) ?_
    refine sA (v := .bool false) rfl (fun _ henv => rn_pick henv rfl rfl) ?_
    intro a henv
    refine wpList_nil ?_
    refine th_n ?_
    refine if_f henv rfl (rfl) ?_
    refine wp_skip ?_
    refine bl_n (th_n ?_)
    refine region_seq ?_
    revert a
    refine sA (v := .int .i64 (j + 1 : Nat)) rfl (fun _ henv => rn_add henv rfl rfl (by rw [IntWalk.i64_in _ (by omega)]; omega)) ?_
    refine mA rfl rfl ?_
    intro a henv
    refine wpList_nil ?_
    exact th_n ⟨_, (by omega), ⟨j + 1, rfl, henv.sub ⟨rfl, rfl, rfl, rfl, trivial⟩, hst.pick [0] [] (by decide), (by omega)⟩⟩
  · refine wp_seq ?_
    refine region_seq ?_
    refine sv (v := .bool (decide (((j : Nat) : Int) < ((l.length : Nat) : Int)))) henv rfl (rn_bin henv rfl rfl rfl) ?_
    clear henv a; intro a henv
    refine wpList_nil ?_
    refine th_n ?_
    refine wp_seq ?_
    refine if_t henv rfl (decide_eq_true (by omega)) ?_
    refine wp_skip ?_
    refine th_n ?_
    refine wp_seq ?_
    refine wp_block ?_
    refine wp_seq ?_
    refine region_seq ?_
    revert a
    refine mA rfl rfl ?_
    refine aA rfl rfl ?_
    intro a henv
    refine wpList_nil ?_
    refine th_n ?_
    refine wp_seq ?_
    refine region_seq ?_
    revert a
    refine mA rfl rfl ?_
    refine mA rfl rfl ?_
    refine sA (v := .int .u8 ((l.getD j 0).toNat : Nat)) rfl (fun _ henv => rn_idxS (i := j) henv Tryd.underlying9 rfl rfl hlt) ?_
    refine sA (v := .bool (decide ((((l.getD j 0).toNat : Nat) : Int) < (48 : Int)))) rfl (fun _ henv => rn_bin henv rfl rfl rfl) ?_
    intro a henv
    rw [show (decide ((((l.getD j 0).toNat : Nat) : Int) < (48 : Int))) = false from decide_eq_false (by omega)] at henv
    revert a
    refine mA rfl rfl ?_
    refine gA (v := .string ⟨l.toArray⟩) rfl rfl rfl rfl (fun _ henv => rn_move henv rfl) ?_
    refine gA (v := .int .i64 (j : Nat)) rfl rfl rfl rfl (fun _ henv => rn_move henv rfl) ?_
    refine gA (v := .int .u8 ((l.getD j 0).toNat : Nat)) rfl rfl rfl rfl (fun _ henv => rn_idxS (i := j) henv Tryd.underlying9 rfl rfl hlt) ?_
    refine gA (v := .bool (decide ((((l.getD j 0).toNat : Nat) : Int) > (57 : Int)))) rfl rfl rfl rfl (fun _ henv => rn_bin henv rfl rfl rfl) ?_
    intro a henv
    rw [show (decide ((((l.getD j 0).toNat : Nat) : Int) > (57 : Int))) = false from decide_eq_false (by omega)] at henv
    revert a
    refine sA (v := .bool false) rfl (fun _ henv => rn_pick henv rfl rfl) ?_
    refine mA rfl rfl ?_
    refine gA (v := .int .i64 (j : Nat)) rfl rfl rfl rfl (fun _ henv => rn_move henv rfl) ?_
    refine gA (v := .bool (decide (((j : Nat) : Int) > (0 : Int)))) rfl rfl rfl rfl (fun _ henv => rn_bin henv rfl rfl rfl) ?_
    intro a henv
    rw [show (decide (((j : Nat) : Int) > (0 : Int))) = true from decide_eq_true (by omega)] at henv
    revert a
    refine gA (v := .bool true) rfl rfl rfl rfl (fun _ henv => rn_move henv rfl) ?_
    refine gA (v := .string ⟨l.toArray⟩) rfl rfl rfl rfl (fun _ henv => rn_move henv rfl) ?_
    refine gA (v := .int .u8 ((l.getD 0 0).toNat : Nat)) rfl rfl rfl rfl (fun _ henv => rn_idxS (i := 0) henv Tryd.underlying9 rfl rfl (by omega)) ?_
    refine gA (v := .bool ((((l.getD 0 0).toNat : Nat) : Int) == (48 : Int))) rfl rfl rfl rfl (fun _ henv => rn_bin henv rfl rfl rfl) ?_
    intro a henv
    rw [show ((((l.getD 0 0).toNat : Nat) : Int) == (48 : Int)) = false from beq48_f h3] at henv
    revert a
    refine gA (v := .bool false) rfl rfl rfl rfl (fun _ henv => rn_pick henv rfl rfl) ?_
    refine sA (v := .bool false) rfl (fun _ henv => rn_pick henv rfl rfl) ?_
    intro a henv
    refine wpList_nil ?_
    refine th_n ?_
    refine if_f henv rfl (rfl) ?_
    refine wp_skip ?_
    refine bl_n (th_n ?_)
    refine region_seq ?_
    revert a
    refine sA (v := .int .i64 (j + 1 : Nat)) rfl (fun _ henv => rn_add henv rfl rfl (by rw [IntWalk.i64_in _ (by omega)]; omega)) ?_
    refine mA rfl rfl ?_
    intro a henv
    refine wpList_nil ?_
    exact th_n ⟨_, (by omega), ⟨j + 1, rfl, henv.sub ⟨rfl, rfl, rfl, rfl, trivial⟩, hst.pick [0] [] (by decide), (by omega)⟩⟩
end Go.Proofs.YtegglooojlheoaaDoor.W
