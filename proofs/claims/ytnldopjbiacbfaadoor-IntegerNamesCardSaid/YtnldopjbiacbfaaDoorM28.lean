/- Rows appended to what the call has written out; what the reference's product needs. No condition. -/
import Derived.Test.YtnldopjbiacbfaaDoorM25
import Derived.Laws.OwnMore

namespace Go.Proofs.YtnldopjbiacbfaaDoor.W
open Go.RowKit Anv

section
variable {P : Program} {K : Act → World → Prop} {Q : Exit → Act → World → Prop} {N : Nat} {dq : List Deferred} {a : Act} {l : List (Nat × Value)} {w w0 : World} {own ps : List PF}
variable {d : Nat} {ty : TypeId} {pos : String} {af : Array Edge} {gd : Option (Nat × Bool)}
/-- What the call has written out is a row that may grow. -/
theorem St.rowOf (h : St w0 w own ps) {k g n z E : Nat} {cs : Array Value} (hk : own[k]? = some (bk g cs E)) (hs : cs.size = n * z) (hm : n ≤ maxLen) :
    St w0 w (own.set k (rowF E z (.slice (some ⟨g, 0, none⟩) n n) n cs.toList)) ps := by
  refine h.step' hk ?_ ?_ rfl rfl rfl (Nat.le_refl _) fun _ _ _ => rfl
  · exact ⟨by simpa using hs, .inr ⟨g, n, cs, rfl, Nat.zero_le _, h.oat hk, Nat.le_refl _, hm, hs, List.take_of_length_le (by rw [Array.length_toList, hs]; exact Nat.le_refl _)⟩⟩
  · intro b hb
    left
    have : some g = some b := hb
    cases this
    rfl
theorem run_append_none0 (w : World) (t ty e : TypeId) (i : TypeInfo) (size : Nat) (ht : P.underlying t = some (.slice e)) (hi : P.info? e = some i)
    (v : Value) (n c : Nat) (xs : List Value) (hown : w.ownsRow 0 e size v n xs) :
    (Builtin.append_ #[t, t] ty #[v, .slice none 0 c]).run P w = .ok v w := by
  rcases hown.2 with ⟨rfl, rfl⟩ | ⟨g, cap, cur, rfl, _, _, hnc, _⟩
  · simp [Builtin.append_, run_underlying ht, sizeOf, typeInfo, hi, Builtin.lenOf, Builtin.firstCells]
  · simp [Builtin.append_, run_underlying ht, sizeOf, typeInfo, hi, Builtin.lenOf, Builtin.firstCells, hnc, storeCells]
/-- 'append(out, l...)': l is a row of limbs that is read alone. -/
theorem op_appendU {t E n bytes k m c : Nat} {x y : Operand} {v : Value} {os xs : List Nat} {A : Option Addr} (h : EnvD dq N a l) (hs : St w0 w own ps) (hd : Nat.blt d N = true) (hT : P.underlying t = some (.slice E))
    (hi : (P.info? E).map (fun i => (i.zero, i.size, i.bytes)) = some (some (.int .u32 0), 1, bytes)) (hx : evl l x = some v) (hy : evl l y = some (.slice A m c))
    (hk : own[k]? = some (rowF E 1 v n (vals os))) (hu : U32 w A m c xs) (hn : n + m ≤ maxLen) (hb : (n + m) * bytes ≤ 140737488355328)
    (hK : ∀ a' w' v', EnvD dq N a' ((d, v') :: l) → St w0 w' (own.set k (rowF E 1 v' (n + m) (vals (os ++ xs)))) ps → K a' w') :
    Oper.wp P ⟨some d, .call ⟨.builtin .append, #[x, y], #[t, t]⟩, ty, pos, af, gd⟩ a w K Q := by
  have happ : vals os ++ vals xs = vals (os ++ xs) := by simp [vals]
  cases A with
  | none =>
    have hm : m = 0 := by
      rcases Nat.eq_zero_or_pos m with h0 | h0
      · exact h0
      · obtain ⟨_, _, e, _⟩ := hu.cells h0
        cases e
    subst hm
    have hxs : xs = [] := List.length_eq_zero_iff.1 hu.len
    subst hxs
    obtain ⟨i, hi1, _⟩ := Option.map_eq_some_iff.1 hi
    have hrow : w.ownsRow 0 E 1 v n (vals os) := hs.owns hk
    have hrun := run_append_none0 (P := P) w t ty E i 1 hT hi1 v n c (vals os) hrow
    have hvx := h.ev hx
    have hvy := h.ev hy
    have hr : (execOp a.eval ⟨some d, .call ⟨.builtin .append, #[x, y], #[t, t]⟩, ty, pos, af, gd⟩).run P w = .ok (.value v) w := by
      simp [execOp, resolve, invoke, builtin, hvx, hvy, hrun]
    unfold Oper.wp
    rw [hr]
    refine hK _ _ v (h.put hd _) ?_
    rw [List.append_nil, Nat.add_zero]
    exact hs.step' hk hrow (fun b hb => .inl hb) rfl rfl rfl (Nat.le_refl _) fun _ _ _ => rfl
  | some ad =>
    have := op_append0 (K := K) (Q := Q) (ty := ty) (pos := pos) (af := af) (gd := gd) (zv := .int .u32 0) (z := 1) (news := vals xs) (k := k) h hs hd hT hi rfl rfl hx hy hk (by simp [vals, hu.len]) (by
      intro i u hiu
      have hi' : i < m := by
        rcases Nat.lt_or_ge i m with h1 | h1
        · exact h1
        · rw [List.getElem?_eq_none (by simp [vals, hu.len, h1])] at hiu; cases hiu
      obtain ⟨b, off, hA, _, hc⟩ := hu.cells (by omega)
      cases hA
      have e1 : (⟨b, off, none⟩ : Addr).add i = ⟨b, off + i, none⟩ := by unfold Addr.add; split <;> simp_all
      rw [e1, hc i hi', ← hiu]
      simp [vals, List.getD, hu.len, hi']) (by simp [vals, Value.oneCell']) hn hb
    refine this fun a' w' v' he hst => hK a' w' v' he ?_
    rw [happ] at hst
    exact hst
end
theorem r_add_to {A B : Option Addr} {n c m d R : Nat} {xs ys : List Nat} {w : World} (h : U32 w A n c xs) (k : U32 w B m d ys) (hn : n ≤ 400000) (hm : m ≤ 400000) (hR : val 4294967296 xs + val 4294967296 ys = R) :
    Calls Tryd.prog 98 #[.slice A n c, .slice B m d] w fun e w' => ∃ v, e = .returned v ∧ NumAt w.heap.size w' v R ∧ Below w.heap.size w w' := by subst hR; exact r_add h k hn hm
theorem mul_next {X j N : Nat} {ys : List Nat} (hN : N = X * val 4294967296 (ys.drop (j + 1))) : val 4294967296 ([0] ++ L N) + val 4294967296 (L (X * ys.getD j 0)) = X * val 4294967296 (ys.drop j) := by
  rw [val_append, val_L, val_L, show val 4294967296 [0] = 0 from rfl, Nat.zero_add, show [0].length = 1 from rfl, Nat.pow_one, drop_val 4294967296 ys j, Nat.mul_add, hN, Nat.mul_left_comm, Nat.add_comm]
end Go.Proofs.YtnldopjbiacbfaaDoor.W
