/- A value is stored into a row of the call's own whose elements have one cell. Over any program. No condition. -/
import Derived.Test.YtbdngknpngcojaaDoorM36

namespace Go.Proofs.YtbdngknpngcojaaDoor.W
open Go.RowKit Anv Go.Lib
theorem cells_oneW {v : Value} (h1 : v.oneCell' = true) : v.cells = #[v] := by cases v <;> simp_all [Value.cells, Value.oneCell']
theorem store_oneW {P : Program} {w : World} {ad : Addr} {u v : Value} (h1 : v.oneCell' = true) (hcl : w.cell? ad = some u) (hf : w.frozen? ad = false) : ((store ad v).run P w) = .ok () (w.setCell ad v) := by
  cases v <;> simp_all [store, Sem.run, Value.oneCell']
theorem fl_set1W {α : Type} {f : α → List Value} {e : α} {v : Value} (hz : ∀ e, (f e).length = 1) (hv : f e = [v]) : ∀ (es : List α) (i : Nat), (fl f es).set i v = fl f (es.set i e)
  | [], _ => rfl
  | x :: es, 0 => by
    match h : f x, hz x with
    | [u], _ => rw [fl, h, List.set_cons_zero, fl, hv]; rfl
  | x :: es, i + 1 => by
    match h : f x, hz x with
    | [u], _ => rw [fl, h, List.set_cons_succ, fl, h, ← fl_set1W hz hv es i]; rfl
section
variable {P : Program} {K : Act → World → Prop} {Q : Exit → Act → World → Prop} {N : Nat} {dq : List Deferred} {a : Act} {l : List (Nat × Value)} {w w0 : World} {own ps : List PF}
variable {d : Nat} {ty : TypeId} {pos : String} {af : Array Edge} {gd : Option (Nat × Bool)}
theorem op_storeW1 {α : Type} {f : α → List Value} {q : Value → Bool} {T E i n c p k : Nat} {x y : Operand} {A : Option Addr} {es : List α} {e : α} {v : Value} (h : EnvD dq N a l) (hs : St w0 w own ps) (hi : ∃ j, P.info? T = some j ∧ j.size = 1) (hx : evl l x = some (.pointer (some ⟨Go.Proofs.YtbdngknpngcojaaDoor.ab A, ao A + p, none⟩))) (hy : evl l y = some v) (hp : i * 1 = p)
    (hk : own[k]? = some (rowS q E 1 A n c (fl f es))) (hz : ∀ e, (f e).length = 1) (hn : i < n) (hl : es.length = n) (hv : f e = [v]) (h1 : v.oneCell' = true) (hq : q v = true)
    (hK : ∀ a' w', EnvD dq N a' l → St w0 w' (own.set k (rowS q E 1 A n c (fl f (es.set i e)))) ps → K a' w') :
    Oper.wp P ⟨none, .store T x y, ty, pos, af, gd⟩ a w K Q := by
  subst hp
  have hP := hs.owns hk
  have hrow : w.ownsRow 0 E 1 (.slice A n c) n (fl f es) := hP.1
  rcases hrow.2 with ⟨e0, hn0⟩ | ⟨g, cap, cur, e0, _, hg, hnc, hcb, hcs, htk⟩
  · omega
  cases e0
  obtain ⟨cur', hg', hcq⟩ := hP.2 g rfl
  rw [hg] at hg'
  cases hg'
  have hx' : evl l x = some (.pointer (some ⟨g, i, none⟩)) := by
    rw [hx]
    show some (Value.pointer (some ⟨g, 0 + i * 1, none⟩)) = _
    rw [Nat.zero_add, Nat.mul_one]
  have hic : i < cur.size := by omega
  obtain ⟨ti, hti, hin⟩ := hi
  have hcl : w.cell? ⟨g, i, none⟩ = some cur[i] := by rw [cell_of_row w _ _ _ _ _ hg]; simp [hic]
  have hf : w.frozen? ⟨g, i, none⟩ = false := by simp [World.frozen?, hg]
  have hvc := cells_oneW h1
  have hr : (execOp a.eval ⟨none, .store T x y, ty, pos, af, gd⟩).run P w = .ok .skip (w.setCell ⟨g, i, none⟩ v) := by
    simp only [execOp, h.ev hx', h.ev hy, Instr.storeAt, Instr.sureAddr, Sem.run_bind, Sem.run_pure, Result.andThen_ok, storeVar, run_sizeOf ⟨ti, hti, hin⟩, hvc]
    have h0 : (⟨g, i, none⟩ : Addr).add 0 = ⟨g, i, none⟩ := by rw [Addr.add_mid]; rfl
    have hst := store_oneW (P := P) h1 hcl hf
    simp [storeCells, h0, hst]
  unfold Oper.wp
  rw [hr]
  have hu := setCell_upd (o := i) v hg
  have htl : (cur.setIfInBounds i v).toList = cur.toList.set i v := by simp
  refine hK _ _ (h.put0 _) (hs.step' hk (e' := rowS q E 1 (some ⟨g, 0, none⟩) n c (fl f (es.set i e))) ⟨⟨?_, .inr ⟨g, c, _, rfl, Nat.zero_le _, hu.new, hnc, hcb, by simpa using hcs, ?_⟩⟩, fun g' hg' => ?_⟩ (fun b hb => .inl hb) hu.os hu.tape hu.output (Nat.le_of_eq hu.size.symm) fun b _ hb => hu.old b fun e => hb (congrArg some e.symm))
  · rw [fl_len hz, List.length_set, hl]
  · rw [htl, List.take_set, htk, fl_set1W hz hv]
  · obtain rfl : g = g' := by simpa [Value.ownBlock] using hg'
    refine ⟨_, hu.new, ?_⟩
    rw [htl]
    refine List.all_eq_true.2 fun u hu => ?_
    rcases List.mem_or_eq_of_mem_set hu with h2 | h2
    · exact List.all_eq_true.1 hcq u h2
    · rw [h2]; exact hq
end
end Go.Proofs.YtbdngknpngcojaaDoor.W
