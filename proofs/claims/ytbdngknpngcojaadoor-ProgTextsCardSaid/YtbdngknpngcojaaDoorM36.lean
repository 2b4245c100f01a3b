/- Rows: slices whose elements have z cells each, and what is known of their elements. Over any program. No condition. -/
import Derived.Test.YtbdngknpngcojaaDoorM34
import Derived.Test.YtbdngknpngcojaaDoorM35
import Derived.Test.YtbdngknpngcojaaDoorM15
import Derived.Test.YtbdngknpngcojaaDoorM12
import Derived.Test.YtbdngknpngcojaaDoorM8
import Derived.Lib.SmallJoins
import Derived.Laws.CopyRow
import Derived.Laws.Append
import Derived.ScopeJumps
import Derived.Deep.LoopGhost
import Derived.Test.YtbdngknpngcojaaDoorM11
import Derived.SizedLaws

namespace Go.Proofs.YtbdngknpngcojaaDoor.W
open Go.RowKit Anv Go.Lib
section
variable {α : Type} {f : α → List Value} {z : Nat}
def fl (f : α → List Value) : List α → List Value
  | [] => []
  | e :: es => f e ++ fl f es
theorem fl_app (es es' : List α) : fl f (es ++ es') = fl f es ++ fl f es' := by
  induction es with
  | nil => rfl
  | cons e es ih => simp only [fl, List.cons_append, ih, List.append_assoc]
theorem fl_one (e : α) : fl f [e] = f e := by simp [fl]
theorem fl_snoc (es : List α) (e : α) : fl f es ++ f e = fl f (es ++ [e]) := by rw [fl_app, fl_one]
theorem fl_len (hz : ∀ e, (f e).length = z) (es : List α) : (fl f es).length = es.length * z := by
  induction es with
  | nil => simp [fl]
  | cons e es ih => simp only [fl, List.length_append, ih, hz, List.length_cons, Nat.succ_mul]; omega
theorem fl_at (hz : ∀ e, (f e).length = z) {es : List α} {i j : Nat} {e : α} (he : es[i]? = some e) (hj : j < z) : (fl f es)[i * z + j]? = (f e)[j]? := by
  induction es generalizing i with
  | nil => simp at he
  | cons e' es ih =>
    cases i with
    | zero =>
      have h : e' = e := by simpa using he
      subst h
      rw [Nat.zero_mul, Nat.zero_add, fl, List.getElem?_append_left (by rw [hz]; exact hj)]
    | succ i =>
      have he' : es[i]? = some e := by simpa using he
      rw [fl, List.getElem?_append_right (by rw [hz, Nat.succ_mul]; omega), hz, ← ih he', Nat.succ_mul]
      congr 1
      omega
theorem fl_rep {c : Array Value} {e0 : α} (hc : f e0 = c.toList) (hz : c.size = z) (h0 : 0 < z) (n : Nat) : (madeCells c (n * z)).toList = fl f (List.replicate n e0) := by
  have hlen : ∀ n, (fl f (List.replicate n e0)).length = n * z := by
    intro n
    induction n with
    | zero => simp [fl]
    | succ n ih => rw [List.replicate_succ, fl, List.length_append, ih, hc, Array.length_toList, hz, Nat.succ_mul]; omega
  have hat : ∀ n i, i < n * z → (fl f (List.replicate n e0))[i]? = c.toList[i % z]? := by
    intro n
    induction n with
    | zero => intro i hi; omega
    | succ n ih =>
      intro i hi
      rw [List.replicate_succ, fl]
      rcases Nat.lt_or_ge i z with h | h
      · rw [List.getElem?_append_left (by rw [hc, Array.length_toList, hz]; exact h), hc, Nat.mod_eq_of_lt h]
      · rw [List.getElem?_append_right (by rw [hc, Array.length_toList, hz]; exact h), hc, Array.length_toList, hz, ih (i - z) (by rw [Nat.succ_mul] at hi; omega), Nat.mod_eq_sub_mod h]
  apply List.ext_getElem?
  intro i
  rcases Nat.lt_or_ge i (n * z) with h | h
  · rw [hat n i h]
    have hm : i % z < z := Nat.mod_lt _ h0
    have hm' : i % z < c.size := by omega
    simp only [madeCells, Array.toList_map, List.getElem?_map, Array.toList_range, List.getElem?_range h, Option.map_some, hz]
    rw [getElem!_pos c _ hm', Array.getElem?_toList, Array.getElem?_eq_getElem hm']
  · rw [List.getElem?_eq_none (by rw [Array.length_toList, size_madeCells]; exact h), List.getElem?_eq_none (by rw [hlen]; exact h)]
end
structure Rd (z : Nat) (w : World) (A : Option Addr) (n c : Nat) (vs : List Value) : Prop where
  len : vs.length = n * z
  cap : n ≤ c
  big : c ≤ maxLen
  cells : 0 < n → ∃ b off, A = some ⟨b, off, none⟩ ∧ b < w.heap.size ∧ ∀ i, i < n * z → w.cell? ⟨b, off + i, none⟩ = vs[i]?
theorem rd_keep {z : Nat} {w w' : World} {A : Option Addr} {n c : Nat} {vs : List Value} (h : Rd z w A n c vs) (hk : ∀ b, (0 < n ∧ ∃ off, A = some ⟨b, off, none⟩) → w'.heap[b]? = w.heap[b]?) : Rd z w' A n c vs :=
  ⟨h.len, h.cap, h.big, fun hp => by
    obtain ⟨b, off, rfl, hlt, hc⟩ := h.cells hp
    have hb := hk b ⟨hp, off, rfl⟩
    have hlt' : b < w'.heap.size := by
      rcases Nat.lt_or_ge b w'.heap.size with h1 | h1
      · exact h1
      · rw [Array.getElem?_eq_none h1] at hb
        rw [Array.getElem?_eq_getElem hlt] at hb; cases hb
    exact ⟨b, off, rfl, hlt', fun i hi => (World.cell?_of_block (w := w) (a := ⟨b, off + i, none⟩) hb).trans (hc i hi)⟩⟩
def pfRd (z : Nat) (A : Option Addr) (n c : Nat) (vs : List Value) : PF :=
  ⟨fun w => Rd z w A n c vs, fun b => 0 < n ∧ ∃ off, A = some ⟨b, off, none⟩, fun h ⟨hp, off, e⟩ => by
    obtain ⟨b, o, e', hlt, _⟩ := h.cells hp
    rw [e] at e'; cases e'; exact hlt, fun h _ hk => rd_keep h hk⟩
theorem rd_none (z : Nat) (w : World) : Rd z w none 0 0 [] := ⟨by simp, Nat.le_refl _, Nat.zero_le _, fun h => absurd h (Nat.lt_irrefl _)⟩
theorem Rd.ab {z : Nat} {w : World} {A : Option Addr} {n c : Nat} {vs : List Value} (h : Rd z w A n c vs) (hn : 0 < n) : A = some ⟨Go.Proofs.YtbdngknpngcojaaDoor.ab A, ao A, none⟩ := by
  obtain ⟨b, off, rfl, _, _⟩ := h.cells hn
  rfl
theorem Rd.at {z : Nat} {w : World} {A : Option Addr} {n c : Nat} {vs : List Value} (h : Rd z w A n c vs) {i : Nat} (hi : i < n * z) : w.cell? ⟨Go.Proofs.YtbdngknpngcojaaDoor.ab A, ao A + i, none⟩ = vs[i]? := by
  obtain ⟨b, off, rfl, _, hc⟩ := h.cells (Nat.pos_of_ne_zero fun h => by rw [h, Nat.zero_mul] at hi; omega)
  exact hc i hi
def pfEs {α : Type} (F : α → PF) (es : List α) : PF :=
  ⟨fun w => ∀ e ∈ es, (F e).P w, fun b => ∃ e ∈ es, (F e).foot b, fun h ⟨e, he, hf⟩ => (F e).lt (h e he) hf,
    fun h hs hk e he => (F e).keep (h e he) hs fun b hb => hk b ⟨e, he, hb⟩⟩
def pfRow {α : Type} (f : α → List Value) (F : α → PF) (z : Nat) (A : Option Addr) (n c : Nat) (es : List α) : PF :=
  ⟨fun w => Rd z w A n c (fl f es) ∧ es.length = n ∧ (pfEs F es).P w, fun b => (pfRd z A n c (fl f es)).foot b ∨ (pfEs F es).foot b, fun h hf => by
      rcases hf with hf | hf
      · exact (pfRd z A n c (fl f es)).lt h.1 hf
      · exact (pfEs F es).lt h.2.2 hf, fun h hs hk => ⟨rd_keep h.1 fun b hb => hk b (.inl hb), h.2.1, (pfEs F es).keep h.2.2 hs fun b hb => hk b (.inr hb)⟩⟩
theorem es_nil {α : Type} (F : α → PF) (w : World) : (pfEs F []).P w := fun e h => by cases h
theorem row_nil {α : Type} (f : α → List Value) (F : α → PF) (z : Nat) (w : World) : (pfRow f F z none 0 0 []).P w := ⟨rd_none z w, rfl, es_nil F w⟩
section
variable {w w' w0 : World} {own ps : List PF} {α : Type} {f : α → List Value} {F : α → PF} {z n c i j k : Nat} {A : Option Addr} {es : List α} {e : α}
theorem row_at (h : (pfRow f F z A n c es).P w) (he : es[i]? = some e) : (F e).P w := h.2.2 e (List.mem_of_getElem? he)
theorem St.elem (h : St w0 w own ps) (hk : ps[k]? = some (pfRow f F z A n c es)) (he : es[i]? = some e) : St w0 w own (F e :: ps) :=
  h.addP (F e) (row_at (h.pat hk) he) fun o ho b h1 h2 => h.apart _ (List.mem_of_getElem? hk) o ho b h1 (.inr ⟨e, List.mem_of_getElem? he, h2⟩)
theorem St.row (h : St w0 w own ps) (hi : ps[i]? = some (pfRd z A n c (fl f es))) (hj : ps[j]? = some (pfEs F es)) (hl : es.length = n) : St w0 w own (pfRow f F z A n c es :: ps) :=
  h.addP _ ⟨h.pat hi, hl, h.pat hj⟩ fun o ho b h1 h2 => by
    rcases h2 with h2 | h2
    · exact h.apart _ (List.mem_of_getElem? hi) o ho b h1 h2
    · exact h.apart _ (List.mem_of_getElem? hj) o ho b h1 h2
theorem St.argRow (h : St w0 w [] ps) (hr : (pfRow f F z A n c es).P w) : St w0 w [] (pfRow f F z A n c es :: ps) := h.addP _ hr fun o ho => by cases ho
end
section
variable {P : Program} {K : Act → World → Prop} {Q : Exit → Act → World → Prop} {N : Nat} {dq : List Deferred} {a : Act} {l : List (Nat × Value)} {w w0 : World} {own ps : List PF}
variable {d : Nat} {ty : TypeId} {pos : String} {af : Array Edge} {gd : Option (Nat × Bool)}
theorem rn_idxR {x y : Operand} {T E i n c z p : Nat} {A : Option Addr} {vs : List Value} {k : IntKind} (h : EnvD dq N a l) (hT : P.underlying T = some (.slice E)) (hE : ∃ j, P.info? E = some j ∧ j.size = z) (hx : evl l x = some (.slice A n c)) (hy : evl l y = some (.int k (i : Nat))) (hi : i < n) (hp : i * z = p) (hr : Rd z w A n c vs) :
    (execOp a.eval ⟨some d, .indexAddr T x y, ty, pos, af, gd⟩).run P w = .ok (.value (.pointer (some ⟨Go.Proofs.YtbdngknpngcojaaDoor.ab A, ao A + p, none⟩))) w := by
  subst hp
  exact rn_indexAddr h hT hE (hx.trans (by rw [← hr.ab (by omega)])) hy hi
theorem mul_lt_row {i n z j : Nat} (hi : i < n) (hj : j < z) : i * z + j < n * z := by
  have : (i + 1) * z ≤ n * z := Nat.mul_le_mul_right _ hi
  rw [Nat.succ_mul] at this
  omega
theorem rn_loadE {α : Type} {f : α → List Value} {x : Operand} {T i n c z p : Nat} {A : Option Addr} {es : List α} {e : α} {v : Array Value} (h : EnvD dq N a l) (hT : TAgg P T z) (hx : evl l x = some (.pointer (some ⟨Go.Proofs.YtbdngknpngcojaaDoor.ab A, ao A + p, none⟩))) (hp : i * z = p) (hz : ∀ e, (f e).length = z) (hr : Rd z w A n c (fl f es)) (hn : i < n) (he : es[i]? = some e) (hv : (f e).toArray = v) :
    (execOp a.eval ⟨some d, .load T x, ty, pos, af, gd⟩).run P w = .ok (.value (.agg v)) w := by
  subst hp hv
  refine rn_loadr (cs := f e) h hT hx (fun j v hv => ?_) (hz e)
  have hj : j < z := by
    have := (List.getElem?_eq_some_iff.1 hv).1
    rwa [hz] at this
  rw [Nat.add_assoc, hr.at (mul_lt_row hn hj), fl_at hz he hj, hv]
theorem rn_loadE1 {α : Type} {f : α → List Value} {x : Operand} {T i j n c z p : Nat} {A : Option Addr} {es : List α} {e : α} {v : Value} (h : EnvD dq N a l) (hT : TOne P T) (hx : evl l x = some (.pointer (some ⟨Go.Proofs.YtbdngknpngcojaaDoor.ab A, ao A + p, none⟩))) (hp : i * z + j = p) (hz : ∀ e, (f e).length = z) (hj : j < z) (hr : Rd z w A n c (fl f es)) (hn : i < n) (he : es[i]? = some e) (hv : (f e)[j]? = some v) :
    (execOp a.eval ⟨some d, .load T x, ty, pos, af, gd⟩).run P w = .ok (.value v) w := by
  subst hp
  exact rn_loadc h hT hx (by rw [hr.at (mul_lt_row hn hj), fl_at hz he hj, hv])
def rowS (q : Value → Bool) (E z : Nat) (A : Option Addr) (n c : Nat) (vs : List Value) : PF := rowG q E z (.slice A n c) n vs
theorem rowS_rd {q : Value → Bool} {E z n c : Nat} {A : Option Addr} {vs : List Value} (h : (rowS q E z A n c vs).P w) : Rd z w A n c vs := by
  have h1 : w.ownsRow 0 E z (.slice A n c) n vs := h.1
  refine ⟨h1.1, ?_, ?_, fun hp => ?_⟩
  · rcases h1.2 with ⟨e, hn⟩ | ⟨g, cap, cur, e, _, _, hnc, _⟩
    · omega
    · cases e; exact hnc
  · rcases h1.2 with ⟨e, hn⟩ | ⟨g, cap, cur, e, _, _, _, hb, _⟩
    · cases e; exact Nat.zero_le _
    · cases e; exact hb
  · rcases h1.2 with ⟨e, hn⟩ | ⟨g, cap, cur, e, _, hg, hnc, hb, hcs, ht⟩
    · omega
    · cases e
      refine ⟨g, 0, rfl, lt_of_block hg, fun i hi => ?_⟩
      rw [Nat.zero_add, cell_of_row w g i cur E (0, 0) hg, ← ht, List.getElem?_take_of_lt hi]
      simp
theorem rowS_foot {q : Value → Bool} {E z n c : Nat} {A : Option Addr} {vs : List Value} {b : Nat} (h : (rowS q E z A n c vs).foot b) : ∃ a, A = some a ∧ a.block = b := by
  cases A with
  | none => simp [rowS, rowG, Value.ownBlock] at h
  | some a => exact ⟨a, rfl, by simpa [rowS, rowG, Value.ownBlock] using h⟩
theorem St.addRowS (h : St w0 w own ps) (q : Value → Bool) (E z : Nat) : St w0 w (rowS q E z none 0 0 [] :: own) ps := h.addRowG q E z
def NewRow {α : Type} (q : Value → Bool) (E z : Nat) (f : α → List Value) (F : α → PF) (B : Nat) (w : World) (A : Option Addr) (n c : Nat) (es : List α) : Prop :=
  (rowS q E z A n c (fl f es)).P w ∧ (pfEs F es).P w ∧ ∀ a, A = some a → B ≤ a.block
theorem St.freshRow {α : Type} {f : α → List Value} {F : α → PF} {es : List α} {q : Value → Bool} {E z n c : Nat} {A : Option Addr} {w' : World} (h : St w0 w own ps) (hb : Below w.heap.size w w') (hr : NewRow q E z f F w.heap.size w' A n c es) (hE : ∀ o ∈ rowS q E z A n c (fl f es) :: own, ∀ b, o.foot b → o.P w' → ¬ (pfEs F es).foot b) : St w0 w' (rowS q E z A n c (fl f es) :: own) (pfEs F es :: ps) := by
  have h1 := h.add hb (rowS q E z A n c (fl f es)) hr.1 fun b hb => by
    obtain ⟨a, ha, rfl⟩ := rowS_foot hb
    exact hr.2.2 a ha
  exact h1.addP _ hr.2.1 fun o ho b hfb => hE o ho b hfb (h1.mine o ho)
theorem St.freshRd {α : Type} {f : α → List Value} {F : α → PF} {es : List α} {q : Value → Bool} {E z n c : Nat} {A : Option Addr} {w' : World} (h : St w0 w own ps) (hb : Below w.heap.size w w') (hr : NewRow q E z f F w.heap.size w' A n c es) (hl : es.length = n) (hE : ∀ o ∈ own, ∀ b, o.foot b → o.P w' → ¬ (pfEs F es).foot b) : St w0 w' own (pfRow f F z A n c es :: ps) := by
  have h1 := h.call hb
  refine h1.addP _ ⟨rowS_rd hr.1, hl, hr.2.1⟩ fun o ho b hfb hff => ?_
  rcases hff with ⟨_, off, rfl⟩ | hff
  · have h2 := hr.2.2 _ rfl
    have h3 := o.lt (h.mine o ho) hfb
    have h2 : w.heap.size ≤ b := h2
    omega
  · exact hE o ho b hfb (h1.mine o ho) hff
theorem op_appendS {q : Value → Bool} {t E n z bytes k j g m c c0 : Nat} {x y : Operand} {A : Option Addr} {zv : Value} {vs : List Value} {cs : Array Value} {E' : TypeId} (h : EnvD dq N a l) (hs : St w0 w own ps) (hd : Nat.blt d N = true) (hT : P.underlying t = some (.slice E))
    (hi : (P.info? E).map (fun i => (i.zero, i.size, i.bytes)) = some (some zv, z, bytes)) (hzs : zv.cells.size = z) (hz0 : Nat.blt 0 z = true) (hx : evl l x = some (.slice A n c0)) (hy : evl l y = some (.slice (some ⟨g, 0, none⟩) m c))
    (hk : own[k]? = some (rowS q E z A n c0 vs)) (hj : own[j]? = some (bk g cs E')) (hm : cs.size = m * z) (h1 : cs.toList.all (·.oneCell') = true) (hcq : cs.toList.all q = true) (hzq : zv.cells.toList.all q = true) (hm0 : Nat.blt 0 m = true) (hn : n + m ≤ maxLen) (hb : (n + m) * bytes ≤ 140737488355328)
    (hK : ∀ a' w' g' c', EnvD dq N a' ((d, .slice (some ⟨g', 0, none⟩) (n + m) c') :: l) → St w0 w' (own.set k (rowS q E z (some ⟨g', 0, none⟩) (n + m) c' (vs ++ cs.toList))) ps → K a' w') :
    Oper.wp P ⟨some d, .call ⟨.builtin .append, #[x, y], #[t, t]⟩, ty, pos, af, gd⟩ a w K Q :=
  op_appendG h hs hd hT hi hzs hz0 hx hy hk hj hm h1 hcq hzq hm0 hn hb fun a' w' v' ha' hs' => by
    have hkl : k < own.length := (List.getElem?_eq_some_iff.1 hk).1
    have hrow : w'.ownsRow 0 E z v' (n + m) (vs ++ cs.toList) := (hs'.owns (k := k) (e := rowG q E z v' (n + m) (vs ++ cs.toList)) (by rw [List.getElem?_set_self hkl])).1
    have hm1 : 0 < m := Nat.le_of_ble_eq_true hm0
    rcases hrow.2 with ⟨rfl, hnm⟩ | ⟨g', cap, cur, rfl, _⟩
    · omega
    · exact hK a' w' g' cap ha' hs'
theorem op_makeS {α : Type} {f : α → List Value} {e0 : α} {q : Value → Bool} {T E bytes n z : Nat} {x y : Operand} {kl kc : IntKind} {zv : Value} (h : EnvD dq N a l) (hs : St w0 w own ps) (hd : Nat.blt d N = true) (hT : P.underlying T = some (.slice E))
    (hi : (P.info? E).map (fun i => (i.zero, i.size, i.bytes)) = some (some zv, z, bytes)) (hzs : zv.cells.size = z) (hz0 : Nat.blt 0 z = true) (hf : f e0 = zv.cells.toList) (hq : zv.cells.toList.all q = true) (hx : evl l x = some (.int kl (n : Nat))) (hy : evl l y = some (.int kc (n : Nat))) (hb : bytes * n ≤ 140737488355328) (hn : n ≤ maxLen)
    (hK : ∀ a' w' g, EnvD dq N a' ((d, .slice (some ⟨g, 0, none⟩) n n) :: l) → St w0 w' (rowS q E z (some ⟨g, 0, none⟩) n n (fl f (List.replicate n e0)) :: own) ps → K a' w') :
    Oper.wp P ⟨some d, .makeSlice T x y, ty, pos, af, gd⟩ a w K Q := by
  obtain ⟨i, hi1, hi2⟩ := Option.map_eq_some_iff.1 hi
  simp only [Prod.mk.injEq] at hi2
  obtain ⟨hz, hsz, hby⟩ := hi2
  have hz1 : 0 < z := Nat.le_of_ble_eq_true hz0
  have hrun := run_make (P := P) w T E i zv hT hi1 hz kl kc (n : Int) (n : Int) (by omega) (by omega) (by rw [hby, ← Int.natCast_mul]; omega) (by simp only [maxLen] at hn; omega)
  simp only [Int.toNat_natCast, hsz] at hrun
  have hr : (execOp a.eval ⟨some d, .makeSlice T x y, ty, pos, af, gd⟩).run P w = .ok (.value (.slice (some ⟨w.heap.size, 0, none⟩) n n)) (w.alloc (.cells (madeCells zv.cells (n * z)) E)) := by
    simp only [execOp, h.ev hx, h.ev hy]
    rw [Sem.run_bind, hrun]
    rfl
  unfold Oper.wp
  rw [hr]
  have hl := fl_rep hf hzs hz1 n
  refine hK _ _ _ (h.put hd _) (hs.add (below1 w _) _ ⟨⟨?_, .inr ⟨w.heap.size, n, _, rfl, Nat.zero_le _, heap_alloc_new w _, Nat.le_refl _, hn, size_madeCells _ _, ?_⟩⟩, fun g' hg' => ?_⟩ fun b hb => ?_)
  · rw [← hl, Array.length_toList, size_madeCells]
  · rw [hl, List.take_of_length_le]
    rw [← hl, Array.length_toList, size_madeCells]
    exact Nat.le_refl _
  · obtain rfl : w.heap.size = g' := by simpa [Value.ownBlock] using hg'
    refine ⟨_, heap_alloc_new w _, ?_⟩
    rw [hl]
    refine List.all_eq_true.2 fun u hu => ?_
    have : ∀ n, ∀ u ∈ fl f (List.replicate n e0), u ∈ zv.cells.toList := by
      intro n
      induction n with
      | zero => intro u hu; cases hu
      | succ n ih =>
        intro u hu
        rw [List.replicate_succ, fl] at hu
        rcases List.mem_append.1 hu with hu | hu
        · rwa [hf] at hu
        · exact ih u hu
    exact List.all_eq_true.1 hq u (this n u hu)
  · obtain ⟨a, ha, rfl⟩ := rowS_foot hb
    cases ha
    exact Nat.le_refl _
end
abbrev NE := Option Addr × Nat × Int
abbrev zz (e : NE) : Int := e.2.2
def fN (e : NE) : List Value := [.bool (neg e.2.2), .slice e.1 (zl e.2.2) e.2.1]
def FN (e : NE) : PF := pfZ e.1 e.2.1 e.2.2
def fM (e : NE) : List Value := [.bool (neg e.2.2), .slice e.1 (dl e.2.2) e.2.1]
def FM (e : NE) : PF := pfR e.1 e.2.1 e.2.2
section
variable {w w0 : World} {own ps : List PF} {es : List NE}
end
end Go.Proofs.YtbdngknpngcojaaDoor.W

/- Rows of pairs of texts; facts that say nothing. Over any program. No condition. -/
namespace Go.Proofs.YtbdngknpngcojaaDoor.W
open Go.RowKit Anv Go.Lib
def pfT0 : PF := ⟨fun _ => True, fun _ => False, fun _ h => h.elim, fun _ _ _ => trivial⟩
abbrev FE := List UInt8 × List UInt8
def fF (e : FE) : List Value := [.string ⟨e.1.toArray⟩, .string ⟨e.2.toArray⟩]
def FF (_ : FE) : PF := pfT0
theorem esT_P {α : Type} {F : α → PF} (hF : ∀ e, F e = pfT0) (es : List α) (w : World) : (pfEs F es).P w := fun e _ => by rw [hF]; trivial
theorem esT_foot {α : Type} {F : α → PF} (hF : ∀ e, F e = pfT0) {es : List α} {b : Nat} : ¬ (pfEs F es).foot b := fun ⟨e, _, h⟩ => by rw [hF] at h; exact h
theorem St.giveBk {α : Type} {f : α → List Value} {F : α → PF} {w0 w : World} {own ps : List PF} {k g z n : Nat} {c : Array Value} {t : TypeId} {es : List α} (h : St w0 w own ps) (hk : own[k]? = some (bk g c t)) (hc : c.toList = fl f es) (hz : ∀ e, (f e).length = z) (hl : es.length = n) (hm : n ≤ maxLen) (hE : (pfEs F es).P w) (hA : ∀ o ∈ own, ∀ b, o.foot b → ¬ (pfEs F es).foot b) : St w0 w (own.eraseIdx k) (pfRow f F z (some ⟨g, 0, none⟩) n n es :: pfRd z (some ⟨g, 0, none⟩) n n (fl f es) :: ps) := by
  have hg := h.oat hk
  have hr : Rd z w (some ⟨g, 0, none⟩) n n (fl f es) := ⟨by rw [fl_len hz, hl], Nat.le_refl _, hm, fun _ => ⟨g, 0, rfl, lt_of_block hg, fun i _ => by rw [Nat.zero_add, cell_of_row w g i c t (0, 0) hg, ← hc, Array.getElem?_toList]⟩⟩
  have h1 := h.give hk (pfRd z (some ⟨g, 0, none⟩) n n (fl f es)) hr fun b hb => by
    obtain ⟨_, off, e⟩ := hb
    cases e
    rfl
  refine h1.addP _ ⟨hr, hl, hE⟩ fun o ho b h2 h3 => ?_
  rcases h3 with h3 | h3
  · exact h1.apart _ (List.mem_cons_self ..) o ho b h2 h3
  · exact hA o (List.mem_of_mem_eraseIdx ho) b h2 h3
end Go.Proofs.YtbdngknpngcojaaDoor.W

/- Calls of closures; rows in loops. Over any program. No condition. -/
namespace Go.Proofs.YtbdngknpngcojaaDoor.W
open Go.RowKit Anv Go.Lib
section
variable {P : Program} {K : Act → World → Prop} {Q : Exit → Act → World → Prop} {N : Nat} {dq : List Deferred} {a : Act} {l : List (Nat × Value)} {w : World}
variable {d : Nat} {ty : TypeId} {pos : String} {af : Array Edge} {gd : Option (Nat × Bool)}
end
theorem take_one {α : Type} {l : List α} {i : Nat} {x : α} (h : l[i]? = some x) : l.take (i + 1) = l.take i ++ [x] := by
  rw [List.take_add_one, h]; rfl
def fI (x : Int) : List Value := [.int .i64 x]
def FI (_ : Int) : PF := pfT0
theorem fI_len (x : Int) : (fI x).length = 1 := rfl
def fS (s : List UInt8) : List Value := [.string ⟨s.toArray⟩]
def FTx (_ : List UInt8) : PF := pfT0
theorem fS_len (s : List UInt8) : (fS s).length = 1 := rfl
theorem row_drop {α : Type} {f : α → List Value} {F : α → PF} {z b o n c m : Nat} {es : List α} {w : World} (hz : ∀ e, (f e).length = z) (h : (pfRow f F z (some ⟨b, o, none⟩) n c es).P w) (hm : m ≤ n) : (pfRow f F z (some ⟨b, o + m * z, none⟩) (n - m) (c - m) (es.drop m)).P w := by
  obtain ⟨hr, hl, hE⟩ := h
  refine ⟨⟨?_, by have := hr.cap; omega, by have := hr.big; omega, fun hp => ?_⟩, by rw [List.length_drop, hl], fun e he => hE e (List.mem_of_mem_drop he)⟩
  · rw [fl_len hz, List.length_drop, hl]
  · obtain ⟨b', off, e, hlt, hc⟩ := hr.cells (by omega)
    cases e
    refine ⟨b, o + m * z, rfl, hlt, fun i hi => ?_⟩
    have hmul : m * z + (n - m) * z = n * z := by rw [← Nat.add_mul]; congr 1; omega
    rw [Nat.add_assoc, hc (m * z + i) (by omega)]
    have h1 : fl f es = fl f (es.take m) ++ fl f (es.drop m) := by rw [← fl_app, List.take_append_drop]
    have h2 : (fl f (es.take m)).length = m * z := by rw [fl_len hz, List.length_take, hl, Nat.min_eq_left hm]
    rw [h1, List.getElem?_append_right (by omega), h2]
    congr 1
    omega
theorem St.dropRow {α : Type} {f : α → List Value} {F : α → PF} {w0 w : World} {own ps : List PF} {z b o n c i : Nat} {es : List α} (h : St w0 w own ps) (hi : ps[i]? = some (pfRow f F z (some ⟨b, o, none⟩) n c es)) (m : Nat) (hz : ∀ e, (f e).length = z) (hm : m ≤ n) : St w0 w own (pfRow f F z (some ⟨b, o + m * z, none⟩) (n - m) (c - m) (es.drop m) :: ps) :=
  h.addP _ (row_drop hz (h.pat hi) hm) fun e he b1 h1 h2 => h.apart _ (List.mem_of_getElem? hi) e he b1 h1 (by
    rcases h2 with ⟨hp, off, e2⟩ | ⟨x, hx, hf⟩
    · cases e2
      exact .inl ⟨by omega, o, rfl⟩
    · exact .inr ⟨x, List.mem_of_mem_drop hx, hf⟩)
def jn : List (List UInt8) → List UInt8
  | [] => []
  | s :: r => s ++ r.flatMap fun t => 32 :: t
def I64 (xs : List Int) : Prop := ∀ x ∈ xs, -9223372036854775808 ≤ x ∧ x ≤ 9223372036854775807
theorem I64.at {xs : List Int} (h : I64 xs) {i : Nat} {x : Int} (hx : xs[i]? = some x) : -9223372036854775808 ≤ x ∧ x ≤ 9223372036854775807 := h x (List.mem_of_getElem? hx)
theorem St.argP {w0 w : World} {ps : List PF} (h : St w0 w [] ps) (p : PF) (hp : p.P w) : St w0 w [] (p :: ps) := h.addP p hp fun o ho => by cases ho
def ZB (k : Nat) (es : List NE) : Prop := ∀ e ∈ es, zl (zz e) ≤ k
theorem ZB.at {k : Nat} {es : List NE} (h : ZB k es) {i : Nat} {A : Option Addr} {c : Nat} {z : Int} (he : es[i]? = some (A, c, z)) : zl z ≤ k := h _ (List.mem_of_getElem? he)
def MRow (B : Nat) (w : World) (v : Value) (n : Nat) (zs : List Int) : Prop := ∃ A c es, v = .slice A n c ∧ NewRow notU 95 2 fM FM B w A n c es ∧ es.length = n ∧ es.map zz = zs
end Go.Proofs.YtbdngknpngcojaaDoor.W

/- How a statement's argument, a program (api.Prog), is read. No condition. -/
namespace Go.Proofs.YtbdngknpngcojaaDoor.W
open Go.RowKit Anv Go.Lib
abbrev IE := Int × Int × Int × Int × Int
def fJ (e : IE) : List Value := [.int .i64 e.1, .int .i64 e.2.1, .int .i64 e.2.2.1, .int .i64 e.2.2.2.1, .int .i64 e.2.2.2.2]
def FJ (_ : IE) : PF := pfT0
theorem fJ_len (e : IE) : (fJ e).length = 5 := rfl
def B64 (x : Int) : Prop := -9223372036854775808 ≤ x ∧ x ≤ 9223372036854775807
def IB (e : IE) : Prop := B64 e.1 ∧ B64 e.2.1 ∧ B64 e.2.2.1 ∧ B64 e.2.2.2.1 ∧ B64 e.2.2.2.2
def IBs (es : List IE) : Prop := ∀ e ∈ es, IB e
theorem IBs.at {es : List IE} (h : IBs es) {i : Nat} {e : IE} (hx : es[i]? = some e) : IB e := h e (List.mem_of_getElem? hx)
end Go.Proofs.YtbdngknpngcojaaDoor.W
namespace Go.Proofs.YtbdngknpngcojaaDoor
open Go.RowKit Anv Go.ChangeShapes Go.WideShapes Go.ChangeAt Go.Joins W
section
variable {H : Type} {enc : TypeId × Value → H} {P : Program} {w : World} {base : Nat} {spare : Nat → Bool} {held : Bool}
theorem trod_fields5 {t : TypeId} {f0 f1 f2 f3 f4 : Field} {fuel : Nat} {cs : List Value} {x : DataW H × List MemPlace} (ht : P.underlying t = some (.struct #[f0, f1, f2, f3, f4])) (h : DataW.trod enc P w base spare held fuel t cs = some x) :
    ∃ y0 y1 y2 y3 y4 n, cs.length = P.cellsOf t ∧ DataW.trod enc P w base spare held n f0.type ((cs.drop f0.offset).take (P.cellsOf f0.type)) = some y0 ∧
      DataW.trod enc P w base spare held n f1.type ((cs.drop f1.offset).take (P.cellsOf f1.type)) = some y1 ∧ DataW.trod enc P w base spare held n f2.type ((cs.drop f2.offset).take (P.cellsOf f2.type)) = some y2 ∧
      DataW.trod enc P w base spare held n f3.type ((cs.drop f3.offset).take (P.cellsOf f3.type)) = some y3 ∧ DataW.trod enc P w base spare held n f4.type ((cs.drop f4.offset).take (P.cellsOf f4.type)) = some y4 := by
  obtain ⟨xs, n, _, rfl, hl, hlen, hf⟩ := DataW.trod_struct ht h
  match xs, hlen with
  | [y0, y1, y2, y3, y4], _ => exact ⟨y0, y1, y2, y3, y4, n, hl, by simpa using hf 0 f0 rfl, by simpa using hf 1 f1 rfl, by simpa using hf 2 f2 rfl, by simpa using hf 3 f3 rfl, by simpa using hf 4 f4 rfl⟩
end
theorem cellsInstr : Tryd.prog.cellsOf 37 = 5 := by kernel_rfl
theorem cellsInt : Tryd.prog.cellsOf 3 = 1 := by kernel_rfl
theorem cellsProg : Tryd.prog.cellsOf 25 = 4 := by kernel_rfl
theorem one_int {H : Type} {enc : TypeId × Value → H} {W : World} {m : Nat} {v : Value} {y : DataW H × List MemPlace}
    (h : DataW.trod enc Tryd.prog W 0 (fun _ => true) true m 3 [v] = some y) : ∃ n, v = .int .i64 n ∧ B64 n := by
  obtain ⟨n, e, _, hw⟩ := DataW.trod_int Tryd.underlying3 h
  simp at e
  exact ⟨n, e, bounds_i64 hw⟩
set_option maxRecDepth 100000 in
theorem open_instr {H : Type} {enc : TypeId × Value → H} {W : World} {m : Nat} {cs : List Value} {y : DataW H × List MemPlace}
    (h : DataW.trod enc Tryd.prog W 0 (fun _ => true) true m 37 cs = some y) : ∃ e : IE, cs = fJ e ∧ IB e := by
  obtain ⟨y0, y1, y2, y3, y4, k, hl, h0, h1, h2, h3, h4⟩ := trod_fields5 Tryd.underlying37 h
  rw [cellsInstr] at hl
  obtain ⟨v0, v1, v2, v3, v4, rfl⟩ : ∃ v0 v1 v2 v3 v4, cs = [v0, v1, v2, v3, v4] := by
    match cs, hl with
    | [v0, v1, v2, v3, v4], _ => exact ⟨v0, v1, v2, v3, v4, rfl⟩
  replace h0 : DataW.trod enc Tryd.prog W 0 (fun _ => true) true k 3 (([v0, v1, v2, v3, v4].drop 0).take (Tryd.prog.cellsOf 3)) = some y0 := h0
  replace h1 : DataW.trod enc Tryd.prog W 0 (fun _ => true) true k 3 (([v0, v1, v2, v3, v4].drop 1).take (Tryd.prog.cellsOf 3)) = some y1 := h1
  replace h2 : DataW.trod enc Tryd.prog W 0 (fun _ => true) true k 3 (([v0, v1, v2, v3, v4].drop 2).take (Tryd.prog.cellsOf 3)) = some y2 := h2
  replace h3 : DataW.trod enc Tryd.prog W 0 (fun _ => true) true k 3 (([v0, v1, v2, v3, v4].drop 3).take (Tryd.prog.cellsOf 3)) = some y3 := h3
  replace h4 : DataW.trod enc Tryd.prog W 0 (fun _ => true) true k 3 (([v0, v1, v2, v3, v4].drop 4).take (Tryd.prog.cellsOf 3)) = some y4 := h4
  rw [cellsInt] at h0 h1 h2 h3 h4
  obtain ⟨n0, rfl, b0⟩ := one_int h0
  obtain ⟨n1, rfl, b1⟩ := one_int h1
  obtain ⟨n2, rfl, b2⟩ := one_int h2
  obtain ⟨n3, rfl, b3⟩ := one_int h3
  obtain ⟨n4, rfl, b4⟩ := one_int h4
  exact ⟨(n0, n1, n2, n3, n4), rfl, b0, b1, b2, b3, b4⟩
set_option maxRecDepth 100000 in
theorem open_instrs {H : Type} {enc : TypeId × Value → H} {W : World} {m : Nat} {A : Option Addr} {n c : Nat} {d : DataW H} {p : List MemPlace}
    (hm : DataW.trod enc Tryd.prog W 0 (fun _ => true) true m 22 [.slice A n c] = some (d, p)) :
    ∃ es, (pfRow fJ FJ 5 A n c es).P W ∧ IBs es := by
  rcases DataW.trod_slice Tryd.underlying22 hm with ⟨hcs, _⟩ | ⟨a, l, c', elems, rest, q, _, hcs, hd, _, hlc, hcm, hlen, hel, _⟩
  · simp at hcs
    obtain ⟨rfl, rfl, rfl⟩ := hcs
    exact ⟨[], row_nil fJ FJ 5 W, fun _ h => by cases h⟩
  simp at hcs
  obtain ⟨rfl, rfl, rfl⟩ := hcs
  rw [cellsInstr] at hel
  have hex : ∀ i, ∃ e : IE, i < n → (∀ j, j < 5 → W.cell? ((a.add (i * 5)).add j) = (fJ e)[j]?) ∧ IB e := by
    intro i
    rcases Nat.lt_or_ge i n with hi | hi
    · have he := hel i hi
      rw [List.getElem?_eq_getElem (by omega)] at he
      obtain ⟨cs, hcs, ht⟩ := Option.bind_eq_some_iff.1 he
      obtain ⟨e, rfl, hb⟩ := open_instr ht
      obtain ⟨_, _, hc⟩ := World.cells?_some hcs
      exact ⟨e, fun _ => ⟨fun j hj => hc j hj, hb⟩⟩
    · exact ⟨(0, 0, 0, 0, 0), fun h => by omega⟩
  obtain ⟨g, hg⟩ := Classical.axiomOfChoice hex
  have hes : ∀ i, i < n → ((List.range n).map g)[i]? = some (g i) := fun i hi => by
    rw [List.getElem?_map, List.getElem?_range hi]
    rfl
  refine ⟨(List.range n).map g, ⟨⟨by rw [fl_len fJ_len, List.length_map, List.length_range], hlc, hcm, fun hp => ?_⟩, by rw [List.length_map, List.length_range], fun e _ => trivial⟩, fun e he => ?_⟩
  · have h0 := (hg 0 hp).1 0 (by decide)
    obtain ⟨b, off, spot⟩ := a
    have hspot : spot = none := by
      have h1 : W.cell? (((⟨b, off, spot⟩ : Addr).add (0 * 5)).add 0) = some (.int .i64 (g 0).1) := h0
      simpa [Addr.add] using World.cell?_spot h1
    subst hspot
    have ea : ∀ o k, (⟨b, o, none⟩ : Addr).add k = ⟨b, o + k, none⟩ := fun o k => by simp [Addr.add]
    refine ⟨b, off, rfl, World.block_lt_of_cell? W (((⟨b, off, none⟩ : Addr).add (0 * 5)).add 0) (u := .int .i64 (g 0).1) h0, fun i hi => ?_⟩
    obtain ⟨j, k, hk, rfl⟩ : ∃ j k, k < 5 ∧ i = j * 5 + k := ⟨i / 5, i % 5, Nat.mod_lt _ (by decide), by omega⟩
    have hj : j < n := by omega
    rw [fl_at fJ_len (hes j hj) hk, ← (hg j hj).1 k hk, ea, ea, Nat.add_assoc]
  · obtain ⟨i, hi, rfl⟩ := List.mem_map.1 he
    exact (hg i (List.mem_range.1 hi)).2
set_option maxRecDepth 100000 in
theorem open_ints0 {H : Type} {enc : TypeId × Value → H} {W : World} {m : Nat} {A : Option Addr} {n c : Nat} {d : DataW H} {p : List MemPlace}
    (hm : DataW.trod enc Tryd.prog W 0 (fun _ => true) true m 23 [.slice A n c] = some (d, p)) :
    ∃ es, (pfRow fI FI 1 A n c es).P W ∧ I64 es := by
  rcases open_ints Tryd.underlying23 Tryd.underlying3 (by kernel_rfl) hm with ⟨hcs, _⟩ | ⟨x, l, c', zs, hcs, _, hl, hmx, hz, _, hcell, hwz⟩
  · simp at hcs
    obtain ⟨rfl, rfl, rfl⟩ := hcs
    exact ⟨[], row_nil fI FI 1 W, fun _ h => by cases h⟩
  · simp at hcs
    obtain ⟨rfl, rfl, rfl⟩ := hcs
    have hz' : zs.length = c := by simpa using hz
    have hfl : ∀ es : List Int, fl fI es = es.map fun x => Value.int .i64 x := fun es => by
      induction es with
      | nil => rfl
      | cons e es ih => rw [List.map_cons, ← ih]; rfl
    refine ⟨zs.take n, ⟨⟨by rw [hfl, List.length_map, List.length_take]; omega, hl, hmx, fun hp => ?_⟩, by rw [List.length_take]; omega, fun _ _ => trivial⟩, fun z hzm => ?_⟩
    · have h0 := hcell 0 (by omega)
      obtain ⟨b, off, spot⟩ := x
      have hspot : spot = none := by simpa [Addr.add] using World.cell?_spot h0
      subst hspot
      refine ⟨b, off, rfl, World.block_lt_of_cell? W ((⟨b, off, none⟩ : Addr).add 0) h0, fun i hi => ?_⟩
      have hi' := hcell i (by omega)
      have e1 : (⟨b, off, none⟩ : Addr).add i = ⟨b, off + i, none⟩ := by unfold Addr.add; split <;> simp_all
      rw [e1] at hi'
      rw [hi', hfl, List.getElem?_map, List.getElem?_take, if_pos (by omega), List.getElem?_eq_getElem (by omega)]
      have hzi : zs.getD i 0 = zs[i]'(by omega) := by simp [List.getD, show i < zs.length by omega]
      rw [hzi]
      rfl
    · exact bounds_i64 (hwz z (List.mem_of_mem_take hzm))
set_option maxRecDepth 100000 in
theorem open_prog {H : Type} {enc : TypeId × Value → H} {W : World} {r : Reach} {b0 : Nat} {v : Value} {d : DataW H} {p : List MemPlace}
    (hv : Value.okWide Tryd.prog W r b0 25 v) (h : DataW.Trod enc Tryd.prog W 0 (fun _ => true) true 25 v d p) :
    ∃ (i g : Int) (A : Option Addr) (n c : Nat) (es : List IE) (B : Option Addr) (m k : Nat) (os : List Int), v = .agg #[.int .i64 i, .int .i64 g, .slice A n c, .slice B m k] ∧
      B64 i ∧ B64 g ∧ ((pfRow fJ FJ 5 A n c es).P W ∧ IBs es) ∧ (pfRow fI FI 1 B m k os).P W ∧ I64 os := by
  obtain ⟨cs, rfl, hl4⟩ := okWide_struct Tryd.underlying25 hv
  obtain ⟨v0, v1, v2, v3, rfl⟩ : ∃ a b c d, cs = #[a, b, c, d] := by
    have hl := hl4.trans cellsProg
    obtain ⟨l⟩ := cs
    match l, hl with
    | [a, b, c, d], _ => exact ⟨a, b, c, d, rfl⟩
  obtain ⟨fuel, hf⟩ := h
  obtain ⟨y0, y1, y2, y3, k, _, _, g0, g1, g2, g3⟩ := trod_struct4 Tryd.underlying25 hf
  have cS : Tryd.prog.cellsOf 22 = 1 := by kernel_rfl
  have cI : Tryd.prog.cellsOf 23 = 1 := by kernel_rfl
  replace g0 : DataW.trod enc Tryd.prog W 0 (fun _ => true) true k 3 (([v0, v1, v2, v3].drop 0).take (Tryd.prog.cellsOf 3)) = some y0 := g0
  replace g1 : DataW.trod enc Tryd.prog W 0 (fun _ => true) true k 3 (([v0, v1, v2, v3].drop 1).take (Tryd.prog.cellsOf 3)) = some y1 := g1
  replace g2 : DataW.trod enc Tryd.prog W 0 (fun _ => true) true k 22 (([v0, v1, v2, v3].drop 2).take (Tryd.prog.cellsOf 22)) = some y2 := g2
  replace g3 : DataW.trod enc Tryd.prog W 0 (fun _ => true) true k 23 (([v0, v1, v2, v3].drop 3).take (Tryd.prog.cellsOf 23)) = some y3 := g3
  rw [cellsInt] at g0 g1
  rw [cS] at g2
  rw [cI] at g3
  replace g2 : DataW.trod enc Tryd.prog W 0 (fun _ => true) true k 22 [v2] = some y2 := g2
  replace g3 : DataW.trod enc Tryd.prog W 0 (fun _ => true) true k 23 [v3] = some y3 := g3
  obtain ⟨i, rfl, bi⟩ := one_int g0
  obtain ⟨g, rfl, bg⟩ := one_int g1
  obtain ⟨A, n, c, e2⟩ := slice_form Tryd.underlying22 g2
  obtain ⟨B, m, q, e3⟩ := slice_form Tryd.underlying23 g3
  simp at e2 e3
  subst e2 e3
  obtain ⟨es, q2⟩ := open_instrs g2
  obtain ⟨os, q3⟩ := open_ints0 g3
  exact ⟨i, g, A, n, c, es, B, m, q, os, rfl, bi, bg, q2, q3⟩
end Go.Proofs.YtbdngknpngcojaaDoor

/- All the rest of the world stands as it stood; a row with its spare room. Over any program. No condition. -/
namespace Go.Proofs.YtbdngknpngcojaaDoor.W
open Go.RowKit Anv Go.Lib
def restF (w1 : World) (o : PF) : PF :=
  ⟨fun w => w1.heap.size ≤ w.heap.size ∧ ∀ b, b < w1.heap.size → ¬ o.foot b → w.heap[b]? = w1.heap[b]?, fun b => b < w1.heap.size ∧ ¬ o.foot b,
    fun h hb => Nat.lt_of_lt_of_le hb.1 h.1, fun h hs hk => ⟨Nat.le_trans h.1 hs, fun b hb hn => (hk b ⟨hb, hn⟩).trans (h.2 b hb hn)⟩⟩
theorem St.toRest {w0 w : World} {own ps : List PF} {k : Nat} {o : PF} (h : St w0 w own ps) (hk : own[k]? = some o) (js : List Nat) : St w0 w [o] (restF w o :: js.filterMap (ps[·]?)) := by
  have h1 := h.pick [k] js (by simp)
  rw [show [k].filterMap (own[·]?) = [o] by simp [hk]] at h1
  refine h1.addP _ ⟨Nat.le_refl _, fun _ _ _ => rfl⟩ fun e he b h2 h3 => ?_
  rw [List.mem_singleton.1 he] at h2
  exact h3.2 h2
theorem St.rest {w0 w w' : World} {own ps : List PF} {k : Nat} {o : PF} (h : St w0 w own ps) (hk : own[k]? = some o) (h' : St w0 w' [] [restF w o]) : St w0 w' (own.eraseIdx k) ps := by
  obtain ⟨hs, hr⟩ := h'.pat (k := 0) rfl
  have hm : ∀ e ∈ own.eraseIdx k, ∃ j, j ≠ k ∧ own[j]? = some e := fun e he => List.mem_eraseIdx_iff_getElem?.1 he
  refine ⟨h'.below, fun e he => ?_, fun e he => h.new e (List.mem_of_mem_eraseIdx he), h.nd.sublist (List.eraseIdx_sublist ..), fun p hp => ?_, fun p hp e he => h.apart p hp e (List.mem_of_mem_eraseIdx he)⟩
  · obtain ⟨j, hj, hj2⟩ := hm e he
    have h1 := h.mine e (List.mem_of_mem_eraseIdx he)
    exact e.keep h1 hs fun b hb => hr b (e.lt h1 hb) (h.one hj2 hk hj b hb)
  · have h1 := h.pers p hp
    exact p.keep h1 hs fun b hb => hr b (p.lt h1 hb) fun ho => h.apart p hp o (List.mem_of_getElem? hk) b ho hb
abbrev PE := Value × Value
def fP (p : PE) : List Value := [p.1, p.2]
def FP (_ : PE) : PF := pfT0
section
variable {P : Program} {N : Nat} {dq : List Deferred} {a : Act} {l : List (Nat × Value)} {w : World}
variable {d : Nat} {ty : TypeId} {pos : String} {af : Array Edge} {gd : Option (Nat × Bool)}
end
def pfAnd (p q : PF) : PF :=
  ⟨fun w => p.P w ∧ q.P w, fun b => p.foot b ∨ q.foot b, fun h hb => hb.elim (p.lt h.1) (q.lt h.2), fun h hs hk => ⟨p.keep h.1 hs fun b hb => hk b (.inl hb), q.keep h.2 hs fun b hb => hk b (.inr hb)⟩⟩
section
variable {P : Program} {N : Nat} {dq : List Deferred} {a : Act} {l : List (Nat × Value)} {w : World} {d : Nat} {ty : TypeId} {pos : String} {af : Array Edge} {gd : Option (Nat × Bool)}
theorem ev_all {xl : List Operand} {vl : List Value} (h : EnvD dq N a l) (hx : xl.map (evl l) = vl.map some) : xl.map a.eval = vl := by
  induction xl generalizing vl with
  | nil => cases vl with
    | nil => rfl
    | cons => simp at hx
  | cons x xl ih => cases vl with
    | nil => simp at hx
    | cons v vl =>
      simp only [List.map_cons, List.cons.injEq] at hx ⊢
      exact ⟨h.ev hx.1, ih hx.2⟩
end
end Go.Proofs.YtbdngknpngcojaaDoor.W

/- Rows: copied into, cut; rows of rows. Over any program. No condition. -/
namespace Go.Proofs.YtbdngknpngcojaaDoor.W
open Go.RowKit Anv Go.Lib
def slA (A : Option Addr) (c m z : Nat) : Option Addr := if c = m then A else A.map (·.add (m * z))
section
variable {P : Program} {K : Act → World → Prop} {Q : Exit → Act → World → Prop} {N : Nat} {dq : List Deferred} {a : Act} {l : List (Nat × Value)} {w w0 : World} {own ps : List PF}
variable {d : Nat} {ty : TypeId} {pos : String} {af : Array Edge} {gd : Option (Nat × Bool)}
end
abbrev LE := Option Addr × Nat × Nat × List NE
def fL (v : LE) : List Value := [.slice v.1 v.2.1 v.2.2.1]
def FL (v : LE) : PF := pfRow fN FN 2 v.1 v.2.1 v.2.2.1 v.2.2.2
def lz (v : LE) : List Int := v.2.2.2.map zz
end Go.Proofs.YtbdngknpngcojaaDoor.W

/- A scope in which the run jumps back to one label: what holds at the label, with ghosts. Over any program. No condition. -/
namespace Go.Proofs.YtbdngknpngcojaaDoor.W
open Go.RowKit Anv Go.Lib
section
variable {P : Program} {a : Act} {w : World} {Q : Exit → Act → World → Prop}
end
section
variable {P : Program} {K : Act → World → Prop} {Q : Exit → Act → World → Prop} {N : Nat} {dq : List Deferred} {a : Act} {l : List (Nat × Value)} {w w0 : World} {own ps : List PF}
variable {d : Nat} {ty : TypeId} {pos : String} {af : Array Edge} {gd : Option (Nat × Bool)}
end
end Go.Proofs.YtbdngknpngcojaaDoor.W

/- Rows of the call's own: a read row appended, room made ahead and filled in place, a row's beginning. Over any program. No condition. -/
namespace Go.Proofs.YtbdngknpngcojaaDoor.W
open Go.RowKit Anv Go.Lib
section
variable {P : Program} {K : Act → World → Prop} {Q : Exit → Act → World → Prop} {N : Nat} {dq : List Deferred} {a : Act} {l : List (Nat × Value)} {w w0 : World} {own ps : List PF}
variable {d : Nat} {ty : TypeId} {pos : String} {af : Array Edge} {gd : Option (Nat × Bool)}
end
end Go.Proofs.YtbdngknpngcojaaDoor.W

/- A region of many orders, walked by what is listed. Over any program. No condition. -/
namespace Go.Proofs.YtbdngknpngcojaaDoor
open Go.RowKit Anv Go.Lib
end Go.Proofs.YtbdngknpngcojaaDoor

/- How a statement's argument, a row of numbers with their limbs, is read, with its bound. No condition. -/
namespace Go.Proofs.YtbdngknpngcojaaDoor.W
open Go.RowKit Anv Go.Lib
abbrev UE := Bool × Option Addr × Nat × Nat × List Nat
def fU (e : UE) : List Value := [.bool e.1, .slice e.2.1 e.2.2.1 e.2.2.2.1]
def FU (e : UE) : PF := pfU e.2.1 e.2.2.1 e.2.2.2.1 e.2.2.2.2
def Sz (es : List UE) : Prop := ∀ e ∈ es, e.2.2.1 ≤ 35184372088832
theorem Sz.at {es : List UE} (h : Sz es) {i : Nat} {e : UE} (hx : es[i]? = some e) : e.2.2.1 ≤ 35184372088832 := h e (List.mem_of_getElem? hx)
end Go.Proofs.YtbdngknpngcojaaDoor.W
namespace Go.Proofs.YtbdngknpngcojaaDoor
open Go.RowKit Anv Go.ChangeShapes Go.WideShapes Go.ChangeAt Go.Joins W
end Go.Proofs.YtbdngknpngcojaaDoor

/- A value is stored into a row of the call's own whose elements have one cell. Over any program. No condition. -/
namespace Go.Proofs.YtbdngknpngcojaaDoor.W
open Go.RowKit Anv Go.Lib
theorem cells_oneW {v : Value} (h1 : v.oneCell' = true) : v.cells = #[v] := by cases v <;> simp_all [Value.cells, Value.oneCell']
theorem store_oneW {P : Program} {w : World} {ad : Addr} {u v : Value} (h1 : v.oneCell' = true) (hcl : w.cell? ad = some u) (hf : w.frozen? ad = false) : ((store ad v).run P w) = .ok () (w.setCell ad v) := by
  cases v <;> simp_all [store, Sem.run, Value.oneCell']
theorem fl_set1W {α : Type} {f : α → List Value} {e : α} {v : Value} (hz : ∀ e, (f e).length = 1) (hv : f e = [v]) : ∀ (es : List α) (i : Nat), (fl f es).set i v = fl f (es.set i e)
  | [], _ => rfl
  | x :: es, 0 => by
    match h : f x, hz x with
    | [u], _ => rw [fl, h, List.set_cons_zero, fl, hv]; rfl
  | x :: es, i + 1 => by
    match h : f x, hz x with
    | [u], _ => rw [fl, h, List.set_cons_succ, fl, h, ← fl_set1W hz hv es i]; rfl
section
variable {P : Program} {K : Act → World → Prop} {Q : Exit → Act → World → Prop} {N : Nat} {dq : List Deferred} {a : Act} {l : List (Nat × Value)} {w w0 : World} {own ps : List PF}
variable {d : Nat} {ty : TypeId} {pos : String} {af : Array Edge} {gd : Option (Nat × Bool)}
theorem op_storeW1 {α : Type} {f : α → List Value} {q : Value → Bool} {T E i n c p k : Nat} {x y : Operand} {A : Option Addr} {es : List α} {e : α} {v : Value} (h : EnvD dq N a l) (hs : St w0 w own ps) (hi : ∃ j, P.info? T = some j ∧ j.size = 1) (hx : evl l x = some (.pointer (some ⟨Go.Proofs.YtbdngknpngcojaaDoor.ab A, ao A + p, none⟩))) (hy : evl l y = some v) (hp : i * 1 = p)
    (hk : own[k]? = some (rowS q E 1 A n c (fl f es))) (hz : ∀ e, (f e).length = 1) (hn : i < n) (hl : es.length = n) (hv : f e = [v]) (h1 : v.oneCell' = true) (hq : q v = true)
    (hK : ∀ a' w', EnvD dq N a' l → St w0 w' (own.set k (rowS q E 1 A n c (fl f (es.set i e)))) ps → K a' w') :
    Oper.wp P ⟨none, .store T x y, ty, pos, af, gd⟩ a w K Q := by
  subst hp
  have hP := hs.owns hk
  have hrow : w.ownsRow 0 E 1 (.slice A n c) n (fl f es) := hP.1
  rcases hrow.2 with ⟨e0, hn0⟩ | ⟨g, cap, cur, e0, _, hg, hnc, hcb, hcs, htk⟩
  · omega
  cases e0
  obtain ⟨cur', hg', hcq⟩ := hP.2 g rfl
  rw [hg] at hg'
  cases hg'
  have hx' : evl l x = some (.pointer (some ⟨g, i, none⟩)) := by
    rw [hx]
    show some (Value.pointer (some ⟨g, 0 + i * 1, none⟩)) = _
    rw [Nat.zero_add, Nat.mul_one]
  have hic : i < cur.size := by omega
  obtain ⟨ti, hti, hin⟩ := hi
  have hcl : w.cell? ⟨g, i, none⟩ = some cur[i] := by rw [cell_of_row w _ _ _ _ _ hg]; simp [hic]
  have hf : w.frozen? ⟨g, i, none⟩ = false := by simp [World.frozen?, hg]
  have hvc := cells_oneW h1
  have hr : (execOp a.eval ⟨none, .store T x y, ty, pos, af, gd⟩).run P w = .ok .skip (w.setCell ⟨g, i, none⟩ v) := by
    simp only [execOp, h.ev hx', h.ev hy, Instr.storeAt, Instr.sureAddr, Sem.run_bind, Sem.run_pure, Result.andThen_ok, storeVar, run_sizeOf ⟨ti, hti, hin⟩, hvc]
    have h0 : (⟨g, i, none⟩ : Addr).add 0 = ⟨g, i, none⟩ := by rw [Addr.add_mid]; rfl
    have hst := store_oneW (P := P) h1 hcl hf
    simp [storeCells, h0, hst]
  unfold Oper.wp
  rw [hr]
  have hu := setCell_upd (o := i) v hg
  have htl : (cur.setIfInBounds i v).toList = cur.toList.set i v := by simp
  refine hK _ _ (h.put0 _) (hs.step' hk (e' := rowS q E 1 (some ⟨g, 0, none⟩) n c (fl f (es.set i e))) ⟨⟨?_, .inr ⟨g, c, _, rfl, Nat.zero_le _, hu.new, hnc, hcb, by simpa using hcs, ?_⟩⟩, fun g' hg' => ?_⟩ (fun b hb => .inl hb) hu.os hu.tape hu.output (Nat.le_of_eq hu.size.symm) fun b _ hb => hu.old b fun e => hb (congrArg some e.symm))
  · rw [fl_len hz, List.length_set, hl]
  · rw [htl, List.take_set, htk, fl_set1W hz hv]
  · obtain rfl : g = g' := by simpa [Value.ownBlock] using hg'
    refine ⟨_, hu.new, ?_⟩
    rw [htl]
    refine List.all_eq_true.2 fun u hu => ?_
    rcases List.mem_or_eq_of_mem_set hu with h2 | h2
    · exact List.all_eq_true.1 hcq u h2
    · rw [h2]; exact hq
end
end Go.Proofs.YtbdngknpngcojaaDoor.W
