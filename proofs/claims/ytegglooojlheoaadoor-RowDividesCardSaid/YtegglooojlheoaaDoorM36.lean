/- Rows: slices whose elements have z cells each, and what is known of their elements. Over any program. No condition. -/
import Derived.Test.YtegglooojlheoaaDoorM34
import Derived.Test.YtegglooojlheoaaDoorM35
import Derived.Test.YtegglooojlheoaaDoorM8
import Derived.SizedLaws
import Derived.Lib.SmallJoins
import Derived.Test.YtegglooojlheoaaDoorM15
import Derived.Test.YtegglooojlheoaaDoorM12

namespace Go.Proofs.YtegglooojlheoaaDoor.W
open Go.RowKit Anv Go.Lib
section
variable {α : Type} {f : α → List Value} {z : Nat}
def fl (f : α → List Value) : List α → List Value
  | [] => []
  | e :: es => f e ++ fl f es
theorem fl_app (es es' : List α) : fl f (es ++ es') = fl f es ++ fl f es' := by
  induction es with
  | nil => rfl
  | cons e es ih => simp only [fl, List.cons_append, ih, List.append_assoc]
theorem fl_one (e : α) : fl f [e] = f e := by simp [fl]
theorem fl_snoc (es : List α) (e : α) : fl f es ++ f e = fl f (es ++ [e]) := by rw [fl_app, fl_one]
theorem fl_len (hz : ∀ e, (f e).length = z) (es : List α) : (fl f es).length = es.length * z := by
  induction es with
  | nil => simp [fl]
  | cons e es ih => simp only [fl, List.length_append, ih, hz, List.length_cons, Nat.succ_mul]; omega
theorem fl_at (hz : ∀ e, (f e).length = z) {es : List α} {i j : Nat} {e : α} (he : es[i]? = some e) (hj : j < z) : (fl f es)[i * z + j]? = (f e)[j]? := by
  induction es generalizing i with
  | nil => simp at he
  | cons e' es ih =>
    cases i with
    | zero =>
      have h : e' = e := by simpa using he
      subst h
      rw [Nat.zero_mul, Nat.zero_add, fl, List.getElem?_append_left (by rw [hz]; exact hj)]
    | succ i =>
      have he' : es[i]? = some e := by simpa using he
      rw [fl, List.getElem?_append_right (by rw [hz, Nat.succ_mul]; omega), hz, ← ih he', Nat.succ_mul]
      congr 1
      omega
theorem fl_set (hz : ∀ e, (f e).length = z) {es : List α} {i : Nat} (hi : i < es.length) (e : α) : (fl f es).take (i * z) ++ f e ++ (fl f es).drop (i * z + z) = fl f (es.set i e) := by
  induction es generalizing i with
  | nil => simp at hi
  | cons e' es ih =>
    cases i with
    | zero =>
      rw [List.set_cons_zero, Nat.zero_mul, List.take_zero, List.nil_append, Nat.zero_add, fl, fl, List.drop_append_of_le_length (by rw [hz]; exact Nat.le_refl _), List.drop_eq_nil_of_le (by rw [hz]; exact Nat.le_refl _), List.nil_append]
    | succ i =>
      have hi' : i < es.length := by simpa using hi
      rw [List.set_cons_succ, fl, fl, ← ih hi', Nat.succ_mul]
      rw [List.take_append, List.drop_append, List.take_of_length_le (by rw [hz]; omega), List.drop_eq_nil_of_le (by rw [hz]; omega), hz]
      rw [show i * z + z - z = i * z by omega, show i * z + z + z - z = i * z + z by omega]
      simp only [List.nil_append, List.append_assoc]
theorem fl_rep {c : Array Value} {e0 : α} (hc : f e0 = c.toList) (hz : c.size = z) (h0 : 0 < z) (n : Nat) : (madeCells c (n * z)).toList = fl f (List.replicate n e0) := by
  have hlen : ∀ n, (fl f (List.replicate n e0)).length = n * z := by
    intro n
    induction n with
    | zero => simp [fl]
    | succ n ih => rw [List.replicate_succ, fl, List.length_append, ih, hc, Array.length_toList, hz, Nat.succ_mul]; omega
  have hat : ∀ n i, i < n * z → (fl f (List.replicate n e0))[i]? = c.toList[i % z]? := by
    intro n
    induction n with
    | zero => intro i hi; omega
    | succ n ih =>
      intro i hi
      rw [List.replicate_succ, fl]
      rcases Nat.lt_or_ge i z with h | h
      · rw [List.getElem?_append_left (by rw [hc, Array.length_toList, hz]; exact h), hc, Nat.mod_eq_of_lt h]
      · rw [List.getElem?_append_right (by rw [hc, Array.length_toList, hz]; exact h), hc, Array.length_toList, hz, ih (i - z) (by rw [Nat.succ_mul] at hi; omega), Nat.mod_eq_sub_mod h]
  apply List.ext_getElem?
  intro i
  rcases Nat.lt_or_ge i (n * z) with h | h
  · rw [hat n i h]
    have hm : i % z < z := Nat.mod_lt _ h0
    have hm' : i % z < c.size := by omega
    simp only [madeCells, Array.toList_map, List.getElem?_map, Array.toList_range, List.getElem?_range h, Option.map_some, hz]
    rw [getElem!_pos c _ hm', Array.getElem?_toList, Array.getElem?_eq_getElem hm']
  · rw [List.getElem?_eq_none (by rw [Array.length_toList, size_madeCells]; exact h), List.getElem?_eq_none (by rw [hlen]; exact h)]
end
structure Rd (z : Nat) (w : World) (A : Option Addr) (n c : Nat) (vs : List Value) : Prop where
  len : vs.length = n * z
  cap : n ≤ c
  big : c ≤ maxLen
  cells : 0 < n → ∃ b off, A = some ⟨b, off, none⟩ ∧ b < w.heap.size ∧ ∀ i, i < n * z → w.cell? ⟨b, off + i, none⟩ = vs[i]?
theorem rd_keep {z : Nat} {w w' : World} {A : Option Addr} {n c : Nat} {vs : List Value} (h : Rd z w A n c vs) (hk : ∀ b, (0 < n ∧ ∃ off, A = some ⟨b, off, none⟩) → w'.heap[b]? = w.heap[b]?) : Rd z w' A n c vs :=
  ⟨h.len, h.cap, h.big, fun hp => by
    obtain ⟨b, off, rfl, hlt, hc⟩ := h.cells hp
    have hb := hk b ⟨hp, off, rfl⟩
    have hlt' : b < w'.heap.size := by
      rcases Nat.lt_or_ge b w'.heap.size with h1 | h1
      · exact h1
      · rw [Array.getElem?_eq_none h1] at hb
        rw [Array.getElem?_eq_getElem hlt] at hb; cases hb
    exact ⟨b, off, rfl, hlt', fun i hi => (World.cell?_of_block (w := w) (a := ⟨b, off + i, none⟩) hb).trans (hc i hi)⟩⟩
def pfRd (z : Nat) (A : Option Addr) (n c : Nat) (vs : List Value) : PF :=
  ⟨fun w => Rd z w A n c vs, fun b => 0 < n ∧ ∃ off, A = some ⟨b, off, none⟩, fun h ⟨hp, off, e⟩ => by
    obtain ⟨b, o, e', hlt, _⟩ := h.cells hp
    rw [e] at e'; cases e'; exact hlt, fun h _ hk => rd_keep h hk⟩
theorem rd_none (z : Nat) (w : World) : Rd z w none 0 0 [] := ⟨by simp, Nat.le_refl _, Nat.zero_le _, fun h => absurd h (Nat.lt_irrefl _)⟩
theorem Rd.ab {z : Nat} {w : World} {A : Option Addr} {n c : Nat} {vs : List Value} (h : Rd z w A n c vs) (hn : 0 < n) : A = some ⟨Go.Proofs.YtegglooojlheoaaDoor.ab A, ao A, none⟩ := by
  obtain ⟨b, off, rfl, _, _⟩ := h.cells hn
  rfl
theorem Rd.at {z : Nat} {w : World} {A : Option Addr} {n c : Nat} {vs : List Value} (h : Rd z w A n c vs) {i : Nat} (hi : i < n * z) : w.cell? ⟨Go.Proofs.YtegglooojlheoaaDoor.ab A, ao A + i, none⟩ = vs[i]? := by
  obtain ⟨b, off, rfl, _, hc⟩ := h.cells (Nat.pos_of_ne_zero fun h => by rw [h, Nat.zero_mul] at hi; omega)
  exact hc i hi
def pfEs {α : Type} (F : α → PF) (es : List α) : PF :=
  ⟨fun w => ∀ e ∈ es, (F e).P w, fun b => ∃ e ∈ es, (F e).foot b, fun h ⟨e, he, hf⟩ => (F e).lt (h e he) hf,
    fun h hs hk e he => (F e).keep (h e he) hs fun b hb => hk b ⟨e, he, hb⟩⟩
def pfRow {α : Type} (f : α → List Value) (F : α → PF) (z : Nat) (A : Option Addr) (n c : Nat) (es : List α) : PF :=
  ⟨fun w => Rd z w A n c (fl f es) ∧ es.length = n ∧ (pfEs F es).P w, fun b => (pfRd z A n c (fl f es)).foot b ∨ (pfEs F es).foot b, fun h hf => by
      rcases hf with hf | hf
      · exact (pfRd z A n c (fl f es)).lt h.1 hf
      · exact (pfEs F es).lt h.2.2 hf, fun h hs hk => ⟨rd_keep h.1 fun b hb => hk b (.inl hb), h.2.1, (pfEs F es).keep h.2.2 hs fun b hb => hk b (.inr hb)⟩⟩
theorem es_nil {α : Type} (F : α → PF) (w : World) : (pfEs F []).P w := fun e h => by cases h
theorem row_nil {α : Type} (f : α → List Value) (F : α → PF) (z : Nat) (w : World) : (pfRow f F z none 0 0 []).P w := ⟨rd_none z w, rfl, es_nil F w⟩
section
variable {w w' w0 : World} {own ps : List PF} {α : Type} {f : α → List Value} {F : α → PF} {z n c i j k : Nat} {A : Option Addr} {es : List α} {e : α}
theorem row_at (h : (pfRow f F z A n c es).P w) (he : es[i]? = some e) : (F e).P w := h.2.2 e (List.mem_of_getElem? he)
theorem St.elem (h : St w0 w own ps) (hk : ps[k]? = some (pfRow f F z A n c es)) (he : es[i]? = some e) : St w0 w own (F e :: ps) :=
  h.addP (F e) (row_at (h.pat hk) he) fun o ho b h1 h2 => h.apart _ (List.mem_of_getElem? hk) o ho b h1 (.inr ⟨e, List.mem_of_getElem? he, h2⟩)
theorem St.nilEs (h : St w0 w own ps) (F : α → PF) : St w0 w own (pfEs F [] :: ps) :=
  h.addP _ (es_nil F w) fun o ho b _ h2 => by obtain ⟨e, he, _⟩ := h2; cases he
theorem St.snocEs (h : St w0 w own ps) (hi : ps[i]? = some (pfEs F es)) (hj : ps[j]? = some (F e)) : St w0 w own (pfEs F (es ++ [e]) :: ps) :=
  h.addP _ (fun x hx => by
    rcases List.mem_append.1 hx with hx | hx
    · exact h.pat hi x hx
    · obtain rfl := List.mem_singleton.1 hx
      exact h.pat hj) fun o ho b h1 ⟨x, hx, hf⟩ => by
    rcases List.mem_append.1 hx with hx | hx
    · exact h.apart _ (List.mem_of_getElem? hi) o ho b h1 ⟨x, hx, hf⟩
    · obtain rfl := List.mem_singleton.1 hx
      exact h.apart _ (List.mem_of_getElem? hj) o ho b h1 hf
theorem St.row (h : St w0 w own ps) (hi : ps[i]? = some (pfRd z A n c (fl f es))) (hj : ps[j]? = some (pfEs F es)) (hl : es.length = n) : St w0 w own (pfRow f F z A n c es :: ps) :=
  h.addP _ ⟨h.pat hi, hl, h.pat hj⟩ fun o ho b h1 h2 => by
    rcases h2 with h2 | h2
    · exact h.apart _ (List.mem_of_getElem? hi) o ho b h1 h2
    · exact h.apart _ (List.mem_of_getElem? hj) o ho b h1 h2
theorem St.argRow (h : St w0 w [] ps) (hr : (pfRow f F z A n c es).P w) : St w0 w [] (pfRow f F z A n c es :: ps) := h.addP _ hr fun o ho => by cases ho
end
section
variable {P : Program} {K : Act → World → Prop} {Q : Exit → Act → World → Prop} {N : Nat} {dq : List Deferred} {a : Act} {l : List (Nat × Value)} {w w0 : World} {own ps : List PF}
variable {d : Nat} {ty : TypeId} {pos : String} {af : Array Edge} {gd : Option (Nat × Bool)}
theorem rn_idxR {x y : Operand} {T E i n c z p : Nat} {A : Option Addr} {vs : List Value} {k : IntKind} (h : EnvD dq N a l) (hT : P.underlying T = some (.slice E)) (hE : ∃ j, P.info? E = some j ∧ j.size = z) (hx : evl l x = some (.slice A n c)) (hy : evl l y = some (.int k (i : Nat))) (hi : i < n) (hp : i * z = p) (hr : Rd z w A n c vs) :
    (execOp a.eval ⟨some d, .indexAddr T x y, ty, pos, af, gd⟩).run P w = .ok (.value (.pointer (some ⟨Go.Proofs.YtegglooojlheoaaDoor.ab A, ao A + p, none⟩))) w := by
  subst hp
  exact rn_indexAddr h hT hE (hx.trans (by rw [← hr.ab (by omega)])) hy hi
theorem mul_lt_row {i n z j : Nat} (hi : i < n) (hj : j < z) : i * z + j < n * z := by
  have : (i + 1) * z ≤ n * z := Nat.mul_le_mul_right _ hi
  rw [Nat.succ_mul] at this
  omega
theorem rn_loadE {α : Type} {f : α → List Value} {x : Operand} {T i n c z p : Nat} {A : Option Addr} {es : List α} {e : α} {v : Array Value} (h : EnvD dq N a l) (hT : TAgg P T z) (hx : evl l x = some (.pointer (some ⟨Go.Proofs.YtegglooojlheoaaDoor.ab A, ao A + p, none⟩))) (hp : i * z = p) (hz : ∀ e, (f e).length = z) (hr : Rd z w A n c (fl f es)) (hn : i < n) (he : es[i]? = some e) (hv : (f e).toArray = v) :
    (execOp a.eval ⟨some d, .load T x, ty, pos, af, gd⟩).run P w = .ok (.value (.agg v)) w := by
  subst hp hv
  refine rn_loadr (cs := f e) h hT hx (fun j v hv => ?_) (hz e)
  have hj : j < z := by
    have := (List.getElem?_eq_some_iff.1 hv).1
    rwa [hz] at this
  rw [Nat.add_assoc, hr.at (mul_lt_row hn hj), fl_at hz he hj, hv]
theorem rn_loadE1 {α : Type} {f : α → List Value} {x : Operand} {T i j n c z p : Nat} {A : Option Addr} {es : List α} {e : α} {v : Value} (h : EnvD dq N a l) (hT : TOne P T) (hx : evl l x = some (.pointer (some ⟨Go.Proofs.YtegglooojlheoaaDoor.ab A, ao A + p, none⟩))) (hp : i * z + j = p) (hz : ∀ e, (f e).length = z) (hj : j < z) (hr : Rd z w A n c (fl f es)) (hn : i < n) (he : es[i]? = some e) (hv : (f e)[j]? = some v) :
    (execOp a.eval ⟨some d, .load T x, ty, pos, af, gd⟩).run P w = .ok (.value v) w := by
  subst hp
  exact rn_loadc h hT hx (by rw [hr.at (mul_lt_row hn hj), fl_at hz he hj, hv])
def rowS (q : Value → Bool) (E z : Nat) (A : Option Addr) (n c : Nat) (vs : List Value) : PF := rowG q E z (.slice A n c) n vs
theorem rowS_rd {q : Value → Bool} {E z n c : Nat} {A : Option Addr} {vs : List Value} (h : (rowS q E z A n c vs).P w) : Rd z w A n c vs := by
  have h1 : w.ownsRow 0 E z (.slice A n c) n vs := h.1
  refine ⟨h1.1, ?_, ?_, fun hp => ?_⟩
  · rcases h1.2 with ⟨e, hn⟩ | ⟨g, cap, cur, e, _, _, hnc, _⟩
    · omega
    · cases e; exact hnc
  · rcases h1.2 with ⟨e, hn⟩ | ⟨g, cap, cur, e, _, _, _, hb, _⟩
    · cases e; exact Nat.zero_le _
    · cases e; exact hb
  · rcases h1.2 with ⟨e, hn⟩ | ⟨g, cap, cur, e, _, hg, hnc, hb, hcs, ht⟩
    · omega
    · cases e
      refine ⟨g, 0, rfl, lt_of_block hg, fun i hi => ?_⟩
      rw [Nat.zero_add, cell_of_row w g i cur E (0, 0) hg, ← ht, List.getElem?_take_of_lt hi]
      simp
theorem rowS_foot {q : Value → Bool} {E z n c : Nat} {A : Option Addr} {vs : List Value} {b : Nat} (h : (rowS q E z A n c vs).foot b) : ∃ a, A = some a ∧ a.block = b := by
  cases A with
  | none => simp [rowS, rowG, Value.ownBlock] at h
  | some a => exact ⟨a, rfl, by simpa [rowS, rowG, Value.ownBlock] using h⟩
theorem nou_rowS {E z n c : Nat} {A : Option Addr} {vs : List Value} : NoU (rowS notU E z A n c vs) := nou_rowG
theorem St.addRowS (h : St w0 w own ps) (q : Value → Bool) (E z : Nat) : St w0 w (rowS q E z none 0 0 [] :: own) ps := h.addRowG q E z
theorem St.giveRd {q : Value → Bool} {E z n c k : Nat} {A : Option Addr} {vs : List Value} (h : St w0 w own ps) (hk : own[k]? = some (rowS q E z A n c vs)) : St w0 w (own.eraseIdx k) (pfRd z A n c vs :: ps) :=
  h.give hk (pfRd z A n c vs) (rowS_rd (h.owns hk)) fun b hb => by
    obtain ⟨_, off, rfl⟩ := hb
    rfl
theorem St.giveRow {α : Type} {f : α → List Value} {F : α → PF} {es : List α} {q : Value → Bool} {E z n c k j : Nat} {A : Option Addr} (h : St w0 w own ps) (hk : own[k]? = some (rowS q E z A n c (fl f es))) (hj : ps[j]? = some (pfEs F es)) (hl : es.length = n) : St w0 w (own.eraseIdx k) (pfRow f F z A n c es :: pfRd z A n c (fl f es) :: ps) :=
  (h.giveRd hk).row (i := 0) (j := j + 1) rfl hj hl
def NewRow {α : Type} (q : Value → Bool) (E z : Nat) (f : α → List Value) (F : α → PF) (B : Nat) (w : World) (A : Option Addr) (n c : Nat) (es : List α) : Prop :=
  (rowS q E z A n c (fl f es)).P w ∧ (pfEs F es).P w ∧ ∀ a, A = some a → B ≤ a.block
theorem St.freshRow {α : Type} {f : α → List Value} {F : α → PF} {es : List α} {q : Value → Bool} {E z n c : Nat} {A : Option Addr} {w' : World} (h : St w0 w own ps) (hb : Below w.heap.size w w') (hr : NewRow q E z f F w.heap.size w' A n c es) (hE : ∀ o ∈ rowS q E z A n c (fl f es) :: own, ∀ b, o.foot b → o.P w' → ¬ (pfEs F es).foot b) : St w0 w' (rowS q E z A n c (fl f es) :: own) (pfEs F es :: ps) := by
  have h1 := h.add hb (rowS q E z A n c (fl f es)) hr.1 fun b hb => by
    obtain ⟨a, ha, rfl⟩ := rowS_foot hb
    exact hr.2.2 a ha
  exact h1.addP _ hr.2.1 fun o ho b hfb => hE o ho b hfb (h1.mine o ho)
theorem St.freshRd {α : Type} {f : α → List Value} {F : α → PF} {es : List α} {q : Value → Bool} {E z n c : Nat} {A : Option Addr} {w' : World} (h : St w0 w own ps) (hb : Below w.heap.size w w') (hr : NewRow q E z f F w.heap.size w' A n c es) (hl : es.length = n) (hE : ∀ o ∈ own, ∀ b, o.foot b → o.P w' → ¬ (pfEs F es).foot b) : St w0 w' own (pfRow f F z A n c es :: ps) := by
  have h1 := h.call hb
  refine h1.addP _ ⟨rowS_rd hr.1, hl, hr.2.1⟩ fun o ho b hfb hff => ?_
  rcases hff with ⟨_, off, rfl⟩ | hff
  · have h2 := hr.2.2 _ rfl
    have h3 := o.lt (h.mine o ho) hfb
    have h2 : w.heap.size ≤ b := h2
    omega
  · exact hE o ho b hfb (h1.mine o ho) hff
theorem St.newRow {α : Type} {f : α → List Value} {F : α → PF} {es : List α} {q : Value → Bool} {E z n c k j : Nat} {A : Option Addr} (h : St w0 w own ps) (hk : own[k]? = some (rowS q E z A n c (fl f es))) (hj : ps[j]? = some (pfEs F es)) : NewRow q E z f F w0.heap.size w A n c es :=
  ⟨h.owns hk, h.pat hj, fun a ha => h.new _ (List.mem_of_getElem? hk) _ (by subst ha; rfl)⟩
theorem op_appendS {q : Value → Bool} {t E n z bytes k j g m c c0 : Nat} {x y : Operand} {A : Option Addr} {zv : Value} {vs : List Value} {cs : Array Value} {E' : TypeId} (h : EnvD dq N a l) (hs : St w0 w own ps) (hd : Nat.blt d N = true) (hT : P.underlying t = some (.slice E))
    (hi : (P.info? E).map (fun i => (i.zero, i.size, i.bytes)) = some (some zv, z, bytes)) (hzs : zv.cells.size = z) (hz0 : Nat.blt 0 z = true) (hx : evl l x = some (.slice A n c0)) (hy : evl l y = some (.slice (some ⟨g, 0, none⟩) m c))
    (hk : own[k]? = some (rowS q E z A n c0 vs)) (hj : own[j]? = some (bk g cs E')) (hm : cs.size = m * z) (h1 : cs.toList.all (·.oneCell') = true) (hcq : cs.toList.all q = true) (hzq : zv.cells.toList.all q = true) (hm0 : Nat.blt 0 m = true) (hn : n + m ≤ maxLen) (hb : (n + m) * bytes ≤ 140737488355328)
    (hK : ∀ a' w' g' c', EnvD dq N a' ((d, .slice (some ⟨g', 0, none⟩) (n + m) c') :: l) → St w0 w' (own.set k (rowS q E z (some ⟨g', 0, none⟩) (n + m) c' (vs ++ cs.toList))) ps → K a' w') :
    Oper.wp P ⟨some d, .call ⟨.builtin .append, #[x, y], #[t, t]⟩, ty, pos, af, gd⟩ a w K Q :=
  op_appendG h hs hd hT hi hzs hz0 hx hy hk hj hm h1 hcq hzq hm0 hn hb fun a' w' v' ha' hs' => by
    have hkl : k < own.length := (List.getElem?_eq_some_iff.1 hk).1
    have hrow : w'.ownsRow 0 E z v' (n + m) (vs ++ cs.toList) := (hs'.owns (k := k) (e := rowG q E z v' (n + m) (vs ++ cs.toList)) (by rw [List.getElem?_set_self hkl])).1
    have hm1 : 0 < m := Nat.le_of_ble_eq_true hm0
    rcases hrow.2 with ⟨rfl, hnm⟩ | ⟨g', cap, cur, rfl, _⟩
    · omega
    · exact hK a' w' g' cap ha' hs'
theorem wr_list (vs : List Value) (o : Nat) (c : Array Value) (h : o + vs.length ≤ c.size) : (wr o vs c).toList = c.toList.take o ++ vs ++ c.toList.drop (o + vs.length) := by
  have hlen : (c.toList.take o).length = o := by rw [List.length_take, Array.length_toList]; exact Nat.min_eq_left (by omega)
  apply List.ext_getElem?
  intro i
  rw [Array.getElem?_toList, wr_at vs o c i h]
  rcases Nat.lt_or_ge i o with h1 | h1
  · rw [if_neg (by omega), List.append_assoc, List.getElem?_append_left (by rw [hlen]; exact h1), List.getElem?_take_of_lt h1, Array.getElem?_toList]
  · rcases Nat.lt_or_ge i (o + vs.length) with h2 | h2
    · rw [if_pos ⟨h1, h2⟩, List.append_assoc, List.getElem?_append_right (by rw [hlen]; exact h1), hlen, List.getElem?_append_left (by omega)]
    · rw [if_neg (by omega), List.getElem?_append_right (by rw [List.length_append, hlen]; exact h2), List.length_append, hlen, List.getElem?_drop, ← Array.getElem?_toList]
      congr 1
      omega
theorem op_storeS {α : Type} {f : α → List Value} {q : Value → Bool} {T E i n c z p k : Nat} {x y : Operand} {A : Option Addr} {es : List α} {e : α} {v : Array Value} (h : EnvD dq N a l) (hs : St w0 w own ps) (hi : ∃ j, P.info? T = some j ∧ j.size = z) (hx : evl l x = some (.pointer (some ⟨Go.Proofs.YtegglooojlheoaaDoor.ab A, ao A + p, none⟩))) (hy : evl l y = some (.agg v)) (hp : i * z = p)
    (hk : own[k]? = some (rowS q E z A n c (fl f es))) (hz : ∀ e, (f e).length = z) (hn : i < n) (hl : es.length = n) (hv : (f e).toArray = v) (h1 : v.toList.all (·.oneCell') = true) (hq : v.toList.all q = true)
    (hK : ∀ a' w', EnvD dq N a' l → St w0 w' (own.set k (rowS q E z A n c (fl f (es.set i e)))) ps → K a' w') :
    Oper.wp P ⟨none, .store T x y, ty, pos, af, gd⟩ a w K Q := by
  subst hp hv
  have hP := hs.owns hk
  have hrow : w.ownsRow 0 E z (.slice A n c) n (fl f es) := hP.1
  rcases hrow.2 with ⟨e0, hn0⟩ | ⟨g, cap, cur, e0, _, hg, hnc, hcb, hcs, htk⟩
  · omega
  cases e0
  obtain ⟨cur', hg', hcq⟩ := hP.2 g rfl
  rw [hg] at hg'
  cases hg'
  have hx' : evl l x = some (.pointer (some ⟨g, i * z, none⟩)) := by
    rw [hx]
    show some (Value.pointer (some ⟨g, 0 + i * z, none⟩)) = _
    rw [Nat.zero_add]
  have hiz : i * z + z ≤ n * z := by
    have := Nat.mul_le_mul_right z (show i + 1 ≤ n from hn)
    rwa [Nat.succ_mul] at this
  have hzc : n * z ≤ cur.size := by rw [hcs]; exact Nat.mul_le_mul_right _ hnc
  have ht : w.there g (i * z) (f e).toArray.size := fun j hj => ⟨by
    rw [cell_of_row w _ _ _ _ _ hg]
    have hj' : j < z := by simpa [hz] using hj
    simp; omega, by simp [World.frozen?, hg]⟩
  obtain ⟨ti, hti, htz⟩ := hi
  have hr : (execOp a.eval ⟨none, .store T x y, ty, pos, af, gd⟩).run P w = .ok .skip (w.setCells g (i * z) (f e)) := by
    simp only [execOp, h.ev hx', h.ev hy]
    rw [Sem.run_bind, run_storeAt_mid w g (i * z) T (f e).toArray ht (by rw [hti]; simp [htz, hz]) (by rw [Array.all_toList] at h1; exact h1)]
    rfl
  unfold Oper.wp
  rw [hr]
  have hu := setCells_upd (f e) (i * z) w g cur E hg
  have hwl := wr_list (f e) (i * z) cur (by rw [hz]; omega)
  rw [hz] at hwl
  refine hK _ _ (h.put0 _) (hs.step' hk (e' := rowS q E z (some ⟨g, 0, none⟩) n c (fl f (es.set i e))) ⟨⟨?_, .inr ⟨g, c, _, rfl, Nat.zero_le _, hu.new, hnc, hcb, by rw [size_wr]; exact hcs, ?_⟩⟩, fun g' hg' => ?_⟩ (fun b hb => .inl hb) hu.os hu.tape hu.output (Nat.le_of_eq hu.size.symm) fun b _ hb => hu.old b fun e => hb (congrArg some e.symm))
  · rw [fl_len hz, List.length_set, hl]
  · have hLR : cur.toList = fl f es ++ cur.toList.drop (n * z) := by rw [← htk, List.take_append_drop]
    have hfl : (fl f es).length = n * z := by rw [fl_len hz, hl]
    have hX : (wr (i * z) (f e) cur).toList = fl f (es.set i e) ++ cur.toList.drop (n * z) := by
      rw [hwl, ← fl_set hz (by omega)]
      conv => lhs; rw [hLR]
      rw [List.take_append_of_le_length (by omega), List.drop_append_of_le_length (by omega)]
      simp only [List.append_assoc]
    rw [hX, List.take_append_of_le_length (by rw [fl_len hz, List.length_set, hl]; exact Nat.le_refl _), List.take_of_length_le (by rw [fl_len hz, List.length_set, hl]; exact Nat.le_refl _)]
  · obtain rfl : g = g' := by simpa [Value.ownBlock] using hg'
    refine ⟨_, hu.new, ?_⟩
    rw [hwl, List.all_append, List.all_append, Bool.and_eq_true, Bool.and_eq_true]
    refine ⟨⟨List.all_eq_true.2 fun u hu => List.all_eq_true.1 hcq u (List.mem_of_mem_take hu), by simpa using hq⟩, List.all_eq_true.2 fun u hu => List.all_eq_true.1 hcq u (List.mem_of_mem_drop hu)⟩
theorem op_makeS {α : Type} {f : α → List Value} {e0 : α} {q : Value → Bool} {T E bytes n z : Nat} {x y : Operand} {kl kc : IntKind} {zv : Value} (h : EnvD dq N a l) (hs : St w0 w own ps) (hd : Nat.blt d N = true) (hT : P.underlying T = some (.slice E))
    (hi : (P.info? E).map (fun i => (i.zero, i.size, i.bytes)) = some (some zv, z, bytes)) (hzs : zv.cells.size = z) (hz0 : Nat.blt 0 z = true) (hf : f e0 = zv.cells.toList) (hq : zv.cells.toList.all q = true) (hx : evl l x = some (.int kl (n : Nat))) (hy : evl l y = some (.int kc (n : Nat))) (hb : bytes * n ≤ 140737488355328) (hn : n ≤ maxLen)
    (hK : ∀ a' w' g, EnvD dq N a' ((d, .slice (some ⟨g, 0, none⟩) n n) :: l) → St w0 w' (rowS q E z (some ⟨g, 0, none⟩) n n (fl f (List.replicate n e0)) :: own) ps → K a' w') :
    Oper.wp P ⟨some d, .makeSlice T x y, ty, pos, af, gd⟩ a w K Q := by
  obtain ⟨i, hi1, hi2⟩ := Option.map_eq_some_iff.1 hi
  simp only [Prod.mk.injEq] at hi2
  obtain ⟨hz, hsz, hby⟩ := hi2
  have hz1 : 0 < z := Nat.le_of_ble_eq_true hz0
  have hrun := run_make (P := P) w T E i zv hT hi1 hz kl kc (n : Int) (n : Int) (by omega) (by omega) (by rw [hby, ← Int.natCast_mul]; omega) (by simp only [maxLen] at hn; omega)
  simp only [Int.toNat_natCast, hsz] at hrun
  have hr : (execOp a.eval ⟨some d, .makeSlice T x y, ty, pos, af, gd⟩).run P w = .ok (.value (.slice (some ⟨w.heap.size, 0, none⟩) n n)) (w.alloc (.cells (madeCells zv.cells (n * z)) E)) := by
    simp only [execOp, h.ev hx, h.ev hy]
    rw [Sem.run_bind, hrun]
    rfl
  unfold Oper.wp
  rw [hr]
  have hl := fl_rep hf hzs hz1 n
  refine hK _ _ _ (h.put hd _) (hs.add (below1 w _) _ ⟨⟨?_, .inr ⟨w.heap.size, n, _, rfl, Nat.zero_le _, heap_alloc_new w _, Nat.le_refl _, hn, size_madeCells _ _, ?_⟩⟩, fun g' hg' => ?_⟩ fun b hb => ?_)
  · rw [← hl, Array.length_toList, size_madeCells]
  · rw [hl, List.take_of_length_le]
    rw [← hl, Array.length_toList, size_madeCells]
    exact Nat.le_refl _
  · obtain rfl : w.heap.size = g' := by simpa [Value.ownBlock] using hg'
    refine ⟨_, heap_alloc_new w _, ?_⟩
    rw [hl]
    refine List.all_eq_true.2 fun u hu => ?_
    have : ∀ n, ∀ u ∈ fl f (List.replicate n e0), u ∈ zv.cells.toList := by
      intro n
      induction n with
      | zero => intro u hu; cases hu
      | succ n ih =>
        intro u hu
        rw [List.replicate_succ, fl] at hu
        rcases List.mem_append.1 hu with hu | hu
        · rwa [hf] at hu
        · exact ih u hu
    exact List.all_eq_true.1 hq u (this n u hu)
  · obtain ⟨a, ha, rfl⟩ := rowS_foot hb
    cases ha
    exact Nat.le_refl _
end
abbrev NE := Option Addr × Nat × Int
abbrev zz (e : NE) : Int := e.2.2
def fN (e : NE) : List Value := [.bool (neg e.2.2), .slice e.1 (zl e.2.2) e.2.1]
def FN (e : NE) : PF := pfZ e.1 e.2.1 e.2.2
theorem fN_len (e : NE) : (fN e).length = 2 := rfl
def fM (e : NE) : List Value := [.bool (neg e.2.2), .slice e.1 (dl e.2.2) e.2.1]
def FM (e : NE) : PF := pfR e.1 e.2.1 e.2.2
theorem fM_len (e : NE) : (fM e).length = 2 := rfl
section
variable {w w0 : World} {own ps : List PF} {es : List NE}
theorem ap_u {A : Option Addr} {n c : Nat} {xs : List Nat} (hu : U32 w A n c xs) (hn : NoUs own) : ∀ o ∈ own, ∀ b, o.foot b → o.P w → ¬ (pfU A n c xs).foot b := fun o ho b1 h1 hP ⟨hp, off, e⟩ => by
  obtain ⟨b, off', e', _, hc⟩ := hu.cells hp
  rw [e] at e'
  cases e'
  exact hn.at o ho w _ _ _ hP h1 (hc 0 hp)
theorem ap_N (h : (pfEs FN es).P w) (hn : NoUs own) : ∀ o ∈ own, ∀ b, o.foot b → o.P w → ¬ (pfEs FN es).foot b := fun o ho b h1 hP ⟨e, he, hf⟩ => ap_u (h e he) hn o ho b h1 hP hf
theorem ap_M (h : (pfEs FM es).P w) (hn : NoUs own) : ∀ o ∈ own, ∀ b, o.foot b → o.P w → ¬ (pfEs FM es).foot b := fun o ho b h1 hP ⟨e, he, hf⟩ => ap_u (h e he) hn o ho b h1 hP hf
theorem St.addMs (h : St w0 w own ps) (he : (pfEs FM es).P w) (hn : NoUs own) : St w0 w own (pfEs FM es :: ps) := h.addP _ he fun o ho b h1 => ap_M he hn o ho b h1 (h.mine o ho)
end
end Go.Proofs.YtegglooojlheoaaDoor.W

/- How a statement's argument, a row of numbers with their limbs, is read, with its bound. No condition. -/
namespace Go.Proofs.YtegglooojlheoaaDoor.W
open Go.RowKit Anv Go.Lib
abbrev UE := Bool × Option Addr × Nat × Nat × List Nat
def fU (e : UE) : List Value := [.bool e.1, .slice e.2.1 e.2.2.1 e.2.2.2.1]
def FU (e : UE) : PF := pfU e.2.1 e.2.2.1 e.2.2.2.1 e.2.2.2.2
theorem fU_len (e : UE) : (fU e).length = 2 := rfl
def Sz (es : List UE) : Prop := ∀ e ∈ es, e.2.2.1 ≤ 35184372088832
theorem Sz.at {es : List UE} (h : Sz es) {i : Nat} {e : UE} (hx : es[i]? = some e) : e.2.2.1 ≤ 35184372088832 := h e (List.mem_of_getElem? hx)
theorem fl_at2 {α : Type} {f : α → List Value} (es : List α) (hz : ∀ e, (f e).length = 2) (i j : Nat) (hj : j < 2) (e : α) (he : es[i]? = some e) : (fl f es)[i * 2 + j]? = (f e)[j]? := by
  induction es generalizing i with
  | nil => cases he
  | cons x es ih =>
    cases i with
    | zero =>
      rw [List.getElem?_cons_zero] at he
      cases he
      rw [fl, Nat.zero_mul, Nat.zero_add, List.getElem?_append_left (by rw [hz]; exact hj)]
    | succ i =>
      rw [List.getElem?_cons_succ] at he
      rw [fl, List.getElem?_append_right (by rw [hz]; omega), hz, ← ih i he]
      congr 1
      omega
end Go.Proofs.YtegglooojlheoaaDoor.W
namespace Go.Proofs.YtegglooojlheoaaDoor
open Go.RowKit Anv Go.ChangeShapes Go.WideShapes Go.ChangeAt Go.Joins W
theorem cellsNum4 : Tryd.prog.cellsOf 25 = 2 := by kernel_rfl
theorem bytesNum4 : Tryd.prog.bytesOf 25 = 32 := by kernel_rfl
theorem bytesU32 : Tryd.prog.bytesOf 141 = 4 := by kernel_rfl
theorem weights_all {H : Type} {P : Program} {e : TypeId} {d : DataW H} {l : List (DataW H)} (h : d ∈ l) : ∀ n ∈ d.weights P e, n ∈ DataW.weightsAll P e l := by
  induction l with
  | nil => cases h
  | cons x r ih =>
    intro n hn
    simp only [DataW.weightsAll, List.mem_append]
    rcases List.mem_cons.1 h with rfl | h
    · exact .inl hn
    · exact .inr (ih h n hn)
set_option maxRecDepth 100000 in
theorem open_num4 {H : Type} {enc : TypeId × Value → H} {W : World} {m : Nat} {cs : List Value} {y : DataW H × List MemPlace}
    (h : DataW.trod enc Tryd.prog W 0 (fun _ => true) true m 25 cs = some y) (hsz : ∀ n ∈ y.1.weights Tryd.prog 25, n ≤ reachBytes) :
    ∃ e : UE, cs = fU e ∧ U32 W e.2.1 e.2.2.1 e.2.2.2.1 e.2.2.2.2 ∧ e.2.2.1 ≤ 35184372088832 := by
  obtain ⟨y0, y1, k, rfl, hl, h0, h1⟩ := trod_struct2 Tryd.underlying25 h
  rw [cellsNum4] at hl
  obtain ⟨v0, v1, rfl⟩ : ∃ v0 v1, cs = [v0, v1] := by
    match cs, hl with
    | [v0, v1], _ => exact ⟨v0, v1, rfl⟩
  have c0 : Tryd.prog.cellsOf 4 = 1 := by kernel_rfl
  have c1 : Tryd.prog.cellsOf 23 = 1 := by kernel_rfl
  have g0 : DataW.trod enc Tryd.prog W 0 (fun _ => true) true k 4 (([v0, v1].drop 0).take (Tryd.prog.cellsOf 4)) = some y0 := h0
  have g1 : DataW.trod enc Tryd.prog W 0 (fun _ => true) true k 23 (([v0, v1].drop 1).take (Tryd.prog.cellsOf 23)) = some y1 := h1
  rw [c0] at g0
  rw [c1] at g1
  replace g0 : DataW.trod enc Tryd.prog W 0 (fun _ => true) true k 4 [v0] = some y0 := g0
  replace g1 : DataW.trod enc Tryd.prog W 0 (fun _ => true) true k 23 [v1] = some y1 := g1
  obtain ⟨b, e0, _⟩ := DataW.trod_bool Tryd.underlying4 g0
  obtain ⟨A, n, c, e1⟩ := slice_form Tryd.underlying23 g1
  simp at e0 e1
  subst e0 e1
  obtain ⟨xs, hx⟩ := open_u32 g1
  refine ⟨(b, A, n, c, xs), rfl, hx, ?_⟩
  rcases DataW.trod_slice Tryd.underlying23 g1 with ⟨hcs, _⟩ | ⟨a, l, c', elems, rest, q, _, hcs, rfl, _, _, _, hlen, _⟩
  · simp at hcs
    show n ≤ _
    omega
  · simp at hcs
    have hw := hsz ((elems.length + rest.length) * 4) (by
      rw [DataW.weights, Tryd.underlying25]
      refine DataW.weights_mem_each (j := 1) (t := 23) rfl rfl _ ?_
      rw [DataW.weights, Tryd.underlying23, ← bytesU32]
      simp)
    show n ≤ _
    unfold reachBytes at hw
    omega
set_option maxRecDepth 100000 in
theorem open_nums1 {H : Type} {enc : TypeId × Value → H} {W : World} {m : Nat} {A : Option Addr} {n c : Nat} {d : DataW H} {p : List MemPlace}
    (hm : DataW.trod enc Tryd.prog W 0 (fun _ => true) true m 22 [.slice A n c] = some (d, p)) (hsz : ∀ n ∈ d.weights Tryd.prog 22, n ≤ reachBytes) :
    ∃ es, (pfRow fU FU 2 A n c es).P W ∧ n ≤ 35184372088832 ∧ Sz es := by
  rcases DataW.trod_slice Tryd.underlying22 hm with ⟨hcs, _⟩ | ⟨a, l, c', elems, rest, q, _, hcs, hd, _, hlc, hcm, hlen, hel, _⟩
  · simp at hcs
    obtain ⟨rfl, rfl, rfl⟩ := hcs
    exact ⟨[], row_nil fU FU 2 W, Nat.zero_le _, fun _ h => by cases h⟩
  simp at hcs
  obtain ⟨rfl, rfl, rfl⟩ := hcs
  simp only [Prod.mk.injEq] at hd
  obtain ⟨rfl, _⟩ := hd
  rw [cellsNum4] at hel
  have hwn := hsz ((elems.length + rest.length) * 32) (by
    rw [DataW.weights, Tryd.underlying22, ← bytesNum4]
    simp)
  have hex : ∀ i, ∃ e : UE, i < n → (W.cell? (a.add (i * 2)) = some (.bool e.1) ∧ W.cell? ((a.add (i * 2)).add 1) = some (.slice e.2.1 e.2.2.1 e.2.2.2.1)) ∧ U32 W e.2.1 e.2.2.1 e.2.2.2.1 e.2.2.2.2 ∧ e.2.2.1 ≤ 35184372088832 := by
    intro i
    rcases Nat.lt_or_ge i n with hi | hi
    · have he := hel i hi
      rw [List.getElem?_eq_getElem (by omega)] at he
      obtain ⟨cs, hcs, ht⟩ := Option.bind_eq_some_iff.1 he
      obtain ⟨e, rfl, hu, hb⟩ := open_num4 ht (fun k hk => hsz k (by
        rw [DataW.weights, Tryd.underlying22]
        refine List.mem_cons_of_mem _ (List.mem_append_left _ (weights_all ?_ k hk))
        exact List.mem_map_of_mem (List.getElem_mem _)))
      obtain ⟨_, _, hc⟩ := World.cells?_some hcs
      exact ⟨e, fun _ => ⟨⟨by have := hc 0 (by omega); simpa [Addr.add, fU] using this, by have := hc 1 (by omega); simpa [fU] using this⟩, hu, hb⟩⟩
    · exact ⟨(false, none, 0, 0, []), fun h => by omega⟩
  obtain ⟨g, hg⟩ := Classical.axiomOfChoice hex
  have hes : ∀ i, i < n → ((List.range n).map g)[i]? = some (g i) := fun i hi => by
    rw [List.getElem?_map, List.getElem?_range hi]
    rfl
  unfold reachBytes at hwn
  refine ⟨(List.range n).map g, ⟨⟨by rw [fl_len fU_len, List.length_map, List.length_range], hlc, hcm, fun hp => ?_⟩, by rw [List.length_map, List.length_range], fun e he => ?_⟩, by omega, fun e he => ?_⟩
  · have h0 := (hg 0 hp).1.1
    obtain ⟨b, off, spot⟩ := a
    have hspot : spot = none := by simpa [Addr.add] using World.cell?_spot h0
    subst hspot
    have ea : ∀ k, (⟨b, off, none⟩ : Addr).add k = ⟨b, off + k, none⟩ := fun k => by unfold Addr.add; split <;> simp_all
    refine ⟨b, off, rfl, World.block_lt_of_cell? W ((⟨b, off, none⟩ : Addr).add (0 * 2)) h0, fun i hi => ?_⟩
    obtain ⟨j, k, hk, rfl⟩ : ∃ j k, k < 2 ∧ i = j * 2 + k := ⟨i / 2, i % 2, Nat.mod_lt _ (by decide), by omega⟩
    have hj : j < n := by omega
    rw [fl_at2 _ fU_len j k hk _ (hes j hj)]
    obtain ⟨⟨q0, q1⟩, _⟩ := hg j hj
    rw [ea] at q0 q1
    rcases (show k = 0 ∨ k = 1 by omega) with rfl | rfl
    · exact q0
    · have ea1 : (⟨b, off + j * 2, none⟩ : Addr).add 1 = ⟨b, off + (j * 2 + 1), none⟩ := by unfold Addr.add; split <;> simp_all <;> omega
      rw [ea1] at q1
      exact q1
  · obtain ⟨i, hi, rfl⟩ := List.mem_map.1 he
    exact (hg i (List.mem_range.1 hi)).2.1
  · obtain ⟨i, hi, rfl⟩ := List.mem_map.1 he
    exact (hg i (List.mem_range.1 hi)).2.2
set_option maxRecDepth 100000 in
theorem open_nums {H : Type} {enc : TypeId × Value → H} {W : World} {r : Reach} {b0 : Nat} {v : Value} {d : DataW H} {p : List MemPlace}
    (hv : Value.okWide Tryd.prog W r b0 22 v) (h : DataW.Trod enc Tryd.prog W 0 (fun _ => true) true 22 v d p) (hsz : ∀ n ∈ d.weights Tryd.prog 22, n ≤ reachBytes) :
    ∃ A n c es, v = .slice A n c ∧ (pfRow fU FU 2 A n c es).P W ∧ n ≤ 35184372088832 ∧ Sz es := by
  obtain ⟨A, n, c, rfl⟩ := okWide_slice Tryd.underlying22 hv
  obtain ⟨m, hm⟩ := h
  obtain ⟨es, h1⟩ := open_nums1 hm hsz
  exact ⟨A, n, c, es, rfl, h1⟩
end Go.Proofs.YtegglooojlheoaaDoor

/- How a statement's argument, two rows of numbers and two numbers, is read, with its bounds; a number alone. No condition. -/
namespace Go.Proofs.YtegglooojlheoaaDoor
open Go.RowKit Anv Go.ChangeShapes Go.WideShapes Go.ChangeAt Go.Joins W
set_option maxRecDepth 100000 in
theorem open_numW {H : Type} {enc : TypeId × Value → H} {W : World} {r : Reach} {b0 : Nat} {v : Value} {d : DataW H} {p : List MemPlace}
    (hv : Value.okWide Tryd.prog W r b0 25 v) (h : DataW.Trod enc Tryd.prog W 0 (fun _ => true) true 25 v d p) (hsz : ∀ n ∈ d.weights Tryd.prog 25, n ≤ reachBytes) :
    ∃ (b : Bool) (A : Option Addr) (n c : Nat) (xs : List Nat), v = .agg #[.bool b, .slice A n c] ∧ U32 W A n c xs ∧ n ≤ 35184372088832 := by
  obtain ⟨cs, rfl, hl2⟩ := okWide_struct Tryd.underlying25 hv
  obtain ⟨v0, v1, rfl⟩ := array2 (hl2.trans cellsNum4)
  obtain ⟨fuel, hf⟩ := h
  obtain ⟨⟨b, A, n, c, xs⟩, q, u, s⟩ := open_num4 hf hsz
  simp [fU, Value.cells] at q
  obtain ⟨rfl, rfl⟩ := q
  exact ⟨b, A, n, c, xs, rfl, u, s⟩
end Go.Proofs.YtegglooojlheoaaDoor

/- Rows of pairs of texts; facts that say nothing. Over any program. No condition. -/
namespace Go.Proofs.YtegglooojlheoaaDoor.W
open Go.RowKit Anv Go.Lib
def pfT0 : PF := ⟨fun _ => True, fun _ => False, fun _ h => h.elim, fun _ _ _ => trivial⟩
abbrev FE := List UInt8 × List UInt8
def fF (e : FE) : List Value := [.string ⟨e.1.toArray⟩, .string ⟨e.2.toArray⟩]
def FF (_ : FE) : PF := pfT0
theorem esT_P {α : Type} {F : α → PF} (hF : ∀ e, F e = pfT0) (es : List α) (w : World) : (pfEs F es).P w := fun e _ => by rw [hF]; trivial
theorem esT_foot {α : Type} {F : α → PF} (hF : ∀ e, F e = pfT0) {es : List α} {b : Nat} : ¬ (pfEs F es).foot b := fun ⟨e, _, h⟩ => by rw [hF] at h; exact h
theorem St.addT0s {α : Type} {w0 w : World} {own ps : List PF} (h : St w0 w own ps) (F : α → PF) (hF : ∀ e, F e = pfT0) (es : List α) : St w0 w own (pfEs F es :: ps) :=
  h.addP _ (esT_P hF es w) fun _ _ _ _ h2 => esT_foot hF h2
theorem St.giveBk {α : Type} {f : α → List Value} {F : α → PF} {w0 w : World} {own ps : List PF} {k g z n : Nat} {c : Array Value} {t : TypeId} {es : List α} (h : St w0 w own ps) (hk : own[k]? = some (bk g c t)) (hc : c.toList = fl f es) (hz : ∀ e, (f e).length = z) (hl : es.length = n) (hm : n ≤ maxLen) (hE : (pfEs F es).P w) (hA : ∀ o ∈ own, ∀ b, o.foot b → ¬ (pfEs F es).foot b) : St w0 w (own.eraseIdx k) (pfRow f F z (some ⟨g, 0, none⟩) n n es :: pfRd z (some ⟨g, 0, none⟩) n n (fl f es) :: ps) := by
  have hg := h.oat hk
  have hr : Rd z w (some ⟨g, 0, none⟩) n n (fl f es) := ⟨by rw [fl_len hz, hl], Nat.le_refl _, hm, fun _ => ⟨g, 0, rfl, lt_of_block hg, fun i _ => by rw [Nat.zero_add, cell_of_row w g i c t (0, 0) hg, ← hc, Array.getElem?_toList]⟩⟩
  have h1 := h.give hk (pfRd z (some ⟨g, 0, none⟩) n n (fl f es)) hr fun b hb => by
    obtain ⟨_, off, e⟩ := hb
    cases e
    rfl
  refine h1.addP _ ⟨hr, hl, hE⟩ fun o ho b h2 h3 => ?_
  rcases h3 with h3 | h3
  · exact h1.apart _ (List.mem_cons_self ..) o ho b h2 h3
  · exact hA o (List.mem_of_mem_eraseIdx ho) b h2 h3
end Go.Proofs.YtegglooojlheoaaDoor.W

/- Calls of closures; rows in loops. Over any program. No condition. -/
namespace Go.Proofs.YtegglooojlheoaaDoor.W
open Go.RowKit Anv Go.Lib
section
variable {P : Program} {K : Act → World → Prop} {Q : Exit → Act → World → Prop} {N : Nat} {dq : List Deferred} {a : Act} {l : List (Nat × Value)} {w : World}
variable {d : Nat} {ty : TypeId} {pos : String} {af : Array Edge} {gd : Option (Nat × Bool)}
theorem op_callc {f : FuncId} {y : Operand} {xs : Array Operand} {Ts : Array TypeId} {vs first caps : Array Value} {R : Ending → World → Prop} (h : EnvD dq N a l) (hd : Nat.blt d N = true)
    (hb : ∀ args w, (callFunc f args).run P w = .ok (.enter f args) w) (hy : evl l y = some (.func (.func f) first caps)) (hx : xs.toList.map (evl l) = vs.toList.map some) (hc : Calls P f (first ++ vs ++ caps) w R)
    (hK : ∀ e w', R e w' → ∃ v, e = .returned v ∧ ∀ a', EnvD dq N a' ((d, v) :: l) → K a' w') :
    Oper.wp P ⟨some d, .call ⟨.value y, xs, Ts⟩, ty, pos, af, gd⟩ a w K Q := by
  have hv := h.ev hy
  have he : xs.map a.eval = vs := by
    apply Array.ext'
    rw [Array.toList_map]
    generalize xs.toList = xl at hx ⊢
    generalize vs.toList = vl at hx ⊢
    induction xl generalizing vl with
    | nil => cases vl with
      | nil => rfl
      | cons => simp at hx
    | cons x xl ih => cases vl with
      | nil => simp at hx
      | cons v vl =>
        simp only [List.map_cons, List.cons.injEq] at hx ⊢
        exact ⟨h.ev hx.1, ih vl hx.2⟩
  have hr : (execOp a.eval ⟨some d, .call ⟨.value y, xs, Ts⟩, ty, pos, af, gd⟩).run P w = .ok (.enter f (first ++ vs ++ caps)) w := by
    simp only [execOp, resolve, he, hv, Sem.run_bind]
    simp [Deferred.ofValue, invoke, hb]
  unfold Oper.wp
  rw [hr]
  show Calls P f _ w _
  refine hc.mono fun e w' hR => ?_
  obtain ⟨v, rfl, hk⟩ := hK e w' hR
  exact hk _ (h.put hd v)
end
theorem calls_app {P : Program} {f : FuncId} {first vs caps us : Array Value} {w : World} {R : Ending → World → Prop} (h : first ++ vs ++ caps = us) (hc : Calls P f us w R) : Calls P f (first ++ vs ++ caps) w R := h ▸ hc
theorem take_one {α : Type} {l : List α} {i : Nat} {x : α} (h : l[i]? = some x) : l.take (i + 1) = l.take i ++ [x] := by
  rw [List.take_add_one, h]; rfl
def fI (x : Int) : List Value := [.int .i64 x]
def FI (_ : Int) : PF := pfT0
theorem fI_len (x : Int) : (fI x).length = 1 := rfl
def fS (s : List UInt8) : List Value := [.string ⟨s.toArray⟩]
def FTx (_ : List UInt8) : PF := pfT0
theorem fS_len (s : List UInt8) : (fS s).length = 1 := rfl
theorem row_drop {α : Type} {f : α → List Value} {F : α → PF} {z b o n c m : Nat} {es : List α} {w : World} (hz : ∀ e, (f e).length = z) (h : (pfRow f F z (some ⟨b, o, none⟩) n c es).P w) (hm : m ≤ n) : (pfRow f F z (some ⟨b, o + m * z, none⟩) (n - m) (c - m) (es.drop m)).P w := by
  obtain ⟨hr, hl, hE⟩ := h
  refine ⟨⟨?_, by have := hr.cap; omega, by have := hr.big; omega, fun hp => ?_⟩, by rw [List.length_drop, hl], fun e he => hE e (List.mem_of_mem_drop he)⟩
  · rw [fl_len hz, List.length_drop, hl]
  · obtain ⟨b', off, e, hlt, hc⟩ := hr.cells (by omega)
    cases e
    refine ⟨b, o + m * z, rfl, hlt, fun i hi => ?_⟩
    have hmul : m * z + (n - m) * z = n * z := by rw [← Nat.add_mul]; congr 1; omega
    rw [Nat.add_assoc, hc (m * z + i) (by omega)]
    have h1 : fl f es = fl f (es.take m) ++ fl f (es.drop m) := by rw [← fl_app, List.take_append_drop]
    have h2 : (fl f (es.take m)).length = m * z := by rw [fl_len hz, List.length_take, hl, Nat.min_eq_left hm]
    rw [h1, List.getElem?_append_right (by omega), h2]
    congr 1
    omega
theorem St.dropRow {α : Type} {f : α → List Value} {F : α → PF} {w0 w : World} {own ps : List PF} {z b o n c i : Nat} {es : List α} (h : St w0 w own ps) (hi : ps[i]? = some (pfRow f F z (some ⟨b, o, none⟩) n c es)) (m : Nat) (hz : ∀ e, (f e).length = z) (hm : m ≤ n) : St w0 w own (pfRow f F z (some ⟨b, o + m * z, none⟩) (n - m) (c - m) (es.drop m) :: ps) :=
  h.addP _ (row_drop hz (h.pat hi) hm) fun e he b1 h1 h2 => h.apart _ (List.mem_of_getElem? hi) e he b1 h1 (by
    rcases h2 with ⟨hp, off, e2⟩ | ⟨x, hx, hf⟩
    · cases e2
      exact .inl ⟨by omega, o, rfl⟩
    · exact .inr ⟨x, List.mem_of_mem_drop hx, hf⟩)
def jn : List (List UInt8) → List UInt8
  | [] => []
  | s :: r => s ++ r.flatMap fun t => 32 :: t
theorem jn_len {l : List (List UInt8)} {k : Nat} (h : ∀ s ∈ l, s.length ≤ k) : (jn l).length ≤ l.length * (k + 1) := by
  have h2 : ∀ r : List (List UInt8), (∀ s ∈ r, s.length ≤ k) → (r.flatMap fun t => (32 : UInt8) :: t).length ≤ r.length * (k + 1) := by
    intro r
    induction r with
    | nil => intro _; simp
    | cons t r ih =>
      intro hr
      have h1 := hr t (List.mem_cons_self ..)
      have h2 := ih fun s hs => hr s (List.mem_cons_of_mem _ hs)
      rw [List.flatMap_cons, List.length_append, List.length_cons, List.length_cons, Nat.succ_mul]
      omega
  cases l with
  | nil => simp [jn]
  | cons s r =>
    have h1 := h s (List.mem_cons_self ..)
    have h3 := h2 r fun x hx => h x (List.mem_cons_of_mem _ hx)
    simp only [jn, List.length_append, List.length_cons, Nat.succ_mul]
    omega
def I64 (xs : List Int) : Prop := ∀ x ∈ xs, -9223372036854775808 ≤ x ∧ x ≤ 9223372036854775807
theorem I64.at {xs : List Int} (h : I64 xs) {i : Nat} {x : Int} (hx : xs[i]? = some x) : -9223372036854775808 ≤ x ∧ x ≤ 9223372036854775807 := h x (List.mem_of_getElem? hx)
theorem map_len {α β : Type} {f : α → β} {es : List α} {zs : List β} {n : Nat} (h : es.map f = zs) (hn : zs.length = n) : es.length = n := by
  have := congrArg List.length h
  rw [List.length_map] at this
  omega
theorem St.argP {w0 w : World} {ps : List PF} (h : St w0 w [] ps) (p : PF) (hp : p.P w) : St w0 w [] (p :: ps) := h.addP p hp fun o ho => by cases ho
def ZB (k : Nat) (es : List NE) : Prop := ∀ e ∈ es, zl (zz e) ≤ k
theorem ZB.at {k : Nat} {es : List NE} (h : ZB k es) {i : Nat} {A : Option Addr} {c : Nat} {z : Int} (he : es[i]? = some (A, c, z)) : zl z ≤ k := h _ (List.mem_of_getElem? he)
theorem step_zip {es fs os : List NE} {g : Int → Int → Int} {j : Nat} {A B C : Option Addr} {c d m : Nat} {z y : Int} (ho : os.map zz = (List.zipWith g (es.map zz) (fs.map zz)).take j) (he : es[j]? = some (A, c, z)) (hf : fs[j]? = some (B, d, y)) : (os ++ [(C, m, g z y)]).map zz = (List.zipWith g (es.map zz) (fs.map zz)).take (j + 1) := by
  rw [List.map_append, ho, take_one (x := g z y) (by rw [List.getElem?_zipWith, List.getElem?_map, List.getElem?_map, he, hf]; rfl)]
  rfl
theorem zip_len {es fs : List NE} {g : Int → Int → Int} {n : Nat} (h : es.length = n) (k : fs.length = n) : (List.zipWith g (es.map zz) (fs.map zz)).length = n := by
  rw [List.length_zipWith, List.length_map, List.length_map, h, k, Nat.min_self]
def ZRow (B : Nat) (w : World) (v : Value) (n : Nat) (zs : List Int) : Prop := ∃ A c es, v = .slice A n c ∧ NewRow notU 36 2 fN FN B w A n c es ∧ es.length = n ∧ es.map zz = zs
def MRow (B : Nat) (w : World) (v : Value) (n : Nat) (zs : List Int) : Prop := ∃ A c es, v = .slice A n c ∧ NewRow notU 39 2 fM FM B w A n c es ∧ es.length = n ∧ es.map zz = zs
theorem step_map {es : List NE} {os : List NE} {g : Int → Int} {j : Nat} {A B : Option Addr} {c d : Nat} {z : Int} (ho : os.map zz = ((es.map zz).take j).map g) (he : es[j]? = some (A, c, z)) : (os ++ [(B, d, g z)]).map zz = ((es.map zz).take (j + 1)).map g := by
  rw [List.map_append, ho, take_one (x := z) (by rw [List.getElem?_map, he]; rfl), List.map_append]
  rfl
theorem step_ints {es : List Int} {os : List NE} {j : Nat} {B : Option Addr} {d : Nat} {x : Int} (ho : os.map zz = es.take j) (he : es[j]? = some x) : (os ++ [(B, d, x)]).map zz = es.take (j + 1) := by
  rw [List.map_append, ho, take_one he]
  rfl
end Go.Proofs.YtegglooojlheoaaDoor.W

/- All the rest of the world stands as it stood; a row with its spare room. Over any program. No condition. -/
namespace Go.Proofs.YtegglooojlheoaaDoor.W
open Go.RowKit Anv Go.Lib
def restF (w1 : World) (o : PF) : PF :=
  ⟨fun w => w1.heap.size ≤ w.heap.size ∧ ∀ b, b < w1.heap.size → ¬ o.foot b → w.heap[b]? = w1.heap[b]?, fun b => b < w1.heap.size ∧ ¬ o.foot b,
    fun h hb => Nat.lt_of_lt_of_le hb.1 h.1, fun h hs hk => ⟨Nat.le_trans h.1 hs, fun b hb hn => (hk b ⟨hb, hn⟩).trans (h.2 b hb hn)⟩⟩
theorem St.toRest {w0 w : World} {own ps : List PF} {k : Nat} {o : PF} (h : St w0 w own ps) (hk : own[k]? = some o) (js : List Nat) : St w0 w [o] (restF w o :: js.filterMap (ps[·]?)) := by
  have h1 := h.pick [k] js (by simp)
  rw [show [k].filterMap (own[·]?) = [o] by simp [hk]] at h1
  refine h1.addP _ ⟨Nat.le_refl _, fun _ _ _ => rfl⟩ fun e he b h2 h3 => ?_
  rw [List.mem_singleton.1 he] at h2
  exact h3.2 h2
theorem St.rest {w0 w w' : World} {own ps : List PF} {k : Nat} {o : PF} (h : St w0 w own ps) (hk : own[k]? = some o) (h' : St w0 w' [] [restF w o]) : St w0 w' (own.eraseIdx k) ps := by
  obtain ⟨hs, hr⟩ := h'.pat (k := 0) rfl
  have hm : ∀ e ∈ own.eraseIdx k, ∃ j, j ≠ k ∧ own[j]? = some e := fun e he => List.mem_eraseIdx_iff_getElem?.1 he
  refine ⟨h'.below, fun e he => ?_, fun e he => h.new e (List.mem_of_mem_eraseIdx he), h.nd.sublist (List.eraseIdx_sublist ..), fun p hp => ?_, fun p hp e he => h.apart p hp e (List.mem_of_mem_eraseIdx he)⟩
  · obtain ⟨j, hj, hj2⟩ := hm e he
    have h1 := h.mine e (List.mem_of_mem_eraseIdx he)
    exact e.keep h1 hs fun b hb => hr b (e.lt h1 hb) (h.one hj2 hk hj b hb)
  · have h1 := h.pers p hp
    exact p.keep h1 hs fun b hb => hr b (p.lt h1 hb) fun ho => h.apart p hp o (List.mem_of_getElem? hk) b ho hb
abbrev PE := Value × Value
def fP (p : PE) : List Value := [p.1, p.2]
def FP (_ : PE) : PF := pfT0
theorem fP_len (p : PE) : (fP p).length = 2 := rfl
theorem pairs : ∀ (n : Nat) (l : List Value), l.length = n * 2 → ∃ ps : List PE, fl fP ps = l ∧ ps.length = n
  | 0, l, h => ⟨[], (List.eq_nil_of_length_eq_zero (by omega)).symm, rfl⟩
  | n + 1, [], h => by simp at h
  | n + 1, [_], h => by simp at h; omega
  | n + 1, u :: v :: l, h => by
    obtain ⟨ps, h1, h2⟩ := pairs n l (by simp at h; omega)
    exact ⟨(u, v) :: ps, by rw [fl, h1]; rfl, by rw [List.length_cons, h2]⟩
theorem rowS_all {E n c : Nat} {A : Option Addr} {vs : List Value} {w : World} (h : (rowS notU E 2 A n c vs).P w) : ∃ ps : List PE, (rowS notU E 2 A c c (fl fP ps)).P w ∧ ps.length = c := by
  have h1 : w.ownsRow 0 E 2 (.slice A n c) n vs := h.1
  rcases h1.2 with ⟨e, hn⟩ | ⟨g, cap, cur, e, hg0, hg, hnc, hb, hcs, ht⟩
  · cases e
    exact ⟨[], h1.2.elim (fun _ => ⟨World.ownsRow_nil w 0 E 2, fun g hg => by simp [Value.ownBlock] at hg⟩) (fun _ => ⟨World.ownsRow_nil w 0 E 2, fun g hg => by simp [Value.ownBlock] at hg⟩), rfl⟩
  · cases e
    obtain ⟨ps, hp, hl⟩ := pairs c cur.toList (by rw [Array.length_toList, hcs])
    refine ⟨ps, ⟨⟨by rw [hp, Array.length_toList, hcs], .inr ⟨g, c, cur, rfl, hg0, hg, Nat.le_refl _, hb, hcs, ?_⟩⟩, h.2⟩, hl⟩
    rw [hp, List.take_of_length_le (by rw [Array.length_toList, hcs]; exact Nat.le_refl _)]
theorem St.rowAll {E n c k : Nat} {A : Option Addr} {vs : List Value} {w0 w : World} {own ps : List PF} (h : St w0 w own ps) (hk : own[k]? = some (rowS notU E 2 A n c vs)) : ∃ es : List PE, es.length = c ∧ St w0 w (own.set k (rowS notU E 2 A c c (fl fP es))) ps := by
  obtain ⟨es, h1, h2⟩ := rowS_all (h.owns hk)
  refine ⟨es, h2, h.step' hk h1 (fun b hb => .inl ?_) rfl rfl rfl (Nat.le_refl _) fun _ _ _ => rfl⟩
  obtain ⟨a, rfl, rfl⟩ := rowS_foot hb
  rfl
section
variable {P : Program} {N : Nat} {dq : List Deferred} {a : Act} {l : List (Nat × Value)} {w : World}
variable {d : Nat} {ty : TypeId} {pos : String} {af : Array Edge} {gd : Option (Nat × Bool)}
theorem rn_cap {x : Operand} {T E n c : Nat} {A : Option Addr} (h : EnvD dq N a l) (hT : P.underlying T = some (.slice E)) (hx : evl l x = some (.slice A n c)) :
    (execOp a.eval ⟨some d, .call ⟨.builtin .cap, #[x], #[T]⟩, ty, pos, af, gd⟩).run P w = .ok (.value (.int .i64 c)) w := by
  have hv := h.ev hx
  generalize a.eval = ρ at hv ⊢
  simp only [execOp, resolve]
  simp [hv, go_sem, Builtin.cap_, run_underlying hT, goInt]
end
def pfAnd (p q : PF) : PF :=
  ⟨fun w => p.P w ∧ q.P w, fun b => p.foot b ∨ q.foot b, fun h hb => hb.elim (p.lt h.1) (q.lt h.2), fun h hs hk => ⟨p.keep h.1 hs fun b hb => hk b (.inl hb), q.keep h.2 hs fun b hb => hk b (.inr hb)⟩⟩
section
variable {P : Program} {N : Nat} {dq : List Deferred} {a : Act} {l : List (Nat × Value)} {w : World} {d : Nat} {ty : TypeId} {pos : String} {af : Array Edge} {gd : Option (Nat × Bool)}
theorem ev_all {xl : List Operand} {vl : List Value} (h : EnvD dq N a l) (hx : xl.map (evl l) = vl.map some) : xl.map a.eval = vl := by
  induction xl generalizing vl with
  | nil => cases vl with
    | nil => rfl
    | cons => simp at hx
  | cons x xl ih => cases vl with
    | nil => simp at hx
    | cons v vl =>
      simp only [List.map_cons, List.cons.injEq] at hx ⊢
      exact ⟨h.ev hx.1, ih hx.2⟩
theorem rn_makeFuncB {f : FuncId} {fs cs : Array Operand} {us vs : Array Value} (h : EnvD dq N a l) (hf : fs.toList.map (evl l) = us.toList.map some) (hx : cs.toList.map (evl l) = vs.toList.map some) :
    (execOp a.eval ⟨some d, .makeFunc (.func f) fs cs, ty, pos, af, gd⟩).run P w = .ok (.value (.func (.func f) us vs)) w := by
  have e1 : fs.map a.eval = us := Array.ext' (by rw [Array.toList_map]; exact ev_all h hf)
  have e2 : cs.map a.eval = vs := Array.ext' (by rw [Array.toList_map]; exact ev_all h hx)
  simp [execOp, Instr.makeFunc, e1, e2]
end
theorem rowS_cap {q : Value → Bool} {E z n c : Nat} {A : Option Addr} {vs : List Value} {w : World} (h : (rowS q E z A n c vs).P w) : n ≤ c ∧ c ≤ maxLen := ⟨(rowS_rd h).cap, (rowS_rd h).big⟩
end Go.Proofs.YtegglooojlheoaaDoor.W
