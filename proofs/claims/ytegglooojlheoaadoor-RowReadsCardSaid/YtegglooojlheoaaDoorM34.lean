/- Rows: slices whose elements have z cells each, and what is known of their elements. Over any program. No condition. -/
import Derived.Test.YtegglooojlheoaaDoorM32
import Derived.Test.YtegglooojlheoaaDoorM33
import Derived.Test.YtegglooojlheoaaDoorM11
import Derived.Test.YtegglooojlheoaaDoorM6
import Derived.ScopeJumps
import Derived.Deep.LoopGhost

namespace Go.Proofs.YtegglooojlheoaaDoor.W
open Go.RowKit Anv Go.Lib
section
variable {α : Type} {f : α → List Value} {z : Nat}
def fl (f : α → List Value) : List α → List Value
  | [] => []
  | e :: es => f e ++ fl f es
theorem fl_app (es es' : List α) : fl f (es ++ es') = fl f es ++ fl f es' := by
  induction es with
  | nil => rfl
  | cons e es ih => simp only [fl, List.cons_append, ih, List.append_assoc]
theorem fl_one (e : α) : fl f [e] = f e := by simp [fl]
theorem fl_snoc (es : List α) (e : α) : fl f es ++ f e = fl f (es ++ [e]) := by rw [fl_app, fl_one]
theorem fl_len (hz : ∀ e, (f e).length = z) (es : List α) : (fl f es).length = es.length * z := by
  induction es with
  | nil => simp [fl]
  | cons e es ih => simp only [fl, List.length_append, ih, hz, List.length_cons, Nat.succ_mul]; omega
theorem fl_at (hz : ∀ e, (f e).length = z) {es : List α} {i j : Nat} {e : α} (he : es[i]? = some e) (hj : j < z) : (fl f es)[i * z + j]? = (f e)[j]? := by
  induction es generalizing i with
  | nil => simp at he
  | cons e' es ih =>
    cases i with
    | zero =>
      have h : e' = e := by simpa using he
      subst h
      rw [Nat.zero_mul, Nat.zero_add, fl, List.getElem?_append_left (by rw [hz]; exact hj)]
    | succ i =>
      have he' : es[i]? = some e := by simpa using he
      rw [fl, List.getElem?_append_right (by rw [hz, Nat.succ_mul]; omega), hz, ← ih he', Nat.succ_mul]
      congr 1
      omega
end
structure Rd (z : Nat) (w : World) (A : Option Addr) (n c : Nat) (vs : List Value) : Prop where
  len : vs.length = n * z
  cap : n ≤ c
  big : c ≤ maxLen
  cells : 0 < n → ∃ b off, A = some ⟨b, off, none⟩ ∧ b < w.heap.size ∧ ∀ i, i < n * z → w.cell? ⟨b, off + i, none⟩ = vs[i]?
theorem rd_keep {z : Nat} {w w' : World} {A : Option Addr} {n c : Nat} {vs : List Value} (h : Rd z w A n c vs) (hk : ∀ b, (0 < n ∧ ∃ off, A = some ⟨b, off, none⟩) → w'.heap[b]? = w.heap[b]?) : Rd z w' A n c vs :=
  ⟨h.len, h.cap, h.big, fun hp => by
    obtain ⟨b, off, rfl, hlt, hc⟩ := h.cells hp
    have hb := hk b ⟨hp, off, rfl⟩
    have hlt' : b < w'.heap.size := by
      rcases Nat.lt_or_ge b w'.heap.size with h1 | h1
      · exact h1
      · rw [Array.getElem?_eq_none h1] at hb
        rw [Array.getElem?_eq_getElem hlt] at hb; cases hb
    exact ⟨b, off, rfl, hlt', fun i hi => (World.cell?_of_block (w := w) (a := ⟨b, off + i, none⟩) hb).trans (hc i hi)⟩⟩
def pfRd (z : Nat) (A : Option Addr) (n c : Nat) (vs : List Value) : PF :=
  ⟨fun w => Rd z w A n c vs, fun b => 0 < n ∧ ∃ off, A = some ⟨b, off, none⟩, fun h ⟨hp, off, e⟩ => by
    obtain ⟨b, o, e', hlt, _⟩ := h.cells hp
    rw [e] at e'; cases e'; exact hlt, fun h _ hk => rd_keep h hk⟩
theorem Rd.ab {z : Nat} {w : World} {A : Option Addr} {n c : Nat} {vs : List Value} (h : Rd z w A n c vs) (hn : 0 < n) : A = some ⟨Go.Proofs.YtegglooojlheoaaDoor.ab A, ao A, none⟩ := by
  obtain ⟨b, off, rfl, _, _⟩ := h.cells hn
  rfl
theorem Rd.at {z : Nat} {w : World} {A : Option Addr} {n c : Nat} {vs : List Value} (h : Rd z w A n c vs) {i : Nat} (hi : i < n * z) : w.cell? ⟨Go.Proofs.YtegglooojlheoaaDoor.ab A, ao A + i, none⟩ = vs[i]? := by
  obtain ⟨b, off, rfl, _, hc⟩ := h.cells (Nat.pos_of_ne_zero fun h => by rw [h, Nat.zero_mul] at hi; omega)
  exact hc i hi
def pfEs {α : Type} (F : α → PF) (es : List α) : PF :=
  ⟨fun w => ∀ e ∈ es, (F e).P w, fun b => ∃ e ∈ es, (F e).foot b, fun h ⟨e, he, hf⟩ => (F e).lt (h e he) hf,
    fun h hs hk e he => (F e).keep (h e he) hs fun b hb => hk b ⟨e, he, hb⟩⟩
def pfRow {α : Type} (f : α → List Value) (F : α → PF) (z : Nat) (A : Option Addr) (n c : Nat) (es : List α) : PF :=
  ⟨fun w => Rd z w A n c (fl f es) ∧ es.length = n ∧ (pfEs F es).P w, fun b => (pfRd z A n c (fl f es)).foot b ∨ (pfEs F es).foot b, fun h hf => by
      rcases hf with hf | hf
      · exact (pfRd z A n c (fl f es)).lt h.1 hf
      · exact (pfEs F es).lt h.2.2 hf, fun h hs hk => ⟨rd_keep h.1 fun b hb => hk b (.inl hb), h.2.1, (pfEs F es).keep h.2.2 hs fun b hb => hk b (.inr hb)⟩⟩
theorem es_nil {α : Type} (F : α → PF) (w : World) : (pfEs F []).P w := fun e h => by cases h
section
variable {w w' w0 : World} {own ps : List PF} {α : Type} {f : α → List Value} {F : α → PF} {z n c i j k : Nat} {A : Option Addr} {es : List α} {e : α}
theorem row_at (h : (pfRow f F z A n c es).P w) (he : es[i]? = some e) : (F e).P w := h.2.2 e (List.mem_of_getElem? he)
theorem St.elem (h : St w0 w own ps) (hk : ps[k]? = some (pfRow f F z A n c es)) (he : es[i]? = some e) : St w0 w own (F e :: ps) :=
  h.addP (F e) (row_at (h.pat hk) he) fun o ho b h1 h2 => h.apart _ (List.mem_of_getElem? hk) o ho b h1 (.inr ⟨e, List.mem_of_getElem? he, h2⟩)
theorem St.nilEs (h : St w0 w own ps) (F : α → PF) : St w0 w own (pfEs F [] :: ps) :=
  h.addP _ (es_nil F w) fun o ho b _ h2 => by obtain ⟨e, he, _⟩ := h2; cases he
theorem St.snocEs (h : St w0 w own ps) (hi : ps[i]? = some (pfEs F es)) (hj : ps[j]? = some (F e)) : St w0 w own (pfEs F (es ++ [e]) :: ps) :=
  h.addP _ (fun x hx => by
    rcases List.mem_append.1 hx with hx | hx
    · exact h.pat hi x hx
    · obtain rfl := List.mem_singleton.1 hx
      exact h.pat hj) fun o ho b h1 ⟨x, hx, hf⟩ => by
    rcases List.mem_append.1 hx with hx | hx
    · exact h.apart _ (List.mem_of_getElem? hi) o ho b h1 ⟨x, hx, hf⟩
    · obtain rfl := List.mem_singleton.1 hx
      exact h.apart _ (List.mem_of_getElem? hj) o ho b h1 hf
theorem St.row (h : St w0 w own ps) (hi : ps[i]? = some (pfRd z A n c (fl f es))) (hj : ps[j]? = some (pfEs F es)) (hl : es.length = n) : St w0 w own (pfRow f F z A n c es :: ps) :=
  h.addP _ ⟨h.pat hi, hl, h.pat hj⟩ fun o ho b h1 h2 => by
    rcases h2 with h2 | h2
    · exact h.apart _ (List.mem_of_getElem? hi) o ho b h1 h2
    · exact h.apart _ (List.mem_of_getElem? hj) o ho b h1 h2
theorem St.argRow (h : St w0 w [] ps) (hr : (pfRow f F z A n c es).P w) : St w0 w [] (pfRow f F z A n c es :: ps) := h.addP _ hr fun o ho => by cases ho
end
section
variable {P : Program} {K : Act → World → Prop} {Q : Exit → Act → World → Prop} {N : Nat} {dq : List Deferred} {a : Act} {l : List (Nat × Value)} {w w0 : World} {own ps : List PF}
variable {d : Nat} {ty : TypeId} {pos : String} {af : Array Edge} {gd : Option (Nat × Bool)}
theorem rn_idxR {x y : Operand} {T E i n c z p : Nat} {A : Option Addr} {vs : List Value} {k : IntKind} (h : EnvD dq N a l) (hT : P.underlying T = some (.slice E)) (hE : ∃ j, P.info? E = some j ∧ j.size = z) (hx : evl l x = some (.slice A n c)) (hy : evl l y = some (.int k (i : Nat))) (hi : i < n) (hp : i * z = p) (hr : Rd z w A n c vs) :
    (execOp a.eval ⟨some d, .indexAddr T x y, ty, pos, af, gd⟩).run P w = .ok (.value (.pointer (some ⟨Go.Proofs.YtegglooojlheoaaDoor.ab A, ao A + p, none⟩))) w := by
  subst hp
  exact rn_indexAddr h hT hE (hx.trans (by rw [← hr.ab (by omega)])) hy hi
theorem mul_lt_row {i n z j : Nat} (hi : i < n) (hj : j < z) : i * z + j < n * z := by
  have : (i + 1) * z ≤ n * z := Nat.mul_le_mul_right _ hi
  rw [Nat.succ_mul] at this
  omega
theorem rn_loadE {α : Type} {f : α → List Value} {x : Operand} {T i n c z p : Nat} {A : Option Addr} {es : List α} {e : α} {v : Array Value} (h : EnvD dq N a l) (hT : TAgg P T z) (hx : evl l x = some (.pointer (some ⟨Go.Proofs.YtegglooojlheoaaDoor.ab A, ao A + p, none⟩))) (hp : i * z = p) (hz : ∀ e, (f e).length = z) (hr : Rd z w A n c (fl f es)) (hn : i < n) (he : es[i]? = some e) (hv : (f e).toArray = v) :
    (execOp a.eval ⟨some d, .load T x, ty, pos, af, gd⟩).run P w = .ok (.value (.agg v)) w := by
  subst hp hv
  refine rn_loadr (cs := f e) h hT hx (fun j v hv => ?_) (hz e)
  have hj : j < z := by
    have := (List.getElem?_eq_some_iff.1 hv).1
    rwa [hz] at this
  rw [Nat.add_assoc, hr.at (mul_lt_row hn hj), fl_at hz he hj, hv]
theorem rn_loadE1 {α : Type} {f : α → List Value} {x : Operand} {T i j n c z p : Nat} {A : Option Addr} {es : List α} {e : α} {v : Value} (h : EnvD dq N a l) (hT : TOne P T) (hx : evl l x = some (.pointer (some ⟨Go.Proofs.YtegglooojlheoaaDoor.ab A, ao A + p, none⟩))) (hp : i * z + j = p) (hz : ∀ e, (f e).length = z) (hj : j < z) (hr : Rd z w A n c (fl f es)) (hn : i < n) (he : es[i]? = some e) (hv : (f e)[j]? = some v) :
    (execOp a.eval ⟨some d, .load T x, ty, pos, af, gd⟩).run P w = .ok (.value v) w := by
  subst hp
  exact rn_loadc h hT hx (by rw [hr.at (mul_lt_row hn hj), fl_at hz he hj, hv])
def rowS (q : Value → Bool) (E z : Nat) (A : Option Addr) (n c : Nat) (vs : List Value) : PF := rowG q E z (.slice A n c) n vs
theorem rowS_rd {q : Value → Bool} {E z n c : Nat} {A : Option Addr} {vs : List Value} (h : (rowS q E z A n c vs).P w) : Rd z w A n c vs := by
  have h1 : w.ownsRow 0 E z (.slice A n c) n vs := h.1
  refine ⟨h1.1, ?_, ?_, fun hp => ?_⟩
  · rcases h1.2 with ⟨e, hn⟩ | ⟨g, cap, cur, e, _, _, hnc, _⟩
    · omega
    · cases e; exact hnc
  · rcases h1.2 with ⟨e, hn⟩ | ⟨g, cap, cur, e, _, _, _, hb, _⟩
    · cases e; exact Nat.zero_le _
    · cases e; exact hb
  · rcases h1.2 with ⟨e, hn⟩ | ⟨g, cap, cur, e, _, hg, hnc, hb, hcs, ht⟩
    · omega
    · cases e
      refine ⟨g, 0, rfl, lt_of_block hg, fun i hi => ?_⟩
      rw [Nat.zero_add, cell_of_row w g i cur E (0, 0) hg, ← ht, List.getElem?_take_of_lt hi]
      simp
theorem rowS_foot {q : Value → Bool} {E z n c : Nat} {A : Option Addr} {vs : List Value} {b : Nat} (h : (rowS q E z A n c vs).foot b) : ∃ a, A = some a ∧ a.block = b := by
  cases A with
  | none => simp [rowS, rowG, Value.ownBlock] at h
  | some a => exact ⟨a, rfl, by simpa [rowS, rowG, Value.ownBlock] using h⟩
theorem nou_rowS {E z n c : Nat} {A : Option Addr} {vs : List Value} : NoU (rowS notU E z A n c vs) := nou_rowG
theorem St.addRowS (h : St w0 w own ps) (q : Value → Bool) (E z : Nat) : St w0 w (rowS q E z none 0 0 [] :: own) ps := h.addRowG q E z
theorem St.giveRd {q : Value → Bool} {E z n c k : Nat} {A : Option Addr} {vs : List Value} (h : St w0 w own ps) (hk : own[k]? = some (rowS q E z A n c vs)) : St w0 w (own.eraseIdx k) (pfRd z A n c vs :: ps) :=
  h.give hk (pfRd z A n c vs) (rowS_rd (h.owns hk)) fun b hb => by
    obtain ⟨_, off, rfl⟩ := hb
    rfl
theorem St.giveRow {α : Type} {f : α → List Value} {F : α → PF} {es : List α} {q : Value → Bool} {E z n c k j : Nat} {A : Option Addr} (h : St w0 w own ps) (hk : own[k]? = some (rowS q E z A n c (fl f es))) (hj : ps[j]? = some (pfEs F es)) (hl : es.length = n) : St w0 w (own.eraseIdx k) (pfRow f F z A n c es :: pfRd z A n c (fl f es) :: ps) :=
  (h.giveRd hk).row (i := 0) (j := j + 1) rfl hj hl
def NewRow {α : Type} (q : Value → Bool) (E z : Nat) (f : α → List Value) (F : α → PF) (B : Nat) (w : World) (A : Option Addr) (n c : Nat) (es : List α) : Prop :=
  (rowS q E z A n c (fl f es)).P w ∧ (pfEs F es).P w ∧ ∀ a, A = some a → B ≤ a.block
theorem St.freshRow {α : Type} {f : α → List Value} {F : α → PF} {es : List α} {q : Value → Bool} {E z n c : Nat} {A : Option Addr} {w' : World} (h : St w0 w own ps) (hb : Below w.heap.size w w') (hr : NewRow q E z f F w.heap.size w' A n c es) (hE : ∀ o ∈ rowS q E z A n c (fl f es) :: own, ∀ b, o.foot b → o.P w' → ¬ (pfEs F es).foot b) : St w0 w' (rowS q E z A n c (fl f es) :: own) (pfEs F es :: ps) := by
  have h1 := h.add hb (rowS q E z A n c (fl f es)) hr.1 fun b hb => by
    obtain ⟨a, ha, rfl⟩ := rowS_foot hb
    exact hr.2.2 a ha
  exact h1.addP _ hr.2.1 fun o ho b hfb => hE o ho b hfb (h1.mine o ho)
theorem St.freshRd {α : Type} {f : α → List Value} {F : α → PF} {es : List α} {q : Value → Bool} {E z n c : Nat} {A : Option Addr} {w' : World} (h : St w0 w own ps) (hb : Below w.heap.size w w') (hr : NewRow q E z f F w.heap.size w' A n c es) (hl : es.length = n) (hE : ∀ o ∈ own, ∀ b, o.foot b → o.P w' → ¬ (pfEs F es).foot b) : St w0 w' own (pfRow f F z A n c es :: ps) := by
  have h1 := h.call hb
  refine h1.addP _ ⟨rowS_rd hr.1, hl, hr.2.1⟩ fun o ho b hfb hff => ?_
  rcases hff with ⟨_, off, rfl⟩ | hff
  · have h2 := hr.2.2 _ rfl
    have h3 := o.lt (h.mine o ho) hfb
    have h2 : w.heap.size ≤ b := h2
    omega
  · exact hE o ho b hfb (h1.mine o ho) hff
theorem St.newRow {α : Type} {f : α → List Value} {F : α → PF} {es : List α} {q : Value → Bool} {E z n c k j : Nat} {A : Option Addr} (h : St w0 w own ps) (hk : own[k]? = some (rowS q E z A n c (fl f es))) (hj : ps[j]? = some (pfEs F es)) : NewRow q E z f F w0.heap.size w A n c es :=
  ⟨h.owns hk, h.pat hj, fun a ha => h.new _ (List.mem_of_getElem? hk) _ (by subst ha; rfl)⟩
theorem op_appendS {q : Value → Bool} {t E n z bytes k j g m c c0 : Nat} {x y : Operand} {A : Option Addr} {zv : Value} {vs : List Value} {cs : Array Value} {E' : TypeId} (h : EnvD dq N a l) (hs : St w0 w own ps) (hd : Nat.blt d N = true) (hT : P.underlying t = some (.slice E))
    (hi : (P.info? E).map (fun i => (i.zero, i.size, i.bytes)) = some (some zv, z, bytes)) (hzs : zv.cells.size = z) (hz0 : Nat.blt 0 z = true) (hx : evl l x = some (.slice A n c0)) (hy : evl l y = some (.slice (some ⟨g, 0, none⟩) m c))
    (hk : own[k]? = some (rowS q E z A n c0 vs)) (hj : own[j]? = some (bk g cs E')) (hm : cs.size = m * z) (h1 : cs.toList.all (·.oneCell') = true) (hcq : cs.toList.all q = true) (hzq : zv.cells.toList.all q = true) (hm0 : Nat.blt 0 m = true) (hn : n + m ≤ maxLen) (hb : (n + m) * bytes ≤ 140737488355328)
    (hK : ∀ a' w' g' c', EnvD dq N a' ((d, .slice (some ⟨g', 0, none⟩) (n + m) c') :: l) → St w0 w' (own.set k (rowS q E z (some ⟨g', 0, none⟩) (n + m) c' (vs ++ cs.toList))) ps → K a' w') :
    Oper.wp P ⟨some d, .call ⟨.builtin .append, #[x, y], #[t, t]⟩, ty, pos, af, gd⟩ a w K Q :=
  op_appendG h hs hd hT hi hzs hz0 hx hy hk hj hm h1 hcq hzq hm0 hn hb fun a' w' v' ha' hs' => by
    have hkl : k < own.length := (List.getElem?_eq_some_iff.1 hk).1
    have hrow : w'.ownsRow 0 E z v' (n + m) (vs ++ cs.toList) := (hs'.owns (k := k) (e := rowG q E z v' (n + m) (vs ++ cs.toList)) (by rw [List.getElem?_set_self hkl])).1
    have hm1 : 0 < m := Nat.le_of_ble_eq_true hm0
    rcases hrow.2 with ⟨rfl, hnm⟩ | ⟨g', cap, cur, rfl, _⟩
    · omega
    · exact hK a' w' g' cap ha' hs'
end
abbrev NE := Option Addr × Nat × Int
abbrev zz (e : NE) : Int := e.2.2
def fN (e : NE) : List Value := [.bool (neg e.2.2), .slice e.1 (zl e.2.2) e.2.1]
def FN (e : NE) : PF := pfZ e.1 e.2.1 e.2.2
theorem fN_len (e : NE) : (fN e).length = 2 := rfl
def fM (e : NE) : List Value := [.bool (neg e.2.2), .slice e.1 (dl e.2.2) e.2.1]
def FM (e : NE) : PF := pfR e.1 e.2.1 e.2.2
theorem fM_len (e : NE) : (fM e).length = 2 := rfl
section
variable {w w0 : World} {own ps : List PF} {es : List NE}
theorem ap_u {A : Option Addr} {n c : Nat} {xs : List Nat} (hu : U32 w A n c xs) (hn : NoUs own) : ∀ o ∈ own, ∀ b, o.foot b → o.P w → ¬ (pfU A n c xs).foot b := fun o ho b1 h1 hP ⟨hp, off, e⟩ => by
  obtain ⟨b, off', e', _, hc⟩ := hu.cells hp
  rw [e] at e'
  cases e'
  exact hn.at o ho w _ _ _ hP h1 (hc 0 hp)
theorem ap_N (h : (pfEs FN es).P w) (hn : NoUs own) : ∀ o ∈ own, ∀ b, o.foot b → o.P w → ¬ (pfEs FN es).foot b := fun o ho b h1 hP ⟨e, he, hf⟩ => ap_u (h e he) hn o ho b h1 hP hf
theorem ap_M (h : (pfEs FM es).P w) (hn : NoUs own) : ∀ o ∈ own, ∀ b, o.foot b → o.P w → ¬ (pfEs FM es).foot b := fun o ho b h1 hP ⟨e, he, hf⟩ => ap_u (h e he) hn o ho b h1 hP hf
end
end Go.Proofs.YtegglooojlheoaaDoor.W

/- Rows of pairs of texts; facts that say nothing. Over any program. No condition. -/
namespace Go.Proofs.YtegglooojlheoaaDoor.W
open Go.RowKit Anv Go.Lib
def pfT0 : PF := ⟨fun _ => True, fun _ => False, fun _ h => h.elim, fun _ _ _ => trivial⟩
abbrev FE := List UInt8 × List UInt8
def fF (e : FE) : List Value := [.string ⟨e.1.toArray⟩, .string ⟨e.2.toArray⟩]
def FF (_ : FE) : PF := pfT0
theorem esT_P {α : Type} {F : α → PF} (hF : ∀ e, F e = pfT0) (es : List α) (w : World) : (pfEs F es).P w := fun e _ => by rw [hF]; trivial
theorem esT_foot {α : Type} {F : α → PF} (hF : ∀ e, F e = pfT0) {es : List α} {b : Nat} : ¬ (pfEs F es).foot b := fun ⟨e, _, h⟩ => by rw [hF] at h; exact h
theorem St.addT0s {α : Type} {w0 w : World} {own ps : List PF} (h : St w0 w own ps) (F : α → PF) (hF : ∀ e, F e = pfT0) (es : List α) : St w0 w own (pfEs F es :: ps) :=
  h.addP _ (esT_P hF es w) fun _ _ _ _ h2 => esT_foot hF h2
theorem St.giveBk {α : Type} {f : α → List Value} {F : α → PF} {w0 w : World} {own ps : List PF} {k g z n : Nat} {c : Array Value} {t : TypeId} {es : List α} (h : St w0 w own ps) (hk : own[k]? = some (bk g c t)) (hc : c.toList = fl f es) (hz : ∀ e, (f e).length = z) (hl : es.length = n) (hm : n ≤ maxLen) (hE : (pfEs F es).P w) (hA : ∀ o ∈ own, ∀ b, o.foot b → ¬ (pfEs F es).foot b) : St w0 w (own.eraseIdx k) (pfRow f F z (some ⟨g, 0, none⟩) n n es :: pfRd z (some ⟨g, 0, none⟩) n n (fl f es) :: ps) := by
  have hg := h.oat hk
  have hr : Rd z w (some ⟨g, 0, none⟩) n n (fl f es) := ⟨by rw [fl_len hz, hl], Nat.le_refl _, hm, fun _ => ⟨g, 0, rfl, lt_of_block hg, fun i _ => by rw [Nat.zero_add, cell_of_row w g i c t (0, 0) hg, ← hc, Array.getElem?_toList]⟩⟩
  have h1 := h.give hk (pfRd z (some ⟨g, 0, none⟩) n n (fl f es)) hr fun b hb => by
    obtain ⟨_, off, e⟩ := hb
    cases e
    rfl
  refine h1.addP _ ⟨hr, hl, hE⟩ fun o ho b h2 h3 => ?_
  rcases h3 with h3 | h3
  · exact h1.apart _ (List.mem_cons_self ..) o ho b h2 h3
  · exact hA o (List.mem_of_mem_eraseIdx ho) b h2 h3
end Go.Proofs.YtegglooojlheoaaDoor.W

/- Calls of closures; rows in loops. Over any program. No condition. -/
namespace Go.Proofs.YtegglooojlheoaaDoor.W
open Go.RowKit Anv Go.Lib
section
variable {P : Program} {K : Act → World → Prop} {Q : Exit → Act → World → Prop} {N : Nat} {dq : List Deferred} {a : Act} {l : List (Nat × Value)} {w : World}
variable {d : Nat} {ty : TypeId} {pos : String} {af : Array Edge} {gd : Option (Nat × Bool)}
theorem op_callc {f : FuncId} {y : Operand} {xs : Array Operand} {Ts : Array TypeId} {vs first caps : Array Value} {R : Ending → World → Prop} (h : EnvD dq N a l) (hd : Nat.blt d N = true)
    (hb : ∀ args w, (callFunc f args).run P w = .ok (.enter f args) w) (hy : evl l y = some (.func (.func f) first caps)) (hx : xs.toList.map (evl l) = vs.toList.map some) (hc : Calls P f (first ++ vs ++ caps) w R)
    (hK : ∀ e w', R e w' → ∃ v, e = .returned v ∧ ∀ a', EnvD dq N a' ((d, v) :: l) → K a' w') :
    Oper.wp P ⟨some d, .call ⟨.value y, xs, Ts⟩, ty, pos, af, gd⟩ a w K Q := by
  have hv := h.ev hy
  have he : xs.map a.eval = vs := by
    apply Array.ext'
    rw [Array.toList_map]
    generalize xs.toList = xl at hx ⊢
    generalize vs.toList = vl at hx ⊢
    induction xl generalizing vl with
    | nil => cases vl with
      | nil => rfl
      | cons => simp at hx
    | cons x xl ih => cases vl with
      | nil => simp at hx
      | cons v vl =>
        simp only [List.map_cons, List.cons.injEq] at hx ⊢
        exact ⟨h.ev hx.1, ih vl hx.2⟩
  have hr : (execOp a.eval ⟨some d, .call ⟨.value y, xs, Ts⟩, ty, pos, af, gd⟩).run P w = .ok (.enter f (first ++ vs ++ caps)) w := by
    simp only [execOp, resolve, he, hv, Sem.run_bind]
    simp [Deferred.ofValue, invoke, hb]
  unfold Oper.wp
  rw [hr]
  show Calls P f _ w _
  refine hc.mono fun e w' hR => ?_
  obtain ⟨v, rfl, hk⟩ := hK e w' hR
  exact hk _ (h.put hd v)
end
theorem calls_app {P : Program} {f : FuncId} {first vs caps us : Array Value} {w : World} {R : Ending → World → Prop} (h : first ++ vs ++ caps = us) (hc : Calls P f us w R) : Calls P f (first ++ vs ++ caps) w R := h ▸ hc
theorem take_one {α : Type} {l : List α} {i : Nat} {x : α} (h : l[i]? = some x) : l.take (i + 1) = l.take i ++ [x] := by
  rw [List.take_add_one, h]; rfl
def fI (x : Int) : List Value := [.int .i64 x]
def FI (_ : Int) : PF := pfT0
theorem fI_len (x : Int) : (fI x).length = 1 := rfl
def fS (s : List UInt8) : List Value := [.string ⟨s.toArray⟩]
def FTx (_ : List UInt8) : PF := pfT0
theorem fS_len (s : List UInt8) : (fS s).length = 1 := rfl
theorem row_drop {α : Type} {f : α → List Value} {F : α → PF} {z b o n c m : Nat} {es : List α} {w : World} (hz : ∀ e, (f e).length = z) (h : (pfRow f F z (some ⟨b, o, none⟩) n c es).P w) (hm : m ≤ n) : (pfRow f F z (some ⟨b, o + m * z, none⟩) (n - m) (c - m) (es.drop m)).P w := by
  obtain ⟨hr, hl, hE⟩ := h
  refine ⟨⟨?_, by have := hr.cap; omega, by have := hr.big; omega, fun hp => ?_⟩, by rw [List.length_drop, hl], fun e he => hE e (List.mem_of_mem_drop he)⟩
  · rw [fl_len hz, List.length_drop, hl]
  · obtain ⟨b', off, e, hlt, hc⟩ := hr.cells (by omega)
    cases e
    refine ⟨b, o + m * z, rfl, hlt, fun i hi => ?_⟩
    have hmul : m * z + (n - m) * z = n * z := by rw [← Nat.add_mul]; congr 1; omega
    rw [Nat.add_assoc, hc (m * z + i) (by omega)]
    have h1 : fl f es = fl f (es.take m) ++ fl f (es.drop m) := by rw [← fl_app, List.take_append_drop]
    have h2 : (fl f (es.take m)).length = m * z := by rw [fl_len hz, List.length_take, hl, Nat.min_eq_left hm]
    rw [h1, List.getElem?_append_right (by omega), h2]
    congr 1
    omega
theorem St.dropRow {α : Type} {f : α → List Value} {F : α → PF} {w0 w : World} {own ps : List PF} {z b o n c i : Nat} {es : List α} (h : St w0 w own ps) (hi : ps[i]? = some (pfRow f F z (some ⟨b, o, none⟩) n c es)) (m : Nat) (hz : ∀ e, (f e).length = z) (hm : m ≤ n) : St w0 w own (pfRow f F z (some ⟨b, o + m * z, none⟩) (n - m) (c - m) (es.drop m) :: ps) :=
  h.addP _ (row_drop hz (h.pat hi) hm) fun e he b1 h1 h2 => h.apart _ (List.mem_of_getElem? hi) e he b1 h1 (by
    rcases h2 with ⟨hp, off, e2⟩ | ⟨x, hx, hf⟩
    · cases e2
      exact .inl ⟨by omega, o, rfl⟩
    · exact .inr ⟨x, List.mem_of_mem_drop hx, hf⟩)
def jn : List (List UInt8) → List UInt8
  | [] => []
  | s :: r => s ++ r.flatMap fun t => 32 :: t
theorem jn_len {l : List (List UInt8)} {k : Nat} (h : ∀ s ∈ l, s.length ≤ k) : (jn l).length ≤ l.length * (k + 1) := by
  have h2 : ∀ r : List (List UInt8), (∀ s ∈ r, s.length ≤ k) → (r.flatMap fun t => (32 : UInt8) :: t).length ≤ r.length * (k + 1) := by
    intro r
    induction r with
    | nil => intro _; simp
    | cons t r ih =>
      intro hr
      have h1 := hr t (List.mem_cons_self ..)
      have h2 := ih fun s hs => hr s (List.mem_cons_of_mem _ hs)
      rw [List.flatMap_cons, List.length_append, List.length_cons, List.length_cons, Nat.succ_mul]
      omega
  cases l with
  | nil => simp [jn]
  | cons s r =>
    have h1 := h s (List.mem_cons_self ..)
    have h3 := h2 r fun x hx => h x (List.mem_cons_of_mem _ hx)
    simp only [jn, List.length_append, List.length_cons, Nat.succ_mul]
    omega
def I64 (xs : List Int) : Prop := ∀ x ∈ xs, -9223372036854775808 ≤ x ∧ x ≤ 9223372036854775807
theorem I64.at {xs : List Int} (h : I64 xs) {i : Nat} {x : Int} (hx : xs[i]? = some x) : -9223372036854775808 ≤ x ∧ x ≤ 9223372036854775807 := h x (List.mem_of_getElem? hx)
theorem map_len {α β : Type} {f : α → β} {es : List α} {zs : List β} {n : Nat} (h : es.map f = zs) (hn : zs.length = n) : es.length = n := by
  have := congrArg List.length h
  rw [List.length_map] at this
  omega
theorem St.argP {w0 w : World} {ps : List PF} (h : St w0 w [] ps) (p : PF) (hp : p.P w) : St w0 w [] (p :: ps) := h.addP p hp fun o ho => by cases ho
def ZB (k : Nat) (es : List NE) : Prop := ∀ e ∈ es, zl (zz e) ≤ k
theorem ZB.at {k : Nat} {es : List NE} (h : ZB k es) {i : Nat} {A : Option Addr} {c : Nat} {z : Int} (he : es[i]? = some (A, c, z)) : zl z ≤ k := h _ (List.mem_of_getElem? he)
theorem step_zip {es fs os : List NE} {g : Int → Int → Int} {j : Nat} {A B C : Option Addr} {c d m : Nat} {z y : Int} (ho : os.map zz = (List.zipWith g (es.map zz) (fs.map zz)).take j) (he : es[j]? = some (A, c, z)) (hf : fs[j]? = some (B, d, y)) : (os ++ [(C, m, g z y)]).map zz = (List.zipWith g (es.map zz) (fs.map zz)).take (j + 1) := by
  rw [List.map_append, ho, take_one (x := g z y) (by rw [List.getElem?_zipWith, List.getElem?_map, List.getElem?_map, he, hf]; rfl)]
  rfl
theorem zip_len {es fs : List NE} {g : Int → Int → Int} {n : Nat} (h : es.length = n) (k : fs.length = n) : (List.zipWith g (es.map zz) (fs.map zz)).length = n := by
  rw [List.length_zipWith, List.length_map, List.length_map, h, k, Nat.min_self]
def ZRow (B : Nat) (w : World) (v : Value) (n : Nat) (zs : List Int) : Prop := ∃ A c es, v = .slice A n c ∧ NewRow notU 36 2 fN FN B w A n c es ∧ es.length = n ∧ es.map zz = zs
def MRow (B : Nat) (w : World) (v : Value) (n : Nat) (zs : List Int) : Prop := ∃ A c es, v = .slice A n c ∧ NewRow notU 39 2 fM FM B w A n c es ∧ es.length = n ∧ es.map zz = zs
theorem step_ints {es : List Int} {os : List NE} {j : Nat} {B : Option Addr} {d : Nat} {x : Int} (ho : os.map zz = es.take j) (he : es[j]? = some x) : (os ++ [(B, d, x)]).map zz = es.take (j + 1) := by
  rw [List.map_append, ho, take_one he]
  rfl
end Go.Proofs.YtegglooojlheoaaDoor.W

/- All the rest of the world stands as it stood; a row with its spare room. Over any program. No condition. -/
namespace Go.Proofs.YtegglooojlheoaaDoor.W
open Go.RowKit Anv Go.Lib
def restF (w1 : World) (o : PF) : PF :=
  ⟨fun w => w1.heap.size ≤ w.heap.size ∧ ∀ b, b < w1.heap.size → ¬ o.foot b → w.heap[b]? = w1.heap[b]?, fun b => b < w1.heap.size ∧ ¬ o.foot b,
    fun h hb => Nat.lt_of_lt_of_le hb.1 h.1, fun h hs hk => ⟨Nat.le_trans h.1 hs, fun b hb hn => (hk b ⟨hb, hn⟩).trans (h.2 b hb hn)⟩⟩
theorem St.rest {w0 w w' : World} {own ps : List PF} {k : Nat} {o : PF} (h : St w0 w own ps) (hk : own[k]? = some o) (h' : St w0 w' [] [restF w o]) : St w0 w' (own.eraseIdx k) ps := by
  obtain ⟨hs, hr⟩ := h'.pat (k := 0) rfl
  have hm : ∀ e ∈ own.eraseIdx k, ∃ j, j ≠ k ∧ own[j]? = some e := fun e he => List.mem_eraseIdx_iff_getElem?.1 he
  refine ⟨h'.below, fun e he => ?_, fun e he => h.new e (List.mem_of_mem_eraseIdx he), h.nd.sublist (List.eraseIdx_sublist ..), fun p hp => ?_, fun p hp e he => h.apart p hp e (List.mem_of_mem_eraseIdx he)⟩
  · obtain ⟨j, hj, hj2⟩ := hm e he
    have h1 := h.mine e (List.mem_of_mem_eraseIdx he)
    exact e.keep h1 hs fun b hb => hr b (e.lt h1 hb) (h.one hj2 hk hj b hb)
  · have h1 := h.pers p hp
    exact p.keep h1 hs fun b hb => hr b (p.lt h1 hb) fun ho => h.apart p hp o (List.mem_of_getElem? hk) b ho hb
abbrev PE := Value × Value
def fP (p : PE) : List Value := [p.1, p.2]
def FP (_ : PE) : PF := pfT0
section
variable {P : Program} {N : Nat} {dq : List Deferred} {a : Act} {l : List (Nat × Value)} {w : World}
variable {d : Nat} {ty : TypeId} {pos : String} {af : Array Edge} {gd : Option (Nat × Bool)}
end
def pfAnd (p q : PF) : PF :=
  ⟨fun w => p.P w ∧ q.P w, fun b => p.foot b ∨ q.foot b, fun h hb => hb.elim (p.lt h.1) (q.lt h.2), fun h hs hk => ⟨p.keep h.1 hs fun b hb => hk b (.inl hb), q.keep h.2 hs fun b hb => hk b (.inr hb)⟩⟩
section
variable {P : Program} {N : Nat} {dq : List Deferred} {a : Act} {l : List (Nat × Value)} {w : World} {d : Nat} {ty : TypeId} {pos : String} {af : Array Edge} {gd : Option (Nat × Bool)}
end
end Go.Proofs.YtegglooojlheoaaDoor.W

/- A scope in which the run jumps back to one label: what holds at the label, with ghosts. Over any program. No condition. -/
namespace Go.Proofs.YtegglooojlheoaaDoor.W
open Go.RowKit Anv Go.Lib
section
variable {P : Program} {a : Act} {w : World} {Q : Exit → Act → World → Prop}
theorem wp_scope_at {c R : Code} (l : Nat) (I : Nat → Act → World → Prop) (hf : findLabel c l = some (.seq .skip R))
    (pass : ∀ n a w, I n a w → R.wp P (Exit.jump l (fun a' w' => ∃ n', n' < n ∧ I n' a' w') Q) a w)
    (first : (∀ n a w, I n a w → R.wp P (Exit.jump l (fun a w => ∃ n, I n a w) Q) a w) → c.wp P (Exit.jump l (fun a w => ∃ n, I n a w) Q) a w) : (Code.scope c).wp P Q a w := by
  have hp : ∀ n a w, I n a w → R.wp P (Exit.jump l (fun a w => ∃ n, I n a w) Q) a w := fun n a w h => wp_mono (pass n a w h) (by
    intro e a' w' hq
    cases e with
    | goto l' => obtain ⟨h1, n', _, h2⟩ := hq; exact ⟨h1, n', h2⟩
    | _ => exact hq)
  refine wp_scope_jumps l (fun a w => ∃ n, I n a w) (fun a w => leastOf (fun n => I n a w)) hf (first hp) ?_
  intro a w hI
  refine wp_seq (wp_skip ?_)
  show R.wp P _ a w
  refine wp_mono (pass _ a w (leastOf_spec hI).1) ?_
  intro e a' w' hq
  cases e with
  | goto l' =>
    obtain ⟨h1, n', hlt, h2⟩ := hq
    exact ⟨h1, ⟨n', h2⟩, Nat.lt_of_le_of_lt ((leastOf_spec ⟨n', h2⟩).2 n' h2) hlt⟩
  | _ => exact hq
theorem sj_r {l : Nat} {J : Act → World → Prop} (h : Q .ret a w) : Exit.jump l J Q .ret a w := h
theorem sj_g {l : Nat} {J : Act → World → Prop} (h : J a w) : Exit.jump l J Q (.goto l) a w := ⟨rfl, h⟩
theorem bl_g {i j : Nat} (h : Q (.goto j) a w) : Exit.inBlock i Q (.goto j) a w := h
end
section
variable {P : Program} {K : Act → World → Prop} {Q : Exit → Act → World → Prop} {N : Nat} {dq : List Deferred} {a : Act} {l : List (Nat × Value)} {w w0 : World} {own ps : List PF}
variable {d : Nat} {ty : TypeId} {pos : String} {af : Array Edge} {gd : Option (Nat × Bool)}
theorem op_buildSlice0 {T E z : Nat} (h : EnvD dq N a l) (hs : St w0 w own ps) (hd : Nat.blt d N = true) (hT : P.underlying T = some (.slice E)) (hE : ∃ i, P.info? E = some i ∧ i.size = z)
    (hK : ∀ a' w' g, EnvD dq N a' ((d, .slice (some ⟨g, 0, none⟩) 0 0) :: l) → St w0 w' (bk g #[] E :: own) ps → K a' w') :
    Oper.wp P ⟨some d, .buildSlice T 0 #[], ty, pos, af, gd⟩ a w K Q := by
  have hr : (execOp a.eval ⟨some d, .buildSlice T 0 #[], ty, pos, af, gd⟩).run P w = .ok (.value (.slice (some ⟨w.heap.size, 0, none⟩) 0 0)) (w.alloc (.cells #[] E)) := by
    have hf : Instr.fill (fun i => some (i * z, z)) (Array.map (fun x => (#[] : Array Value)[x % (#[] : Array Value).size]!) (Array.range 0)) ((#[] : Array (Nat × Operand)).map fun x => (x.fst, a.eval x.snd)).toList = some #[] := by simp [Instr.fill]
    simp only [execOp, Instr.buildSlice, Sem.run_bind, run_underlying hT w, Result.andThen_ok, run_sizeOf hE, Nat.zero_mul, if_neg (show ¬ 0 > 2 ^ 24 by omega), if_true, Sem.run_pure, hf]
    rfl
  unfold Oper.wp
  rw [hr]
  exact hK _ _ _ (h.put hd _) (hs.push _ _)
end
end Go.Proofs.YtegglooojlheoaaDoor.W
