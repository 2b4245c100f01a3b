/- Rows: slices whose elements have z cells each, and what is known of their elements. Over any program. No condition. -/
import Derived.Test.YtbdngknpngcojaaDoorM34
import Derived.Test.YtbdngknpngcojaaDoorM35
import Derived.Test.YtbdngknpngcojaaDoorM15
import Derived.Test.YtbdngknpngcojaaDoorM12
import Derived.Test.YtbdngknpngcojaaDoorM8
import Derived.Lib.SmallJoins
import Derived.Laws.CopyRow
import Derived.Laws.Append
import Derived.ScopeJumps
import Derived.Deep.LoopGhost
import Derived.SizedLaws

namespace Go.Proofs.YtbdngknpngcojaaDoor.W
open Go.RowKit Anv Go.Lib
section
variable {α : Type} {f : α → List Value} {z : Nat}
def fl (f : α → List Value) : List α → List Value
  | [] => []
  | e :: es => f e ++ fl f es
theorem fl_len (hz : ∀ e, (f e).length = z) (es : List α) : (fl f es).length = es.length * z := by
  induction es with
  | nil => simp [fl]
  | cons e es ih => simp only [fl, List.length_append, ih, hz, List.length_cons, Nat.succ_mul]; omega
theorem fl_at (hz : ∀ e, (f e).length = z) {es : List α} {i j : Nat} {e : α} (he : es[i]? = some e) (hj : j < z) : (fl f es)[i * z + j]? = (f e)[j]? := by
  induction es generalizing i with
  | nil => simp at he
  | cons e' es ih =>
    cases i with
    | zero =>
      have h : e' = e := by simpa using he
      subst h
      rw [Nat.zero_mul, Nat.zero_add, fl, List.getElem?_append_left (by rw [hz]; exact hj)]
    | succ i =>
      have he' : es[i]? = some e := by simpa using he
      rw [fl, List.getElem?_append_right (by rw [hz, Nat.succ_mul]; omega), hz, ← ih he', Nat.succ_mul]
      congr 1
      omega
end
structure Rd (z : Nat) (w : World) (A : Option Addr) (n c : Nat) (vs : List Value) : Prop where
  len : vs.length = n * z
  cap : n ≤ c
  big : c ≤ maxLen
  cells : 0 < n → ∃ b off, A = some ⟨b, off, none⟩ ∧ b < w.heap.size ∧ ∀ i, i < n * z → w.cell? ⟨b, off + i, none⟩ = vs[i]?
theorem rd_keep {z : Nat} {w w' : World} {A : Option Addr} {n c : Nat} {vs : List Value} (h : Rd z w A n c vs) (hk : ∀ b, (0 < n ∧ ∃ off, A = some ⟨b, off, none⟩) → w'.heap[b]? = w.heap[b]?) : Rd z w' A n c vs :=
  ⟨h.len, h.cap, h.big, fun hp => by
    obtain ⟨b, off, rfl, hlt, hc⟩ := h.cells hp
    have hb := hk b ⟨hp, off, rfl⟩
    have hlt' : b < w'.heap.size := by
      rcases Nat.lt_or_ge b w'.heap.size with h1 | h1
      · exact h1
      · rw [Array.getElem?_eq_none h1] at hb
        rw [Array.getElem?_eq_getElem hlt] at hb; cases hb
    exact ⟨b, off, rfl, hlt', fun i hi => (World.cell?_of_block (w := w) (a := ⟨b, off + i, none⟩) hb).trans (hc i hi)⟩⟩
def pfRd (z : Nat) (A : Option Addr) (n c : Nat) (vs : List Value) : PF :=
  ⟨fun w => Rd z w A n c vs, fun b => 0 < n ∧ ∃ off, A = some ⟨b, off, none⟩, fun h ⟨hp, off, e⟩ => by
    obtain ⟨b, o, e', hlt, _⟩ := h.cells hp
    rw [e] at e'; cases e'; exact hlt, fun h _ hk => rd_keep h hk⟩
theorem rd_none (z : Nat) (w : World) : Rd z w none 0 0 [] := ⟨by simp, Nat.le_refl _, Nat.zero_le _, fun h => absurd h (Nat.lt_irrefl _)⟩
theorem Rd.ab {z : Nat} {w : World} {A : Option Addr} {n c : Nat} {vs : List Value} (h : Rd z w A n c vs) (hn : 0 < n) : A = some ⟨Go.Proofs.YtbdngknpngcojaaDoor.ab A, ao A, none⟩ := by
  obtain ⟨b, off, rfl, _, _⟩ := h.cells hn
  rfl
theorem Rd.at {z : Nat} {w : World} {A : Option Addr} {n c : Nat} {vs : List Value} (h : Rd z w A n c vs) {i : Nat} (hi : i < n * z) : w.cell? ⟨Go.Proofs.YtbdngknpngcojaaDoor.ab A, ao A + i, none⟩ = vs[i]? := by
  obtain ⟨b, off, rfl, _, hc⟩ := h.cells (Nat.pos_of_ne_zero fun h => by rw [h, Nat.zero_mul] at hi; omega)
  exact hc i hi
def pfEs {α : Type} (F : α → PF) (es : List α) : PF :=
  ⟨fun w => ∀ e ∈ es, (F e).P w, fun b => ∃ e ∈ es, (F e).foot b, fun h ⟨e, he, hf⟩ => (F e).lt (h e he) hf,
    fun h hs hk e he => (F e).keep (h e he) hs fun b hb => hk b ⟨e, he, hb⟩⟩
def pfRow {α : Type} (f : α → List Value) (F : α → PF) (z : Nat) (A : Option Addr) (n c : Nat) (es : List α) : PF :=
  ⟨fun w => Rd z w A n c (fl f es) ∧ es.length = n ∧ (pfEs F es).P w, fun b => (pfRd z A n c (fl f es)).foot b ∨ (pfEs F es).foot b, fun h hf => by
      rcases hf with hf | hf
      · exact (pfRd z A n c (fl f es)).lt h.1 hf
      · exact (pfEs F es).lt h.2.2 hf, fun h hs hk => ⟨rd_keep h.1 fun b hb => hk b (.inl hb), h.2.1, (pfEs F es).keep h.2.2 hs fun b hb => hk b (.inr hb)⟩⟩
theorem es_nil {α : Type} (F : α → PF) (w : World) : (pfEs F []).P w := fun e h => by cases h
theorem row_nil {α : Type} (f : α → List Value) (F : α → PF) (z : Nat) (w : World) : (pfRow f F z none 0 0 []).P w := ⟨rd_none z w, rfl, es_nil F w⟩
section
variable {w w' w0 : World} {own ps : List PF} {α : Type} {f : α → List Value} {F : α → PF} {z n c i j k : Nat} {A : Option Addr} {es : List α} {e : α}
theorem St.row (h : St w0 w own ps) (hi : ps[i]? = some (pfRd z A n c (fl f es))) (hj : ps[j]? = some (pfEs F es)) (hl : es.length = n) : St w0 w own (pfRow f F z A n c es :: ps) :=
  h.addP _ ⟨h.pat hi, hl, h.pat hj⟩ fun o ho b h1 h2 => by
    rcases h2 with h2 | h2
    · exact h.apart _ (List.mem_of_getElem? hi) o ho b h1 h2
    · exact h.apart _ (List.mem_of_getElem? hj) o ho b h1 h2
theorem St.argRow (h : St w0 w [] ps) (hr : (pfRow f F z A n c es).P w) : St w0 w [] (pfRow f F z A n c es :: ps) := h.addP _ hr fun o ho => by cases ho
end
section
variable {P : Program} {K : Act → World → Prop} {Q : Exit → Act → World → Prop} {N : Nat} {dq : List Deferred} {a : Act} {l : List (Nat × Value)} {w w0 : World} {own ps : List PF}
variable {d : Nat} {ty : TypeId} {pos : String} {af : Array Edge} {gd : Option (Nat × Bool)}
theorem rn_idxR {x y : Operand} {T E i n c z p : Nat} {A : Option Addr} {vs : List Value} {k : IntKind} (h : EnvD dq N a l) (hT : P.underlying T = some (.slice E)) (hE : ∃ j, P.info? E = some j ∧ j.size = z) (hx : evl l x = some (.slice A n c)) (hy : evl l y = some (.int k (i : Nat))) (hi : i < n) (hp : i * z = p) (hr : Rd z w A n c vs) :
    (execOp a.eval ⟨some d, .indexAddr T x y, ty, pos, af, gd⟩).run P w = .ok (.value (.pointer (some ⟨Go.Proofs.YtbdngknpngcojaaDoor.ab A, ao A + p, none⟩))) w := by
  subst hp
  exact rn_indexAddr h hT hE (hx.trans (by rw [← hr.ab (by omega)])) hy hi
theorem mul_lt_row {i n z j : Nat} (hi : i < n) (hj : j < z) : i * z + j < n * z := by
  have : (i + 1) * z ≤ n * z := Nat.mul_le_mul_right _ hi
  rw [Nat.succ_mul] at this
  omega
theorem rn_loadE {α : Type} {f : α → List Value} {x : Operand} {T i n c z p : Nat} {A : Option Addr} {es : List α} {e : α} {v : Array Value} (h : EnvD dq N a l) (hT : TAgg P T z) (hx : evl l x = some (.pointer (some ⟨Go.Proofs.YtbdngknpngcojaaDoor.ab A, ao A + p, none⟩))) (hp : i * z = p) (hz : ∀ e, (f e).length = z) (hr : Rd z w A n c (fl f es)) (hn : i < n) (he : es[i]? = some e) (hv : (f e).toArray = v) :
    (execOp a.eval ⟨some d, .load T x, ty, pos, af, gd⟩).run P w = .ok (.value (.agg v)) w := by
  subst hp hv
  refine rn_loadr (cs := f e) h hT hx (fun j v hv => ?_) (hz e)
  have hj : j < z := by
    have := (List.getElem?_eq_some_iff.1 hv).1
    rwa [hz] at this
  rw [Nat.add_assoc, hr.at (mul_lt_row hn hj), fl_at hz he hj, hv]
theorem rn_loadE1 {α : Type} {f : α → List Value} {x : Operand} {T i j n c z p : Nat} {A : Option Addr} {es : List α} {e : α} {v : Value} (h : EnvD dq N a l) (hT : TOne P T) (hx : evl l x = some (.pointer (some ⟨Go.Proofs.YtbdngknpngcojaaDoor.ab A, ao A + p, none⟩))) (hp : i * z + j = p) (hz : ∀ e, (f e).length = z) (hj : j < z) (hr : Rd z w A n c (fl f es)) (hn : i < n) (he : es[i]? = some e) (hv : (f e)[j]? = some v) :
    (execOp a.eval ⟨some d, .load T x, ty, pos, af, gd⟩).run P w = .ok (.value v) w := by
  subst hp
  exact rn_loadc h hT hx (by rw [hr.at (mul_lt_row hn hj), fl_at hz he hj, hv])
def rowS (q : Value → Bool) (E z : Nat) (A : Option Addr) (n c : Nat) (vs : List Value) : PF := rowG q E z (.slice A n c) n vs
def NewRow {α : Type} (q : Value → Bool) (E z : Nat) (f : α → List Value) (F : α → PF) (B : Nat) (w : World) (A : Option Addr) (n c : Nat) (es : List α) : Prop :=
  (rowS q E z A n c (fl f es)).P w ∧ (pfEs F es).P w ∧ ∀ a, A = some a → B ≤ a.block
end
abbrev NE := Option Addr × Nat × Int
abbrev zz (e : NE) : Int := e.2.2
def fN (e : NE) : List Value := [.bool (neg e.2.2), .slice e.1 (zl e.2.2) e.2.1]
def FN (e : NE) : PF := pfZ e.1 e.2.1 e.2.2
def fM (e : NE) : List Value := [.bool (neg e.2.2), .slice e.1 (dl e.2.2) e.2.1]
def FM (e : NE) : PF := pfR e.1 e.2.1 e.2.2
section
variable {w w0 : World} {own ps : List PF} {es : List NE}
end
end Go.Proofs.YtbdngknpngcojaaDoor.W

/- Rows of pairs of texts; facts that say nothing. Over any program. No condition. -/
namespace Go.Proofs.YtbdngknpngcojaaDoor.W
open Go.RowKit Anv Go.Lib
def pfT0 : PF := ⟨fun _ => True, fun _ => False, fun _ h => h.elim, fun _ _ _ => trivial⟩
abbrev FE := List UInt8 × List UInt8
def fF (e : FE) : List Value := [.string ⟨e.1.toArray⟩, .string ⟨e.2.toArray⟩]
def FF (_ : FE) : PF := pfT0
theorem esT_P {α : Type} {F : α → PF} (hF : ∀ e, F e = pfT0) (es : List α) (w : World) : (pfEs F es).P w := fun e _ => by rw [hF]; trivial
theorem esT_foot {α : Type} {F : α → PF} (hF : ∀ e, F e = pfT0) {es : List α} {b : Nat} : ¬ (pfEs F es).foot b := fun ⟨e, _, h⟩ => by rw [hF] at h; exact h
theorem St.giveBk {α : Type} {f : α → List Value} {F : α → PF} {w0 w : World} {own ps : List PF} {k g z n : Nat} {c : Array Value} {t : TypeId} {es : List α} (h : St w0 w own ps) (hk : own[k]? = some (bk g c t)) (hc : c.toList = fl f es) (hz : ∀ e, (f e).length = z) (hl : es.length = n) (hm : n ≤ maxLen) (hE : (pfEs F es).P w) (hA : ∀ o ∈ own, ∀ b, o.foot b → ¬ (pfEs F es).foot b) : St w0 w (own.eraseIdx k) (pfRow f F z (some ⟨g, 0, none⟩) n n es :: pfRd z (some ⟨g, 0, none⟩) n n (fl f es) :: ps) := by
  have hg := h.oat hk
  have hr : Rd z w (some ⟨g, 0, none⟩) n n (fl f es) := ⟨by rw [fl_len hz, hl], Nat.le_refl _, hm, fun _ => ⟨g, 0, rfl, lt_of_block hg, fun i _ => by rw [Nat.zero_add, cell_of_row w g i c t (0, 0) hg, ← hc, Array.getElem?_toList]⟩⟩
  have h1 := h.give hk (pfRd z (some ⟨g, 0, none⟩) n n (fl f es)) hr fun b hb => by
    obtain ⟨_, off, e⟩ := hb
    cases e
    rfl
  refine h1.addP _ ⟨hr, hl, hE⟩ fun o ho b h2 h3 => ?_
  rcases h3 with h3 | h3
  · exact h1.apart _ (List.mem_cons_self ..) o ho b h2 h3
  · exact hA o (List.mem_of_mem_eraseIdx ho) b h2 h3
end Go.Proofs.YtbdngknpngcojaaDoor.W

/- Calls of closures; rows in loops. Over any program. No condition. -/
namespace Go.Proofs.YtbdngknpngcojaaDoor.W
open Go.RowKit Anv Go.Lib
section
variable {P : Program} {K : Act → World → Prop} {Q : Exit → Act → World → Prop} {N : Nat} {dq : List Deferred} {a : Act} {l : List (Nat × Value)} {w : World}
variable {d : Nat} {ty : TypeId} {pos : String} {af : Array Edge} {gd : Option (Nat × Bool)}
end
theorem take_one {α : Type} {l : List α} {i : Nat} {x : α} (h : l[i]? = some x) : l.take (i + 1) = l.take i ++ [x] := by
  rw [List.take_add_one, h]; rfl
def fI (x : Int) : List Value := [.int .i64 x]
def FI (_ : Int) : PF := pfT0
theorem fI_len (x : Int) : (fI x).length = 1 := rfl
def fS (s : List UInt8) : List Value := [.string ⟨s.toArray⟩]
def FTx (_ : List UInt8) : PF := pfT0
def jn : List (List UInt8) → List UInt8
  | [] => []
  | s :: r => s ++ r.flatMap fun t => 32 :: t
def I64 (xs : List Int) : Prop := ∀ x ∈ xs, -9223372036854775808 ≤ x ∧ x ≤ 9223372036854775807
theorem I64.at {xs : List Int} (h : I64 xs) {i : Nat} {x : Int} (hx : xs[i]? = some x) : -9223372036854775808 ≤ x ∧ x ≤ 9223372036854775807 := h x (List.mem_of_getElem? hx)
def ZB (k : Nat) (es : List NE) : Prop := ∀ e ∈ es, zl (zz e) ≤ k
theorem ZB.at {k : Nat} {es : List NE} (h : ZB k es) {i : Nat} {A : Option Addr} {c : Nat} {z : Int} (he : es[i]? = some (A, c, z)) : zl z ≤ k := h _ (List.mem_of_getElem? he)
def MRow (B : Nat) (w : World) (v : Value) (n : Nat) (zs : List Int) : Prop := ∃ A c es, v = .slice A n c ∧ NewRow notU 95 2 fM FM B w A n c es ∧ es.length = n ∧ es.map zz = zs
end Go.Proofs.YtbdngknpngcojaaDoor.W

/- How a statement's argument, a program (api.Prog), is read. No condition. -/
namespace Go.Proofs.YtbdngknpngcojaaDoor.W
open Go.RowKit Anv Go.Lib
abbrev IE := Int × Int × Int × Int × Int
def fJ (e : IE) : List Value := [.int .i64 e.1, .int .i64 e.2.1, .int .i64 e.2.2.1, .int .i64 e.2.2.2.1, .int .i64 e.2.2.2.2]
def FJ (_ : IE) : PF := pfT0
theorem fJ_len (e : IE) : (fJ e).length = 5 := rfl
def B64 (x : Int) : Prop := -9223372036854775808 ≤ x ∧ x ≤ 9223372036854775807
def IB (e : IE) : Prop := B64 e.1 ∧ B64 e.2.1 ∧ B64 e.2.2.1 ∧ B64 e.2.2.2.1 ∧ B64 e.2.2.2.2
def IBs (es : List IE) : Prop := ∀ e ∈ es, IB e
theorem IBs.at {es : List IE} (h : IBs es) {i : Nat} {e : IE} (hx : es[i]? = some e) : IB e := h e (List.mem_of_getElem? hx)
end Go.Proofs.YtbdngknpngcojaaDoor.W
namespace Go.Proofs.YtbdngknpngcojaaDoor
open Go.RowKit Anv Go.ChangeShapes Go.WideShapes Go.ChangeAt Go.Joins W
section
variable {H : Type} {enc : TypeId × Value → H} {P : Program} {w : World} {base : Nat} {spare : Nat → Bool} {held : Bool}
theorem trod_fields5 {t : TypeId} {f0 f1 f2 f3 f4 : Field} {fuel : Nat} {cs : List Value} {x : DataW H × List MemPlace} (ht : P.underlying t = some (.struct #[f0, f1, f2, f3, f4])) (h : DataW.trod enc P w base spare held fuel t cs = some x) :
    ∃ y0 y1 y2 y3 y4 n, cs.length = P.cellsOf t ∧ DataW.trod enc P w base spare held n f0.type ((cs.drop f0.offset).take (P.cellsOf f0.type)) = some y0 ∧
      DataW.trod enc P w base spare held n f1.type ((cs.drop f1.offset).take (P.cellsOf f1.type)) = some y1 ∧ DataW.trod enc P w base spare held n f2.type ((cs.drop f2.offset).take (P.cellsOf f2.type)) = some y2 ∧
      DataW.trod enc P w base spare held n f3.type ((cs.drop f3.offset).take (P.cellsOf f3.type)) = some y3 ∧ DataW.trod enc P w base spare held n f4.type ((cs.drop f4.offset).take (P.cellsOf f4.type)) = some y4 := by
  obtain ⟨xs, n, _, rfl, hl, hlen, hf⟩ := DataW.trod_struct ht h
  match xs, hlen with
  | [y0, y1, y2, y3, y4], _ => exact ⟨y0, y1, y2, y3, y4, n, hl, by simpa using hf 0 f0 rfl, by simpa using hf 1 f1 rfl, by simpa using hf 2 f2 rfl, by simpa using hf 3 f3 rfl, by simpa using hf 4 f4 rfl⟩
end
theorem cellsInstr : Tryd.prog.cellsOf 37 = 5 := by kernel_rfl
theorem cellsInt : Tryd.prog.cellsOf 3 = 1 := by kernel_rfl
theorem cellsProg : Tryd.prog.cellsOf 25 = 4 := by kernel_rfl
theorem one_int {H : Type} {enc : TypeId × Value → H} {W : World} {m : Nat} {v : Value} {y : DataW H × List MemPlace}
    (h : DataW.trod enc Tryd.prog W 0 (fun _ => true) true m 3 [v] = some y) : ∃ n, v = .int .i64 n ∧ B64 n := by
  obtain ⟨n, e, _, hw⟩ := DataW.trod_int Tryd.underlying3 h
  simp at e
  exact ⟨n, e, bounds_i64 hw⟩
set_option maxRecDepth 100000 in
theorem open_instr {H : Type} {enc : TypeId × Value → H} {W : World} {m : Nat} {cs : List Value} {y : DataW H × List MemPlace}
    (h : DataW.trod enc Tryd.prog W 0 (fun _ => true) true m 37 cs = some y) : ∃ e : IE, cs = fJ e ∧ IB e := by
  obtain ⟨y0, y1, y2, y3, y4, k, hl, h0, h1, h2, h3, h4⟩ := trod_fields5 Tryd.underlying37 h
  rw [cellsInstr] at hl
  obtain ⟨v0, v1, v2, v3, v4, rfl⟩ : ∃ v0 v1 v2 v3 v4, cs = [v0, v1, v2, v3, v4] := by
    match cs, hl with
    | [v0, v1, v2, v3, v4], _ => exact ⟨v0, v1, v2, v3, v4, rfl⟩
  replace h0 : DataW.trod enc Tryd.prog W 0 (fun _ => true) true k 3 (([v0, v1, v2, v3, v4].drop 0).take (Tryd.prog.cellsOf 3)) = some y0 := h0
  replace h1 : DataW.trod enc Tryd.prog W 0 (fun _ => true) true k 3 (([v0, v1, v2, v3, v4].drop 1).take (Tryd.prog.cellsOf 3)) = some y1 := h1
  replace h2 : DataW.trod enc Tryd.prog W 0 (fun _ => true) true k 3 (([v0, v1, v2, v3, v4].drop 2).take (Tryd.prog.cellsOf 3)) = some y2 := h2
  replace h3 : DataW.trod enc Tryd.prog W 0 (fun _ => true) true k 3 (([v0, v1, v2, v3, v4].drop 3).take (Tryd.prog.cellsOf 3)) = some y3 := h3
  replace h4 : DataW.trod enc Tryd.prog W 0 (fun _ => true) true k 3 (([v0, v1, v2, v3, v4].drop 4).take (Tryd.prog.cellsOf 3)) = some y4 := h4
  rw [cellsInt] at h0 h1 h2 h3 h4
  obtain ⟨n0, rfl, b0⟩ := one_int h0
  obtain ⟨n1, rfl, b1⟩ := one_int h1
  obtain ⟨n2, rfl, b2⟩ := one_int h2
  obtain ⟨n3, rfl, b3⟩ := one_int h3
  obtain ⟨n4, rfl, b4⟩ := one_int h4
  exact ⟨(n0, n1, n2, n3, n4), rfl, b0, b1, b2, b3, b4⟩
set_option maxRecDepth 100000 in
theorem open_instrs {H : Type} {enc : TypeId × Value → H} {W : World} {m : Nat} {A : Option Addr} {n c : Nat} {d : DataW H} {p : List MemPlace}
    (hm : DataW.trod enc Tryd.prog W 0 (fun _ => true) true m 22 [.slice A n c] = some (d, p)) :
    ∃ es, (pfRow fJ FJ 5 A n c es).P W ∧ IBs es := by
  rcases DataW.trod_slice Tryd.underlying22 hm with ⟨hcs, _⟩ | ⟨a, l, c', elems, rest, q, _, hcs, hd, _, hlc, hcm, hlen, hel, _⟩
  · simp at hcs
    obtain ⟨rfl, rfl, rfl⟩ := hcs
    exact ⟨[], row_nil fJ FJ 5 W, fun _ h => by cases h⟩
  simp at hcs
  obtain ⟨rfl, rfl, rfl⟩ := hcs
  rw [cellsInstr] at hel
  have hex : ∀ i, ∃ e : IE, i < n → (∀ j, j < 5 → W.cell? ((a.add (i * 5)).add j) = (fJ e)[j]?) ∧ IB e := by
    intro i
    rcases Nat.lt_or_ge i n with hi | hi
    · have he := hel i hi
      rw [List.getElem?_eq_getElem (by omega)] at he
      obtain ⟨cs, hcs, ht⟩ := Option.bind_eq_some_iff.1 he
      obtain ⟨e, rfl, hb⟩ := open_instr ht
      obtain ⟨_, _, hc⟩ := World.cells?_some hcs
      exact ⟨e, fun _ => ⟨fun j hj => hc j hj, hb⟩⟩
    · exact ⟨(0, 0, 0, 0, 0), fun h => by omega⟩
  obtain ⟨g, hg⟩ := Classical.axiomOfChoice hex
  have hes : ∀ i, i < n → ((List.range n).map g)[i]? = some (g i) := fun i hi => by
    rw [List.getElem?_map, List.getElem?_range hi]
    rfl
  refine ⟨(List.range n).map g, ⟨⟨by rw [fl_len fJ_len, List.length_map, List.length_range], hlc, hcm, fun hp => ?_⟩, by rw [List.length_map, List.length_range], fun e _ => trivial⟩, fun e he => ?_⟩
  · have h0 := (hg 0 hp).1 0 (by decide)
    obtain ⟨b, off, spot⟩ := a
    have hspot : spot = none := by
      have h1 : W.cell? (((⟨b, off, spot⟩ : Addr).add (0 * 5)).add 0) = some (.int .i64 (g 0).1) := h0
      simpa [Addr.add] using World.cell?_spot h1
    subst hspot
    have ea : ∀ o k, (⟨b, o, none⟩ : Addr).add k = ⟨b, o + k, none⟩ := fun o k => by simp [Addr.add]
    refine ⟨b, off, rfl, World.block_lt_of_cell? W (((⟨b, off, none⟩ : Addr).add (0 * 5)).add 0) (u := .int .i64 (g 0).1) h0, fun i hi => ?_⟩
    obtain ⟨j, k, hk, rfl⟩ : ∃ j k, k < 5 ∧ i = j * 5 + k := ⟨i / 5, i % 5, Nat.mod_lt _ (by decide), by omega⟩
    have hj : j < n := by omega
    rw [fl_at fJ_len (hes j hj) hk, ← (hg j hj).1 k hk, ea, ea, Nat.add_assoc]
  · obtain ⟨i, hi, rfl⟩ := List.mem_map.1 he
    exact (hg i (List.mem_range.1 hi)).2
set_option maxRecDepth 100000 in
theorem open_ints0 {H : Type} {enc : TypeId × Value → H} {W : World} {m : Nat} {A : Option Addr} {n c : Nat} {d : DataW H} {p : List MemPlace}
    (hm : DataW.trod enc Tryd.prog W 0 (fun _ => true) true m 23 [.slice A n c] = some (d, p)) :
    ∃ es, (pfRow fI FI 1 A n c es).P W ∧ I64 es := by
  rcases open_ints Tryd.underlying23 Tryd.underlying3 (by kernel_rfl) hm with ⟨hcs, _⟩ | ⟨x, l, c', zs, hcs, _, hl, hmx, hz, _, hcell, hwz⟩
  · simp at hcs
    obtain ⟨rfl, rfl, rfl⟩ := hcs
    exact ⟨[], row_nil fI FI 1 W, fun _ h => by cases h⟩
  · simp at hcs
    obtain ⟨rfl, rfl, rfl⟩ := hcs
    have hz' : zs.length = c := by simpa using hz
    have hfl : ∀ es : List Int, fl fI es = es.map fun x => Value.int .i64 x := fun es => by
      induction es with
      | nil => rfl
      | cons e es ih => rw [List.map_cons, ← ih]; rfl
    refine ⟨zs.take n, ⟨⟨by rw [hfl, List.length_map, List.length_take]; omega, hl, hmx, fun hp => ?_⟩, by rw [List.length_take]; omega, fun _ _ => trivial⟩, fun z hzm => ?_⟩
    · have h0 := hcell 0 (by omega)
      obtain ⟨b, off, spot⟩ := x
      have hspot : spot = none := by simpa [Addr.add] using World.cell?_spot h0
      subst hspot
      refine ⟨b, off, rfl, World.block_lt_of_cell? W ((⟨b, off, none⟩ : Addr).add 0) h0, fun i hi => ?_⟩
      have hi' := hcell i (by omega)
      have e1 : (⟨b, off, none⟩ : Addr).add i = ⟨b, off + i, none⟩ := by unfold Addr.add; split <;> simp_all
      rw [e1] at hi'
      rw [hi', hfl, List.getElem?_map, List.getElem?_take, if_pos (by omega), List.getElem?_eq_getElem (by omega)]
      have hzi : zs.getD i 0 = zs[i]'(by omega) := by simp [List.getD, show i < zs.length by omega]
      rw [hzi]
      rfl
    · exact bounds_i64 (hwz z (List.mem_of_mem_take hzm))
set_option maxRecDepth 100000 in
theorem open_prog {H : Type} {enc : TypeId × Value → H} {W : World} {r : Reach} {b0 : Nat} {v : Value} {d : DataW H} {p : List MemPlace}
    (hv : Value.okWide Tryd.prog W r b0 25 v) (h : DataW.Trod enc Tryd.prog W 0 (fun _ => true) true 25 v d p) :
    ∃ (i g : Int) (A : Option Addr) (n c : Nat) (es : List IE) (B : Option Addr) (m k : Nat) (os : List Int), v = .agg #[.int .i64 i, .int .i64 g, .slice A n c, .slice B m k] ∧
      B64 i ∧ B64 g ∧ ((pfRow fJ FJ 5 A n c es).P W ∧ IBs es) ∧ (pfRow fI FI 1 B m k os).P W ∧ I64 os := by
  obtain ⟨cs, rfl, hl4⟩ := okWide_struct Tryd.underlying25 hv
  obtain ⟨v0, v1, v2, v3, rfl⟩ : ∃ a b c d, cs = #[a, b, c, d] := by
    have hl := hl4.trans cellsProg
    obtain ⟨l⟩ := cs
    match l, hl with
    | [a, b, c, d], _ => exact ⟨a, b, c, d, rfl⟩
  obtain ⟨fuel, hf⟩ := h
  obtain ⟨y0, y1, y2, y3, k, _, _, g0, g1, g2, g3⟩ := trod_struct4 Tryd.underlying25 hf
  have cS : Tryd.prog.cellsOf 22 = 1 := by kernel_rfl
  have cI : Tryd.prog.cellsOf 23 = 1 := by kernel_rfl
  replace g0 : DataW.trod enc Tryd.prog W 0 (fun _ => true) true k 3 (([v0, v1, v2, v3].drop 0).take (Tryd.prog.cellsOf 3)) = some y0 := g0
  replace g1 : DataW.trod enc Tryd.prog W 0 (fun _ => true) true k 3 (([v0, v1, v2, v3].drop 1).take (Tryd.prog.cellsOf 3)) = some y1 := g1
  replace g2 : DataW.trod enc Tryd.prog W 0 (fun _ => true) true k 22 (([v0, v1, v2, v3].drop 2).take (Tryd.prog.cellsOf 22)) = some y2 := g2
  replace g3 : DataW.trod enc Tryd.prog W 0 (fun _ => true) true k 23 (([v0, v1, v2, v3].drop 3).take (Tryd.prog.cellsOf 23)) = some y3 := g3
  rw [cellsInt] at g0 g1
  rw [cS] at g2
  rw [cI] at g3
  replace g2 : DataW.trod enc Tryd.prog W 0 (fun _ => true) true k 22 [v2] = some y2 := g2
  replace g3 : DataW.trod enc Tryd.prog W 0 (fun _ => true) true k 23 [v3] = some y3 := g3
  obtain ⟨i, rfl, bi⟩ := one_int g0
  obtain ⟨g, rfl, bg⟩ := one_int g1
  obtain ⟨A, n, c, e2⟩ := slice_form Tryd.underlying22 g2
  obtain ⟨B, m, q, e3⟩ := slice_form Tryd.underlying23 g3
  simp at e2 e3
  subst e2 e3
  obtain ⟨es, q2⟩ := open_instrs g2
  obtain ⟨os, q3⟩ := open_ints0 g3
  exact ⟨i, g, A, n, c, es, B, m, q, os, rfl, bi, bg, q2, q3⟩
end Go.Proofs.YtbdngknpngcojaaDoor

/- All the rest of the world stands as it stood; a row with its spare room. Over any program. No condition. -/
namespace Go.Proofs.YtbdngknpngcojaaDoor.W
open Go.RowKit Anv Go.Lib
def restF (w1 : World) (o : PF) : PF :=
  ⟨fun w => w1.heap.size ≤ w.heap.size ∧ ∀ b, b < w1.heap.size → ¬ o.foot b → w.heap[b]? = w1.heap[b]?, fun b => b < w1.heap.size ∧ ¬ o.foot b,
    fun h hb => Nat.lt_of_lt_of_le hb.1 h.1, fun h hs hk => ⟨Nat.le_trans h.1 hs, fun b hb hn => (hk b ⟨hb, hn⟩).trans (h.2 b hb hn)⟩⟩
theorem St.rest {w0 w w' : World} {own ps : List PF} {k : Nat} {o : PF} (h : St w0 w own ps) (hk : own[k]? = some o) (h' : St w0 w' [] [restF w o]) : St w0 w' (own.eraseIdx k) ps := by
  obtain ⟨hs, hr⟩ := h'.pat (k := 0) rfl
  have hm : ∀ e ∈ own.eraseIdx k, ∃ j, j ≠ k ∧ own[j]? = some e := fun e he => List.mem_eraseIdx_iff_getElem?.1 he
  refine ⟨h'.below, fun e he => ?_, fun e he => h.new e (List.mem_of_mem_eraseIdx he), h.nd.sublist (List.eraseIdx_sublist ..), fun p hp => ?_, fun p hp e he => h.apart p hp e (List.mem_of_mem_eraseIdx he)⟩
  · obtain ⟨j, hj, hj2⟩ := hm e he
    have h1 := h.mine e (List.mem_of_mem_eraseIdx he)
    exact e.keep h1 hs fun b hb => hr b (e.lt h1 hb) (h.one hj2 hk hj b hb)
  · have h1 := h.pers p hp
    exact p.keep h1 hs fun b hb => hr b (p.lt h1 hb) fun ho => h.apart p hp o (List.mem_of_getElem? hk) b ho hb
abbrev PE := Value × Value
def fP (p : PE) : List Value := [p.1, p.2]
def FP (_ : PE) : PF := pfT0
section
variable {P : Program} {N : Nat} {dq : List Deferred} {a : Act} {l : List (Nat × Value)} {w : World}
variable {d : Nat} {ty : TypeId} {pos : String} {af : Array Edge} {gd : Option (Nat × Bool)}
end
def pfAnd (p q : PF) : PF :=
  ⟨fun w => p.P w ∧ q.P w, fun b => p.foot b ∨ q.foot b, fun h hb => hb.elim (p.lt h.1) (q.lt h.2), fun h hs hk => ⟨p.keep h.1 hs fun b hb => hk b (.inl hb), q.keep h.2 hs fun b hb => hk b (.inr hb)⟩⟩
section
variable {P : Program} {N : Nat} {dq : List Deferred} {a : Act} {l : List (Nat × Value)} {w : World} {d : Nat} {ty : TypeId} {pos : String} {af : Array Edge} {gd : Option (Nat × Bool)}
end
end Go.Proofs.YtbdngknpngcojaaDoor.W

/- Rows: copied into, cut; rows of rows. Over any program. No condition. -/
namespace Go.Proofs.YtbdngknpngcojaaDoor.W
open Go.RowKit Anv Go.Lib
def slA (A : Option Addr) (c m z : Nat) : Option Addr := if c = m then A else A.map (·.add (m * z))
section
variable {P : Program} {K : Act → World → Prop} {Q : Exit → Act → World → Prop} {N : Nat} {dq : List Deferred} {a : Act} {l : List (Nat × Value)} {w w0 : World} {own ps : List PF}
variable {d : Nat} {ty : TypeId} {pos : String} {af : Array Edge} {gd : Option (Nat × Bool)}
end
abbrev LE := Option Addr × Nat × Nat × List NE
def fL (v : LE) : List Value := [.slice v.1 v.2.1 v.2.2.1]
def FL (v : LE) : PF := pfRow fN FN 2 v.1 v.2.1 v.2.2.1 v.2.2.2
def lz (v : LE) : List Int := v.2.2.2.map zz
end Go.Proofs.YtbdngknpngcojaaDoor.W

/- A scope in which the run jumps back to one label: what holds at the label, with ghosts. Over any program. No condition. -/
namespace Go.Proofs.YtbdngknpngcojaaDoor.W
open Go.RowKit Anv Go.Lib
section
variable {P : Program} {a : Act} {w : World} {Q : Exit → Act → World → Prop}
end
section
variable {P : Program} {K : Act → World → Prop} {Q : Exit → Act → World → Prop} {N : Nat} {dq : List Deferred} {a : Act} {l : List (Nat × Value)} {w w0 : World} {own ps : List PF}
variable {d : Nat} {ty : TypeId} {pos : String} {af : Array Edge} {gd : Option (Nat × Bool)}
end
end Go.Proofs.YtbdngknpngcojaaDoor.W

/- Rows of the call's own: a read row appended, room made ahead and filled in place, a row's beginning. Over any program. No condition. -/
namespace Go.Proofs.YtbdngknpngcojaaDoor.W
open Go.RowKit Anv Go.Lib
section
variable {P : Program} {K : Act → World → Prop} {Q : Exit → Act → World → Prop} {N : Nat} {dq : List Deferred} {a : Act} {l : List (Nat × Value)} {w w0 : World} {own ps : List PF}
variable {d : Nat} {ty : TypeId} {pos : String} {af : Array Edge} {gd : Option (Nat × Bool)}
end
end Go.Proofs.YtbdngknpngcojaaDoor.W

/- How a statement's argument, a row of numbers with their limbs, is read, with its bound. No condition. -/
namespace Go.Proofs.YtbdngknpngcojaaDoor.W
open Go.RowKit Anv Go.Lib
abbrev UE := Bool × Option Addr × Nat × Nat × List Nat
def fU (e : UE) : List Value := [.bool e.1, .slice e.2.1 e.2.2.1 e.2.2.2.1]
def FU (e : UE) : PF := pfU e.2.1 e.2.2.1 e.2.2.2.1 e.2.2.2.2
def Sz (es : List UE) : Prop := ∀ e ∈ es, e.2.2.1 ≤ 35184372088832
theorem Sz.at {es : List UE} (h : Sz es) {i : Nat} {e : UE} (hx : es[i]? = some e) : e.2.2.1 ≤ 35184372088832 := h e (List.mem_of_getElem? hx)
end Go.Proofs.YtbdngknpngcojaaDoor.W
namespace Go.Proofs.YtbdngknpngcojaaDoor
open Go.RowKit Anv Go.ChangeShapes Go.WideShapes Go.ChangeAt Go.Joins W
end Go.Proofs.YtbdngknpngcojaaDoor
