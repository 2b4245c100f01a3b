/- What the operations do, by what is known of the frame and of the world. Over any program. No condition. -/
import Derived.Test.YtbdngknpngcojaaDoorM10
import Derived.Deep.QuietTactic

namespace Go.Proofs.YtbdngknpngcojaaDoor
open Go.RowKit Anv
def TAgg (P : Program) (T : TypeId) (n : Nat) : Prop := (∃ d, P.underlying T = some d ∧ d.isRow = true) ∧ (P.info? T).map (·.size) = some n
def TOne (P : Program) (T : TypeId) : Prop := (∃ d, P.underlying T = some d ∧ d.isRow = false) ∧ (P.info? T).map (·.size) = some 1
section
variable {P : Program} {K : Act → World → Prop} {Q : Exit → Act → World → Prop} {N : Nat} {dq : List Deferred} {a : Act} {l : List (Nat × Value)} {w w0 : World} {own : List Bk} {ps : List PF}
variable {d : Nat} {ds : Option Nat} {ty : TypeId} {pos : String} {af : Array Edge} {gd : Option (Nat × Bool)} {ops : Array Oper} {rest : List Oper} {o : Oper}
theorem TAgg.size {T n : Nat} (h : TAgg P T n) : ∃ i, P.info? T = some i ∧ i.size = n := by
  obtain ⟨_, h⟩ := h
  cases hq : P.info? T with
  | none => simp [hq] at h
  | some i => exact ⟨i, rfl, by simpa [hq] using h⟩
theorem TOne.size {T : Nat} (h : TOne P T) : ∃ i, P.info? T = some i ∧ i.size = 1 := by
  obtain ⟨_, h⟩ := h
  cases hq : P.info? T with
  | none => simp [hq] at h
  | some i => exact ⟨i, rfl, by simpa [hq] using h⟩
theorem TAgg.agg {T n : Nat} (h : TAgg P T n) : (isAgg T).run P w = .ok true w := by
  obtain ⟨⟨d, hu, hd⟩, _⟩ := h
  unfold isAgg
  rw [Sem.run_bind, run_underlying hu w]
  cases d <;> simp_all
theorem TOne.agg {T : Nat} (h : TOne P T) : (isAgg T).run P w = .ok false w := by
  obtain ⟨⟨d, hu, hd⟩, _⟩ := h
  unfold isAgg
  rw [Sem.run_bind, run_underlying hu w]
  cases d <;> simp_all
theorem run_sizeOf {T n : Nat} (h : ∃ i, P.info? T = some i ∧ i.size = n) : (sizeOf T).run P w = .ok n w := by
  obtain ⟨i, hi, hn⟩ := h
  simp [sizeOf, typeInfo, hi, hn]
theorem rn_move {x : Operand} {v : Value} (h : EnvD dq N a l) (hx : evl l x = some v) : (execOp a.eval ⟨some d, .move x, ty, pos, af, gd⟩).run P w = .ok (.value v) w := by
  simp only [execOp, h.ev hx]; rfl
theorem rn_assign {x : Operand} {v : Value} (h : EnvD dq N a l) (hx : evl l x = some v) : (execOp a.eval ⟨some d, .assign x, ty, pos, af, gd⟩).run P w = .ok (.value v) w := by
  simp only [execOp, h.ev hx]; rfl
theorem rn_pick {c x y : Operand} {b : Bool} {v : Value} (h : EnvD dq N a l) (hc : evl l c = some (.bool b)) (hv : evl l (if b then x else y) = some v) :
    (execOp a.eval ⟨some d, .pick c x y, ty, pos, af, gd⟩).run P w = .ok (.value v) w := by
  have := h.ev hv
  cases b <;> simp_all [execOp, h.ev hc, asBool]
theorem rn_extract {x : Operand} {i : Nat} {vs : Array Value} {v : Value} (h : EnvD dq N a l) (hx : evl l x = some (.tuple vs)) (hv : vs[i]? = some v) :
    (execOp a.eval ⟨some d, .extract x i, ty, pos, af, gd⟩).run P w = .ok (.value v) w := by
  simp [execOp, h.ev hx, Instr.extract, hv]
theorem rn_load {x : Operand} {T g o : Nat} {c : Array Value} {t : TypeId} {n : Nat} {cs : List Value} (h : EnvD dq N a l) (ht : TAgg P T n) (hx : evl l x = some (.pointer (some ⟨g, o, none⟩)))
    (hg : w.heap[g]? = some (.cells c t (0, 0))) (hc : (c.toList.drop o).take n = cs) (hn : cs.length = n) :
    (execOp a.eval ⟨some d, .load T x, ty, pos, af, gd⟩).run P w = .ok (.value (.agg cs.toArray)) w := by
  obtain ⟨⟨dd, hu, hd⟩, hi⟩ := ht
  have hr : w.rangeAt g o cs := by
    intro j v hv
    rw [cell_of_row w g _ c t (0, 0) hg]
    subst hc
    rw [List.getElem?_take] at hv
    split at hv
    · rw [List.getElem?_drop] at hv; simpa using hv
    · cases hv
  simp only [execOp, h.ev hx]
  rw [Sem.run_bind, run_loadAt_mid w g o T cs dd hr hu hd (by rw [hi, hn])]
  rfl
theorem rn_load0 {x : Operand} {T g : Nat} {c : Array Value} {t : TypeId} {n : Nat} (h : EnvD dq N a l) (ht : TAgg P T n) (hx : evl l x = some (.pointer (some ⟨g, 0, none⟩)))
    (hg : w.heap[g]? = some (.cells c t (0, 0))) (hn : c.size = n) :
    (execOp a.eval ⟨some d, .load T x, ty, pos, af, gd⟩).run P w = .ok (.value (.agg c)) w := by
  have := rn_load (d := d) (ty := ty) (pos := pos) (af := af) (gd := gd) (cs := c.toList) h ht hx hg (by rw [List.drop_zero, List.take_of_length_le (by simp; omega)]) (by simpa using hn)
  simpa using this
theorem rn_load1 {x : Operand} {T g o : Nat} {c : Array Value} {t : TypeId} {v : Value} (h : EnvD dq N a l) (ht : TOne P T) (hx : evl l x = some (.pointer (some ⟨g, o, none⟩)))
    (hg : w.heap[g]? = some (.cells c t (0, 0))) (hv : c[o]? = some v) :
    (execOp a.eval ⟨some d, .load T x, ty, pos, af, gd⟩).run P w = .ok (.value v) w := by
  have hc : w.cell? ⟨g, o, none⟩ = some v := by rw [cell_of_row w g _ c t (0, 0) hg, hv]
  simp only [execOp, h.ev hx, Instr.loadAt, Instr.sureAddr, Sem.run_bind, Sem.run_pure, Result.andThen_ok, loadVar, ht.agg]
  simp [load, Sem.run, hc]
theorem rn_loadc {x : Operand} {T : Nat} {p : Addr} {v : Value} (h : EnvD dq N a l) (ht : TOne P T) (hx : evl l x = some (.pointer (some p)))
    (hc : w.cell? p = some v) :
    (execOp a.eval ⟨some d, .load T x, ty, pos, af, gd⟩).run P w = .ok (.value v) w := by
  simp only [execOp, h.ev hx, Instr.loadAt, Instr.sureAddr, Sem.run_bind, Sem.run_pure, Result.andThen_ok, loadVar, ht.agg]
  simp [load, Sem.run, hc]
theorem rn_loadr {x : Operand} {T g o : Nat} {n : Nat} {cs : List Value} (h : EnvD dq N a l) (ht : TAgg P T n) (hx : evl l x = some (.pointer (some ⟨g, o, none⟩)))
    (hr : w.rangeAt g o cs) (hn : cs.length = n) :
    (execOp a.eval ⟨some d, .load T x, ty, pos, af, gd⟩).run P w = .ok (.value (.agg cs.toArray)) w := by
  obtain ⟨⟨dd, hu, hd⟩, hi⟩ := ht
  simp only [execOp, h.ev hx]
  rw [Sem.run_bind, run_loadAt_mid w g o T cs dd hr hu hd (by rw [hi, hn])]
  rfl
def TField (P : Program) (S f : Nat) (off T : Nat) : Prop := ∃ fs fd, P.underlying S = some (.struct fs) ∧ fs[f]? = some fd ∧ fd.offset = off ∧ fd.type = T
theorem rn_fieldAddr {x : Operand} {S f off T n g o : Nat} (h : EnvD dq N a l) (hf : TField P S f off T) (hs : ∃ i, P.info? T = some i ∧ i.size = n) (hn : n ≠ 0) (hx : evl l x = some (.pointer (some ⟨g, o, none⟩))) :
    (execOp a.eval ⟨some d, .fieldAddr S x f, ty, pos, af, gd⟩).run P w = .ok (.value (.pointer (some ⟨g, o + off, none⟩))) w := by
  obtain ⟨fs, fd, hu, hfd, rfl, rfl⟩ := hf
  simp only [execOp, h.ev hx, Instr.fieldAt, Sem.run_bind, run_underlying hu w, Result.andThen_ok, hfd, Instr.sureAddr, Sem.run_pure, fieldPlace, run_sizeOf hs, if_neg hn, Addr.add_mid]
theorem rn_bin {x y : Operand} {op : BinOp} {T yt : Nat} {vx vy v : Value} (h : EnvD dq N a l) (hx : evl l x = some vx) (hy : evl l y = some vy)
    (hr : (do eqGuard op T x y vx vy; binOp op T vx vy : Sem Value).run P w = .ok v w) :
    (execOp a.eval ⟨some d, .binOp op T x y yt, ty, pos, af, gd⟩).run P w = .ok (.value v) w := by
  simp only [execOp, h.ev hx, h.ev hy]
  rw [Sem.run_bind, hr]
  rfl
theorem rn_un {x : Operand} {op : UnOp} {T : Nat} {vx v : Value} (h : EnvD dq N a l) (hx : evl l x = some vx) (hr : (Op.unary op vx).run P w = .ok v w) :
    (execOp a.eval ⟨some d, .unOp op T x, ty, pos, af, gd⟩).run P w = .ok (.value v) w := by
  simp only [execOp, h.ev hx]
  rw [Sem.run_bind, hr]
  rfl
theorem rn_add {x y : Operand} {T yt : Nat} {k : IntKind} {m n z : Int} (h : EnvD dq N a l) (hx : evl l x = some (.int k m)) (hy : evl l y = some (.int k n)) (hw : k.wrap (m + n) = z) :
    (execOp a.eval ⟨some d, .binOp .add T x y yt, ty, pos, af, gd⟩).run P w = .ok (.value (.int k z)) w := by
  subst hw
  exact rn_bin h hx hy (by simp [eqGuard, binOp, Op.intArith])
theorem rn_sub {x y : Operand} {T yt : Nat} {k : IntKind} {m n z : Int} (h : EnvD dq N a l) (hx : evl l x = some (.int k m)) (hy : evl l y = some (.int k n)) (hw : k.wrap (m - n) = z) :
    (execOp a.eval ⟨some d, .binOp .sub T x y yt, ty, pos, af, gd⟩).run P w = .ok (.value (.int k z)) w := by
  subst hw
  exact rn_bin h hx hy (by simp [eqGuard, binOp, Op.intArith])
theorem rn_mul {x y : Operand} {T yt : Nat} {k : IntKind} {m n z : Int} (h : EnvD dq N a l) (hx : evl l x = some (.int k m)) (hy : evl l y = some (.int k n)) (hw : k.wrap (m * n) = z) :
    (execOp a.eval ⟨some d, .binOp .mul T x y yt, ty, pos, af, gd⟩).run P w = .ok (.value (.int k z)) w := by
  subst hw
  exact rn_bin h hx hy (by simp [eqGuard, binOp, Op.intArith])
theorem rn_conv {x : Operand} {T : Nat} {n m : Int} {S : Nat} {ik jk : IntKind} {ds : TypeDesc} (h : EnvD dq N a l) (hx : evl l x = some (.int ik n)) (hS : P.underlying S = some ds) (hT : P.underlying T = some (.int jk)) (hm : jk.wrap n = m) :
    (execOp a.eval ⟨some d, .convert S T x, ty, pos, af, gd⟩).run P w = .ok (.value (.int jk m)) w := by
  subst hm
  simp [execOp, h.ev hx, convert, Sem.run_bind, run_underlying hS w, run_underlying hT w, Conv.intToInt]
theorem rn_len {x : Operand} {T E n c : Nat} {A : Option Addr} (h : EnvD dq N a l) (hT : P.underlying T = some (.slice E)) (hx : evl l x = some (.slice A n c)) :
    (execOp a.eval ⟨some d, .call ⟨.builtin .len, #[x], #[T]⟩, ty, pos, af, gd⟩).run P w = .ok (.value (.int .i64 n)) w := by
  have hv := h.ev hx
  generalize a.eval = ρ at hv ⊢
  simp only [execOp, resolve]
  simp [hv, go_sem, Builtin.len_, run_underlying hT, goInt]
theorem rn_slen {x : Operand} {T : Nat} {s : ByteArray} (h : EnvD dq N a l) (hT : P.underlying T = some .string) (hx : evl l x = some (.string s)) :
    (execOp a.eval ⟨some d, .call ⟨.builtin .len, #[x], #[T]⟩, ty, pos, af, gd⟩).run P w = .ok (.value (.int .i64 s.size)) w := by
  have hv := h.ev hx
  generalize a.eval = ρ at hv ⊢
  simp only [execOp, resolve]
  simp [hv, go_sem, Builtin.len_, run_underlying hT, goInt]
theorem rn_index {x y : Operand} {T i : Nat} {k : IntKind} {s : ByteArray} (h : EnvD dq N a l) (hT : P.underlying T = some .string) (hx : evl l x = some (.string s)) (hy : evl l y = some (.int k (i : Nat))) (hi : i < s.size) :
    (execOp a.eval ⟨some d, .index T x y, ty, pos, af, gd⟩).run P w = .ok (.value (.int .u8 (s[i].toNat : Nat))) w := by
  simp [execOp, h.ev hx, h.ev hy, Instr.index, Sem.run_bind, asIntOf, run_underlying hT w, hi]
theorem rn_indexAddr {x y : Operand} {T E i n c b o z : Nat} {k : IntKind} (h : EnvD dq N a l) (hT : P.underlying T = some (.slice E)) (hE : ∃ j, P.info? E = some j ∧ j.size = z) (hx : evl l x = some (.slice (some ⟨b, o, none⟩) n c)) (hy : evl l y = some (.int k (i : Nat))) (hi : i < n) :
    (execOp a.eval ⟨some d, .indexAddr T x y, ty, pos, af, gd⟩).run P w = .ok (.value (.pointer (some ⟨b, o + i * z, none⟩))) w := by
  simp [execOp, h.ev hx, h.ev hy, Instr.indexAt, Sem.run_bind, asIntOf, run_underlying hT w, hi, run_sizeOf hE, Addr.add_mid]
theorem op_val {op : Op} {v : Value} (h : EnvD dq N a l) (hd : Nat.blt d N = true) (hr : (execOp a.eval ⟨some d, op, ty, pos, af, gd⟩).run P w = .ok (.value v) w)
    (hK : ∀ a', EnvD dq N a' ((d, v) :: l) → K a' w) : Oper.wp P ⟨some d, op, ty, pos, af, gd⟩ a w K Q := by
  unfold Oper.wp
  rw [hr]
  exact hK _ (h.put hd v)
theorem seq_step (hg : o.guard = none) (h : o.wp P a w (wpList P ops Q rest) Q) : wpList P ops Q (o :: rest) a w :=
  wpList_plain hg fun _ hK => Oper.wp_mono hK h
def isB : Value → Bool → Bool
  | .bool c, b => c == b
  | _, _ => false
theorem not_wanted {g t : Nat} {b : Bool} {u : Value} {og : Oper} {dd : Option Nat} {op : Op} (hg : ops[g]? = some og) (h : EnvD dq N a l) (hgd : og.dst = some t) (hgv : look l t = some u) (hbc : isB u b = false) :
    Region.wanted ⟨dd, op, ty, pos, af, some (g, b)⟩ (yielded ops a.tmps) = false := by
  have he := h.at hgv
  rw [Array.getD_eq_getD_getElem?] at he
  have hy : yielded ops a.tmps g ≠ some b := by
    simp only [yielded, hg, Option.bind_some, hgd]
    cases ht : a.tmps[t]? with
    | none => simp
    | some x =>
      rw [ht] at he
      simp at he
      subst he
      cases x <;> simp_all [isB]
  simp only [Region.wanted]
  simpa using hy
theorem seq_skip {g t : Nat} {b : Bool} {u : Value} {op : Op} {og : Oper} (hg : ops[g]? = some og) (h : EnvD dq N a l) (hgd : og.dst = some t) (hgv : look l t = some u) (hd : Nat.blt d N = true) (hbc : isB u b = false)
    (hK : ∀ a', EnvD dq N a' ((d, undef) :: l) → wpList P ops Q rest a' w) : wpList P ops Q (⟨some d, op, ty, pos, af, some (g, b)⟩ :: rest) a w := by
  unfold wpList
  rw [if_neg (by rw [not_wanted hg h hgd hgv hbc]; decide)]
  exact hK _ (h.put hd undef)
theorem seq_g {g t : Nat} {b : Bool} {op : Op} {og : Oper} {dd : Option Nat} (hg : ops[g]? = some og) (h : EnvD dq N a l) (hgd : og.dst = some t) (hgv : look l t = some (.bool b))
    (hK : Oper.wp P ⟨dd, op, ty, pos, af, some (g, b)⟩ a w (wpList P ops Q rest) Q) : wpList P ops Q (⟨dd, op, ty, pos, af, some (g, b)⟩ :: rest) a w := by
  have hy : yielded ops a.tmps g = some b := by
    have he := h.at hgv
    simp only [yielded, hg, Option.bind_some, hgd]
    rw [Array.getD_eq_getD_getElem?] at he
    cases ht : a.tmps[t]? with
    | none => rw [ht] at he; simp [undef] at he
    | some x => rw [ht] at he; simp at he; subst he; rfl
  unfold wpList
  rw [if_pos (by simp [Region.wanted, hy])]
  exact .inl hK
theorem sv {op : Op} {v : Value} (h : EnvD dq N a l) (hd : Nat.blt d N = true) (hr : (execOp a.eval ⟨some d, op, ty, pos, af, none⟩).run P w = .ok (.value v) w)
    (hK : ∀ a', EnvD dq N a' ((d, v) :: l) → wpList P ops Q rest a' w) : wpList P ops Q (⟨some d, op, ty, pos, af, none⟩ :: rest) a w :=
  seq_step rfl (op_val h hd hr hK)
theorem op_box {T : Nat} {x : Operand} {v : Value} {c : Array Value} (h : EnvD dq N a l) (hs : St w0 w own ps) (hd : Nat.blt d N = true) (hx : evl l x = some v) (hc : v.cells = c)
    (hK : ∀ a' w' g, EnvD dq N a' ((d, .pointer (some ⟨g, 0, none⟩)) :: l) → St w0 w' (⟨g, c, T⟩ :: own) ps → K a' w') :
    Oper.wp P ⟨some d, .box T x, ty, pos, af, gd⟩ a w K Q := by
  have hr : (execOp a.eval ⟨some d, .box T x, ty, pos, af, gd⟩).run P w = .ok (.value (.pointer (some ⟨w.heap.size, 0, none⟩))) (w.alloc (.cells v.cells T)) := by
    simp only [execOp, h.ev hx]
    rfl
  subst hc
  unfold Oper.wp
  rw [hr]
  exact hK _ _ _ (h.put hd _) (hs.push _ _)
theorem op_alloc {T : Nat} {v : Value} {c : Array Value} (h : EnvD dq N a l) (hs : St w0 w own ps) (hd : Nat.blt d N = true) (hz : ∃ i, P.info? T = some i ∧ i.zero = some v) (hc : v.cells = c)
    (hK : ∀ a' w' g, EnvD dq N a' ((d, .pointer (some ⟨g, 0, none⟩)) :: l) → St w0 w' (⟨g, c, T⟩ :: own) ps → K a' w') :
    Oper.wp P ⟨some d, .alloc T, ty, pos, af, gd⟩ a w K Q := by
  obtain ⟨i, hi, hv⟩ := hz
  have hr : (execOp a.eval ⟨some d, .alloc T, ty, pos, af, gd⟩).run P w = .ok (.value (.pointer (some ⟨w.heap.size, 0, none⟩))) (w.alloc (.cells v.cells T)) := by
    have hz : (zeroValue T).run P w = .ok v w := by simp [zeroValue, typeInfo, hi, hv]
    simp only [execOp, Instr.alloc, Sem.run_bind, hz, Result.andThen_ok]
    rfl
  subst hc
  unfold Oper.wp
  rw [hr]
  exact hK _ _ _ (h.put hd _) (hs.push _ _)
def wr (o : Nat) : List Value → Array Value → Array Value
  | [], c => c
  | v :: vs, c => wr (o + 1) vs (c.setIfInBounds o v)
theorem Upd.refl {g : Nat} {c : Array Value} {t : TypeId} (h : w.heap[g]? = some (.cells c t (0, 0))) : Upd w w g c t := ⟨rfl, rfl, rfl, rfl, h, fun _ _ => rfl⟩
theorem Upd.trans {w1 w2 : World} {g : Nat} {c c' : Array Value} {t : TypeId} (h : Upd w w1 g c t) (k : Upd w1 w2 g c' t) : Upd w w2 g c' t :=
  ⟨k.os.trans h.os, k.tape.trans h.tape, k.output.trans h.output, k.size.trans h.size, k.new, fun i hi => (k.old i hi).trans (h.old i hi)⟩
theorem setCell_upd {g o : Nat} {c : Array Value} {t : TypeId} (v : Value) (h : w.heap[g]? = some (.cells c t (0, 0))) : Upd w (w.setCell ⟨g, o, none⟩ v) g (c.setIfInBounds o v) t :=
  ⟨rfl, rfl, rfl, by simp, by simp [World.setCell, Array.getElem?_modify, h], fun i hi => Below.heap_setCell _ _ _ _ hi⟩
theorem setCells_upd (vs : List Value) : ∀ (o : Nat) (w : World) (g : Nat) (c : Array Value) (t : TypeId), w.heap[g]? = some (.cells c t (0, 0)) → Upd w (w.setCells g o vs) g (wr o vs c) t := by
  induction vs with
  | nil => exact fun o w g c t h => Upd.refl h
  | cons v vs ih => exact fun o w g c t h => (setCell_upd v h).trans (ih (o + 1) _ g _ t (setCell_upd v h).new)
theorem op_store {T o n k : Nat} {x y : Operand} {e : Bk} {cs c' : Array Value} (h : EnvD dq N a l) (hs : St w0 w own ps) (hi : ∃ i, P.info? T = some i ∧ i.size = n) (hx : evl l x = some (.pointer (some ⟨e.g, o, none⟩))) (hy : evl l y = some (.agg cs))
    (hk : own[k]? = some e) (hn : cs.size = n) (ho : o + cs.size ≤ e.c.size) (h1 : cs.toList.all (·.oneCell') = true) (hc : wr o cs.toList e.c = c')
    (hK : ∀ a' w', EnvD dq N a' l → St w0 w' (own.set k ⟨e.g, c', e.t⟩) ps → K a' w') :
    Oper.wp P ⟨none, .store T x y, ty, pos, af, gd⟩ a w K Q := by
  have hg := hs.oat hk
  have ht : w.there e.g o cs.size := fun j hj => ⟨by rw [cell_of_row w _ _ _ _ _ hg]; simp; omega, by simp [World.frozen?, hg]⟩
  obtain ⟨i, hi, hin⟩ := hi
  have hr : (execOp a.eval ⟨none, .store T x y, ty, pos, af, gd⟩).run P w = .ok .skip (w.setCells e.g o cs.toList) := by
    simp only [execOp, h.ev hx, h.ev hy]
    rw [Sem.run_bind, run_storeAt_mid w e.g o T cs ht (by rw [hi, hn]; simp [hin]) (by rw [Array.all_toList] at h1; exact h1)]
    rfl
  unfold Oper.wp
  rw [hr]
  subst hc
  exact hK _ _ (h.put0 _) (hs.upd hk (setCells_upd _ _ _ _ _ _ hg))
theorem op_store1 {T o k : Nat} {x y : Operand} {e : Bk} {v : Value} {c' : Array Value} (h : EnvD dq N a l) (hs : St w0 w own ps) (hi : ∃ i, P.info? T = some i ∧ i.size = 1) (hx : evl l x = some (.pointer (some ⟨e.g, o, none⟩))) (hy : evl l y = some v)
    (hk : own[k]? = some e) (ho : o < e.c.size) (h1 : v.oneCell' = true) (hc : e.c.setIfInBounds o v = c')
    (hK : ∀ a' w', EnvD dq N a' l → St w0 w' (own.set k ⟨e.g, c', e.t⟩) ps → K a' w') :
    Oper.wp P ⟨none, .store T x y, ty, pos, af, gd⟩ a w K Q := by
  have hg := hs.oat hk
  obtain ⟨i, hi, hin⟩ := hi
  have hcl : w.cell? ⟨e.g, o, none⟩ = some e.c[o] := by rw [cell_of_row w _ _ _ _ _ hg]; simp [ho]
  have hf : w.frozen? ⟨e.g, o, none⟩ = false := by simp [World.frozen?, hg]
  have hv : v.cells = #[v] := by cases v <;> simp_all [Value.cells, Value.oneCell']
  have hr : (execOp a.eval ⟨none, .store T x y, ty, pos, af, gd⟩).run P w = .ok .skip (w.setCell ⟨e.g, o, none⟩ v) := by
    simp only [execOp, h.ev hx, h.ev hy, Instr.storeAt, Instr.sureAddr, Sem.run_bind, Sem.run_pure, Result.andThen_ok, storeVar, run_sizeOf ⟨i, hi, hin⟩, hv]
    have h0 : (⟨e.g, o, none⟩ : Addr).add 0 = ⟨e.g, o, none⟩ := by rw [Addr.add_mid]; rfl
    have hst : ((store (⟨e.g, o, none⟩ : Addr) v).run P w) = .ok () (w.setCell ⟨e.g, o, none⟩ v) := by
      cases v <;> simp_all [store, Sem.run, Value.oneCell']
    simp [storeCells, h0, hst]
  unfold Oper.wp
  rw [hr]
  subst hc
  exact hK _ _ (h.put0 _) (hs.upd hk (setCell_upd _ hg))
theorem op_call {f : FuncId} {xs : Array Operand} {Ts : Array TypeId} {vs : Array Value} {R : Ending → World → Prop} (h : EnvD dq N a l) (hd : Nat.blt d N = true)
    (hb : ∀ args w, (callFunc f args).run P w = .ok (.enter f args) w) (hx : xs.toList.map (evl l) = vs.toList.map some) (hc : Calls P f vs w R)
    (hK : ∀ e w', R e w' → ∃ v, e = .returned v ∧ ∀ a', EnvD dq N a' ((d, v) :: l) → K a' w') :
    Oper.wp P ⟨some d, .call ⟨.value (.func f), xs, Ts⟩, ty, pos, af, gd⟩ a w K Q := by
  have he : xs.map a.eval = vs := by
    apply Array.ext'
    rw [Array.toList_map]
    generalize xs.toList = xl at hx ⊢
    generalize vs.toList = vl at hx ⊢
    induction xl generalizing vl with
    | nil => cases vl with
      | nil => rfl
      | cons => simp at hx
    | cons x xl ih => cases vl with
      | nil => simp at hx
      | cons v vl =>
        simp only [List.map_cons, List.cons.injEq] at hx ⊢
        exact ⟨h.ev hx.1, ih vl hx.2⟩
  have hr : (execOp a.eval ⟨some d, .call ⟨.value (.func f), xs, Ts⟩, ty, pos, af, gd⟩).run P w = .ok (.enter f vs) w := by
    have hf : a.eval (.func f) = .func (.func f) #[] #[] := rfl
    simp only [execOp, resolve, he, hf, Sem.run_bind]
    simp [Deferred.ofValue, invoke, hb]
  unfold Oper.wp
  rw [hr]
  show Calls P f vs w _
  refine hc.mono fun e w' hR => ?_
  obtain ⟨v, rfl, hk⟩ := hK e w' hR
  exact hk _ (h.put hd v)
end
end Go.Proofs.YtbdngknpngcojaaDoor

/- A region that draws its order: what yields the same wherever it comes up is taken first. Over any program. No condition. -/
namespace Go.Proofs.YtbdngknpngcojaaDoor
open Go.RowKit Anv
section
variable {P : Program} {ops : Array Oper} {Q : Exit → Act → World → Prop} {S : Nat → World → Prop} {G : World → Prop}
def sAny (P : Program) (ops : Array Oper) (Q : Exit → Act → World → Prop) (S : Nat → World → Prop) : Nat → Array Bool → Act → World → Prop
  | 0, listed, a, w => Region.ready .any ops listed = [] ∧ Q .normal a w
  | fuel + 1, listed, a, w =>
    (Region.ready .any ops listed = [] → Q .normal a w) ∧
    ∀ i ∈ Region.ready .any ops listed, wpOp P ops Q i (fun a' w' => (w' = w ∨ S i w') ∧ sAny P ops Q S fuel (listed.setIfInBounds i true) a' w') a w
theorem sAny_wp : ∀ (fuel : Nat) (listed : Array Bool) (a : Act) (w : World), sAny P ops Q S fuel listed a w → wpAny P .any ops Q fuel listed a w
  | 0, _, _, _, h => h
  | fuel + 1, _, _, _, h => ⟨h.1, fun i hi => wpOp_mono (fun a' w' h' => sAny_wp fuel _ a' w' h'.2) (h.2 i hi)⟩
def Cl (ops : Array Oper) (listed : Array Bool) : Prop := ∀ j oj, listed.getD j false = true → ops[j]? = some oj → ∀ e ∈ oj.after, Region.binds .any e = true → listed.getD e.on false = true
theorem getD_tf {listed : Array Bool} {i : Nat} (h : listed.getD i true = false) : listed.getD i false = false := by
  rcases Nat.lt_or_ge i listed.size with h' | h'
  · simp [h'] at h ⊢; exact h
  · simp [Array.getElem?_eq_none h'] at h
theorem Cl.add {listed : Array Bool} {i : Nat} (h : Cl ops listed) (hi : i ∈ Region.ready .any ops listed) : Cl ops (listed.setIfInBounds i true) := by
  intro j oj hj hoj e he hb
  by_cases hij : i = j
  · subst hij
    obtain ⟨_, o, ho, hall⟩ := mem_ready.1 hi
    rw [ho] at hoj
    cases hoj
    exact getD_set_true (hall e he hb)
  · rw [getD_set_ne false hij] at hj
    exact getD_set_true (h j oj hj hoj e he hb)
def Behind (ops : Array Oper) (i : Nat) (T : List Nat) : Prop := ∀ j ∈ T, ∃ oj, ops[j]? = some oj ∧ ∃ e ∈ oj.after, Region.binds .any e = true ∧ e.on < j ∧ (e.on = i ∨ e.on ∈ T)
theorem Behind.no {i : Nat} {T : List Nat} {listed : Array Bool} (h : Behind ops i T) (hc : Cl ops listed) (hi : listed.getD i false = false) : ∀ n j, j < n → j ∈ T → listed.getD j false = false ∧ j ∉ Region.ready .any ops listed := by
  intro n
  induction n with
  | zero => intro j hj; omega
  | succ n ih =>
    intro j hj hT
    obtain ⟨oj, hoj, e, he, hb, hlt, hor⟩ := h j hT
    have hun : listed.getD e.on false = false := by
      rcases hor with hor | hor
      · rw [hor]; exact hi
      · exact (ih e.on (by omega) hor).1
    refine ⟨?_, fun hr => ?_⟩
    · cases hl : listed.getD j false with
      | false => rfl
      | true => rw [hc j oj hl hoj e he hb] at hun; cases hun
    · obtain ⟨_, o, ho, hall⟩ := mem_ready.1 hr
      rw [ho] at hoj
      cases hoj
      rw [hall e he hb] at hun; cases hun
theorem sAny_first {i : Nat} {oi : Oper} {v : Value} {T : List Nat} (hi : ops[i]? = some oi) (hsel : ∀ (j : Nat) (o : Oper) cs b, ops[j]? = some o → o.op ≠ .select cs b)
    (hQ : ∀ c a w, Q (.panic c) (a.put oi.dst v) w → Q (.panic c) a w) (hT : Behind ops i T) (hG : ∀ j w', j ∉ T → S j w' → G w') :
    ∀ (fuel : Nat) (listed : Array Bool) (a : Act) (w : World), Cl ops listed →
      (∀ j oj, ops[j]? = some oj → j ≠ i → j ∉ T → listed.getD j true = false → oi.apart ops oj = true) →
      i ∈ Region.ready .any ops listed → YieldsIf P ops G oi v a → G w →
      sAny P ops Q S fuel (listed.setIfInBounds i true) (a.put oi.dst v) w → sAny P ops Q S (fuel + 1) listed a w := by
  intro fuel
  induction fuel with
  | zero =>
    intro listed a w _ _ hr hy hS H
    refine ⟨fun h => (by rw [h] at hr; cases hr), fun j hj => ?_⟩
    by_cases hji : j = i
    · subst hji; exact hy.wpOp hi hS ⟨.inl rfl, H⟩
    · have := ready_mono hj hji
      rw [H.1] at this
      cases this
  | succ fuel ih =>
    intro listed a w hcl hfree hr hy hS H
    refine ⟨fun h => (by rw [h] at hr; cases hr), fun j hj => ?_⟩
    by_cases hji : j = i
    · subst hji; exact hy.wpOp hi hS ⟨.inl rfl, H⟩
    · have h1 := H.2 j (ready_mono hj hji)
      obtain ⟨hjun, oj, hoj, _⟩ := mem_ready.1 hj
      have hjT : j ∉ T := fun hm => (hT.no hcl (getD_tf (mem_ready.1 hr).1) (j + 1) j (by omega) hm).2 hj
      have h2 := wpOp_putIf hoj (hfree j oj hoj hji hjT hjun) (fun cs b => hsel i oi cs b hi) (fun cs b => hsel j oj cs b hoj) hQ hy h1
      have hfree' : ∀ k ok, ops[k]? = some ok → k ≠ i → k ∉ T → (listed.setIfInBounds j true).getD k true = false → oi.apart ops ok = true := fun k ok hk hki hkT hun => by
        refine hfree k ok hk hki hkT ?_
        by_cases hjk : j = k
        · subst hjk; exact hjun
        · rw [getD_set_ne true hjk] at hun; exact hun
      refine wpOp_mono (fun a' w' h3 => ⟨h3.2.1, ih (listed.setIfInBounds j true) a' w' (hcl.add hj) hfree' (ready_mono hr (Ne.symm hji)) h3.1 (h3.2.1.elim (fun e => e ▸ hS) (hG j w' hjT)) ?_⟩) h2
      rw [Array.setIfInBounds_comm _ _ hji]
      exact h3.2.2
def behindB (ops : Array Oper) (i : Nat) (T : List Nat) : Bool := T.all fun j => match ops[j]? with
  | none => false
  | some oj => oj.after.any fun e => Region.binds .any e && Nat.blt e.on j && (Nat.beq e.on i || T.contains e.on)
def clB (ops : Array Oper) (listed : Array Bool) : Bool := (List.range ops.size).all fun j => !listed.getD j false || match ops[j]? with
  | none => true
  | some oj => oj.after.all fun e => !Region.binds .any e || listed.getD e.on false
def apartB (ops : Array Oper) (listed : Array Bool) (i : Nat) (T : List Nat) : Bool := match ops[i]? with
  | none => false
  | some oi => (List.range ops.size).all fun j => Nat.beq j i || listed.getD j true || T.contains j || match ops[j]? with
      | some oj => oi.apart ops oj
      | none => true
def takeB (ops : Array Oper) (listed : Array Bool) (i : Nat) (T : List Nat) : Bool :=
  Region.noSelect ops && behindB ops i T && clB ops listed && apartB ops listed i T && (Region.ready .any ops listed).contains i
theorem behindB_spec {i : Nat} {T : List Nat} (h : behindB ops i T = true) : Behind ops i T := by
  intro j hj
  have h1 := List.all_eq_true.1 h j hj
  cases ho : ops[j]? with
  | none => simp [ho] at h1
  | some oj =>
    simp only [ho] at h1
    obtain ⟨e, he, h2⟩ := Array.any_eq_true'.1 h1
    simp only [Bool.and_eq_true, Bool.or_eq_true] at h2
    refine ⟨oj, rfl, e, he, h2.1.1, Nat.le_of_ble_eq_true h2.1.2, ?_⟩
    rcases h2.2 with h3 | h3
    · exact .inl (Nat.eq_of_beq_eq_true h3)
    · exact .inr (by simpa using h3)
theorem clB_spec {listed : Array Bool} (h : clB ops listed = true) : Cl ops listed := by
  intro j oj hl hoj e he hb
  have hlt : j < ops.size := (Array.getElem?_eq_some_iff.1 hoj).1
  have h1 := List.all_eq_true.1 h j (List.mem_range.2 hlt)
  simp only [hl, hoj, Bool.not_true, Bool.false_or] at h1
  have h2 := Array.all_eq_true_iff_forall_mem.1 h1 e he
  simpa [hb] using h2
theorem apartB_spec {listed : Array Bool} {i : Nat} {oi : Oper} {T : List Nat} (hi : ops[i]? = some oi) (h : apartB ops listed i T = true) (j : Nat) (oj : Oper) (hoj : ops[j]? = some oj) (hne : j ≠ i) (hT : j ∉ T) (hun : listed.getD j true = false) : oi.apart ops oj = true := by
  unfold apartB at h
  simp only [hi] at h
  have hlt : j < ops.size := (Array.getElem?_eq_some_iff.1 hoj).1
  have h1 := List.all_eq_true.1 h j (List.mem_range.2 hlt)
  simp only [hoj, hun, Bool.or_eq_true, Bool.or_false] at h1
  rcases h1 with (h1 | h1) | h1
  · exact absurd (Nat.eq_of_beq_eq_true h1) hne
  · exact absurd (by simpa using h1) hT
  · exact h1
theorem sAny_take {N : Nat} {dq : List Deferred} {a : Act} {l : List (Nat × Value)} {w : World} {listed : Array Bool} {fuel i d : Nat} {op : Op} {ty : TypeId} {pos : String} {af : Array Edge} {v : Value} (T : List Nat) (G : World → Prop)
    (hi : ops[i]? = some ⟨some d, op, ty, pos, af, none⟩) (hb : takeB ops listed i T = true) (hQ : ∀ c (a : Act) w, Q (.panic c) (a.put (some d) v) w → Q (.panic c) a w)
    (hG : ∀ j w', j ∉ T → S j w' → G w') (h : EnvD dq N a l) (hd : Nat.blt d N = true) (hGw : G w)
    (hr : ∀ w', G w' → (execOp a.eval ⟨some d, op, ty, pos, af, none⟩).run P w' = .ok (.value v) w')
    (hK : ∀ a', EnvD dq N a' ((d, v) :: l) → sAny P ops Q S fuel (listed.setIfInBounds i true) a' w) : sAny P ops Q S (fuel + 1) listed a w := by
  unfold takeB at hb
  simp only [Bool.and_eq_true] at hb
  obtain ⟨⟨⟨⟨h1, h2⟩, h3⟩, h4⟩, h5⟩ := hb
  exact sAny_first hi (Region.noSelect_spec h1) hQ (behindB_spec h2) hG fuel listed a w (clB_spec h3) (apartB_spec hi h4) (by simpa using h5) (.inl ⟨rfl, hr⟩) hGw (hK _ (h.put hd v))
theorem sAny_takeg {N : Nat} {dq : List Deferred} {a : Act} {l : List (Nat × Value)} {w : World} {listed : Array Bool} {fuel i d g t : Nat} {b : Bool} {og : Oper} {op : Op} {ty : TypeId} {pos : String} {af : Array Edge} {v : Value} (T : List Nat) (G : World → Prop)
    (hi : ops[i]? = some ⟨some d, op, ty, pos, af, some (g, b)⟩) (hb : takeB ops listed i T = true) (hQ : ∀ c (a : Act) w, Q (.panic c) (a.put (some d) v) w → Q (.panic c) a w)
    (hG : ∀ j w', j ∉ T → S j w' → G w') (h : EnvD dq N a l) (hd : Nat.blt d N = true) (hg : ops[g]? = some og) (hgd : og.dst = some t) (hgv : look l t = some (.bool b)) (hGw : G w)
    (hr : ∀ w', G w' → (execOp a.eval ⟨some d, op, ty, pos, af, some (g, b)⟩).run P w' = .ok (.value v) w')
    (hK : ∀ a', EnvD dq N a' ((d, v) :: l) → sAny P ops Q S fuel (listed.setIfInBounds i true) a' w) : sAny P ops Q S (fuel + 1) listed a w := by
  unfold takeB at hb
  simp only [Bool.and_eq_true] at hb
  obtain ⟨⟨⟨⟨h1, h2⟩, h3⟩, h4⟩, h5⟩ := hb
  have hw : Region.wanted ⟨some d, op, ty, pos, af, some (g, b)⟩ (yielded ops a.tmps) = true := by
    have hy : yielded ops a.tmps g = some b := by
      have he := h.at hgv
      simp only [yielded, hg, Option.bind_some, hgd]
      rw [Array.getD_eq_getD_getElem?] at he
      cases ht : a.tmps[t]? with
      | none => rw [ht] at he; simp [undef] at he
      | some x => rw [ht] at he; simp at he; subst he; rfl
    simp [Region.wanted, hy]
  exact sAny_first hi (Region.noSelect_spec h1) hQ (behindB_spec h2) hG fuel listed a w (clB_spec h3) (apartB_spec hi h4) (by simpa using h5) (.inl ⟨hw, hr⟩) hGw (hK _ (h.put hd v))
theorem sAny_skipg {N : Nat} {dq : List Deferred} {a : Act} {l : List (Nat × Value)} {w : World} {listed : Array Bool} {fuel i d g t : Nat} {b : Bool} {u : Value} {og : Oper} {op : Op} {ty : TypeId} {pos : String} {af : Array Edge} (T : List Nat)
    (hi : ops[i]? = some ⟨some d, op, ty, pos, af, some (g, b)⟩) (hb : takeB ops listed i T = true) (hQ : ∀ c (a : Act) w, Q (.panic c) (a.put (some d) undef) w → Q (.panic c) a w)
    (h : EnvD dq N a l) (hd : Nat.blt d N = true) (hg : ops[g]? = some og) (hgd : og.dst = some t) (hgv : look l t = some u) (hbc : isB u b = false)
    (hK : ∀ a', EnvD dq N a' ((d, undef) :: l) → sAny P ops Q S fuel (listed.setIfInBounds i true) a' w) : sAny P ops Q S (fuel + 1) listed a w := by
  unfold takeB at hb
  simp only [Bool.and_eq_true] at hb
  obtain ⟨⟨⟨⟨h1, h2⟩, h3⟩, h4⟩, h5⟩ := hb
  exact sAny_first (G := fun _ => True) hi (Region.noSelect_spec h1) hQ (behindB_spec h2) (fun _ _ _ _ => trivial) fuel listed a w (clB_spec h3) (apartB_spec hi h4) (by simpa using h5) (.inr ⟨not_wanted hg h hgd hgv hbc, rfl⟩) trivial (hK _ (h.put hd undef))
theorem sAny_one {a : Act} {w : World} {listed : Array Bool} {fuel i : Nat} {o : Oper} (hr : Region.ready .any ops listed = [i]) (hi : ops[i]? = some o) (hg : o.guard = none)
    (h : o.wp P a w (fun a' w' => (w' = w ∨ S i w') ∧ sAny P ops Q S fuel (listed.setIfInBounds i true) a' w') Q) : sAny P ops Q S (fuel + 1) listed a w := by
  refine ⟨fun h0 => (by rw [hr] at h0; cases h0), fun j hj => ?_⟩
  rw [hr] at hj
  obtain rfl : j = i := by simpa using hj
  unfold wpOp
  simp only [hi, Region.wanted, hg, if_true]
  exact .inl h
theorem sAny_done {a : Act} {w : World} {listed : Array Bool} (hr : Region.ready .any ops listed = []) (h : Q .normal a w) : ∀ fuel, sAny P ops Q S fuel listed a w
  | 0 => ⟨hr, h⟩
  | _ + 1 => ⟨fun _ => h, by rw [hr]; simp⟩
def Kn (w : World) (l : List Bk) (ps : List PF) : Prop := (∀ e ∈ l, w.heap[e.g]? = some (.cells e.c e.t (0, 0))) ∧ ∀ p ∈ ps, p.P w
section
variable {w w0 : World} {own : List Bk} {ps : List PF} {k : Nat} {e : Bk} {p : PF}
theorem St.kn (h : St w0 w own ps) : Kn w own ps := ⟨fun e he => (h.mine e he).2, h.pers⟩
theorem Kn.oat (h : Kn w own ps) (hk : own[k]? = some e) : w.heap[e.g]? = some (.cells e.c e.t (0, 0)) := h.1 e (List.mem_of_getElem? hk)
theorem Kn.pat (h : Kn w own ps) (hk : ps[k]? = some p) : p.P w := h.2 p (List.mem_of_getElem? hk)
theorem Kn.pick (h : Kn w own ps) (is js : List Nat) : Kn w (is.filterMap (own[·]?)) (js.filterMap (ps[·]?)) :=
  ⟨fun e he => by obtain ⟨i, _, hi⟩ := List.mem_filterMap.1 he; exact h.oat hi, fun p hp => by obtain ⟨i, _, hi⟩ := List.mem_filterMap.1 hp; exact h.pat hi⟩
end
def Sk (l1 : List Bk) (ps : List PF) (Z : List Nat) (l2 : List Bk) (j : Nat) (w : World) : Prop := Kn w l1 ps ∧ (Z.contains j = true ∨ Kn w l2 [])
theorem Sk.two {l1 : List Bk} {ps : List PF} {Z : List Nat} {l2 : List Bk} {j : Nat} {w : World} {T : List Nat} (h : Sk l1 ps Z l2 j w) (hz : (Z.all fun j => T.contains j) = true) (hj : j ∉ T) : Kn w l2 [] := by
  rcases h.2 with h | h
  · have h1 : j ∈ Z := by simpa using h
    exact absurd (by simpa using List.all_eq_true.1 hz j h1) hj
  · exact h
theorem region_any {id n : Nat} {N : Nat} {dq : List Deferred} {a : Act} {w w0 : World} {own : List Bk} {ps : List PF} {l : List (Nat × Value)} (S : Nat → World → Prop) (hm : P.follows .mixedOrders = true) (hn : ops.size = n) (he : EnvD dq N a l) (hs : St w0 w own ps)
    (h : ∀ w', EnvD dq N a l → St w0 w' own ps → sAny P ops Q S n (Array.replicate n false) a w') : (Code.region id ops true).wp P Q a w := by
  subst hn
  exact wp_region_any hm (sAny_wp _ _ _ _ (h _ he hs.drew))
end
end Go.Proofs.YtbdngknpngcojaaDoor
