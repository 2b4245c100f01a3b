/- Ranges over functions: the wide fence in a round and out of one; the statement's rule; how a function that holds one is left. Over any program. No condition. -/
import Derived.Test.YtbdngknpngcojaaDoorM33
import Derived.RangeFuncNested
import Derived.RangeFuncBound
import Derived.RangeFuncCalls
import Derived.RangeFuncLeaves
import Derived.Deep.LoopGhost
import Derived.Test.YtbdngknpngcojaaDoorM12
import Derived.Test.YtbdngknpngcojaaDoorM9
import Derived.Test.YtbdngknpngcojaaDoorM27

namespace Go.Proofs.YtbdngknpngcojaaDoor.W
open Go.RowKit Anv Go.Lib
def WF (ro : Option Nat) : Fence := { Fence.wide with round := ro }
section
variable {P : Program} {ro : Option Nat} {m : Nat} {K : Act → World → Prop} {Q : Exit → Act → World → Prop} {R : Ending → World → Prop} {N : Nat} {dq : List Deferred} {a : Act} {l : List (Nat × Value)} {w w0 : World} {own ps : List PF}
variable {d : Nat} {ty : TypeId} {pos : String} {af : Array Edge} {gd : Option (Nat × Bool)} {ops : Array Oper} {rest : List Oper} {o : Oper} {fn : Func} {c x y : Code}
theorem callsIn_of {f : FuncId} {args : Array Value} (h : Calls P f args w R) : CallsIn (WF ro) m P f args w R := (callsIn_wide (n := m)).2 h
theorem rowsIn_of {row : String} {args : Array Value} {R : Value → World → Prop} (h : Rows P row args w R) : RowsIn (WF ro) m P row args w R := fun c cs _ =>
  let ⟨v, w', r, s⟩ := h c cs
  ⟨v, w', r, stepsIn_wide.2 s⟩
theorem oper_in (hnd : ∀ c, o.op ≠ .defer c) (h : Oper.wp P o a w K Q) : Oper.wpIn (WF ro) m P o a w K Q := by
  refine ⟨fun _ _ => trivial, ?_⟩
  rw [Oper.semAt_eq _ _ _ hnd]
  unfold Oper.wp at h
  revert h
  generalize (execOp a.eval o).run P w = r
  intro h
  match r, h with
  | .ok (.value v) w', h => exact h
  | .ok .skip w', h => exact h
  | .ok (.defer d) w', h => exact h
  | .ok (.enter f args) w', h => exact ⟨fun hd => (by cases hd), callsIn_of h⟩
  | .ok (.row row args) w', h => exact ⟨fun hd => (by cases hd), rowsIn_of h⟩
  | .halt (.panic v) w', h => exact h
theorem in_step (hg : o.guard = none) (hnd : ∀ c, o.op ≠ .defer c) (h : o.wp P a w (wpListIn (WF ro) m P ops Q rest) Q) : wpListIn (WF ro) m P ops Q (o :: rest) a w := by
  unfold wpListIn
  rw [if_pos (by simp [Region.wanted, hg])]
  exact oper_in hnd h
theorem in_stepY (hg : o.guard = none) (h : o.wpIn (WF ro) m P a w (wpListIn (WF ro) m P ops Q rest) Q) : wpListIn (WF ro) m P ops Q (o :: rest) a w := by
  unfold wpListIn
  rw [if_pos (by simp [Region.wanted, hg])]
  exact h
theorem in_skip {g t : Nat} {b : Bool} {u : Value} {op : Op} {og : Oper} (hg : ops[g]? = some og) (h : EnvD dq N a l) (hgd : og.dst = some t) (hgv : look l t = some u) (hd : Nat.blt d N = true) (hbc : isB u b = false)
    (hK : ∀ a', EnvD dq N a' ((d, undef) :: l) → wpListIn (WF ro) m P ops Q rest a' w) : wpListIn (WF ro) m P ops Q (⟨some d, op, ty, pos, af, some (g, b)⟩ :: rest) a w := by
  unfold wpListIn
  rw [if_neg (by rw [not_wanted hg h hgd hgv hbc]; decide)]
  exact ⟨fun _ _ => trivial, hK _ (h.put hd undef)⟩
theorem in_g {g t : Nat} {b : Bool} {op : Op} {og : Oper} {dd : Option Nat} (hg : ops[g]? = some og) (h : EnvD dq N a l) (hgd : og.dst = some t) (hgv : look l t = some (.bool b)) (hnd : ∀ c, op ≠ .defer c)
    (hK : Oper.wp P ⟨dd, op, ty, pos, af, some (g, b)⟩ a w (wpListIn (WF ro) m P ops Q rest) Q) : wpListIn (WF ro) m P ops Q (⟨dd, op, ty, pos, af, some (g, b)⟩ :: rest) a w := by
  have hy : yielded ops a.tmps g = some b := by
    have he := h.at hgv
    simp only [yielded, hg, Option.bind_some, hgd]
    rw [Array.getD_eq_getD_getElem?] at he
    cases ht : a.tmps[t]? with
    | none => rw [ht] at he; simp [undef] at he
    | some x => rw [ht] at he; simp at he; subst he; rfl
  unfold wpListIn
  rw [if_pos (by simp [Region.wanted, hy])]
  exact oper_in hnd hK
theorem in_nil (h : Q .normal a w) : wpListIn (WF ro) m P ops Q [] a w := h
theorem region_in {id : Nat} {ops : List Oper} (h : wpListIn (WF ro) m P ops.toArray Q ops a w) : (Code.region id ops.toArray false).wpIn (WF ro) m P Q a w := wpIn_region_lit h
theorem region_y {id : Nat} {ops : List Oper} (m : Nat) (h : wpListIn (WF none) m P ops.toArray Q ops a w) : (Code.region id ops.toArray false).wp P Q a w := (wpIn_wide (n := m)).1 (wpIn_region_lit h)
theorem if_splitIn {z : Operand} {b : Bool} (h : EnvD dq N a l) (hz : evl l z = some (.bool b)) (ht : b = true → x.wpIn (WF ro) m P Q a w) (hf : b = false → y.wpIn (WF ro) m P Q a w) : (Code.cond z x y).wpIn (WF ro) m P Q a w := wpIn_cond_split (h.ev hz) ht hf
theorem if_tIn {z : Operand} {b : Bool} (h : EnvD dq N a l) (hz : evl l z = some (.bool b)) (hb : b = true) (ht : x.wpIn (WF ro) m P Q a w) : (Code.cond z x y).wpIn (WF ro) m P Q a w := wpIn_cond_true (hb ▸ h.ev hz) ht
theorem if_fIn {z : Operand} {b : Bool} (h : EnvD dq N a l) (hz : evl l z = some (.bool b)) (hb : b = false) (ht : y.wpIn (WF ro) m P Q a w) : (Code.cond z x y).wpIn (WF ro) m P Q a w := wpIn_cond_false (hb ▸ h.ev hz) ht
theorem env_par (h : EnvD dq N a l) {p : Nat} (v : Value) (hp : Nat.blt p N = true) : EnvD [] N { tmps := a.tmps.setIfInBounds p v, defers := [] } ((p, v) :: l) := by
  have := h.put hp v
  exact ⟨this.size, rfl, this.get⟩
theorem env_done (h : EnvD dq N a l) (d : Deferred) : EnvD (d :: dq) N { a with defers := d :: a.defers } l := ⟨h.size, by rw [← h.defers], h.get⟩
def CellsF (e : PF) : Prop := ∀ (w : World) (b : Nat), e.P w → e.foot b → ∃ o, w.heap[b]? = some o ∧ o.isCells = true
def CellsFs : List PF → Prop
  | [] => True
  | e :: l => CellsF e ∧ CellsFs l
theorem CellsFs.at : ∀ {l : List PF}, CellsFs l → ∀ e ∈ l, CellsF e
  | e :: l, h, f, hf => by
    rcases List.mem_cons.1 hf with rfl | hf
    · exact h.1
    · exact CellsFs.at h.2 f hf
theorem cf_bk {g : Nat} {c : Array Value} {t : TypeId} : CellsF (bk g c t) := fun w b h hf => by
  obtain rfl : b = g := hf
  exact ⟨_, h, rfl⟩
theorem own_keep {B : Nat} {e : PF} (he : CellsF e) {W W' : World} {row : Option Nat} (hs : e.P W) (hg : W.grownBy W' row) (hr : ∀ r, row = some r → B ≤ r ∧ ∃ o : Obj, W.heap[r]? = some o ∧ o.isCells = false) : e.P W' :=
  e.keep hs hg.size fun b hb => hg.block b (e.lt hs hb) fun h => by
    obtain ⟨_, o, ho, hc⟩ := hr b h.symm
    obtain ⟨o', ho', hc'⟩ := he W b hs hb
    rw [ho] at ho'
    cases ho'
    rw [hc] at hc'
    cases hc'
theorem St.grown {B : Nat} {W W' : World} {row : Option Nat} (h : St w0 W own ps) (hB : w0.heap.size ≤ B) (hc : CellsFs own) (hp : CellsFs ps) (hg : W.grownBy W' row) (hr : ∀ r, row = some r → B ≤ r ∧ ∃ o : Obj, W.heap[r]? = some o ∧ o.isCells = false) : St w0 W' own ps :=
  ⟨⟨hg.os.trans h.below.os, hg.tape.trans h.below.tape, hg.output.trans h.below.output, Nat.le_trans h.below.size hg.size, fun i hi => (hg.block i (Nat.lt_of_lt_of_le hi h.below.size) fun e => by
      have := (hr i e.symm).1
      omega).trans (h.below.block i hi)⟩,
    fun e he => own_keep (hc.at e he) (h.mine e he) hg hr, h.new, h.nd, fun p hp' => own_keep (hp.at p hp') (h.pers p hp') hg hr, h.apart⟩
def koF (W : World) : PF :=
  ⟨fun w => W.heap.size ≤ w.heap.size ∧ ∀ (b : Nat) (o : Obj), W.heap[b]? = some o → o.isCells = false → w.heap[b]? = some o, fun b => ∃ o : Obj, W.heap[b]? = some o ∧ o.isCells = false,
    fun h hb => by
      obtain ⟨o, ho, hc⟩ := hb
      exact lt_of_block (h.2 _ o ho hc),
    fun h hs hk => ⟨Nat.le_trans h.1 hs, fun b o hb ho => (hk b ⟨o, hb, ho⟩).trans (h.2 b o hb ho)⟩⟩
theorem St.addKO (h : St w0 w own ps) (hc : CellsFs own) : St w0 w own (koF w :: ps) :=
  h.addP (koF w) ⟨Nat.le_refl _, fun _ _ h _ => h⟩ fun e he b hb hk => by
    obtain ⟨o, ho, hco⟩ := hk
    obtain ⟨o', ho', hc'⟩ := hc.at e he w b (h.mine e he) hb
    rw [ho] at ho'
    cases ho'
    rw [hco] at hc'
    cases hc'
def defF (D : Nat) : PF :=
  ⟨fun w => w.heap[D]? = some (.deferred (some [])), fun b => b = D, fun h e => e ▸ lt_of_block h, fun h _ hk => (hk D rfl).trans h⟩
theorem St.addD {D : Nat} (h : St w0 w own ps) (hc : CellsFs own) (hD : w.heap[D]? = some (.deferred (some []))) : St w0 w own (defF D :: ps) :=
  h.addP (defF D) hD fun e he b hb hk => by
    obtain rfl : b = D := hk
    obtain ⟨o', ho', hc'⟩ := hc.at e he w b (h.mine e he) hb
    rw [hD] at ho'
    cases ho'
    cases hc'
theorem enterM {f : FuncId} {args : Array Value} (hf : P.funcs[f]? = some fn) (hb : fn.body = some c) (hn : fn.ntmps = N) (hz : Nat.ble args.size N = true)
    (h : ∀ a, Env N a (ini 0 args.toList) → St w w [] [] → c.wp P (bodyPostM Fence.wide 9 P fn R) a w) : Calls P f args w R := by
  refine (callsIn_wide (n := 9)).1 (callsIn_of_wp_marks hf hb trivial ((wpIn_wide (n := 9)).2 (h _ ⟨?_, rfl, fun t v hv => ?_⟩ (St.start w))))
  · have := Nat.le_of_ble_eq_true hz
    simp; omega
  · have := (look_ini _ _ _ _ hv).2
    have hlt : t < args.size := by
      rcases Nat.lt_or_ge t args.size with h | h
      · exact h
      · rw [Nat.sub_zero, List.getElem?_eq_none (by simpa using h)] at this; cases this
    rw [Array.getD_eq_getD_getElem?, Array.getElem?_append_left hlt]
    simp at this
    simp [this]
theorem leaveM {v : Value} (h : EnvD [] N a l) (hr : (results fn a.tmps).run P w = .ok v w) (hR : R (.returned v) w) : bodyPostM Fence.wide 9 P fn R .ret a w := by
  show LeavesInM _ _ _ _ _ _ a.defers _ _
  rw [h.defers]
  exact ⟨v, hr, hR⟩
theorem leaveM1 {v : Value} {D : Nat} (h : EnvD [{ target := .collected D, args := #[] }] N a l) (hD : w.heap[D]? = some (.deferred (some []))) (hr : (results fn a.tmps).run P (w.putObj D (.deferred none)) = .ok v (w.putObj D (.deferred none)))
    (hR : R (.returned v) (w.putObj D (.deferred none))) : bodyPostM Fence.wide 9 P fn R .ret a w := by
  show LeavesInM _ _ _ _ _ _ a.defers _ _
  rw [h.defers]
  exact ⟨by simp, .inl ⟨_, _, rfl, run_takeDeferred hD, v, hr, hR⟩⟩
theorem leaveM2 {v : Value} {D E : Nat} (h : EnvD [{ target := .collected D, args := #[] }, { target := .collected E, args := #[] }] N a l) (hD : w.heap[D]? = some (.deferred (some []))) (hE : (w.putObj D (.deferred none)).heap[E]? = some (.deferred (some [])))
    (hr : (results fn a.tmps).run P ((w.putObj D (.deferred none)).putObj E (.deferred none)) = .ok v ((w.putObj D (.deferred none)).putObj E (.deferred none)))
    (hR : R (.returned v) ((w.putObj D (.deferred none)).putObj E (.deferred none))) : bodyPostM Fence.wide 9 P fn R .ret a w := by
  show LeavesInM _ _ _ _ _ _ a.defers _ _
  rw [h.defers]
  exact ⟨by simp, .inl ⟨_, _, rfl, run_takeDeferred hD, by simp, .inl ⟨_, _, rfl, run_takeDeferred hE, v, hr, hR⟩⟩⟩
end
end Go.Proofs.YtbdngknpngcojaaDoor.W

/- Rows that grow, of which also the spare room is known: every cell of the block meets q. Over any program. No condition. -/
namespace Go.Proofs.YtbdngknpngcojaaDoor.W
open Go.RowKit Anv Go.Lib
def SpareQ (q : Value → Bool) (w : World) (E : TypeId) (v : Value) : Prop := ∀ g, v.ownBlock = some g → ∃ cur, w.heap[g]? = some (.cells cur E (0, 0)) ∧ cur.toList.all q = true
def rowG (q : Value → Bool) (E z : Nat) (v : Value) (n : Nat) (vs : List Value) : PF :=
  ⟨fun w => w.ownsRow 0 E z v n vs ∧ SpareQ q w E v, fun b => v.ownBlock = some b, fun h hb => (h.1.lt _ hb).2, fun {w w'} h hs hk => by
    refine ⟨(rowF E z v n vs).keep h.1 hs hk, fun g hg => ?_⟩
    obtain ⟨cur, hc, hq⟩ := h.2 g hg
    exact ⟨cur, (hk g hg).trans hc, hq⟩⟩
section
variable {P : Program} {K : Act → World → Prop} {Q : Exit → Act → World → Prop} {N : Nat} {dq : List Deferred} {a : Act} {l : List (Nat × Value)} {w w0 : World} {own ps : List PF}
variable {d : Nat} {ty : TypeId} {pos : String} {af : Array Edge} {gd : Option (Nat × Bool)}
end
end Go.Proofs.YtbdngknpngcojaaDoor.W

/- limb.Digits's iterator: the digits of a number's text, one by one. No condition. -/
namespace Go.Proofs.YtbdngknpngcojaaDoor.W
open Go.RowKit Anv Go.Lib
def dgt (c : UInt8) : Fin 10 := ⟨(c.toNat - 48) % 10, Nat.mod_lt _ (by decide)⟩
def dgs (s : List UInt8) : List (Fin 10) := s.map dgt
section
variable {P : Program} {K : Act → World → Prop} {Q : Exit → Act → World → Prop} {N : Nat} {dq : List Deferred} {a : Act} {l : List (Nat × Value)} {w : World}
variable {d : Nat} {ty : TypeId} {pos : String} {af : Array Edge} {gd : Option (Nat × Bool)}
end
end Go.Proofs.YtbdngknpngcojaaDoor.W

/- limb.Digits, and a number's text. Printed by pv/gen_itext.py. No condition. -/
namespace Go.Proofs.YtbdngknpngcojaaDoor.W
open Go.RowKit Anv Go.Lib
def textZ (z : Int) : List UInt8 := (if neg z then [45] else []) ++ textN z.natAbs
section
variable {P : Program} {N : Nat} {dq : List Deferred} {a : Act} {l : List (Nat × Value)} {w : World} {d : Nat} {ty : TypeId} {pos : String} {af : Array Edge} {gd : Option (Nat × Bool)}
end
end Go.Proofs.YtbdngknpngcojaaDoor.W
