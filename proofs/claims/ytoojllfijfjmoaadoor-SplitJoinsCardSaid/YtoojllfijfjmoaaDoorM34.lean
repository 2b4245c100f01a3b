/- Ranges over functions: the wide fence in a round and out of one; the statement's rule; how a function that holds one is left. Over any program. No condition. -/
import Derived.Test.YtoojllfijfjmoaaDoorM33
import Derived.RangeFuncNested
import Derived.RangeFuncBound
import Derived.RangeFuncCalls
import Derived.RangeFuncLeaves
import Derived.Deep.LoopGhost
import Derived.Test.YtoojllfijfjmoaaDoorM12
import Derived.Test.YtoojllfijfjmoaaDoorM9
import Derived.Test.YtoojllfijfjmoaaDoorM27

namespace Go.Proofs.YtoojllfijfjmoaaDoor.W
open Go.RowKit Anv Go.Lib
def WF (ro : Option Nat) : Fence := { Fence.wide with round := ro }
section
variable {P : Program} {ro : Option Nat} {m : Nat} {K : Act → World → Prop} {Q : Exit → Act → World → Prop} {R : Ending → World → Prop} {N : Nat} {dq : List Deferred} {a : Act} {l : List (Nat × Value)} {w w0 : World} {own ps : List PF}
variable {d : Nat} {ty : TypeId} {pos : String} {af : Array Edge} {gd : Option (Nat × Bool)} {ops : Array Oper} {rest : List Oper} {o : Oper} {fn : Func} {c x y : Code}
theorem callsIn_of {f : FuncId} {args : Array Value} (h : Calls P f args w R) : CallsIn (WF ro) m P f args w R := (callsIn_wide (n := m)).2 h
theorem rowsIn_of {row : String} {args : Array Value} {R : Value → World → Prop} (h : Rows P row args w R) : RowsIn (WF ro) m P row args w R := fun c cs _ =>
  let ⟨v, w', r, s⟩ := h c cs
  ⟨v, w', r, stepsIn_wide.2 s⟩
theorem oper_in (hnd : ∀ c, o.op ≠ .defer c) (h : Oper.wp P o a w K Q) : Oper.wpIn (WF ro) m P o a w K Q := by
  refine ⟨fun _ _ => trivial, ?_⟩
  rw [Oper.semAt_eq _ _ _ hnd]
  unfold Oper.wp at h
  revert h
  generalize (execOp a.eval o).run P w = r
  intro h
  match r, h with
  | .ok (.value v) w', h => exact h
  | .ok .skip w', h => exact h
  | .ok (.defer d) w', h => exact h
  | .ok (.enter f args) w', h => exact ⟨fun hd => (by cases hd), callsIn_of h⟩
  | .ok (.row row args) w', h => exact ⟨fun hd => (by cases hd), rowsIn_of h⟩
  | .halt (.panic v) w', h => exact h
theorem in_step (hg : o.guard = none) (hnd : ∀ c, o.op ≠ .defer c) (h : o.wp P a w (wpListIn (WF ro) m P ops Q rest) Q) : wpListIn (WF ro) m P ops Q (o :: rest) a w := by
  unfold wpListIn
  rw [if_pos (by simp [Region.wanted, hg])]
  exact oper_in hnd h
theorem in_stepY (hg : o.guard = none) (h : o.wpIn (WF ro) m P a w (wpListIn (WF ro) m P ops Q rest) Q) : wpListIn (WF ro) m P ops Q (o :: rest) a w := by
  unfold wpListIn
  rw [if_pos (by simp [Region.wanted, hg])]
  exact h
theorem in_nil (h : Q .normal a w) : wpListIn (WF ro) m P ops Q [] a w := h
theorem region_in {id : Nat} {ops : List Oper} (h : wpListIn (WF ro) m P ops.toArray Q ops a w) : (Code.region id ops.toArray false).wpIn (WF ro) m P Q a w := wpIn_region_lit h
theorem region_y {id : Nat} {ops : List Oper} (m : Nat) (h : wpListIn (WF none) m P ops.toArray Q ops a w) : (Code.region id ops.toArray false).wp P Q a w := (wpIn_wide (n := m)).1 (wpIn_region_lit h)
theorem op_yield {z : Operand} {xs : Array Operand} {Ts : Array TypeId} {vs : Array Value} {l0 : Nat} {R : Ending → World → Prop} (h : EnvD dq N a l) (hd : Nat.blt d N = true) (hz : evl l z = some (.func (.yield l0) #[] #[]))
    (hx : xs.toList.map (evl l) = vs.toList.map some) (hY : YieldAt (WF none) (m - 1) P l0 vs w R)
    (hK : ∀ e w', R e w' → ∃ v, e = .returned v ∧ ∀ a', EnvD dq N a' ((d, v) :: l) → K a' w') :
    Oper.wpIn (WF none) m P ⟨some d, .call ⟨.value z, xs, Ts⟩, ty, pos, af, gd⟩ a w K Q := by
  have he : xs.map a.eval = vs := by
    apply Array.ext'
    rw [Array.toList_map]
    generalize xs.toList = xl at hx ⊢
    generalize vs.toList = vl at hx ⊢
    induction xl generalizing vl with
    | nil => cases vl with
      | nil => rfl
      | cons => simp at hx
    | cons x xl ih => cases vl with
      | nil => simp at hx
      | cons v vl =>
        simp only [List.map_cons, List.cons.injEq] at hx ⊢
        exact ⟨h.ev hx.1, ih vl hx.2⟩
  obtain ⟨fn, tmps, assign, body, hy, hR⟩ := hY
  have hv := h.ev hz
  have hr : (execOp a.eval ⟨some d, .call ⟨.value z, xs, Ts⟩, ty, pos, af, gd⟩).run P w = .ok (.round l0 fn tmps assign body) w := by
    simp [execOp, resolve, invoke, Deferred.ofValue, hv, he, hy]
  refine ⟨fun _ _ => trivial, ?_⟩
  have e0 : Oper.semAt (WF none).round a.eval ⟨some d, .call ⟨.value z, xs, Ts⟩, ty, pos, af, gd⟩ = execOp a.eval ⟨some d, .call ⟨.value z, xs, Ts⟩, ty, pos, af, gd⟩ := Oper.semAt_eq _ _ _ fun _ h => by cases h
  rw [e0, hr]
  refine ⟨fun hd => (by cases hd), hR.mono fun e w' he => ?_⟩
  obtain ⟨v, rfl, hv'⟩ := hK e w' he
  exact hv' _ (h.put hd v)
theorem env_par (h : EnvD dq N a l) {p : Nat} (v : Value) (hp : Nat.blt p N = true) : EnvD [] N { tmps := a.tmps.setIfInBounds p v, defers := [] } ((p, v) :: l) := by
  have := h.put hp v
  exact ⟨this.size, rfl, this.get⟩
theorem env_done (h : EnvD dq N a l) (d : Deferred) : EnvD (d :: dq) N { a with defers := d :: a.defers } l := ⟨h.size, by rw [← h.defers], h.get⟩
theorem wp_range1 {α : Type} {g : Operand} {p gf : Nat} {lb : Array Value} {assign body : Code} {enc : α → Value} {Kp : World → World → Prop} {S Sp : List α → Prop} {Nn : Nat} (h : EnvD dq N a l)
    (hg : evl l g = some (.func (.func gf) #[] lb)) (eg : ∀ args w, (callFunc gf args).run P w = .ok (.enter gf args) w) (hp : Nat.blt p N = true)
    (hseq : SeqStopsK (WF none) 8 P gf lb (fun x => #[enc x]) Kp S Sp Nn w)
    (hKt : ∀ {A B C : World}, Kp A B → Kp B C → Kp A C) (hKb : ∀ (W : World) (l : Nat) (o o' : Obj), w.heap.size ≤ l → W.heap[l]? = some o → o.isCells = false → o.isWalk = false → Kp W (W.putObj l o'))
    (I : List α → World → Prop) (Ix : Code → List α → World → Prop) (hI : OwnFrom w.heap.size I) (hIx : ∀ c, OwnFrom w.heap.size (Ix c)) (h0 : I [] w) (lx : α → List (Nat × Value))
    (hassign : ∀ (i : Nat) (pre : List α) (x : α) (W : World) (K : Act → World → Prop), I pre W → (∀ a', EnvD [] N a' (lx x) → K a' W) → ∀ a, EnvD [] N a ((p, enc x) :: l) → assign.wpIn (WF (some i)) 7 P (Exit.then K (fun _ _ _ => False)) a W)
    (hKr : ∀ W, Kp W W)
    (hbody : ∀ (i : Nat) (pre : List α) (x : α) (a : Act) (W : World), I pre W → EnvD [] N a (lx x) → pre.length < Nn → body.wpIn (WF (some i)) 7 P (ownPostG w.heap.size Kp I Ix (pre ++ [x]) W) a W)
    (hdone : ∀ (D : Nat) (xs : List α) (W : World) (a : Act), w.heap.size ≤ D → S xs → I xs W → W.heap[D]? = some (.deferred (some [])) → EnvD ({ target := .collected D, args := #[] } :: dq) N a l → Q .normal a W)
    (hstop : ∀ (D : Nat) (c : Code) (pre : List α) (W : World) (a : Act), w.heap.size ≤ D → Sp pre → Ix c pre W → W.heap[D]? = some (.deferred (some [])) → EnvD ({ target := .collected D, args := #[] } :: dq) N a l → c.wp P Q a W) :
    (Code.rangeFunc g #[p] assign body).wp P Q a w := by
  refine (wpIn_wide (n := 9)).1 (wpIn_rangeFunc_ownH (F := Fence.wide) (n := 9) rfl (by omega) (h.ev hg) trivial eg hseq hKt hKb (Below.refl _ _) (fun _ => rfl) I Ix hI hIx h0 (fun x a' _ => EnvD [] N a' (lx x)) (fun x a' _ _ _ _ h _ _ => h) ?_ ?_ ?_ ?_)
  · intro i pre x W K hi hK
    have e : (#[p].zip #[enc x]).foldl (fun t (p, v) => t.setIfInBounds p v) a.tmps = a.tmps.setIfInBounds p (enc x) := by simp
    rw [e]
    exact hassign i pre x W K hi (fun a' h' => hK a' W (KeepsFrom.refl _ _) (hKr W) hi h') _ (env_par h _ hp)
  · intro i pre x a' W _ _ hi ha hlt
    exact hbody i pre x a' W hi ha hlt
  · intro D xs W hD hS hi hk
    exact hdone D xs W _ hD hS hi hk (env_done h _)
  · intro D c pre W hD hS hi hk
    exact (wpIn_wide (n := 9)).2 (hstop D c pre W _ hD hS hi hk (env_done h _))
def CellsF (e : PF) : Prop := ∀ (w : World) (b : Nat), e.P w → e.foot b → ∃ o, w.heap[b]? = some o ∧ o.isCells = true
def CellsFs : List PF → Prop
  | [] => True
  | e :: l => CellsF e ∧ CellsFs l
theorem CellsFs.at : ∀ {l : List PF}, CellsFs l → ∀ e ∈ l, CellsF e
  | e :: l, h, f, hf => by
    rcases List.mem_cons.1 hf with rfl | hf
    · exact h.1
    · exact CellsFs.at h.2 f hf
theorem cf_bk {g : Nat} {c : Array Value} {t : TypeId} : CellsF (bk g c t) := fun w b h hf => by
  obtain rfl : b = g := hf
  exact ⟨_, h, rfl⟩
theorem cf_row {E z n : Nat} {v : Value} {vs : List Value} : CellsF (rowF E z v n vs) := fun w b h hf => by
  have hf' : v.ownBlock = some b := hf
  rcases h.2 with hn | ⟨g, cap, cur, rfl, h0, hg, rest⟩
  · rw [hn.1] at hf'; simp [Value.ownBlock] at hf'
  · obtain rfl : g = b := by simpa [Value.ownBlock] using hf'
    exact ⟨_, hg, rfl⟩
theorem own_keep {B : Nat} {e : PF} (he : CellsF e) {W W' : World} {row : Option Nat} (hs : e.P W) (hg : W.grownBy W' row) (hr : ∀ r, row = some r → B ≤ r ∧ ∃ o : Obj, W.heap[r]? = some o ∧ o.isCells = false) : e.P W' :=
  e.keep hs hg.size fun b hb => hg.block b (e.lt hs hb) fun h => by
    obtain ⟨_, o, ho, hc⟩ := hr b h.symm
    obtain ⟨o', ho', hc'⟩ := he W b hs hb
    rw [ho] at ho'
    cases ho'
    rw [hc] at hc'
    cases hc'
theorem St.grown {B : Nat} {W W' : World} {row : Option Nat} (h : St w0 W own ps) (hB : w0.heap.size ≤ B) (hc : CellsFs own) (hp : CellsFs ps) (hg : W.grownBy W' row) (hr : ∀ r, row = some r → B ≤ r ∧ ∃ o : Obj, W.heap[r]? = some o ∧ o.isCells = false) : St w0 W' own ps :=
  ⟨⟨hg.os.trans h.below.os, hg.tape.trans h.below.tape, hg.output.trans h.below.output, Nat.le_trans h.below.size hg.size, fun i hi => (hg.block i (Nat.lt_of_lt_of_le hi h.below.size) fun e => by
      have := (hr i e.symm).1
      omega).trans (h.below.block i hi)⟩,
    fun e he => own_keep (hc.at e he) (h.mine e he) hg hr, h.new, h.nd, fun p hp' => own_keep (hp.at p hp') (h.pers p hp') hg hr, h.apart⟩
def koF (W : World) : PF :=
  ⟨fun w => W.heap.size ≤ w.heap.size ∧ ∀ (b : Nat) (o : Obj), W.heap[b]? = some o → o.isCells = false → w.heap[b]? = some o, fun b => ∃ o : Obj, W.heap[b]? = some o ∧ o.isCells = false,
    fun h hb => by
      obtain ⟨o, ho, hc⟩ := hb
      exact lt_of_block (h.2 _ o ho hc),
    fun h hs hk => ⟨Nat.le_trans h.1 hs, fun b o hb ho => (hk b ⟨o, hb, ho⟩).trans (h.2 b o hb ho)⟩⟩
theorem St.addKO (h : St w0 w own ps) (hc : CellsFs own) : St w0 w own (koF w :: ps) :=
  h.addP (koF w) ⟨Nat.le_refl _, fun _ _ h _ => h⟩ fun e he b hb hk => by
    obtain ⟨o, ho, hco⟩ := hk
    obtain ⟨o', ho', hc'⟩ := hc.at e he w b (h.mine e he) hb
    rw [ho] at ho'
    cases ho'
    rw [hco] at hc'
    cases hc'
theorem St.ko {W : World} {k : Nat} (h : St w0 w own ps) (hk : ps[k]? = some (koF W)) (B : Nat) : KeepsFrom B W w :=
  have h1 : (koF W).P w := h.pat hk
  ⟨h1.1, fun b o _ hb ho => h1.2 b o hb ho⟩
theorem St.kw {W : World} {k : Nat} (h : St w0 w own ps) (hk : ps[k]? = some (koF W)) : KeepsWalks W w :=
  have h1 : (koF W).P w := h.pat hk
  ⟨h1.1, fun b o hb ho => h1.2 b o hb (by cases o <;> simp_all [Obj.isWalk, Obj.isCells])⟩
def defF (D : Nat) : PF :=
  ⟨fun w => w.heap[D]? = some (.deferred (some [])), fun b => b = D, fun h e => e ▸ lt_of_block h, fun h _ hk => (hk D rfl).trans h⟩
theorem St.addD {D : Nat} (h : St w0 w own ps) (hc : CellsFs own) (hD : w.heap[D]? = some (.deferred (some []))) : St w0 w own (defF D :: ps) :=
  h.addP (defF D) hD fun e he b hb hk => by
    obtain rfl : b = D := hk
    obtain ⟨o', ho', hc'⟩ := hc.at e he w b (h.mine e he) hb
    rw [hD] at ho'
    cases ho'
    cases hc'
theorem St.putD {D k : Nat} (h : St w0 w own ps) (hk : ps[k]? = some (defF D)) (hD : w0.heap.size ≤ D) (hc : CellsFs own) (hp : CellsFs (ps.eraseIdx k)) : St w0 (w.putObj D (.deferred none)) own (ps.eraseIdx k) := by
  have hd : w.heap[D]? = some (.deferred (some [])) := h.pat hk
  have h' : St w0 w own (ps.eraseIdx k) := ⟨h.below, h.mine, h.new, h.nd, fun p hp => h.pers p ((List.eraseIdx_sublist ps k).subset hp), fun p hp => h.apart p ((List.eraseIdx_sublist ps k).subset hp)⟩
  exact h'.grown (B := D) hD hc hp (grownBy_putObj' w D _) fun r e => by
    cases e
    exact ⟨Nat.le_refl _, _, hd, rfl⟩
theorem enterM {f : FuncId} {args : Array Value} (hf : P.funcs[f]? = some fn) (hb : fn.body = some c) (hn : fn.ntmps = N) (hz : Nat.ble args.size N = true)
    (h : ∀ a, Env N a (ini 0 args.toList) → St w w [] [] → c.wp P (bodyPostM Fence.wide 9 P fn R) a w) : Calls P f args w R := by
  refine (callsIn_wide (n := 9)).1 (callsIn_of_wp_marks hf hb trivial ((wpIn_wide (n := 9)).2 (h _ ⟨?_, rfl, fun t v hv => ?_⟩ (St.start w))))
  · have := Nat.le_of_ble_eq_true hz
    simp; omega
  · have := (look_ini _ _ _ _ hv).2
    have hlt : t < args.size := by
      rcases Nat.lt_or_ge t args.size with h | h
      · exact h
      · rw [Nat.sub_zero, List.getElem?_eq_none (by simpa using h)] at this; cases this
    rw [Array.getD_eq_getD_getElem?, Array.getElem?_append_left hlt]
    simp at this
    simp [this]
theorem leaveM1 {v : Value} {D : Nat} (h : EnvD [{ target := .collected D, args := #[] }] N a l) (hD : w.heap[D]? = some (.deferred (some []))) (hr : (results fn a.tmps).run P (w.putObj D (.deferred none)) = .ok v (w.putObj D (.deferred none)))
    (hR : R (.returned v) (w.putObj D (.deferred none))) : bodyPostM Fence.wide 9 P fn R .ret a w := by
  show LeavesInM _ _ _ _ _ _ a.defers _ _
  rw [h.defers]
  exact ⟨by simp, .inl ⟨_, _, rfl, run_takeDeferred hD, v, hr, hR⟩⟩
end
end Go.Proofs.YtoojllfijfjmoaaDoor.W

/- Rows that grow, of which also the spare room is known: every cell of the block meets q. Over any program. No condition. -/
namespace Go.Proofs.YtoojllfijfjmoaaDoor.W
open Go.RowKit Anv Go.Lib
def SpareQ (q : Value → Bool) (w : World) (E : TypeId) (v : Value) : Prop := ∀ g, v.ownBlock = some g → ∃ cur, w.heap[g]? = some (.cells cur E (0, 0)) ∧ cur.toList.all q = true
def rowG (q : Value → Bool) (E z : Nat) (v : Value) (n : Nat) (vs : List Value) : PF :=
  ⟨fun w => w.ownsRow 0 E z v n vs ∧ SpareQ q w E v, fun b => v.ownBlock = some b, fun h hb => (h.1.lt _ hb).2, fun {w w'} h hs hk => by
    refine ⟨(rowF E z v n vs).keep h.1 hs hk, fun g hg => ?_⟩
    obtain ⟨cur, hc, hq⟩ := h.2 g hg
    exact ⟨cur, (hk g hg).trans hc, hq⟩⟩
theorem rowG_F {q : Value → Bool} {E z n : Nat} {v : Value} {vs : List Value} {w : World} (h : (rowG q E z v n vs).P w) : w.ownsRow 0 E z v n vs := h.1
theorem cf_rowG {q : Value → Bool} {E z n : Nat} {v : Value} {vs : List Value} : CellsF (rowG q E z v n vs) := fun w b h hf => cf_row w b h.1 hf
theorem nou_rowG {E z n : Nat} {v : Value} {vs : List Value} : NoU (rowG notU E z v n vs) := by
  intro w b o i hP hf hc
  obtain ⟨cur, hg, hq⟩ := hP.2 b hf
  rw [cell_of_row w _ _ _ _ _ hg] at hc
  have h2 := List.all_eq_true.1 hq _ (Array.mem_toList_iff.2 (Array.mem_of_getElem? hc))
  simp [notU] at h2
theorem row_oneG {q : Value → Bool} {w : World} {E z n : Nat} {v : Value} {vs : List Value} (h : (rowG q E z v n vs).P w) : v.oneCell' = true := by
  have h : w.ownsRow 0 E z v n vs := h.1
  rcases h.2 with ⟨rfl, _⟩ | ⟨g, cap, cur, rfl, _⟩ <;> rfl
section
variable {P : Program} {K : Act → World → Prop} {Q : Exit → Act → World → Prop} {N : Nat} {dq : List Deferred} {a : Act} {l : List (Nat × Value)} {w w0 : World} {own ps : List PF}
variable {d : Nat} {ty : TypeId} {pos : String} {af : Array Edge} {gd : Option (Nat × Bool)}
theorem St.addRowG (h : St w0 w own ps) (q : Value → Bool) (E z : Nat) : St w0 w (rowG q E z (.slice none 0 0) 0 [] :: own) ps :=
  h.add0 _ ⟨World.ownsRow_nil w 0 E z, fun g hg => by simp [Value.ownBlock] at hg⟩ fun b hb => by simp [rowG, Value.ownBlock] at hb
theorem all_zeroCells {q : Value → Bool} {c : Array Value} (h : c.toList.all q = true) (k : Nat) : (Builtin.zeroCells c k).toList.all q = true := by
  refine List.all_eq_true.2 fun u hu => ?_
  unfold Builtin.zeroCells at hu
  rw [Array.toList_map] at hu
  obtain ⟨i, hi, rfl⟩ := List.mem_map.1 hu
  have hi : i < k * c.size := by simpa using hi
  have hc : i % c.size < c.size := Nat.mod_lt _ (Nat.pos_of_ne_zero fun h => by rw [h] at hi; omega)
  rw [getElem!_pos c _ hc]
  exact List.all_eq_true.1 h _ (Array.mem_toList_iff.2 (Array.getElem_mem hc))
theorem run_append_q (q : Value → Bool) {t ty e : TypeId} {i : TypeInfo} {z : Value} (ht : P.underlying t = some (.slice e)) (hi : P.info? e = some i) (hz : i.zero = some z)
    {v : Value} {n : Nat} {xs : List Value} (hown : w.ownsRow 0 e i.size v n xs) (hq : SpareQ q w e v) {ad : Addr} {m c : Nat} {news : List Value} (hl : news.length = m * i.size) (hnews : ∀ j u, news[j]? = some u → w.cell? (ad.add j) = some u) (h1 : ∀ u ∈ news, u.oneCell' = true)
    (hnq : news.all q = true) (hzq : z.cells.toList.all q = true) (hm : 0 < m) (h63 : n + m ≤ maxLen) (hbytes : (n + m) * i.bytes ≤ 140737488355328) :
    ∃ v' w', (Builtin.append_ #[t, t] ty #[v, .slice (some ad) m c]).run P w = .ok v' w' ∧ SpareQ q w' e v' := by
  have hsmall : n + m ≤ 9223372036854775807 := by simp only [maxLen] at h63; omega
  rcases hown.2 with ⟨rfl, rfl⟩ | ⟨g, cap, cur, rfl, _, hg, hnc, _, hcs, htake⟩
  · refine ⟨_, _, run_append_nil (P := P) w t ty e i z ht hi hz ad m c news hl hnews hm (by omega) (by simp only [Nat.zero_add] at hbytes; omega), fun g hg => ?_⟩
    obtain rfl : w.heap.size = g := by simpa [Value.ownBlock] using hg
    exact ⟨_, heap_alloc_new w.drew _, by rw [Array.toList_append, List.all_append, hnq, Bool.true_and]; exact all_zeroCells hzq _⟩
  · obtain ⟨cur', hg', hcq⟩ := hq g rfl
    rw [hg] at hg'
    cases hg'
    have hxq : xs.all q = true := by
      rw [← htake]
      exact List.all_eq_true.2 fun u hu => List.all_eq_true.1 hcq u (List.mem_of_mem_take hu)
    by_cases hroom : n + m ≤ cap
    · have hfit : n * i.size + news.length ≤ cur.size := by rw [hl, hcs, ← Nat.add_mul]; exact Nat.mul_le_mul_right _ hroom
      refine ⟨_, _, run_append_room (P := P) w t ty e i ht hi g n cap cur hg ad m c news hl hnews h1 hroom hfit, fun g' hg' => ?_⟩
      obtain rfl : g = g' := by simpa [Value.ownBlock] using hg'
      refine ⟨_, setRow_heap w g cur _ e _ hg, List.all_eq_true.2 fun u hu => ?_⟩
      simp only [List.mem_append] at hu
      rcases hu with (hu | hu) | hu
      · exact List.all_eq_true.1 hcq u (List.mem_of_mem_take hu)
      · exact List.all_eq_true.1 hnq u hu
      · exact List.all_eq_true.1 hcq u (List.mem_of_mem_drop hu)
    · have holds : ∀ j u, xs[j]? = some u → w.cell? ((⟨g, 0, none⟩ : Addr).add j) = some u := hown.cells (g := g) rfl
      refine ⟨_, _, run_append_grow (P := P) w t ty e i z ht hi hz ⟨g, 0, none⟩ n cap xs hown.1 holds ad m c news hl hnews (by omega) (by omega) (growslice_fits (by omega) hbytes), fun g' hg' => ?_⟩
      obtain rfl : w.heap.size = g' := by simpa [Value.ownBlock] using hg'
      refine ⟨_, heap_alloc_new w.drew _, ?_⟩
      simp only [Array.toList_append, List.all_append, hnq, hxq, Bool.true_and]
      exact all_zeroCells hzq _
theorem op_appendG {q : Value → Bool} {t E n z bytes k j g m c : Nat} {x y : Operand} {v zv : Value} {vs : List Value} {cs : Array Value} {E' : TypeId} (h : EnvD dq N a l) (hs : St w0 w own ps) (hd : Nat.blt d N = true) (hT : P.underlying t = some (.slice E))
    (hi : (P.info? E).map (fun i => (i.zero, i.size, i.bytes)) = some (some zv, z, bytes)) (hzs : zv.cells.size = z) (hz0 : Nat.blt 0 z = true) (hx : evl l x = some v) (hy : evl l y = some (.slice (some ⟨g, 0, none⟩) m c))
    (hk : own[k]? = some (rowG q E z v n vs)) (hj : own[j]? = some (bk g cs E')) (hm : cs.size = m * z) (h1 : cs.toList.all (·.oneCell') = true) (hcq : cs.toList.all q = true) (hzq : zv.cells.toList.all q = true) (hm0 : Nat.blt 0 m = true) (hn : n + m ≤ maxLen) (hb : (n + m) * bytes ≤ 140737488355328)
    (hK : ∀ a' w' v', EnvD dq N a' ((d, v') :: l) → St w0 w' (own.set k (rowG q E z v' (n + m) (vs ++ cs.toList))) ps → K a' w') :
    Oper.wp P ⟨some d, .call ⟨.builtin .append, #[x, y], #[t, t]⟩, ty, pos, af, gd⟩ a w K Q := by
  obtain ⟨i, hi1, hi2⟩ := Option.map_eq_some_iff.1 hi
  simp only [Prod.mk.injEq] at hi2
  obtain ⟨hz, hsz, hby⟩ := hi2
  have hrow := hs.owns hk
  have hl : cs.toList.length = m * z := by simpa using hm
  have hsrc : ∀ (j : Nat) u, cs.toList[j]? = some u → w.cell? ((⟨g, 0, none⟩ : Addr).add j) = some u := by
    intro i u hu
    have e1 : (⟨g, 0, none⟩ : Addr).add i = ⟨g, i, none⟩ := by unfold Addr.add; split <;> simp_all
    rw [e1, cell_of_row w g i cs E' (0, 0) (hs.oat hj)]
    simpa using hu
  have h1' : ∀ u ∈ cs.toList, u.oneCell' = true := fun u hu => List.all_eq_true.1 h1 u hu
  obtain ⟨v', w', hrun, hown', hgr, _, hat⟩ := run_append_own_at (P := P) w 0 t ty E i zv z bytes hT hi1 hz hsz hby hzs (Nat.le_of_ble_eq_true hz0) v n vs hrow.1 ⟨g, 0, none⟩ m c cs.toList hl hsrc h1' hn hb (Nat.zero_le _)
  have hq : SpareQ q w' E v' := by
    subst hsz hby
    obtain ⟨v2, w2, hrun2, hq⟩ := run_append_q (P := P) (ty := ty) q hT hi1 hz hrow.1 hrow.2 (c := c) hl hsrc h1' hcq hzq (Nat.le_of_ble_eq_true hm0) hn hb
    rw [hrun] at hrun2
    cases hrun2
    exact hq
  have hvx := h.ev hx
  have hvy := h.ev hy
  have hr : (execOp a.eval ⟨some d, .call ⟨.builtin .append, #[x, y], #[t, t]⟩, ty, pos, af, gd⟩).run P w = .ok (.value v') w' := by
    simp [execOp, resolve, invoke, builtin, hvx, hvy, hrun]
  unfold Oper.wp
  rw [hr]
  refine hK _ _ v' (h.put hd _) (hs.step' hk (e' := rowG q E z v' (n + m) (vs ++ cs.toList)) ⟨hown', hq⟩ (fun b hb => ?_) hgr.os hgr.tape hgr.output hgr.size fun b hb hnf => hgr.block b hb fun e => hnf e.symm)
  have hb' : v'.ownBlock = some b := hb
  rcases hat with h2 | h2
  · exact .inl (h2.symm.trans hb')
  · rw [h2] at hb'
    exact .inr (Nat.le_of_eq (Option.some.inj hb'))
end
end Go.Proofs.YtoojllfijfjmoaaDoor.W

/- limb.Digits's iterator: the digits of a number's text, one by one. No condition. -/
namespace Go.Proofs.YtoojllfijfjmoaaDoor.W
open Go.RowKit Anv Go.Lib
def dgt (c : UInt8) : Fin 10 := ⟨(c.toNat - 48) % 10, Nat.mod_lt _ (by decide)⟩
def dgs (s : List UInt8) : List (Fin 10) := s.map dgt
theorem dgs_take_succ {s : List UInt8} {p : Nat} (h : p < s.length) : dgs (s.take (p + 1)) = dgs (s.take p) ++ [dgt (s.getD p 0)] := by
  rw [List.take_succ_eq_append_getElem h]
  unfold dgs
  rw [List.map_append, List.map_singleton]
  simp [List.getD, h]
theorem dgt_val {c : UInt8} (h1 : 48 ≤ c.toNat) (h2 : c.toNat ≤ 57) : (dgt c).val = c.toNat - 48 := Nat.mod_eq_of_lt (by omega)
theorem dgs_len (s : List UInt8) : (dgs s).length = s.length := by simp [dgs]
section
variable {P : Program} {K : Act → World → Prop} {Q : Exit → Act → World → Prop} {N : Nat} {dq : List Deferred} {a : Act} {l : List (Nat × Value)} {w : World}
variable {d : Nat} {ty : TypeId} {pos : String} {af : Array Edge} {gd : Option (Nat × Bool)}
theorem op_range0 {T : Nat} {x : Operand} {s : List UInt8} (h : EnvD dq N a l) (hd : Nat.blt d N = true) (hT : P.underlying T = some .string) (hx : evl l x = some (.string ⟨s.toArray⟩))
    (hK : ∀ a', EnvD dq N a' ((d, .pointer (some ⟨w.heap.size, 0, none⟩)) :: l) → K a' (w.iter ⟨s.toArray⟩ 0)) :
    Oper.wp P ⟨some d, .range T x, ty, pos, af, gd⟩ a w K Q := by
  have hr : (execOp a.eval ⟨some d, .range T x, ty, pos, af, gd⟩).run P w = .ok (.value (.pointer (some ⟨w.heap.size, 0, none⟩))) (w.iter ⟨s.toArray⟩ 0) := by
    simp only [execOp, h.ev hx]
    rw [Sem.run_bind, run_range_string w T _ hT]
    rfl
  unfold Oper.wp
  rw [hr]
  exact hK _ (h.put hd _)
theorem op_next0 {g p : Nat} {x : Operand} {s : List UInt8} (h : EnvD dq N a l) (hd : Nat.blt d N = true) (hx : evl l x = some (.pointer (some ⟨g, 0, none⟩))) (hg : w.heap[g]? = some (.stringIter ⟨s.toArray⟩ p)) (hp : p < s.length) (ha : (s.getD p 0).toNat < 128)
    (hK : ∀ a', EnvD dq N a' ((d, .tuple #[.bool true, .int .i64 (p : Nat), .int .i32 ((s.getD p 0).toNat : Nat)]) :: l) → K a' (w.iterAt g ⟨s.toArray⟩ (p + 1))) :
    Oper.wp P ⟨some d, .next x true, ty, pos, af, gd⟩ a w K Q := by
  have hlt : p < (⟨s.toArray⟩ : ByteArray).size := by simpa [ByteArray.size] using hp
  have e : (⟨s.toArray⟩ : ByteArray)[p] = s.getD p 0 := by
    simp [List.getD, hp]
    rfl
  have hr : (execOp a.eval ⟨some d, .next x true, ty, pos, af, gd⟩).run P w = .ok (.value (.tuple #[.bool true, .int .i64 (p : Nat), .int .i32 ((s.getD p 0).toNat : Nat)])) (w.iterAt g ⟨s.toArray⟩ (p + 1)) := by
    simp only [execOp, h.ev hx]
    rw [Sem.run_bind, run_next_ascii_at w g _ p _ hg hlt (by rw [e]; exact ha), e]
    rfl
  unfold Oper.wp
  rw [hr]
  exact hK _ (h.put hd _)
theorem op_next0_end {g p : Nat} {x : Operand} {s : List UInt8} (h : EnvD dq N a l) (hd : Nat.blt d N = true) (hx : evl l x = some (.pointer (some ⟨g, 0, none⟩))) (hg : w.heap[g]? = some (.stringIter ⟨s.toArray⟩ p)) (hp : s.length ≤ p)
    (hK : ∀ a', EnvD dq N a' ((d, .tuple #[.bool false]) :: l) → K a' w) :
    Oper.wp P ⟨some d, .next x true, ty, pos, af, gd⟩ a w K Q := by
  have hr : (execOp a.eval ⟨some d, .next x true, ty, pos, af, gd⟩).run P w = .ok (.value (.tuple #[.bool false])) w := by
    simp only [execOp, h.ev hx]
    rw [Sem.run_bind, run_next_end_at w g _ p _ hg (by simp [ByteArray.size]; omega)]
    rfl
  unfold Oper.wp
  rw [hr]
  exact hK _ (h.put hd _)
end
theorem rn_sub48 {c : Nat} (h1 : 48 ≤ c) (h2 : c ≤ 57) : IntKind.i32.wrap ((c : Int) - 48) = ((c - 48 : Nat) : Int) := by
  rw [IntWalk.i32_in _ (by omega)]; omega
set_option maxRecDepth 100000 in
theorem digits_stops {s : List UInt8} {B : Nat} {w : World} (hs : ∀ c ∈ s, 48 ≤ c.toNat ∧ c.toNat ≤ 57) (hB : w.heap[B]? = some (.cells #[.string ⟨s.toArray⟩] 9 (0, 0))) :
    SeqStopsK (WF none) 8 Tryd.prog 62 #[.pointer (some ⟨B, 0, none⟩)] (fun x : Fin 10 => #[.int .i64 (x.val : Nat)]) KeepsWalks (fun xs => xs = dgs s) (fun pre => ∃ p, p ≤ s.length ∧ pre = dgs (s.take p)) s.length w := by
  intro l0 J Jx W hW hJ hJx hY h0
  refine callsIn_of ?_
  have hc := (hW.block B (lt_of_block hB)).trans hB
  refine enter Tryd.func62 rfl Tryd.ntmps62 rfl ?_
  intro a henv _
  refine wp_seq ?_
  refine region_seq ?_
  refine seq_step rfl (op_val (v := .string ⟨s.toArray⟩) henv rfl (rn_load1 henv ty_string rfl hc rfl) ?_)
  clear henv a; intro a henv
  refine seq_step rfl (op_range0 henv rfl Tryd.underlying9 rfl ?_)
  clear henv a; intro a henv
  refine wpList_nil ?_
  refine th_n ?_
  refine wp_block ?_
  have hJi : J (dgs (s.take 0)) (W.iter ⟨s.toArray⟩ 0) := hJ _ _ _ none h0 (World.grownBy_alloc W _ none) fun r e => by cases e
  refine wp_loop_ghost (fun mz a w => ∃ p, s.length - p = mz ∧ Env 16 a [(0, .func (.yield l0) #[] #[]), (6, .pointer (some ⟨W.heap.size, 0, none⟩))] ∧ w.heap[W.heap.size]? = some (.stringIter ⟨s.toArray⟩ p) ∧ J (dgs (s.take p)) w ∧ p ≤ s.length) _ ⟨0, rfl, henv.sub ⟨rfl, rfl, trivial⟩, World.iter_heap W _ 0, hJi, Nat.zero_le _⟩ ?_
  clear henv a
  rintro mz a w1 ⟨p, rfl, henv, hit, hJp, hp⟩
  refine wp_seq ?_
  refine region_seq ?_
  rcases Nat.lt_or_ge p s.length with hlt | hge
  · have hd := hs (s.getD p 0) (by simp [List.getD, hlt])
    refine seq_step rfl (op_next0 henv rfl rfl hit hlt (by omega) ?_)
    clear henv a; intro a henv
    have hgr : w1.grownBy (w1.iterAt W.heap.size ⟨s.toArray⟩ (p + 1)) (some W.heap.size) := ⟨rfl, rfl, rfl, by rw [iterAt_size]; exact Nat.le_refl _, fun k _ hk => iterAt_other w1 _ k _ _ fun e => hk (by rw [e])⟩
    have hJ1 : J (dgs (s.take p)) (w1.iterAt W.heap.size ⟨s.toArray⟩ (p + 1)) := hJ _ _ _ _ hJp hgr fun r e => by
      cases e
      exact ⟨Nat.le_refl _, _, hit, rfl⟩
    have hit1 := iterAt_heap w1 _ ⟨s.toArray⟩ p (p + 1) hit
    generalize w1.iterAt W.heap.size ⟨s.toArray⟩ (p + 1) = w2 at hJ1 hit1 ⊢
    refine seq_step rfl (op_val (v := .bool true) henv rfl (rn_extract henv rfl rfl) ?_)
    clear henv a; intro a henv
    refine wpList_nil ?_
    refine th_n ?_
    refine wp_seq ?_
    refine if_t henv rfl rfl ?_
    refine wp_skip ?_
    refine th_n ?_
    refine wp_block ?_
    refine wp_seq ?_
    refine region_seq ?_
    refine seq_step rfl (op_val (v := .int .i32 ((s.getD p 0).toNat : Nat)) henv rfl (rn_extract henv rfl rfl) ?_)
    clear henv a; intro a henv
    refine seq_step rfl (op_val (v := .int .i32 ((s.getD p 0).toNat : Nat)) henv rfl (rn_assign henv rfl) ?_)
    clear henv a; intro a henv
    refine wpList_nil ?_
    refine th_n ?_
    refine wp_seq ?_
    refine region_y 8 ?_
    refine in_step rfl (fun _ h => by cases h) (op_val (v := .func (.yield l0) #[] #[]) henv rfl (rn_move henv rfl) ?_)
    clear henv a; intro a henv
    refine in_step rfl (fun _ h => by cases h) (op_val (v := .int .i32 ((s.getD p 0).toNat : Nat)) henv rfl (rn_move henv rfl) ?_)
    clear henv a; intro a henv
    refine in_step rfl (fun _ h => by cases h) (op_val (v := .int .i32 ((s.getD p 0).toNat - 48 : Nat)) henv rfl (rn_sub henv rfl rfl (rn_sub48 hd.1 hd.2)) ?_)
    clear henv a; intro a henv
    refine in_step rfl (fun _ h => by cases h) (op_val (v := .int .i64 ((dgt (s.getD p 0)).val : Nat)) henv rfl (rn_conv henv rfl Tryd.underlying21 Tryd.underlying3 (by rw [dgt_val hd.1 hd.2]; exact IntWalk.i64_in _ (by omega))) ?_)
    clear henv a; intro a henv
    refine in_stepY rfl (op_yield henv rfl rfl rfl (hY _ (dgt (s.getD p 0)) w2 hJ1 (by rw [dgs_len, List.length_take]; omega)) ?_)
    rintro e W3 h3
    rcases h3 with ⟨rfl, hJ3, hk⟩ | ⟨rfl, hJ3⟩
    · refine ⟨_, rfl, ?_⟩
      clear henv a; intro a henv
      refine in_step rfl (fun _ h => by cases h) (op_val (v := .bool false) henv rfl (rn_un henv rfl rfl) ?_)
      clear henv a; intro a henv
      refine in_nil ?_
      refine th_n ?_
      refine if_f henv rfl rfl ?_
      refine wp_skip ?_
      refine bl_n ?_
      refine th_n ?_
      refine ⟨_, ?_, p + 1, rfl, henv.sub ⟨rfl, rfl, trivial⟩, ?_, by rw [dgs_take_succ hlt]; exact hJ3, hlt⟩
      · omega
      · exact hk.same _ _ hit1 rfl
    · refine ⟨_, rfl, ?_⟩
      clear henv a; intro a henv
      refine in_step rfl (fun _ h => by cases h) (op_val (v := .bool true) henv rfl (rn_un henv rfl rfl) ?_)
      clear henv a; intro a henv
      refine in_nil ?_
      refine th_n ?_
      refine if_t henv rfl rfl ?_
      refine wp_ret ?_
      refine bl_r (th_r (bl_r ?_))
      refine leave henv (res0 Tryd.results62) ?_
      exact ⟨⟨_, rfl⟩, .inr ⟨_, ⟨p + 1, hlt, (dgs_take_succ hlt).symm⟩, hJ3⟩⟩
  · refine seq_step rfl (op_next0_end henv rfl rfl hit hge ?_)
    clear henv a; intro a henv
    refine seq_step rfl (op_val (v := .bool false) henv rfl (rn_extract henv rfl rfl) ?_)
    clear henv a; intro a henv
    refine wpList_nil ?_
    refine th_n ?_
    refine wp_seq ?_
    refine if_f henv rfl rfl ?_
    refine wp_exit ?_
    refine th_x (th_x (bl_x ?_))
    refine leave_end henv (res0 Tryd.results62) ?_
    exact ⟨⟨_, rfl⟩, .inl ⟨_, rfl, by rw [List.take_of_length_le hge] at hJp; exact hJp⟩⟩
end Go.Proofs.YtoojllfijfjmoaaDoor.W

/- limb.Digits, and a number's text. Printed by pv/gen_itext.py. No condition. -/
namespace Go.Proofs.YtoojllfijfjmoaaDoor.W
open Go.RowKit Anv Go.Lib
def textZ (z : Int) : List UInt8 := (if neg z then [45] else []) ++ textN z.natAbs
theorem textN_bd (N : Nat) : (textN N).length ≤ 10 * nl N + 1 := by
  rcases Nat.eq_zero_or_pos (nl N) with h | h
  · have h0 : N = 0 := zero_of_nl h
    subst h0
    rw [textN_zero]
    simp
  · have h1 : N < 10 ^ (10 * nl N) := by
      have : N < 4294967296 ^ nl N := lt_pow_dig (by decide) N
      refine Nat.lt_of_lt_of_le this ?_
      rw [Nat.pow_mul]
      exact Nat.pow_le_pow_left (by decide) _
    have := textN_len (k := 10 * nl N) (by omega) h1
    omega
theorem bc_one : byteCells [] ++ (#[Value.int .u8 45] : Array Value).toList = byteCells [45] := rfl
theorem bc_dig {d : Nat} (h : d < 10) (l : List UInt8) : byteCells l ++ (#[Value.int .u8 ((48 + d : Nat) : Int)] : Array Value).toList = byteCells (l ++ [dch d]) := by
  simp [byteCells, dch_nat h]
theorem dgs_back {s : List UInt8} (h : ∀ c ∈ s, 48 ≤ c.toNat ∧ c.toNat ≤ 57) : ((dgs s).map fun d : Fin 10 => dch d.val) = s := by
  unfold dgs
  rw [List.map_map]
  refine (List.map_congr_left fun c hc => ?_).trans (List.map_id _)
  obtain ⟨h1, h2⟩ := h c hc
  apply UInt8.toNat_inj.1
  show (dch (dgt c).val).toNat = c.toNat
  rw [dgt_val h1 h2, dch_nat (by omega)]
  omega
theorem snoc_0 (pre : List (Fin 10)) (x : Fin 10) : (pre.map fun d : Fin 10 => dch d.val) ++ [dch x.val] = (pre ++ [x]).map fun d : Fin 10 => dch d.val := by simp
theorem snoc_1 (pre : List (Fin 10)) (x : Fin 10) : ([45] ++ pre.map fun d : Fin 10 => dch d.val) ++ [dch x.val] = [45] ++ (pre ++ [x]).map fun d : Fin 10 => dch d.val := by simp
theorem snoc_len (pre : List (Fin 10)) (x : Fin 10) : pre.length + 1 = (pre ++ [x]).length := by simp
theorem inf_u8 : (Tryd.prog.info? 5).map (fun i => (i.zero, i.size, i.bytes)) = some (some (.int .u8 0), 1, 1) := by kernel_rfl
section
variable {P : Program} {N : Nat} {dq : List Deferred} {a : Act} {l : List (Nat × Value)} {w : World} {d : Nat} {ty : TypeId} {pos : String} {af : Array Edge} {gd : Option (Nat × Bool)}
theorem rn_makeFunc {f : FuncId} {cs : Array Operand} {vs : Array Value} (h : EnvD dq N a l) (hx : cs.toList.map (evl l) = vs.toList.map some) :
    (execOp a.eval ⟨some d, .makeFunc (.func f) #[] cs, ty, pos, af, gd⟩).run P w = .ok (.value (.func (.func f) #[] vs)) w := by
  have he : cs.map a.eval = vs := by
    apply Array.ext'
    rw [Array.toList_map]
    generalize cs.toList = xl at hx ⊢
    generalize vs.toList = vl at hx ⊢
    induction xl generalizing vl with
    | nil => cases vl with
      | nil => rfl
      | cons => simp at hx
    | cons x xl ih => cases vl with
      | nil => simp at hx
      | cons v vl =>
        simp only [List.map_cons, List.cons.injEq] at hx ⊢
        exact ⟨h.ev hx.1, ih vl hx.2⟩
  simp [execOp, Instr.makeFunc, he]
theorem rn_rowStr {x : Operand} {S T E E' n : Nat} {v : Value} {s : List UInt8} (h : EnvD dq N a l) (hS : P.underlying S = some (.slice E)) (hE : P.underlying E = some (.int .u8)) (hT : P.underlying T = some .string)
    (hx : evl l x = some v) (hr : w.ownsRow 0 E' 1 v n (byteCells s)) (hs : s ≠ []) :
    (execOp a.eval ⟨some d, .convert S T x, ty, pos, af, gd⟩).run P w = .ok (.value (.string ⟨s.toArray⟩)) w := by
  have hl : s.length = n := by have := hr.1; simpa [byteCells] using this
  rcases hr.2 with hn | ⟨g, cap, cur, rfl, h0, hg, rest⟩
  · have : n = 0 := hn.2
    exact absurd (List.length_eq_zero_iff.1 (by omega)) hs
  · obtain ⟨hnc, hcm, hsz, htk⟩ := rest
    refine rn_bytesStr h hS hE hT hx hl hg fun j hj => ?_
    have h1 : (cur.toList.take (n * 1))[j]? = some (.int .u8 ((s.getD j 0).toNat : Nat)) := by
      rw [htk]
      have hj' : j < s.length := by omega
      simp [byteCells, List.getD, hj']
    rw [List.getElem?_take_of_lt (by omega)] at h1
    simpa using h1
end
set_option maxRecDepth 100000 in
set_option maxHeartbeats 4000000 in
theorem digits_num {A : Option Addr} {n c N : Nat} {w0 : World} (h : NumIn w0 A n c N) (hn : n ≤ 1000000) :
    Calls Tryd.prog 49 #[.slice A n c] w0 fun e w' => ∃ g, e = .returned (.func (.func 62) #[] #[.pointer (some ⟨g, 0, none⟩)]) ∧ w'.heap[g]? = some (.cells #[.string ⟨(textN N).toArray⟩] 9 (0, 0)) ∧ w0.heap.size ≤ g ∧ Below w0.heap.size w0 w' := by
  refine enter Tryd.func49 rfl Tryd.ntmps49 rfl ?_
  intro a henv hst
  obtain ⟨xs, hx, hN⟩ := h
  replace hst := hst.addU hx trivial
  clear hx
  refine wp_seq ?_
  refine region_seq ?_
  refine seq_step rfl (op_val (v := .nilFunc) henv rfl (rn_assign henv rfl) ?_)
  clear henv a; intro a henv
  refine wpList_nil ?_
  refine th_n ?_
  refine wp_seq ?_
  refine region_seq ?_
  refine seq_step rfl (op_val (v := .slice A n c) henv rfl (rn_move henv rfl) ?_)
  clear henv a; intro a henv
  refine seq_step rfl (op_call henv rfl Tryd.call61 rfl (text_num (N := N) ⟨_, (show U32 _ A n c xs from hst.pat (k := 0) rfl), hN⟩ (by omega)) ?_)
  rintro e w1 ⟨rfl, hb⟩
  refine ⟨_, rfl, ?_⟩
  clear henv a; intro a henv
  replace hst := hst.call hb
  clear hb
  refine seq_step rfl (op_alloc (c := #[.string ⟨#[]⟩]) henv hst rfl zero_string rfl ?_)
  clear henv hst a; intro a w3 g2 henv hst
  refine seq_step rfl (op_store1 (k := 0) (c' := #[.string ⟨(textN N).toArray⟩]) henv hst (ty_string.size) rfl rfl rfl (by simp) rfl rfl ?_)
  clear henv hst a; intro a w4 henv hst
  refine wpList_nil ?_
  refine th_n ?_
  refine wp_seq ?_
  refine region_seq ?_
  refine seq_step rfl (op_val (v := .func (.func 62) #[] #[.pointer (some ⟨g2, 0, none⟩)]) henv rfl (rn_makeFunc henv rfl) ?_)
  clear henv a; intro a henv
  refine seq_step rfl (op_val (v := .func (.func 62) #[] #[.pointer (some ⟨g2, 0, none⟩)]) henv rfl (rn_assign henv rfl) ?_)
  clear henv a; intro a henv
  refine wpList_nil ?_
  refine th_n ?_
  refine wp_ret ?_
  refine leave henv (res1 Tryd.results49 (RV.tmp henv rfl)) ?_
  exact ⟨g2, rfl, hst.oat (k := 0) rfl, hst.oge (k := 0) rfl, hst.below⟩
set_option maxRecDepth 100000 in
set_option maxHeartbeats 4000000 in
theorem text_z {A : Option Addr} {c : Nat} {z : Int} {w0 : World} (hx : ZIn w0 A c z) (hn : zl z ≤ 1000000) :
    Calls Tryd.prog 33 #[.agg #[.bool (neg z), .slice A (zl z) c]] w0 fun e w' => e = .returned (.string ⟨(textZ z).toArray⟩) ∧ Below w0.heap.size w0 w' := by
  have htl := textN_bd z.natAbs
  have hzn : nl z.natAbs = zl z := rfl
  have hdl := dgs_len (textN z.natAbs)
  refine enterM Tryd.func33 rfl Tryd.ntmps33 rfl ?_
  intro a henv hst
  replace hst := hst.addZ hx trivial
  clear hx
  refine wp_seq ?_
  refine region_seq ?_
  refine seq_step rfl (op_box (c := #[.bool (neg z), .slice A (zl z) c]) henv hst rfl rfl rfl ?_)
  clear henv hst a; intro a w2 g1 henv hst
  refine seq_step rfl (op_val (v := .string ⟨#[]⟩) henv rfl (rn_assign henv rfl) ?_)
  clear henv a; intro a henv
  refine wpList_nil ?_
  refine th_n ?_
  refine wp_seq ?_
  refine region_seq ?_
  refine seq_step rfl (op_alloc (c := #[.slice none 0 0]) henv hst rfl zero__uint8 rfl ?_)
  clear henv hst a; intro a w4 g3 henv hst
  refine wpList_nil ?_
  refine th_n ?_
  refine wp_seq ?_
  refine wp_seq ?_
  refine region_seq ?_
  refine seq_step rfl (op_val (v := .pointer (some ⟨g1, 0, none⟩)) henv rfl (rn_fieldAddr henv fd_anvil_integer_Int_0 (ty_bool.size) (by decide) rfl) ?_)
  clear henv a; intro a henv
  refine seq_step rfl (op_val (v := .bool (neg z)) henv rfl (rn_load1 henv ty_bool rfl (hst.oat (k := 1) rfl) rfl) ?_)
  clear henv a; intro a henv
  refine wpList_nil ?_
  refine th_n ?_
  refine if_split henv rfl (fun hc5 => ?_) (fun hc5 => ?_)
  · refine region_seq ?_
    refine seq_step rfl (op_val (v := .slice none 0 0) henv rfl (rn_load1 henv ty__uint8 rfl (hst.oat (k := 0) rfl) rfl) ?_)
    clear henv a; intro a henv
    refine seq_step rfl (op_buildSlice (z := 1) (pv := #[(0, .int .u8 45)]) (c := #[.int .u8 45]) henv hst rfl Tryd.underlying89 (ty_uint8.size) zero_uint8 (by decide) (by decide) rfl (by kernel_rfl) ?_)
    clear henv hst a; intro a w7 g6 henv hst
    replace hst := hst.addRowG notU 5 1
    refine seq_step rfl (op_appendG (k := 0) (j := 1) henv hst rfl Tryd.underlying89 inf_u8 rfl rfl rfl rfl rfl rfl rfl rfl rfl rfl rfl (by unfold maxLen; omega) (by omega) ?_)
    clear henv hst a; intro a w9 v8 henv hst
    rw [show ([] : List Value) ++ (#[.int .u8 45] : Array Value).toList = byteCells ([45]) from bc_one] at hst
    refine seq_step rfl (op_store1 (k := 2) (c' := #[v8]) henv hst (ty__uint8.size) rfl rfl rfl (by simp) (row_oneG (hst.owns (k := 0) rfl)) rfl ?_)
    clear henv hst a; intro a w10 henv hst
    refine wpList_nil ?_
    refine th_n ?_
    refine wp_seq ?_
    refine wp_seq ?_
    refine region_seq ?_
    refine seq_step rfl (op_val (v := .pointer (some ⟨g1, 1, none⟩)) henv rfl (rn_fieldAddr henv fd_anvil_integer_Int_1 (ty__uint32.size) (by decide) rfl) ?_)
    clear henv a; intro a henv
    refine seq_step rfl (op_val (v := .slice A (zl z) c) henv rfl (rn_load1 henv ty__uint32 rfl (hst.oat (k := 3) rfl) rfl) ?_)
    clear henv a; intro a henv
    refine seq_step rfl (op_call henv rfl Tryd.call49 rfl (digits_num (show ZIn _ A c z from hst.pat (k := 0) rfl).num hn) ?_)
    rintro e w12 ⟨g11, rfl, hS, hge, hb⟩
    refine ⟨_, rfl, ?_⟩
    clear henv a; intro a henv
    replace hst := hst.fresh hb (bk g11 #[.string ⟨(textN z.natAbs).toArray⟩] 9) hS (fun _ hb => hb ▸ hge)
    clear hS hge
    clear hb
    refine wpList_nil ?_
    refine th_n ?_
    refine wp_block ?_
    have hsz := hst.below.size
    refine wp_range1 (α := Fin 10) (enc := fun x => .int .i64 (x.val : Nat)) henv rfl Tryd.call62 rfl (digits_stops (s := textN z.natAbs) (textN_dgt _) (hst.pat (k := 0) rfl)) (walksK_t) (walksK_b) (fun pre W => ∃ v : Value, St w0 W [bk g3 #[v] 89, rowG notU 5 1 v (1 + pre.length) (byteCells ([45] ++ pre.map fun d : Fin 10 => dch d.val))] []) (fun _ _ _ => False) (fun _ _ _ _ ⟨v, hst⟩ hg hr => ⟨v, hst.grown hsz ⟨cf_bk, cf_rowG, trivial⟩ trivial hg hr⟩) (fun _ _ _ _ _ h _ _ => h) ⟨v8, hst.pick [2, 0] [] (by decide)⟩ (fun x => [(3, .pointer (some ⟨g3, 0, none⟩)), (4, .int .i64 (x.val : Nat))]) ?_ (KeepsWalks.refl) ?_ ?_ ?_
    · intro i pre x W K _ hK a henv
      refine region_in ?_
      refine in_step rfl (fun _ h => by cases h) (op_val (v := .int .i64 (x.val : Nat)) henv rfl (rn_assign henv rfl) ?_)
      clear henv a; intro a henv
      refine in_nil ?_
      exact th_n (hK _ (henv.sub ⟨rfl, rfl, trivial⟩))
    · intro i pre x a W hI henv hlt
      obtain ⟨v, hst⟩ := hI
      have hx := x.isLt
      replace hst := hst.addKO ⟨cf_bk, cf_rowG, trivial⟩
      refine wpIn_block ?_
      refine region_in ?_
      refine in_step rfl (fun _ h => by cases h) (op_val (v := v) henv rfl (rn_load1 henv ty__uint8 rfl (hst.oat (k := 0) rfl) rfl) ?_)
      clear henv a; intro a henv
      refine in_step rfl (fun _ h => by cases h) (op_val (v := .int .i64 (x.val : Nat)) henv rfl (rn_move henv rfl) ?_)
      clear henv a; intro a henv
      refine in_step rfl (fun _ h => by cases h) (op_val (v := .int .i64 (48 + x.val : Nat)) henv rfl (rn_add henv rfl rfl (by rw [IntWalk.i64_in _ (by omega)]; omega)) ?_)
      clear henv a; intro a henv
      refine in_step rfl (fun _ h => by cases h) (op_val (v := .int .u8 (48 + x.val : Nat)) henv rfl (rn_conv henv rfl Tryd.underlying3 Tryd.underlying5 (IntWalk.u8_in _ (by omega))) ?_)
      clear henv a; intro a henv
      refine in_step rfl (fun _ h => by cases h) (op_buildSlice (z := 1) (pv := #[(0, .int .u8 (48 + x.val : Nat))]) (c := #[.int .u8 (48 + x.val : Nat)]) henv hst rfl Tryd.underlying89 (ty_uint8.size) zero_uint8 (by decide) (by decide) rfl (by kernel_rfl) ?_)
      clear henv hst a; intro a w14 g13 henv hst
      refine in_step rfl (fun _ h => by cases h) (op_appendG (k := 2) (j := 0) henv hst rfl Tryd.underlying89 inf_u8 rfl rfl rfl rfl rfl rfl rfl rfl rfl rfl rfl (by unfold maxLen; omega) (by omega) ?_)
      clear henv hst a; intro a w16 v15 henv hst
      rw [show byteCells ([45] ++ pre.map fun d : Fin 10 => dch d.val) ++ (#[.int .u8 (48 + x.val : Nat)] : Array Value).toList = byteCells (([45] ++ pre.map fun d : Fin 10 => dch d.val) ++ [dch x.val]) from (bc_dig x.isLt _)] at hst
      refine in_step rfl (fun _ h => by cases h) (op_store1 (k := 1) (c' := #[v15]) henv hst (ty__uint8.size) rfl rfl rfl (by simp) (row_oneG (hst.owns (k := 2) rfl)) rfl ?_)
      clear henv hst a; intro a w17 henv hst
      refine in_nil ?_
      refine bl_n ?_
      rw [snoc_1, Nat.add_assoc, snoc_len pre x] at hst
      exact ⟨hst.ko (k := 0) rfl _, hst.kw (k := 0) rfl, ⟨v15, hst.pick [1, 2] [] (by decide)⟩⟩
    · intro D18 xs W a hD18 hS hI hK henv
      obtain ⟨v, hst⟩ := hI
      subst hS
      rw [dgs_back (textN_dgt _)] at hst
      replace hst := hst.addD ⟨cf_bk, cf_rowG, trivial⟩ hK
      have hDD18 := Nat.le_trans hsz hD18
      refine bl_n (th_n ?_)
      refine wp_seq ?_
      refine region_seq ?_
      refine seq_step rfl (op_val (v := v) henv rfl (rn_load1 henv ty__uint8 rfl (hst.oat (k := 0) rfl) rfl) ?_)
      clear henv a; intro a henv
      refine seq_step rfl (op_val (v := .string ⟨(([45] ++ textN z.natAbs)).toArray⟩) henv rfl (rn_rowStr henv Tryd.underlying89 Tryd.underlying5 Tryd.underlying9 rfl (rowG_F (hst.owns (k := 1) rfl)) (by simp)) ?_)
      clear henv a; intro a henv
      refine seq_step rfl (op_val (v := .string ⟨(([45] ++ textN z.natAbs)).toArray⟩) henv rfl (rn_assign henv rfl) ?_)
      clear henv a; intro a henv
      refine wpList_nil ?_
      refine th_n ?_
      refine wp_ret ?_
      have hdD18 : _ = _ := hst.pat (k := 0) rfl
      replace hst := hst.putD (k := 0) rfl hDD18 ⟨cf_bk, cf_rowG, trivial⟩ trivial
      refine leaveM1 henv hdD18 (res1 Tryd.results33 (RV.tmp henv rfl)) ?_
      exact ⟨by unfold textZ; rw [hc5]; rfl, hst.below⟩
    · intro D19 c pre W a hD19 hS hI hK henv
      exact hI.elim
  · refine wp_skip ?_
    refine th_n ?_
    refine wp_seq ?_
    refine wp_seq ?_
    refine region_seq ?_
    refine seq_step rfl (op_val (v := .pointer (some ⟨g1, 1, none⟩)) henv rfl (rn_fieldAddr henv fd_anvil_integer_Int_1 (ty__uint32.size) (by decide) rfl) ?_)
    clear henv a; intro a henv
    refine seq_step rfl (op_val (v := .slice A (zl z) c) henv rfl (rn_load1 henv ty__uint32 rfl (hst.oat (k := 1) rfl) rfl) ?_)
    clear henv a; intro a henv
    refine seq_step rfl (op_call henv rfl Tryd.call49 rfl (digits_num (show ZIn _ A c z from hst.pat (k := 0) rfl).num hn) ?_)
    rintro e w21 ⟨g20, rfl, hS, hge, hb⟩
    refine ⟨_, rfl, ?_⟩
    clear henv a; intro a henv
    replace hst := hst.fresh hb (bk g20 #[.string ⟨(textN z.natAbs).toArray⟩] 9) hS (fun _ hb => hb ▸ hge)
    clear hS hge
    clear hb
    refine wpList_nil ?_
    refine th_n ?_
    refine wp_block ?_
    replace hst := hst.addRowG notU 5 1
    have hsz := hst.below.size
    refine wp_range1 (α := Fin 10) (enc := fun x => .int .i64 (x.val : Nat)) henv rfl Tryd.call62 rfl (digits_stops (s := textN z.natAbs) (textN_dgt _) (hst.pat (k := 0) rfl)) (walksK_t) (walksK_b) (fun pre W => ∃ v : Value, St w0 W [bk g3 #[v] 89, rowG notU 5 1 v (0 + pre.length) (byteCells (pre.map fun d : Fin 10 => dch d.val))] []) (fun _ _ _ => False) (fun _ _ _ _ ⟨v, hst⟩ hg hr => ⟨v, hst.grown hsz ⟨cf_bk, cf_rowG, trivial⟩ trivial hg hr⟩) (fun _ _ _ _ _ h _ _ => h) ⟨.slice none 0 0, hst.pick [1, 0] [] (by decide)⟩ (fun x => [(3, .pointer (some ⟨g3, 0, none⟩)), (4, .int .i64 (x.val : Nat))]) ?_ (KeepsWalks.refl) ?_ ?_ ?_
    · intro i pre x W K _ hK a henv
      refine region_in ?_
      refine in_step rfl (fun _ h => by cases h) (op_val (v := .int .i64 (x.val : Nat)) henv rfl (rn_assign henv rfl) ?_)
      clear henv a; intro a henv
      refine in_nil ?_
      exact th_n (hK _ (henv.sub ⟨rfl, rfl, trivial⟩))
    · intro i pre x a W hI henv hlt
      obtain ⟨v, hst⟩ := hI
      have hx := x.isLt
      replace hst := hst.addKO ⟨cf_bk, cf_rowG, trivial⟩
      refine wpIn_block ?_
      refine region_in ?_
      refine in_step rfl (fun _ h => by cases h) (op_val (v := v) henv rfl (rn_load1 henv ty__uint8 rfl (hst.oat (k := 0) rfl) rfl) ?_)
      clear henv a; intro a henv
      refine in_step rfl (fun _ h => by cases h) (op_val (v := .int .i64 (x.val : Nat)) henv rfl (rn_move henv rfl) ?_)
      clear henv a; intro a henv
      refine in_step rfl (fun _ h => by cases h) (op_val (v := .int .i64 (48 + x.val : Nat)) henv rfl (rn_add henv rfl rfl (by rw [IntWalk.i64_in _ (by omega)]; omega)) ?_)
      clear henv a; intro a henv
      refine in_step rfl (fun _ h => by cases h) (op_val (v := .int .u8 (48 + x.val : Nat)) henv rfl (rn_conv henv rfl Tryd.underlying3 Tryd.underlying5 (IntWalk.u8_in _ (by omega))) ?_)
      clear henv a; intro a henv
      refine in_step rfl (fun _ h => by cases h) (op_buildSlice (z := 1) (pv := #[(0, .int .u8 (48 + x.val : Nat))]) (c := #[.int .u8 (48 + x.val : Nat)]) henv hst rfl Tryd.underlying89 (ty_uint8.size) zero_uint8 (by decide) (by decide) rfl (by kernel_rfl) ?_)
      clear henv hst a; intro a w23 g22 henv hst
      refine in_step rfl (fun _ h => by cases h) (op_appendG (k := 2) (j := 0) henv hst rfl Tryd.underlying89 inf_u8 rfl rfl rfl rfl rfl rfl rfl rfl rfl rfl rfl (by unfold maxLen; omega) (by omega) ?_)
      clear henv hst a; intro a w25 v24 henv hst
      rw [show byteCells (pre.map fun d : Fin 10 => dch d.val) ++ (#[.int .u8 (48 + x.val : Nat)] : Array Value).toList = byteCells ((pre.map fun d : Fin 10 => dch d.val) ++ [dch x.val]) from (bc_dig x.isLt _)] at hst
      refine in_step rfl (fun _ h => by cases h) (op_store1 (k := 1) (c' := #[v24]) henv hst (ty__uint8.size) rfl rfl rfl (by simp) (row_oneG (hst.owns (k := 2) rfl)) rfl ?_)
      clear henv hst a; intro a w26 henv hst
      refine in_nil ?_
      refine bl_n ?_
      rw [snoc_0, Nat.add_assoc, snoc_len pre x] at hst
      exact ⟨hst.ko (k := 0) rfl _, hst.kw (k := 0) rfl, ⟨v24, hst.pick [1, 2] [] (by decide)⟩⟩
    · intro D27 xs W a hD27 hS hI hK henv
      obtain ⟨v, hst⟩ := hI
      subst hS
      rw [dgs_back (textN_dgt _)] at hst
      replace hst := hst.addD ⟨cf_bk, cf_rowG, trivial⟩ hK
      have hDD27 := Nat.le_trans hsz hD27
      refine bl_n (th_n ?_)
      refine wp_seq ?_
      refine region_seq ?_
      refine seq_step rfl (op_val (v := v) henv rfl (rn_load1 henv ty__uint8 rfl (hst.oat (k := 0) rfl) rfl) ?_)
      clear henv a; intro a henv
      refine seq_step rfl (op_val (v := .string ⟨((textN z.natAbs)).toArray⟩) henv rfl (rn_rowStr henv Tryd.underlying89 Tryd.underlying5 Tryd.underlying9 rfl (rowG_F (hst.owns (k := 1) rfl)) (textN_ne _)) ?_)
      clear henv a; intro a henv
      refine seq_step rfl (op_val (v := .string ⟨((textN z.natAbs)).toArray⟩) henv rfl (rn_assign henv rfl) ?_)
      clear henv a; intro a henv
      refine wpList_nil ?_
      refine th_n ?_
      refine wp_ret ?_
      have hdD27 : _ = _ := hst.pat (k := 0) rfl
      replace hst := hst.putD (k := 0) rfl hDD27 ⟨cf_bk, cf_rowG, trivial⟩ trivial
      refine leaveM1 henv hdD27 (res1 Tryd.results33 (RV.tmp henv rfl)) ?_
      exact ⟨by unfold textZ; rw [hc5]; rfl, hst.below⟩
    · intro D28 c pre W a hD28 hS hI hK henv
      exact hI.elim
end Go.Proofs.YtoojllfijfjmoaaDoor.W
