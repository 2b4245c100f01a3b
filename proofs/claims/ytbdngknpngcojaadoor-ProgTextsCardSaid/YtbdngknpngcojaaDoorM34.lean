/- Ranges over functions: the wide fence in a round and out of one; the statement's rule; how a function that holds one is left. Over any program. No condition. -/
import Derived.Test.YtbdngknpngcojaaDoorM33
import Derived.RangeFuncNested
import Derived.RangeFuncBound
import Derived.RangeFuncCalls
import Derived.RangeFuncLeaves
import Derived.Deep.LoopGhost
import Derived.Test.YtbdngknpngcojaaDoorM12
import Derived.Test.YtbdngknpngcojaaDoorM9
import Derived.Test.YtbdngknpngcojaaDoorM27

namespace Go.Proofs.YtbdngknpngcojaaDoor.W
open Go.RowKit Anv Go.Lib
def WF (ro : Option Nat) : Fence := { Fence.wide with round := ro }
section
variable {P : Program} {ro : Option Nat} {m : Nat} {K : Act → World → Prop} {Q : Exit → Act → World → Prop} {R : Ending → World → Prop} {N : Nat} {dq : List Deferred} {a : Act} {l : List (Nat × Value)} {w w0 : World} {own ps : List PF}
variable {d : Nat} {ty : TypeId} {pos : String} {af : Array Edge} {gd : Option (Nat × Bool)} {ops : Array Oper} {rest : List Oper} {o : Oper} {fn : Func} {c x y : Code}
def CellsF (e : PF) : Prop := ∀ (w : World) (b : Nat), e.P w → e.foot b → ∃ o, w.heap[b]? = some o ∧ o.isCells = true
def CellsFs : List PF → Prop
  | [] => True
  | e :: l => CellsF e ∧ CellsFs l
theorem CellsFs.at : ∀ {l : List PF}, CellsFs l → ∀ e ∈ l, CellsF e
  | e :: l, h, f, hf => by
    rcases List.mem_cons.1 hf with rfl | hf
    · exact h.1
    · exact CellsFs.at h.2 f hf
theorem own_keep {B : Nat} {e : PF} (he : CellsF e) {W W' : World} {row : Option Nat} (hs : e.P W) (hg : W.grownBy W' row) (hr : ∀ r, row = some r → B ≤ r ∧ ∃ o : Obj, W.heap[r]? = some o ∧ o.isCells = false) : e.P W' :=
  e.keep hs hg.size fun b hb => hg.block b (e.lt hs hb) fun h => by
    obtain ⟨_, o, ho, hc⟩ := hr b h.symm
    obtain ⟨o', ho', hc'⟩ := he W b hs hb
    rw [ho] at ho'
    cases ho'
    rw [hc] at hc'
    cases hc'
theorem St.grown {B : Nat} {W W' : World} {row : Option Nat} (h : St w0 W own ps) (hB : w0.heap.size ≤ B) (hc : CellsFs own) (hp : CellsFs ps) (hg : W.grownBy W' row) (hr : ∀ r, row = some r → B ≤ r ∧ ∃ o : Obj, W.heap[r]? = some o ∧ o.isCells = false) : St w0 W' own ps :=
  ⟨⟨hg.os.trans h.below.os, hg.tape.trans h.below.tape, hg.output.trans h.below.output, Nat.le_trans h.below.size hg.size, fun i hi => (hg.block i (Nat.lt_of_lt_of_le hi h.below.size) fun e => by
      have := (hr i e.symm).1
      omega).trans (h.below.block i hi)⟩,
    fun e he => own_keep (hc.at e he) (h.mine e he) hg hr, h.new, h.nd, fun p hp' => own_keep (hp.at p hp') (h.pers p hp') hg hr, h.apart⟩
def koF (W : World) : PF :=
  ⟨fun w => W.heap.size ≤ w.heap.size ∧ ∀ (b : Nat) (o : Obj), W.heap[b]? = some o → o.isCells = false → w.heap[b]? = some o, fun b => ∃ o : Obj, W.heap[b]? = some o ∧ o.isCells = false,
    fun h hb => by
      obtain ⟨o, ho, hc⟩ := hb
      exact lt_of_block (h.2 _ o ho hc),
    fun h hs hk => ⟨Nat.le_trans h.1 hs, fun b o hb ho => (hk b ⟨o, hb, ho⟩).trans (h.2 b o hb ho)⟩⟩
def defF (D : Nat) : PF :=
  ⟨fun w => w.heap[D]? = some (.deferred (some [])), fun b => b = D, fun h e => e ▸ lt_of_block h, fun h _ hk => (hk D rfl).trans h⟩
end
end Go.Proofs.YtbdngknpngcojaaDoor.W

/- Rows that grow, of which also the spare room is known: every cell of the block meets q. Over any program. No condition. -/
namespace Go.Proofs.YtbdngknpngcojaaDoor.W
open Go.RowKit Anv Go.Lib
def SpareQ (q : Value → Bool) (w : World) (E : TypeId) (v : Value) : Prop := ∀ g, v.ownBlock = some g → ∃ cur, w.heap[g]? = some (.cells cur E (0, 0)) ∧ cur.toList.all q = true
def rowG (q : Value → Bool) (E z : Nat) (v : Value) (n : Nat) (vs : List Value) : PF :=
  ⟨fun w => w.ownsRow 0 E z v n vs ∧ SpareQ q w E v, fun b => v.ownBlock = some b, fun h hb => (h.1.lt _ hb).2, fun {w w'} h hs hk => by
    refine ⟨(rowF E z v n vs).keep h.1 hs hk, fun g hg => ?_⟩
    obtain ⟨cur, hc, hq⟩ := h.2 g hg
    exact ⟨cur, (hk g hg).trans hc, hq⟩⟩
theorem rowG_F {q : Value → Bool} {E z n : Nat} {v : Value} {vs : List Value} {w : World} (h : (rowG q E z v n vs).P w) : w.ownsRow 0 E z v n vs := h.1
theorem nou_rowG {E z n : Nat} {v : Value} {vs : List Value} : NoU (rowG notU E z v n vs) := by
  intro w b o i hP hf hc
  obtain ⟨cur, hg, hq⟩ := hP.2 b hf
  rw [cell_of_row w _ _ _ _ _ hg] at hc
  have h2 := List.all_eq_true.1 hq _ (Array.mem_toList_iff.2 (Array.mem_of_getElem? hc))
  simp [notU] at h2
section
variable {P : Program} {K : Act → World → Prop} {Q : Exit → Act → World → Prop} {N : Nat} {dq : List Deferred} {a : Act} {l : List (Nat × Value)} {w w0 : World} {own ps : List PF}
variable {d : Nat} {ty : TypeId} {pos : String} {af : Array Edge} {gd : Option (Nat × Bool)}
theorem St.addRowG (h : St w0 w own ps) (q : Value → Bool) (E z : Nat) : St w0 w (rowG q E z (.slice none 0 0) 0 [] :: own) ps :=
  h.add0 _ ⟨World.ownsRow_nil w 0 E z, fun g hg => by simp [Value.ownBlock] at hg⟩ fun b hb => by simp [rowG, Value.ownBlock] at hb
theorem all_zeroCells {q : Value → Bool} {c : Array Value} (h : c.toList.all q = true) (k : Nat) : (Builtin.zeroCells c k).toList.all q = true := by
  refine List.all_eq_true.2 fun u hu => ?_
  unfold Builtin.zeroCells at hu
  rw [Array.toList_map] at hu
  obtain ⟨i, hi, rfl⟩ := List.mem_map.1 hu
  have hi : i < k * c.size := by simpa using hi
  have hc : i % c.size < c.size := Nat.mod_lt _ (Nat.pos_of_ne_zero fun h => by rw [h] at hi; omega)
  rw [getElem!_pos c _ hc]
  exact List.all_eq_true.1 h _ (Array.mem_toList_iff.2 (Array.getElem_mem hc))
theorem run_append_q (q : Value → Bool) {t ty e : TypeId} {i : TypeInfo} {z : Value} (ht : P.underlying t = some (.slice e)) (hi : P.info? e = some i) (hz : i.zero = some z)
    {v : Value} {n : Nat} {xs : List Value} (hown : w.ownsRow 0 e i.size v n xs) (hq : SpareQ q w e v) {ad : Addr} {m c : Nat} {news : List Value} (hl : news.length = m * i.size) (hnews : ∀ j u, news[j]? = some u → w.cell? (ad.add j) = some u) (h1 : ∀ u ∈ news, u.oneCell' = true)
    (hnq : news.all q = true) (hzq : z.cells.toList.all q = true) (hm : 0 < m) (h63 : n + m ≤ maxLen) (hbytes : (n + m) * i.bytes ≤ 140737488355328) :
    ∃ v' w', (Builtin.append_ #[t, t] ty #[v, .slice (some ad) m c]).run P w = .ok v' w' ∧ SpareQ q w' e v' := by
  have hsmall : n + m ≤ 9223372036854775807 := by simp only [maxLen] at h63; omega
  rcases hown.2 with ⟨rfl, rfl⟩ | ⟨g, cap, cur, rfl, _, hg, hnc, _, hcs, htake⟩
  · refine ⟨_, _, run_append_nil (P := P) w t ty e i z ht hi hz ad m c news hl hnews hm (by omega) (by simp only [Nat.zero_add] at hbytes; omega), fun g hg => ?_⟩
    obtain rfl : w.heap.size = g := by simpa [Value.ownBlock] using hg
    exact ⟨_, heap_alloc_new w.drew _, by rw [Array.toList_append, List.all_append, hnq, Bool.true_and]; exact all_zeroCells hzq _⟩
  · obtain ⟨cur', hg', hcq⟩ := hq g rfl
    rw [hg] at hg'
    cases hg'
    have hxq : xs.all q = true := by
      rw [← htake]
      exact List.all_eq_true.2 fun u hu => List.all_eq_true.1 hcq u (List.mem_of_mem_take hu)
    by_cases hroom : n + m ≤ cap
    · have hfit : n * i.size + news.length ≤ cur.size := by rw [hl, hcs, ← Nat.add_mul]; exact Nat.mul_le_mul_right _ hroom
      refine ⟨_, _, run_append_room (P := P) w t ty e i ht hi g n cap cur hg ad m c news hl hnews h1 hroom hfit, fun g' hg' => ?_⟩
      obtain rfl : g = g' := by simpa [Value.ownBlock] using hg'
      refine ⟨_, setRow_heap w g cur _ e _ hg, List.all_eq_true.2 fun u hu => ?_⟩
      simp only [List.mem_append] at hu
      rcases hu with (hu | hu) | hu
      · exact List.all_eq_true.1 hcq u (List.mem_of_mem_take hu)
      · exact List.all_eq_true.1 hnq u hu
      · exact List.all_eq_true.1 hcq u (List.mem_of_mem_drop hu)
    · have holds : ∀ j u, xs[j]? = some u → w.cell? ((⟨g, 0, none⟩ : Addr).add j) = some u := hown.cells (g := g) rfl
      refine ⟨_, _, run_append_grow (P := P) w t ty e i z ht hi hz ⟨g, 0, none⟩ n cap xs hown.1 holds ad m c news hl hnews (by omega) (by omega) (growslice_fits (by omega) hbytes), fun g' hg' => ?_⟩
      obtain rfl : w.heap.size = g' := by simpa [Value.ownBlock] using hg'
      refine ⟨_, heap_alloc_new w.drew _, ?_⟩
      simp only [Array.toList_append, List.all_append, hnq, hxq, Bool.true_and]
      exact all_zeroCells hzq _
theorem op_appendG {q : Value → Bool} {t E n z bytes k j g m c : Nat} {x y : Operand} {v zv : Value} {vs : List Value} {cs : Array Value} {E' : TypeId} (h : EnvD dq N a l) (hs : St w0 w own ps) (hd : Nat.blt d N = true) (hT : P.underlying t = some (.slice E))
    (hi : (P.info? E).map (fun i => (i.zero, i.size, i.bytes)) = some (some zv, z, bytes)) (hzs : zv.cells.size = z) (hz0 : Nat.blt 0 z = true) (hx : evl l x = some v) (hy : evl l y = some (.slice (some ⟨g, 0, none⟩) m c))
    (hk : own[k]? = some (rowG q E z v n vs)) (hj : own[j]? = some (bk g cs E')) (hm : cs.size = m * z) (h1 : cs.toList.all (·.oneCell') = true) (hcq : cs.toList.all q = true) (hzq : zv.cells.toList.all q = true) (hm0 : Nat.blt 0 m = true) (hn : n + m ≤ maxLen) (hb : (n + m) * bytes ≤ 140737488355328)
    (hK : ∀ a' w' v', EnvD dq N a' ((d, v') :: l) → St w0 w' (own.set k (rowG q E z v' (n + m) (vs ++ cs.toList))) ps → K a' w') :
    Oper.wp P ⟨some d, .call ⟨.builtin .append, #[x, y], #[t, t]⟩, ty, pos, af, gd⟩ a w K Q := by
  obtain ⟨i, hi1, hi2⟩ := Option.map_eq_some_iff.1 hi
  simp only [Prod.mk.injEq] at hi2
  obtain ⟨hz, hsz, hby⟩ := hi2
  have hrow := hs.owns hk
  have hl : cs.toList.length = m * z := by simpa using hm
  have hsrc : ∀ (j : Nat) u, cs.toList[j]? = some u → w.cell? ((⟨g, 0, none⟩ : Addr).add j) = some u := by
    intro i u hu
    have e1 : (⟨g, 0, none⟩ : Addr).add i = ⟨g, i, none⟩ := by unfold Addr.add; split <;> simp_all
    rw [e1, cell_of_row w g i cs E' (0, 0) (hs.oat hj)]
    simpa using hu
  have h1' : ∀ u ∈ cs.toList, u.oneCell' = true := fun u hu => List.all_eq_true.1 h1 u hu
  obtain ⟨v', w', hrun, hown', hgr, _, hat⟩ := run_append_own_at (P := P) w 0 t ty E i zv z bytes hT hi1 hz hsz hby hzs (Nat.le_of_ble_eq_true hz0) v n vs hrow.1 ⟨g, 0, none⟩ m c cs.toList hl hsrc h1' hn hb (Nat.zero_le _)
  have hq : SpareQ q w' E v' := by
    subst hsz hby
    obtain ⟨v2, w2, hrun2, hq⟩ := run_append_q (P := P) (ty := ty) q hT hi1 hz hrow.1 hrow.2 (c := c) hl hsrc h1' hcq hzq (Nat.le_of_ble_eq_true hm0) hn hb
    rw [hrun] at hrun2
    cases hrun2
    exact hq
  have hvx := h.ev hx
  have hvy := h.ev hy
  have hr : (execOp a.eval ⟨some d, .call ⟨.builtin .append, #[x, y], #[t, t]⟩, ty, pos, af, gd⟩).run P w = .ok (.value v') w' := by
    simp [execOp, resolve, invoke, builtin, hvx, hvy, hrun]
  unfold Oper.wp
  rw [hr]
  refine hK _ _ v' (h.put hd _) (hs.step' hk (e' := rowG q E z v' (n + m) (vs ++ cs.toList)) ⟨hown', hq⟩ (fun b hb => ?_) hgr.os hgr.tape hgr.output hgr.size fun b hb hnf => hgr.block b hb fun e => hnf e.symm)
  have hb' : v'.ownBlock = some b := hb
  rcases hat with h2 | h2
  · exact .inl (h2.symm.trans hb')
  · rw [h2] at hb'
    exact .inr (Nat.le_of_eq (Option.some.inj hb'))
end
end Go.Proofs.YtbdngknpngcojaaDoor.W

/- limb.Digits's iterator: the digits of a number's text, one by one. No condition. -/
namespace Go.Proofs.YtbdngknpngcojaaDoor.W
open Go.RowKit Anv Go.Lib
def dgt (c : UInt8) : Fin 10 := ⟨(c.toNat - 48) % 10, Nat.mod_lt _ (by decide)⟩
def dgs (s : List UInt8) : List (Fin 10) := s.map dgt
section
variable {P : Program} {K : Act → World → Prop} {Q : Exit → Act → World → Prop} {N : Nat} {dq : List Deferred} {a : Act} {l : List (Nat × Value)} {w : World}
variable {d : Nat} {ty : TypeId} {pos : String} {af : Array Edge} {gd : Option (Nat × Bool)}
end
end Go.Proofs.YtbdngknpngcojaaDoor.W

/- limb.Digits, and a number's text. Printed by pv/gen_itext.py. No condition. -/
namespace Go.Proofs.YtbdngknpngcojaaDoor.W
open Go.RowKit Anv Go.Lib
def textZ (z : Int) : List UInt8 := (if neg z then [45] else []) ++ textN z.natAbs
theorem bc_dig {d : Nat} (h : d < 10) (l : List UInt8) : byteCells l ++ (#[Value.int .u8 ((48 + d : Nat) : Int)] : Array Value).toList = byteCells (l ++ [dch d]) := by
  simp [byteCells, dch_nat h]
theorem inf_u8 : (Tryd.prog.info? 5).map (fun i => (i.zero, i.size, i.bytes)) = some (some (.int .u8 0), 1, 1) := by kernel_rfl
section
variable {P : Program} {N : Nat} {dq : List Deferred} {a : Act} {l : List (Nat × Value)} {w : World} {d : Nat} {ty : TypeId} {pos : String} {af : Array Edge} {gd : Option (Nat × Bool)}
theorem rn_rowStr {x : Operand} {S T E E' n : Nat} {v : Value} {s : List UInt8} (h : EnvD dq N a l) (hS : P.underlying S = some (.slice E)) (hE : P.underlying E = some (.int .u8)) (hT : P.underlying T = some .string)
    (hx : evl l x = some v) (hr : w.ownsRow 0 E' 1 v n (byteCells s)) (hs : s ≠ []) :
    (execOp a.eval ⟨some d, .convert S T x, ty, pos, af, gd⟩).run P w = .ok (.value (.string ⟨s.toArray⟩)) w := by
  have hl : s.length = n := by have := hr.1; simpa [byteCells] using this
  rcases hr.2 with hn | ⟨g, cap, cur, rfl, h0, hg, rest⟩
  · have : n = 0 := hn.2
    exact absurd (List.length_eq_zero_iff.1 (by omega)) hs
  · obtain ⟨hnc, hcm, hsz, htk⟩ := rest
    refine rn_bytesStr h hS hE hT hx hl hg fun j hj => ?_
    have h1 : (cur.toList.take (n * 1))[j]? = some (.int .u8 ((s.getD j 0).toNat : Nat)) := by
      rw [htk]
      have hj' : j < s.length := by omega
      simp [byteCells, List.getD, hj']
    rw [List.getElem?_take_of_lt (by omega)] at h1
    simpa using h1
end
end Go.Proofs.YtbdngknpngcojaaDoor.W
