/- Stores, new rows, rows that grow; drawn regions: second form. Over any program. No condition. -/
import Derived.Test.YtbdngknpngcojaaDoorM14
import Derived.Maps.AppendAt
import Derived.Test.YtbdngknpngcojaaDoorM12

namespace Go.Proofs.YtbdngknpngcojaaDoor.W
open Go.RowKit Anv
section
variable {P : Program} {K : Act → World → Prop} {Q : Exit → Act → World → Prop} {N : Nat} {dq : List Deferred} {a : Act} {l : List (Nat × Value)} {w w0 : World} {own ps : List PF}
variable {d : Nat} {ty : TypeId} {pos : String} {af : Array Edge} {gd : Option (Nat × Bool)}
theorem op_store1 {T o k g t : Nat} {x y : Operand} {v : Value} {c c' : Array Value} (h : EnvD dq N a l) (hs : St w0 w own ps) (hi : ∃ i, P.info? T = some i ∧ i.size = 1) (hx : evl l x = some (.pointer (some ⟨g, o, none⟩))) (hy : evl l y = some v)
    (hk : own[k]? = some (bk g c t)) (ho : o < c.size) (h1 : v.oneCell' = true) (hc : c.setIfInBounds o v = c')
    (hK : ∀ a' w', EnvD dq N a' l → St w0 w' (own.set k (bk g c' t)) ps → K a' w') :
    Oper.wp P ⟨none, .store T x y, ty, pos, af, gd⟩ a w K Q := by
  have hg := hs.oat hk
  obtain ⟨i, hi, hin⟩ := hi
  have hcl : w.cell? ⟨g, o, none⟩ = some c[o] := by rw [cell_of_row w _ _ _ _ _ hg]; simp [ho]
  have hf : w.frozen? ⟨g, o, none⟩ = false := by simp [World.frozen?, hg]
  have hv : v.cells = #[v] := by cases v <;> simp_all [Value.cells, Value.oneCell']
  have hr : (execOp a.eval ⟨none, .store T x y, ty, pos, af, gd⟩).run P w = .ok .skip (w.setCell ⟨g, o, none⟩ v) := by
    simp only [execOp, h.ev hx, h.ev hy, Instr.storeAt, Instr.sureAddr, Sem.run_bind, Sem.run_pure, Result.andThen_ok, storeVar, run_sizeOf ⟨i, hi, hin⟩, hv]
    have h0 : (⟨g, o, none⟩ : Addr).add 0 = ⟨g, o, none⟩ := by rw [Addr.add_mid]; rfl
    have hst : ((store (⟨g, o, none⟩ : Addr) v).run P w) = .ok () (w.setCell ⟨g, o, none⟩ v) := by
      cases v <;> simp_all [store, Sem.run, Value.oneCell']
    simp [storeCells, h0, hst]
  unfold Oper.wp
  rw [hr]
  subst hc
  exact hK _ _ (h.put0 _) (hs.upd hk (setCell_upd _ hg))
theorem op_buildSlice {T E n z : Nat} {parts : Array (Nat × Operand)} {pv : Array (Nat × Value)} {zv : Value} {c : Array Value} (h : EnvD dq N a l) (hs : St w0 w own ps) (hd : Nat.blt d N = true)
    (hT : P.underlying T = some (.slice E)) (hE : ∃ i, P.info? E = some i ∧ i.size = z) (hz : ∃ i, P.info? E = some i ∧ i.zero = some zv) (hn : n * z ≤ 1000000) (hn0 : n * z ≠ 0)
    (hp : parts.toList.map (fun p => (p.1, evl l p.2)) = pv.toList.map (fun p => (p.1, some p.2)))
    (hf : Instr.fill (fun i => some (i * z, z)) ((Array.range (n * z)).map (zv.cells[· % zv.cells.size]!)) pv.toList = some c)
    (hK : ∀ a' w' g, EnvD dq N a' ((d, .slice (some ⟨g, 0, none⟩) n n) :: l) → St w0 w' (bk g c E :: own) ps → K a' w') :
    Oper.wp P ⟨some d, .buildSlice T n parts, ty, pos, af, gd⟩ a w K Q := by
  have he : parts.map (fun (i, x) => (i, a.eval x)) = pv := by
    apply Array.ext'
    rw [Array.toList_map]
    generalize parts.toList = xl at hp ⊢
    generalize pv.toList = vl at hp ⊢
    induction xl generalizing vl with
    | nil => cases vl with
      | nil => rfl
      | cons => simp at hp
    | cons x xl ih => cases vl with
      | nil => simp at hp
      | cons v vl =>
        simp only [List.map_cons, List.cons.injEq, Prod.mk.injEq] at hp ⊢
        refine ⟨?_, ih vl hp.2⟩
        obtain ⟨i, x⟩ := x
        obtain ⟨j, v⟩ := v
        have h1 : i = j := hp.1.1
        have h2 := h.ev hp.1.2
        subst h1
        exact Prod.ext rfl h2
  obtain ⟨i, hi, hv⟩ := hz
  have hzv : (zeroValue E).run P w = .ok zv w := by simp [zeroValue, typeInfo, hi, hv]
  have hr : (execOp a.eval ⟨some d, .buildSlice T n parts, ty, pos, af, gd⟩).run P w = .ok (.value (.slice (some ⟨w.heap.size, 0, none⟩) n n)) (w.alloc (.cells c E)) := by
    simp only [execOp, he, Instr.buildSlice, Sem.run_bind, run_underlying hT w, Result.andThen_ok, run_sizeOf hE, if_neg (show ¬ n * z > 2 ^ 24 by omega), if_neg hn0, hzv, Sem.run_pure, hf]
    rfl
  unfold Oper.wp
  rw [hr]
  exact hK _ _ _ (h.put hd _) (hs.push _ _)
theorem rn_eqls {x y : Operand} {T yt : Nat} {s t : List UInt8} (h : EnvD dq N a l) (hx : evl l x = some (.string ⟨s.toArray⟩)) (hy : evl l y = some (.string ⟨t.toArray⟩)) :
    (execOp a.eval ⟨some d, .binOp .eql T x y yt, ty, pos, af, gd⟩).run P w = .ok (.value (.bool (decide (s = t)))) w :=
  rn_bin h hx hy (by by_cases e : s = t <;> simp [eqGuard, binOp, Op.stringOp, ByteArray.toList_eq, e])
theorem rn_neqs {x y : Operand} {T yt : Nat} {s t : List UInt8} (h : EnvD dq N a l) (hx : evl l x = some (.string ⟨s.toArray⟩)) (hy : evl l y = some (.string ⟨t.toArray⟩)) :
    (execOp a.eval ⟨some d, .binOp .neq T x y yt, ty, pos, af, gd⟩).run P w = .ok (.value (.bool (!decide (s = t)))) w :=
  rn_bin h hx hy (by by_cases e : s = t <;> simp [eqGuard, binOp, Op.stringOp, ByteArray.toList_eq, e])
def rowF (E z : Nat) (v : Value) (n : Nat) (vs : List Value) : PF :=
  ⟨fun w => w.ownsRow 0 E z v n vs, fun b => v.ownBlock = some b, fun h hb => (h.lt _ hb).2, fun {w w'} h _ hk => by
    refine ⟨h.1, ?_⟩
    rcases h.2 with hn | ⟨g, cap, cur, rfl, hb, hg, rest⟩
    · exact .inl hn
    · exact .inr ⟨g, cap, cur, rfl, hb, (hk g rfl).trans hg, rest⟩⟩
theorem St.addRow (h : St w0 w own ps) (E z : Nat) : St w0 w (rowF E z (.slice none 0 0) 0 [] :: own) ps :=
  h.add0 _ (World.ownsRow_nil w 0 E z) fun b hb => by simp [rowF, Value.ownBlock] at hb
theorem op_append0 {t E n z bytes k m c : Nat} {x y : Operand} {v zv : Value} {vs news : List Value} {ad : Addr} (h : EnvD dq N a l) (hs : St w0 w own ps) (hd : Nat.blt d N = true) (hT : P.underlying t = some (.slice E))
    (hi : (P.info? E).map (fun i => (i.zero, i.size, i.bytes)) = some (some zv, z, bytes)) (hzs : zv.cells.size = z) (hz0 : Nat.blt 0 z = true) (hx : evl l x = some v) (hy : evl l y = some (.slice (some ad) m c))
    (hk : own[k]? = some (rowF E z v n vs)) (hm : news.length = m * z) (hsrc : ∀ i u, news[i]? = some u → w.cell? (ad.add i) = some u) (h1 : news.all (·.oneCell') = true) (hn : n + m ≤ maxLen) (hb : (n + m) * bytes ≤ 140737488355328)
    (hK : ∀ a' w' v', EnvD dq N a' ((d, v') :: l) → St w0 w' (own.set k (rowF E z v' (n + m) (vs ++ news))) ps → K a' w') :
    Oper.wp P ⟨some d, .call ⟨.builtin .append, #[x, y], #[t, t]⟩, ty, pos, af, gd⟩ a w K Q := by
  obtain ⟨i, hi1, hi2⟩ := Option.map_eq_some_iff.1 hi
  simp only [Prod.mk.injEq] at hi2
  obtain ⟨hz, hsz, hby⟩ := hi2
  have hrow : w.ownsRow 0 E z v n vs := hs.owns hk
  obtain ⟨v', w', hrun, hown', hgr, _, hat⟩ := run_append_own_at (P := P) w 0 t ty E i zv z bytes hT hi1 hz hsz hby hzs (Nat.le_of_ble_eq_true hz0) v n vs hrow ad m c news hm hsrc (fun u hu => List.all_eq_true.1 h1 u hu) hn hb (Nat.zero_le _)
  have hvx := h.ev hx
  have hvy := h.ev hy
  have hr : (execOp a.eval ⟨some d, .call ⟨.builtin .append, #[x, y], #[t, t]⟩, ty, pos, af, gd⟩).run P w = .ok (.value v') w' := by
    simp [execOp, resolve, invoke, builtin, hvx, hvy, hrun]
  unfold Oper.wp
  rw [hr]
  refine hK _ _ v' (h.put hd _) (hs.step' hk hown' (fun b hb => ?_) hgr.os hgr.tape hgr.output hgr.size fun b hb hnf => hgr.block b hb fun e => hnf e.symm)
  have hb' : v'.ownBlock = some b := hb
  rcases hat with h2 | h2
  · exact .inl (h2.symm.trans hb')
  · rw [h2] at hb'
    exact .inr (Nat.le_of_eq (Option.some.inj hb'))
theorem op_append {t E n z bytes k j g m c : Nat} {x y : Operand} {v zv : Value} {vs : List Value} {cs : Array Value} {E' : TypeId} (h : EnvD dq N a l) (hs : St w0 w own ps) (hd : Nat.blt d N = true) (hT : P.underlying t = some (.slice E))
    (hi : (P.info? E).map (fun i => (i.zero, i.size, i.bytes)) = some (some zv, z, bytes)) (hzs : zv.cells.size = z) (hz0 : Nat.blt 0 z = true) (hx : evl l x = some v) (hy : evl l y = some (.slice (some ⟨g, 0, none⟩) m c))
    (hk : own[k]? = some (rowF E z v n vs)) (hj : own[j]? = some (bk g cs E')) (hm : cs.size = m * z) (h1 : cs.toList.all (·.oneCell') = true) (hn : n + m ≤ maxLen) (hb : (n + m) * bytes ≤ 140737488355328)
    (hK : ∀ a' w' v', EnvD dq N a' ((d, v') :: l) → St w0 w' (own.set k (rowF E z v' (n + m) (vs ++ cs.toList))) ps → K a' w') :
    Oper.wp P ⟨some d, .call ⟨.builtin .append, #[x, y], #[t, t]⟩, ty, pos, af, gd⟩ a w K Q :=
  op_append0 h hs hd hT hi hzs hz0 hx hy hk (by simpa using hm) (by
    intro i u hu
    have e1 : (⟨g, 0, none⟩ : Addr).add i = ⟨g, i, none⟩ := by unfold Addr.add; split <;> simp_all
    rw [e1, cell_of_row w g i cs E' (0, 0) (hs.oat hj)]
    simpa using hu) h1 hn hb hK
end
section
variable {P : Program} {ops : Array Oper} {Q : Exit → Act → World → Prop} {S : Nat → World → Prop}
def Kn (w : World) (l : List PF) (ps : List PF) : Prop := (∀ e ∈ l, e.P w) ∧ ∀ p ∈ ps, p.P w
section
variable {w w0 : World} {own : List PF} {ps : List PF} {k : Nat} {e : PF} {p : PF}
theorem St.kn (h : St w0 w own ps) : Kn w own ps := ⟨h.mine, h.pers⟩
theorem Kn.owns (h : Kn w own ps) (hk : own[k]? = some e) : e.P w := h.1 e (List.mem_of_getElem? hk)
theorem Kn.oat (h : Kn w own ps) {g : Nat} {c : Array Value} {t : TypeId} (hk : own[k]? = some (bk g c t)) : w.heap[g]? = some (.cells c t (0, 0)) := h.1 _ (List.mem_of_getElem? hk)
theorem Kn.pat (h : Kn w own ps) (hk : ps[k]? = some p) : p.P w := h.2 p (List.mem_of_getElem? hk)
theorem Kn.pick (h : Kn w own ps) (is js : List Nat) : Kn w (is.filterMap (own[·]?)) (js.filterMap (ps[·]?)) :=
  ⟨fun e he => by obtain ⟨i, _, hi⟩ := List.mem_filterMap.1 he; exact h.owns hi, fun p hp => by obtain ⟨i, _, hi⟩ := List.mem_filterMap.1 hp; exact h.pat hi⟩
end
def Sk (l1 : List PF) (ps : List PF) (Z : List Nat) (l2 : List PF) (j : Nat) (w : World) : Prop := Kn w l1 ps ∧ (Z.contains j = true ∨ Kn w l2 [])
theorem Sk.two {l1 : List PF} {ps : List PF} {Z : List Nat} {l2 : List PF} {j : Nat} {w : World} {T : List Nat} (h : Sk l1 ps Z l2 j w) (hz : (Z.all fun j => T.contains j) = true) (hj : j ∉ T) : Kn w l2 [] := by
  rcases h.2 with h | h
  · have h1 : j ∈ Z := by simpa using h
    exact absurd (by simpa using List.all_eq_true.1 hz j h1) hj
  · exact h
theorem region_any {id n : Nat} {N : Nat} {dq : List Deferred} {a : Act} {w w0 : World} {own : List PF} {ps : List PF} {l : List (Nat × Value)} (S : Nat → World → Prop) (hm : P.follows .mixedOrders = true) (hn : ops.size = n) (he : EnvD dq N a l) (hs : St w0 w own ps)
    (h : ∀ w', EnvD dq N a l → St w0 w' own ps → sAny P ops Q S n (Array.replicate n false) a w') : (Code.region id ops true).wp P Q a w := by
  subst hn
  exact wp_region_any hm (sAny_wp _ _ _ _ (h _ he hs.drew))
end
end Go.Proofs.YtbdngknpngcojaaDoor.W

/- Steps of a walk, told shortly. Over any program. No condition. -/
namespace Go.Proofs.YtbdngknpngcojaaDoor.W
open Go.RowKit Anv
section
variable {P : Program} {ops : Array Oper} {Q : Exit → Act → World → Prop} {rest : List Oper} {N : Nat} {dq : List Deferred} {l : List (Nat × Value)} {w : World} {d : Nat} {ty : TypeId} {pos : String} {af : Array Edge} {op : Op} {v : Value} {x : Operand}
theorem sA (hd : Nat.blt d N = true) (hr : ∀ a, EnvD dq N a l → (execOp a.eval ⟨some d, op, ty, pos, af, none⟩).run P w = .ok (.value v) w) (hK : ∀ a, EnvD dq N a ((d, v) :: l) → wpList P ops Q rest a w) : ∀ a, EnvD dq N a l → wpList P ops Q (⟨some d, op, ty, pos, af, none⟩ :: rest) a w := fun a h => sv h hd (hr a h) hK
theorem mA (hd : Nat.blt d N = true) (hx : evl l x = some v) (hK : ∀ a, EnvD dq N a ((d, v) :: l) → wpList P ops Q rest a w) : ∀ a, EnvD dq N a l → wpList P ops Q (⟨some d, .move x, ty, pos, af, none⟩ :: rest) a w := fun _ h => sv h hd (rn_move h hx) hK
theorem aA (hd : Nat.blt d N = true) (hx : evl l x = some v) (hK : ∀ a, EnvD dq N a ((d, v) :: l) → wpList P ops Q rest a w) : ∀ a, EnvD dq N a l → wpList P ops Q (⟨some d, .assign x, ty, pos, af, none⟩ :: rest) a w := fun _ h => sv h hd (rn_assign h hx) hK
theorem gA {g t : Nat} {b : Bool} {og : Oper} (hg : ops[g]? = some og) (hgd : og.dst = some t) (hgv : look l t = some (.bool b)) (hd : Nat.blt d N = true) (hr : ∀ a, EnvD dq N a l → (execOp a.eval ⟨some d, op, ty, pos, af, some (g, b)⟩).run P w = .ok (.value v) w) (hK : ∀ a, EnvD dq N a ((d, v) :: l) → wpList P ops Q rest a w) : ∀ a, EnvD dq N a l → wpList P ops Q (⟨some d, op, ty, pos, af, some (g, b)⟩ :: rest) a w := fun a h => seq_g hg h hgd hgv (op_val h hd (hr a h) hK)
theorem kA {g t : Nat} {b : Bool} {u : Value} {og : Oper} (hg : ops[g]? = some og) (hgd : og.dst = some t) (hgv : look l t = some u) (hd : Nat.blt d N = true) (hbc : isB u b = false) (hK : ∀ a, EnvD dq N a ((d, undef) :: l) → wpList P ops Q rest a w) : ∀ a, EnvD dq N a l → wpList P ops Q (⟨some d, op, ty, pos, af, some (g, b)⟩ :: rest) a w := fun _ h => seq_skip hg h hgd hgv hd hbc hK
end
abbrev rg (a n : Nat) : List Nat := List.range' a n
section
variable {P : Program} {ops : Array Oper} {Q : Exit → Act → World → Prop} {S : Nat → World → Prop} {N : Nat} {dq : List Deferred} {a : Act} {l : List (Nat × Value)} {w : World} {listed : Array Bool} {fuel i d : Nat} {ty : TypeId} {pos : String} {af : Array Edge} {v : Value} {x : Operand}
theorem tA {op : Op} (T : List Nat) (hi : ops[i]? = some ⟨some d, op, ty, pos, af, none⟩) (hb : takeB ops listed i T = true) (hQ : ∀ c (a : Act) w, Q (.panic c) (a.put (some d) v) w → Q (.panic c) a w) (h : EnvD dq N a l) (hd : Nat.blt d N = true)
    (hr : ∀ w', (execOp a.eval ⟨some d, op, ty, pos, af, none⟩).run P w' = .ok (.value v) w') (hK : ∀ a', EnvD dq N a' ((d, v) :: l) → sAny P ops Q S fuel (listed.setIfInBounds i true) a' w) : sAny P ops Q S (fuel + 1) listed a w :=
  sAny_take T (fun _ => True) hi hb hQ (fun _ _ _ _ => trivial) h hd trivial (fun w' _ => hr w') hK
theorem tAg {op : Op} {g t : Nat} {b : Bool} {og : Oper} (T : List Nat) (hi : ops[i]? = some ⟨some d, op, ty, pos, af, some (g, b)⟩) (hb : takeB ops listed i T = true) (hQ : ∀ c (a : Act) w, Q (.panic c) (a.put (some d) v) w → Q (.panic c) a w) (h : EnvD dq N a l) (hd : Nat.blt d N = true) (hg : ops[g]? = some og) (hgd : og.dst = some t) (hgv : look l t = some (.bool b))
    (hr : ∀ w', (execOp a.eval ⟨some d, op, ty, pos, af, some (g, b)⟩).run P w' = .ok (.value v) w') (hK : ∀ a', EnvD dq N a' ((d, v) :: l) → sAny P ops Q S fuel (listed.setIfInBounds i true) a' w) : sAny P ops Q S (fuel + 1) listed a w :=
  sAny_takeg T (fun _ => True) hi hb hQ (fun _ _ _ _ => trivial) h hd hg hgd hgv trivial (fun w' _ => hr w') hK
theorem tM (T : List Nat) (hi : ops[i]? = some ⟨some d, .move x, ty, pos, af, none⟩) (hb : takeB ops listed i T = true) (hQ : ∀ c (a : Act) w, Q (.panic c) (a.put (some d) v) w → Q (.panic c) a w) (h : EnvD dq N a l) (hd : Nat.blt d N = true)
    (hx : evl l x = some v) (hK : ∀ a', EnvD dq N a' ((d, v) :: l) → sAny P ops Q S fuel (listed.setIfInBounds i true) a' w) : sAny P ops Q S (fuel + 1) listed a w := tA T hi hb hQ h hd (fun _ => rn_move h hx) hK
end
section
variable {P : Program} {ops : Array Oper} {Q : Exit → Act → World → Prop} {N : Nat} {dq : List Deferred} {a : Act} {l : List (Nat × Value)} {w w0 : World} {listed : Array Bool} {fuel i d j k g n Ty : Nat} {ty t : TypeId} {pos : String} {af : Array Edge} {x : Operand} {c : Array Value} {l1 l2 own ps pt : List PF} {Z : List Nat}
theorem tL (j k : Nat) (T : List Nat) (hi : ops[i]? = some ⟨some d, .load Ty x, ty, pos, af, none⟩) (hb : takeB ops listed i T = true) (hQ : ∀ c' (a : Act) w, Q (.panic c') (a.put (some d) (.agg c)) w → Q (.panic c') a w) (h : EnvD dq N a l) (hd : Nat.blt d N = true) (ht : TAgg P Ty n) (hx : evl l x = some (.pointer (some ⟨g, 0, none⟩))) (hs : St w0 w own pt)
    (hj : l1[j]? = some (bk g c t)) (hk : own[k]? = some (bk g c t)) (hn : c.size = n) (hK : ∀ a', EnvD dq N a' ((d, .agg c) :: l) → sAny P ops Q (Sk l1 ps Z l2) fuel (listed.setIfInBounds i true) a' w) : sAny P ops Q (Sk l1 ps Z l2) (fuel + 1) listed a w :=
  sAny_take T (fun w' => w'.heap[g]? = some (.cells c t (0, 0))) hi hb hQ (fun _ _ _ hS => hS.1.oat hj) h hd (hs.oat hk) (fun _ hg => rn_load0 h ht hx hg hn) hK
end
section
variable {P : Program} {a : Act} {w : World} {fn : Func} {r1 r2 r3 r4 r5 : ResultVar} {v1 v2 v3 v4 v5 : Value}
end
end Go.Proofs.YtbdngknpngcojaaDoor.W
