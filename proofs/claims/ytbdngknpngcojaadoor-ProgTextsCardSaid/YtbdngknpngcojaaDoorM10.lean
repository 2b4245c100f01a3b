/- What is known of a frame and of a world: slots, blocks of the call's own, facts that last. No program in sight. No condition. -/
import Derived.Test.YtbdngknpngcojaaDoorM2
import Derived.Deep.MidRow
import Derived.OrdersHeld

namespace Go.Proofs.YtbdngknpngcojaaDoor
open Go.RowKit Anv
def look : List (Nat × Value) → Nat → Option Value
  | [], _ => none
  | (k, v) :: l, t => bif Nat.beq k t then some v else look l t
def evl (l : List (Nat × Value)) : Operand → Option Value
  | .tmp t => look l t
  | .const v => some v
  | .global g => some (.pointer (some ⟨g, 0, none⟩))
  | .func f => some (.func (.func f) #[] #[])
structure EnvD (dq : List Deferred) (N : Nat) (a : Act) (l : List (Nat × Value)) : Prop where
  size : a.tmps.size = N
  defers : a.defers = dq
  get : ∀ t v, look l t = some v → a.tmps.getD t undef = v
abbrev Env (N : Nat) (a : Act) (l : List (Nat × Value)) : Prop := EnvD [] N a l
section
variable {dq : List Deferred} {N : Nat} {a : Act} {l : List (Nat × Value)}
theorem EnvD.ev (h : EnvD dq N a l) {x : Operand} {v : Value} (hx : evl l x = some v) : a.eval x = v := by
  cases x with
  | tmp t => exact h.get t v hx
  | const c => exact Option.some.inj hx
  | global g => exact Option.some.inj hx
  | func f => exact Option.some.inj hx
theorem EnvD.put (h : EnvD dq N a l) {d : Nat} (hd : Nat.blt d N = true) (v : Value) : EnvD dq N (a.put (some d) v) ((d, v) :: l) := by
  have hd' : d < N := Nat.le_of_ble_eq_true hd
  refine ⟨by simp [Act.put, h.size], h.defers, fun t u hu => ?_⟩
  unfold look at hu
  by_cases e : d = t
  · subst e
    have : Nat.beq d d = true := Nat.beq_refl d
    rw [this] at hu
    simp at hu
    subst hu
    simp [Act.put, Array.getD, h.size, hd']
  · have : Nat.beq d t = false := by
      cases hb : Nat.beq d t with
      | false => rfl
      | true => exact absurd (Nat.eq_of_beq_eq_true hb) e
    rw [this] at hu
    have := h.get t u (by simpa using hu)
    rw [← this]
    simp [Act.put, Array.getD_eq_getD_getElem?, Array.getElem?_setIfInBounds_ne e]
theorem EnvD.put0 (h : EnvD dq N a l) (v : Value) : EnvD dq N (a.put none v) l := h
theorem EnvD.nil (h : EnvD dq N a l) : EnvD dq N a [] := ⟨h.size, h.defers, fun t v hv => by simp [look] at hv⟩
theorem EnvD.add (h : EnvD dq N a l) {t : Nat} {v : Value} (hv : a.tmps.getD t undef = v) : EnvD dq N a ((t, v) :: l) := by
  refine ⟨h.size, h.defers, fun u x hx => ?_⟩
  unfold look at hx
  cases hb : Nat.beq t u with
  | true => rw [hb] at hx; simp at hx; subst hx; rw [← Nat.eq_of_beq_eq_true hb]; exact hv
  | false => rw [hb] at hx; exact h.get u x (by simpa using hx)
def subOK (l : List (Nat × Value)) : List (Nat × Value) → Prop
  | [] => True
  | (t, v) :: r => look l t = some v ∧ subOK l r
theorem EnvD.sub (h : EnvD dq N a l) {l2 : List (Nat × Value)} (hs : subOK l l2) : EnvD dq N a l2 := by
  induction l2 with
  | nil => exact h.nil
  | cons p l2 ih => exact (ih hs.2).add (h.get _ _ hs.1)
theorem EnvD.at (h : EnvD dq N a l) {t : Nat} {v : Value} (hv : look l t = some v) : a.tmps.getD t undef = v := h.get t v hv
end
structure Bk where
  g : Nat
  c : Array Value
  t : TypeId
structure PF where
  P : World → Prop
  foot : Nat → Prop
  lt : ∀ {w b}, P w → foot b → b < w.heap.size
  keep : ∀ {w w' : World}, P w → w.heap.size ≤ w'.heap.size → (∀ b, foot b → w'.heap[b]? = w.heap[b]?) → P w'
structure St (w0 w : World) (own : List Bk) (ps : List PF) : Prop where
  below : Below w0.heap.size w0 w
  mine : ∀ e ∈ own, w0.heap.size ≤ e.g ∧ w.heap[e.g]? = some (.cells e.c e.t (0, 0))
  nd : (own.map Bk.g).Nodup
  pers : ∀ p ∈ ps, p.P w
  apart : ∀ p ∈ ps, ∀ e ∈ own, ¬ p.foot e.g
theorem lt_of_block {w : World} {g : Nat} {o : Obj} (h : w.heap[g]? = some o) : g < w.heap.size := by
  rcases Nat.lt_or_ge g w.heap.size with hlt | hge
  · exact hlt
  · rw [Array.getElem?_eq_none hge] at h; cases h
section
variable {w0 w w' : World} {own : List Bk} {ps : List PF} {e : Bk} {p : PF} {k : Nat}
theorem St.start (w : World) : St w w [] [] :=
  ⟨Below.refl _ _, fun e h => by simp at h, by simp, fun p h => by simp at h, fun p h => by simp at h⟩
theorem St.oat (h : St w0 w own ps) (hk : own[k]? = some e) : w.heap[e.g]? = some (.cells e.c e.t (0, 0)) := (h.mine e (List.mem_of_getElem? hk)).2
theorem St.oge (h : St w0 w own ps) (hk : own[k]? = some e) : w0.heap.size ≤ e.g := (h.mine e (List.mem_of_getElem? hk)).1
theorem St.pat (h : St w0 w own ps) (hk : ps[k]? = some p) : p.P w := h.pers p (List.mem_of_getElem? hk)
theorem St.one (h : St w0 w own ps) {j : Nat} {f : Bk} (hk : own[k]? = some e) (hj : own[j]? = some f) (hn : Nat.beq k j = false) : e.g ≠ f.g := by
  intro he
  have hkj : k ≠ j := fun h => by subst h; rw [show Nat.beq k k = true from Nat.beq_refl k] at hn; cases hn
  have h1 : (own.map Bk.g)[k]? = some e.g := by simp [hk]
  have h2 : (own.map Bk.g)[j]? = some e.g := by simp [hj, he]
  have hl : k < (own.map Bk.g).length := by
    rcases Nat.lt_or_ge k (own.map Bk.g).length with h | h
    · exact h
    · rw [List.getElem?_eq_none h] at h1; cases h1
  exact hkj ((List.getElem?_inj hl h.nd).1 (h1.trans h2.symm))
theorem St.addP (h : St w0 w own ps) (p : PF) (hp : p.P w) (ha : ∀ e ∈ own, ¬ p.foot e.g) : St w0 w own (p :: ps) :=
  ⟨h.below, h.mine, h.nd, fun q hq => by
    rcases List.mem_cons.1 hq with rfl | hq
    · exact hp
    · exact h.pers q hq, fun q hq => by
    rcases List.mem_cons.1 hq with rfl | hq
    · exact ha
    · exact h.apart q hq⟩
theorem St.call (h : St w0 w own ps) (hb : Below w.heap.size w w') : St w0 w' own ps :=
  ⟨h.below.trans (hb.mono h.below.size), fun e he => ⟨(h.mine e he).1, (hb.block _ (lt_of_block (h.mine e he).2)).trans (h.mine e he).2⟩, h.nd,
    fun p hp => p.keep (h.pers p hp) hb.size fun b hb' => hb.block b (p.lt (h.pers p hp) hb'), h.apart⟩
theorem St.drew (h : St w0 w own ps) : St w0 w.drew own ps := h.call (Below.refl _ _).drew
theorem St.push (h : St w0 w own ps) (c : Array Value) (t : TypeId) : St w0 (w.alloc (.cells c t)) (⟨w.heap.size, c, t⟩ :: own) ps := by
  have h' := h.call (below1 w (.cells c t))
  refine ⟨h'.below, fun e he => ?_, ?_, h'.pers, fun p hp e he hf => ?_⟩
  · rcases List.mem_cons.1 he with rfl | he
    · exact ⟨h.below.size, heap_alloc_new w _⟩
    · exact h'.mine e he
  · simp only [List.map_cons, List.nodup_cons]
    refine ⟨fun hm => ?_, h.nd⟩
    obtain ⟨e, he, hg⟩ := List.mem_map.1 hm
    have := lt_of_block (h.mine e he).2
    omega
  · rcases List.mem_cons.1 he with rfl | he
    · exact absurd (p.lt (h.pers p hp) hf) (Nat.lt_irrefl _)
    · exact h.apart p hp e he hf
structure Upd (w w' : World) (g : Nat) (c : Array Value) (t : TypeId) : Prop where
  os : w'.os = w.os
  tape : w'.tape = w.tape
  output : w'.output = w.output
  size : w'.heap.size = w.heap.size
  new : w'.heap[g]? = some (.cells c t (0, 0))
  old : ∀ k, k ≠ g → w'.heap[k]? = w.heap[k]?
theorem St.upd (h : St w0 w own ps) (hk : own[k]? = some e) {c : Array Value} (hu : Upd w w' e.g c e.t) : St w0 w' (own.set k ⟨e.g, c, e.t⟩) ps := by
  have hge := h.oge hk
  have hlen : k < own.length := by
    rcases Nat.lt_or_ge k own.length with h | h
    · exact h
    · rw [List.getElem?_eq_none h] at hk; cases hk
  have hek : own[k] = e := by
    have := List.getElem?_eq_getElem hlen
    rw [hk] at this
    exact (Option.some.inj this).symm
  have hmap : (own.set k ⟨e.g, c, e.t⟩).map Bk.g = own.map Bk.g := by
    rw [List.map_set]
    apply List.ext_getElem?
    intro i
    rw [List.getElem?_set]
    split
    · rename_i hi
      subst hi
      simp [hlen, hek]
    · rfl
  have hgs : ∀ f ∈ own.set k ⟨e.g, c, e.t⟩, f = ⟨e.g, c, e.t⟩ ∨ (f ∈ own ∧ f.g ≠ e.g) := by
    intro f hf
    obtain ⟨i, hi, rfl⟩ := List.getElem_of_mem hf
    rw [List.getElem_set]
    split
    · exact .inl rfl
    · rename_i hne
      have hi' : i < own.length := by simpa using hi
      refine .inr ⟨List.getElem_mem hi', ?_⟩
      have hb : Nat.beq i k = false := by
        cases hb : Nat.beq i k with
        | false => rfl
        | true => exact absurd (Nat.eq_of_beq_eq_true hb).symm hne
      exact h.one (List.getElem?_eq_getElem hi') hk hb
  refine ⟨⟨hu.os.trans h.below.os, hu.tape.trans h.below.tape, hu.output.trans h.below.output, by rw [hu.size]; exact h.below.size, fun i hi => ?_⟩, fun f hf => ?_, by rw [hmap]; exact h.nd, fun p hp => ?_, fun p hp f hf => ?_⟩
  · exact (hu.old i (by omega)).trans (h.below.block i hi)
  · rcases hgs f hf with rfl | ⟨hf, hn⟩
    · exact ⟨hge, hu.new⟩
    · exact ⟨(h.mine f hf).1, (hu.old _ hn).trans (h.mine f hf).2⟩
  · exact p.keep (h.pers p hp) (Nat.le_of_eq hu.size.symm) fun b hb => hu.old b fun hbe => h.apart p hp e (List.mem_of_getElem? hk) (hbe ▸ hb)
  · rcases hgs f hf with rfl | ⟨hf, _⟩
    · exact h.apart p hp e (List.mem_of_getElem? hk)
    · exact h.apart p hp f hf
theorem St.pick (h : St w0 w own ps) (is js : List Nat) (hn : is.Nodup) : St w0 w (is.filterMap (own[·]?)) (js.filterMap (ps[·]?)) := by
  refine ⟨h.below, fun e he => ?_, ?_, fun p hp => ?_, fun p hp e he => ?_⟩
  · obtain ⟨i, _, hi⟩ := List.mem_filterMap.1 he
    exact h.mine e (List.mem_of_getElem? hi)
  · clear js
    induction is with
    | nil => simp
    | cons i is ih =>
      have hn' := List.nodup_cons.1 hn
      cases hi : own[i]? with
      | none => simp [hi]; simpa using ih hn'.2
      | some e =>
        simp only [List.filterMap_cons, hi, List.map_cons, List.nodup_cons]
        refine ⟨fun hm => ?_, ih hn'.2⟩
        obtain ⟨f, hf, hg⟩ := List.mem_map.1 hm
        obtain ⟨j, hj, hfj⟩ := List.mem_filterMap.1 hf
        have hb : Nat.beq j i = false := by
          cases hb : Nat.beq j i with
          | false => rfl
          | true => rw [Nat.eq_of_beq_eq_true hb] at hj; exact absurd hj hn'.1
        exact h.one hfj hi hb hg
  · obtain ⟨j, _, hj⟩ := List.mem_filterMap.1 hp
    exact h.pat hj
  · obtain ⟨j, _, hj⟩ := List.mem_filterMap.1 hp
    obtain ⟨i, _, hi⟩ := List.mem_filterMap.1 he
    exact h.apart p (List.mem_of_getElem? hj) e (List.mem_of_getElem? hi)
end
end Go.Proofs.YtbdngknpngcojaaDoor
