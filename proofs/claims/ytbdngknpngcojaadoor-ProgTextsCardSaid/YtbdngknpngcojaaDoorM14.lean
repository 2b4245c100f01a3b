/- What is known of a world, second form: the call's own is a list of facts, each with its blocks (a block of cells, a row that grows, a builder ..). Over any program. No condition. -/
import Derived.Test.YtbdngknpngcojaaDoorM13
import Derived.Laws.AppendOwn

namespace Go.Proofs.YtbdngknpngcojaaDoor.W
open Go.RowKit Anv
def bk (g : Nat) (c : Array Value) (t : TypeId) : PF :=
  ⟨fun w => w.heap[g]? = some (.cells c t (0, 0)), fun b => b = g, fun h e => e ▸ lt_of_block h, fun h _ hk => (hk g rfl).trans h⟩
structure St (w0 w : World) (own ps : List PF) : Prop where
  below : Below w0.heap.size w0 w
  mine : ∀ e ∈ own, e.P w
  new : ∀ e ∈ own, ∀ b, e.foot b → w0.heap.size ≤ b
  nd : own.Pairwise fun e f => ∀ b, e.foot b → ¬ f.foot b
  pers : ∀ p ∈ ps, p.P w
  apart : ∀ p ∈ ps, ∀ e ∈ own, ∀ b, e.foot b → ¬ p.foot b
section
variable {w0 w w' : World} {own ps : List PF} {e e' p : PF} {k : Nat}
theorem St.start (w : World) : St w w [] [] :=
  ⟨Below.refl _ _, fun e h => by simp at h, fun e h => by simp at h, List.Pairwise.nil, fun p h => by simp at h, fun p h => by simp at h⟩
theorem St.owns (h : St w0 w own ps) (hk : own[k]? = some e) : e.P w := h.mine e (List.mem_of_getElem? hk)
theorem St.oat (h : St w0 w own ps) {g : Nat} {c : Array Value} {t : TypeId} (hk : own[k]? = some (bk g c t)) : w.heap[g]? = some (.cells c t (0, 0)) := h.mine _ (List.mem_of_getElem? hk)
theorem St.oge (h : St w0 w own ps) {g : Nat} {c : Array Value} {t : TypeId} (hk : own[k]? = some (bk g c t)) : w0.heap.size ≤ g := h.new _ (List.mem_of_getElem? hk) g rfl
theorem St.pat (h : St w0 w own ps) (hk : ps[k]? = some p) : p.P w := h.pers p (List.mem_of_getElem? hk)
theorem St.one (h : St w0 w own ps) {j : Nat} {f : PF} (hk : own[k]? = some e) (hj : own[j]? = some f) (hn : k ≠ j) : ∀ b, e.foot b → ¬ f.foot b := by
  have hp := List.pairwise_iff_getElem.1 h.nd
  obtain ⟨hkl, rfl⟩ := List.getElem?_eq_some_iff.1 hk
  obtain ⟨hjl, rfl⟩ := List.getElem?_eq_some_iff.1 hj
  intro b he hf
  rcases Nat.lt_or_gt_of_ne hn with h1 | h1
  · exact hp k j hkl hjl h1 b he hf
  · exact hp j k hjl hkl h1 b hf he
theorem St.addP (h : St w0 w own ps) (p : PF) (hp : p.P w) (ha : ∀ e ∈ own, ∀ b, e.foot b → ¬ p.foot b) : St w0 w own (p :: ps) :=
  ⟨h.below, h.mine, h.new, h.nd, fun q hq => by
    rcases List.mem_cons.1 hq with rfl | hq
    · exact hp
    · exact h.pers q hq, fun q hq => by
    rcases List.mem_cons.1 hq with rfl | hq
    · exact ha
    · exact h.apart q hq⟩
theorem St.call (h : St w0 w own ps) (hb : Below w.heap.size w w') : St w0 w' own ps :=
  ⟨h.below.trans (hb.mono h.below.size), fun e he => e.keep (h.mine e he) hb.size fun b hf => hb.block b (e.lt (h.mine e he) hf), h.new, h.nd,
    fun p hp => p.keep (h.pers p hp) hb.size fun b hb' => hb.block b (p.lt (h.pers p hp) hb'), h.apart⟩
theorem St.drew (h : St w0 w own ps) : St w0 w.drew own ps := h.call (Below.refl _ _).drew
theorem St.add (h : St w0 w own ps) (hb : Below w.heap.size w w') (e : PF) (he : e.P w') (hn : ∀ b, e.foot b → w.heap.size ≤ b) : St w0 w' (e :: own) ps := by
  have h' := h.call hb
  refine ⟨h'.below, fun f hf => ?_, fun f hf b hfb => ?_, List.pairwise_cons.2 ⟨fun f hf b h1 h2 => ?_, h.nd⟩, h'.pers, fun p hp f hf b h1 h2 => ?_⟩
  · rcases List.mem_cons.1 hf with rfl | hf
    · exact he
    · exact h'.mine f hf
  · rcases List.mem_cons.1 hf with rfl | hf
    · exact Nat.le_trans h.below.size (hn b hfb)
    · exact h.new f hf b hfb
  · have := f.lt (h.mine f hf) h2
    have := hn b h1
    omega
  · rcases List.mem_cons.1 hf with rfl | hf
    · have := p.lt (h.pers p hp) h2
      have := hn b h1
      omega
    · exact h.apart p hp f hf b h1 h2
theorem St.push (h : St w0 w own ps) (c : Array Value) (t : TypeId) : St w0 (w.alloc (.cells c t)) (bk w.heap.size c t :: own) ps :=
  h.add (below1 w (.cells c t)) _ (heap_alloc_new w _) fun _ hb => Nat.le_of_eq hb.symm
theorem St.add0 (h : St w0 w own ps) (e : PF) (he : e.P w) (hn : ∀ b, ¬ e.foot b) : St w0 w (e :: own) ps :=
  h.add (Below.refl _ _) e he fun b hb => absurd hb (hn b)
theorem St.step (h : St w0 w own ps) (hk : own[k]? = some e) (he : e'.P w') (hf : ∀ b, e'.foot b → e.foot b ∨ w.heap.size ≤ b) (hb : Below w0.heap.size w w') (hsz : w.heap.size ≤ w'.heap.size)
    (hown : ∀ (j : Nat) (f : PF), own[j]? = some f → j ≠ k → ∀ b, f.foot b → w'.heap[b]? = w.heap[b]?) (hps : ∀ p ∈ ps, ∀ b, p.foot b → w'.heap[b]? = w.heap[b]?) : St w0 w' (own.set k e') ps := by
  obtain ⟨hkl, hke⟩ := List.getElem?_eq_some_iff.1 hk
  have hget : ∀ (j : Nat) (f : PF), (own.set k e')[j]? = some f → (j = k ∧ f = e') ∨ (j ≠ k ∧ own[j]? = some f) := by
    intro j f hj
    rw [List.getElem?_set] at hj
    split at hj
    · rename_i hjk
      exact .inl ⟨hjk.symm, (Option.some.inj hj).symm⟩
    · rename_i hjk
      exact .inr ⟨fun e => hjk e.symm, hj⟩
  refine ⟨h.below.trans hb, fun f hf' => ?_, fun f hf' b hfb => ?_, List.pairwise_iff_getElem.2 fun i j hi hj hij b h1 h2 => ?_, fun p hp => p.keep (h.pers p hp) hsz (hps p hp), fun p hp f hf' b h1 h2 => ?_⟩
  · obtain ⟨j, hj⟩ := List.getElem?_of_mem hf'
    rcases hget j f hj with ⟨_, rfl⟩ | ⟨hjk, hj⟩
    · exact he
    · exact f.keep (h.owns hj) hsz (hown j f hj hjk)
  · obtain ⟨j, hj⟩ := List.getElem?_of_mem hf'
    rcases hget j f hj with ⟨_, rfl⟩ | ⟨hjk, hj⟩
    · rcases hf b hfb with h3 | h3
      · exact h.new e (List.mem_of_getElem? hk) b h3
      · exact Nat.le_trans h.below.size h3
    · exact h.new f (List.mem_of_getElem? hj) b hfb
  · have hgi := List.getElem?_eq_getElem hi
    have hgj := List.getElem?_eq_getElem hj
    rcases hget i _ hgi with ⟨hik, hie⟩ | ⟨hik, hi'⟩ <;> rcases hget j _ hgj with ⟨hjk, hje⟩ | ⟨hjk, hj'⟩
    · omega
    · rw [hie] at h1
      rcases hf b h1 with h3 | h3
      · exact h.one hk hj' (fun e => hjk e.symm) b h3 h2
      · have := (own.set k e')[j].lt (h.owns hj') h2
        omega
    · rw [hje] at h2
      rcases hf b h2 with h3 | h3
      · exact h.one hi' hk hik b h1 h3
      · have := (own.set k e')[i].lt (h.owns hi') h1
        omega
    · exact h.one hi' hj' (by omega) b h1 h2
  · obtain ⟨j, hj⟩ := List.getElem?_of_mem hf'
    rcases hget j f hj with ⟨_, rfl⟩ | ⟨hjk, hj⟩
    · rcases hf b h1 with h3 | h3
      · exact h.apart p hp e (List.mem_of_getElem? hk) b h3 h2
      · have := p.lt (h.pers p hp) h2
        omega
    · exact h.apart p hp f (List.mem_of_getElem? hj) b h1 h2
theorem St.step' (h : St w0 w own ps) (hk : own[k]? = some e) (he : e'.P w') (hf : ∀ b, e'.foot b → e.foot b ∨ w.heap.size ≤ b) (hos : w'.os = w.os) (htp : w'.tape = w.tape) (hout : w'.output = w.output) (hs : w.heap.size ≤ w'.heap.size)
    (hg : ∀ b, b < w.heap.size → ¬ e.foot b → w'.heap[b]? = w.heap[b]?) : St w0 w' (own.set k e') ps :=
  h.step hk he hf ⟨hos, htp, hout, hs, fun b hb => hg b (Nat.lt_of_lt_of_le hb h.below.size) fun hfb => by
      have := h.new e (List.mem_of_getElem? hk) b hfb
      omega⟩ hs
    (fun j f hj hjk b hfb => hg b (f.lt (h.owns hj) hfb) fun h1 => h.one hj hk hjk b hfb h1)
    (fun p hp b hpb => hg b (p.lt (h.pers p hp) hpb) fun h1 => h.apart p hp e (List.mem_of_getElem? hk) b h1 hpb)
theorem St.upd (h : St w0 w own ps) {g : Nat} {c c' : Array Value} {t : TypeId} (hk : own[k]? = some (bk g c t)) (hu : Upd w w' g c' t) : St w0 w' (own.set k (bk g c' t)) ps :=
  h.step' hk hu.new (fun _ hb => .inl hb) hu.os hu.tape hu.output (Nat.le_of_eq hu.size.symm) fun b _ hb => hu.old b hb
theorem St.pick (h : St w0 w own ps) (is js : List Nat) (hn : is.Nodup) : St w0 w (is.filterMap (own[·]?)) (js.filterMap (ps[·]?)) := by
  refine ⟨h.below, fun e he => ?_, fun e he => ?_, ?_, fun p hp => ?_, fun p hp e he => ?_⟩
  · obtain ⟨i, _, hi⟩ := List.mem_filterMap.1 he
    exact h.owns hi
  · obtain ⟨i, _, hi⟩ := List.mem_filterMap.1 he
    exact h.new e (List.mem_of_getElem? hi)
  · clear js
    induction is with
    | nil => simp
    | cons i is ih =>
      have hn' := List.nodup_cons.1 hn
      cases hi : own[i]? with
      | none => simp [hi]; simpa using ih hn'.2
      | some e =>
        simp only [List.filterMap_cons, hi]
        refine List.pairwise_cons.2 ⟨fun f hf => ?_, ih hn'.2⟩
        obtain ⟨j, hj, hfj⟩ := List.mem_filterMap.1 hf
        exact h.one hi hfj fun e => hn'.1 (e ▸ hj)
  · obtain ⟨j, _, hj⟩ := List.mem_filterMap.1 hp
    exact h.pat hj
  · obtain ⟨j, _, hj⟩ := List.mem_filterMap.1 hp
    obtain ⟨i, _, hi⟩ := List.mem_filterMap.1 he
    exact h.apart p (List.mem_of_getElem? hj) e (List.mem_of_getElem? hi)
theorem St.give (h : St w0 w own ps) (hk : own[k]? = some e) (p : PF) (hp : p.P w) (hf : ∀ b, p.foot b → e.foot b) : St w0 w (own.eraseIdx k) (p :: ps) := by
  have hmem : ∀ f ∈ own.eraseIdx k, ∃ j : Nat, j ≠ k ∧ own[j]? = some f := by
    intro f hf
    obtain ⟨j, hj⟩ := List.getElem?_of_mem hf
    rw [List.getElem?_eraseIdx] at hj
    split at hj
    · exact ⟨j, by omega, hj⟩
    · exact ⟨j + 1, by omega, hj⟩
  refine ⟨h.below, fun f hf' => ?_, fun f hf' => ?_, List.Pairwise.sublist (List.eraseIdx_sublist own k) h.nd, fun q hq => ?_, fun q hq f hf' b h1 h2 => ?_⟩
  · obtain ⟨j, _, hj⟩ := hmem f hf'; exact h.owns hj
  · obtain ⟨j, _, hj⟩ := hmem f hf'; exact h.new f (List.mem_of_getElem? hj)
  · rcases List.mem_cons.1 hq with rfl | hq
    · exact hp
    · exact h.pers q hq
  · obtain ⟨j, hjk, hj⟩ := hmem f hf'
    rcases List.mem_cons.1 hq with rfl | hq
    · exact h.one hj hk hjk b h1 (hf b h2)
    · exact h.apart q hq f (List.mem_of_getElem? hj) b h1 h2
end
def NoU (e : PF) : Prop := ∀ (w : World) (b o : Nat) (i : Int), e.P w → e.foot b → w.cell? ⟨b, o, none⟩ ≠ some (.int .u32 i)
theorem nou_bk {g : Nat} {c : Array Value} {t : TypeId} (h : c.toList.all notU = true) : NoU (bk g c t) := by
  intro w b o i hP hf hc
  obtain rfl : b = g := hf
  rw [cell_of_row w _ _ _ _ _ hP] at hc
  have h2 := List.all_eq_true.1 h _ (Array.mem_toList_iff.2 (Array.mem_of_getElem? hc))
  simp [notU] at h2
def NoUs : List PF → Prop
  | [] => True
  | e :: l => NoU e ∧ NoUs l
theorem NoUs.at : ∀ {l : List PF}, NoUs l → ∀ e ∈ l, NoU e
  | e :: l, h, f, hf => by
    rcases List.mem_cons.1 hf with rfl | hf
    · exact h.1
    · exact NoUs.at h.2 f hf
theorem St.addU {w0 w : World} {own ps : List PF} {A : Option Addr} {n c : Nat} {xs : List Nat} (h : St w0 w own ps) (hu : U32 w A n c xs) (hn : NoUs own) : St w0 w own (pfU A n c xs :: ps) :=
  h.addP (pfU A n c xs) hu fun e he b1 h1 hf => by
    obtain ⟨hp, off, rfl⟩ := hf
    obtain ⟨b, o, e', _, hc⟩ := hu.cells hp
    cases e'
    exact hn.at e he w _ _ _ (h.mine e he) h1 (hc 0 hp)
section
variable {P : Program} {K : Act → World → Prop} {Q : Exit → Act → World → Prop} {R : Ending → World → Prop} {N : Nat} {dq : List Deferred} {a : Act} {l : List (Nat × Value)} {w w0 : World} {own ps : List PF}
variable {d : Nat} {ty : TypeId} {pos : String} {af : Array Edge} {gd : Option (Nat × Bool)} {ops : Array Oper} {fn : Func} {c : Code}
theorem enter {f : FuncId} {args : Array Value} (hf : P.funcs[f]? = some fn) (hb : fn.body = some c) (hn : fn.ntmps = N) (hz : Nat.ble args.size N = true)
    (h : ∀ a, Env N a (ini 0 args.toList) → St w w [] [] → c.wp P (bodyPost P fn R) a w) : Calls P f args w R :=
  Go.Proofs.YtbdngknpngcojaaDoor.enter hf hb hn hz fun a he _ => h a he (St.start w)
theorem op_box {T : Nat} {x : Operand} {v : Value} {c : Array Value} (h : EnvD dq N a l) (hs : St w0 w own ps) (hd : Nat.blt d N = true) (hx : evl l x = some v) (hc : v.cells = c)
    (hK : ∀ a' w' g, EnvD dq N a' ((d, .pointer (some ⟨g, 0, none⟩)) :: l) → St w0 w' (bk g c T :: own) ps → K a' w') :
    Oper.wp P ⟨some d, .box T x, ty, pos, af, gd⟩ a w K Q := by
  have hr : (execOp a.eval ⟨some d, .box T x, ty, pos, af, gd⟩).run P w = .ok (.value (.pointer (some ⟨w.heap.size, 0, none⟩))) (w.alloc (.cells v.cells T)) := by
    simp only [execOp, h.ev hx]
    rfl
  subst hc
  unfold Oper.wp
  rw [hr]
  exact hK _ _ _ (h.put hd _) (hs.push _ _)
theorem op_alloc {T : Nat} {v : Value} {c : Array Value} (h : EnvD dq N a l) (hs : St w0 w own ps) (hd : Nat.blt d N = true) (hz : ∃ i, P.info? T = some i ∧ i.zero = some v) (hc : v.cells = c)
    (hK : ∀ a' w' g, EnvD dq N a' ((d, .pointer (some ⟨g, 0, none⟩)) :: l) → St w0 w' (bk g c T :: own) ps → K a' w') :
    Oper.wp P ⟨some d, .alloc T, ty, pos, af, gd⟩ a w K Q := by
  obtain ⟨i, hi, hv⟩ := hz
  have hr : (execOp a.eval ⟨some d, .alloc T, ty, pos, af, gd⟩).run P w = .ok (.value (.pointer (some ⟨w.heap.size, 0, none⟩))) (w.alloc (.cells v.cells T)) := by
    have hz : (zeroValue T).run P w = .ok v w := by simp [zeroValue, typeInfo, hi, hv]
    simp only [execOp, Instr.alloc, Sem.run_bind, hz, Result.andThen_ok]
    rfl
  subst hc
  unfold Oper.wp
  rw [hr]
  exact hK _ _ _ (h.put hd _) (hs.push _ _)
theorem op_store {T o n k g t : Nat} {x y : Operand} {c cs c' : Array Value} (h : EnvD dq N a l) (hs : St w0 w own ps) (hi : ∃ i, P.info? T = some i ∧ i.size = n) (hx : evl l x = some (.pointer (some ⟨g, o, none⟩))) (hy : evl l y = some (.agg cs))
    (hk : own[k]? = some (bk g c t)) (hn : cs.size = n) (ho : o + cs.size ≤ c.size) (h1 : cs.toList.all (·.oneCell') = true) (hc : wr o cs.toList c = c')
    (hK : ∀ a' w', EnvD dq N a' l → St w0 w' (own.set k (bk g c' t)) ps → K a' w') :
    Oper.wp P ⟨none, .store T x y, ty, pos, af, gd⟩ a w K Q := by
  have hg := hs.oat hk
  have ht : w.there g o cs.size := fun j hj => ⟨by rw [cell_of_row w _ _ _ _ _ hg]; simp; omega, by simp [World.frozen?, hg]⟩
  obtain ⟨i, hi, hin⟩ := hi
  have hr : (execOp a.eval ⟨none, .store T x y, ty, pos, af, gd⟩).run P w = .ok .skip (w.setCells g o cs.toList) := by
    simp only [execOp, h.ev hx, h.ev hy]
    rw [Sem.run_bind, run_storeAt_mid w g o T cs ht (by rw [hi, hn]; simp [hin]) (by rw [Array.all_toList] at h1; exact h1)]
    rfl
  unfold Oper.wp
  rw [hr]
  subst hc
  exact hK _ _ (h.put0 _) (hs.upd hk (setCells_upd _ _ _ _ _ _ hg))
end
end Go.Proofs.YtbdngknpngcojaaDoor.W
