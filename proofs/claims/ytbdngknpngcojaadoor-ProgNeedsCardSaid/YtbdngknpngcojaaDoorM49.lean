/- What slices.Backward hands out, one by one. No condition. -/
import Derived.Test.YtbdngknpngcojaaDoorM48
import Derived.Test.YtbdngknpngcojaaDoorM34
import Derived.Test.YtbdngknpngcojaaDoorM15
import Derived.OrdersIn

namespace Go.Proofs.YtbdngknpngcojaaDoor.W
open Go.RowKit Anv Go.Lib
section
variable {P : Program} {ro : Option Nat} {m k : Nat} {K : Act → World → Prop} {Q : Exit → Act → World → Prop} {N : Nat} {dq : List Deferred} {a : Act} {l : List (Nat × Value)} {w : World}
variable {d : Nat} {ty : TypeId} {pos : String} {af : Array Edge} {gd : Option (Nat × Bool)}
theorem op_yieldR {z : Operand} {xs : Array Operand} {Ts : Array TypeId} {vs : Array Value} {l0 : Nat} {R : Ending → World → Prop} (h : EnvD dq N a l) (hd : Nat.blt d N = true) (hz : evl l z = some (.func (.yield l0) #[] #[]))
    (hx : xs.toList.map (evl l) = vs.toList.map some) (hY : YieldAt (WF none) k P l0 vs w R)
    (hK : ∀ e w', R e w' → ∃ v, e = .returned v ∧ ∀ a', EnvD dq N a' ((d, v) :: l) → K a' w') :
    Oper.wpIn (WF ro) m P ⟨some d, .call ⟨.value z, xs, Ts⟩, ty, pos, af, gd⟩ a w K Q := by
  have he : xs.map a.eval = vs := by
    apply Array.ext'
    rw [Array.toList_map]
    generalize xs.toList = xl at hx ⊢
    generalize vs.toList = vl at hx ⊢
    induction xl generalizing vl with
    | nil => cases vl with
      | nil => rfl
      | cons => simp at hx
    | cons x xl ih => cases vl with
      | nil => simp at hx
      | cons v vl =>
        simp only [List.map_cons, List.cons.injEq] at hx ⊢
        exact ⟨h.ev hx.1, ih vl hx.2⟩
  obtain ⟨fn, tmps, assign, body, hy, hR⟩ := hY
  have hv := h.ev hz
  have hr : (execOp a.eval ⟨some d, .call ⟨.value z, xs, Ts⟩, ty, pos, af, gd⟩).run P w = .ok (.round l0 fn tmps assign body) w := by
    simp [execOp, resolve, invoke, Deferred.ofValue, hv, he, hy]
  have hR2 : RoundIn (WF ro) (m - 1) P l0 fn tmps assign body w R := ⟨hR.1, fun c cs _ => hR.2 c cs (room_wide _)⟩
  refine ⟨fun _ _ => trivial, ?_⟩
  have e0 : Oper.semAt (WF ro).round a.eval ⟨some d, .call ⟨.value z, xs, Ts⟩, ty, pos, af, gd⟩ = execOp a.eval ⟨some d, .call ⟨.value z, xs, Ts⟩, ty, pos, af, gd⟩ := Oper.semAt_eq _ _ _ fun _ h => by cases h
  rw [e0, hr]
  refine ⟨fun hd => (by cases hd), hR2.mono fun e w' he => ?_⟩
  obtain ⟨v, rfl, hv'⟩ := hK e w' he
  exact hv' _ (h.put hd v)
end
abbrev YE := Nat × IE
def encI (x : YE) : Value := .int .i64 (x.1 : Nat)
def encJ (x : YE) : Value := .agg #[.int .i64 x.2.1, .int .i64 x.2.2.1, .int .i64 x.2.2.2.1, .int .i64 x.2.2.2.2.1, .int .i64 x.2.2.2.2.2]
def rvT (es : List IE) (k : Nat) : List YE := (List.range k).map fun t => (es.length - 1 - t, es.getD (es.length - 1 - t) (0, 0, 0, 0, 0))
theorem rvT_len (es : List IE) (k : Nat) : (rvT es k).length = k := by rw [rvT, List.length_map, List.length_range]
theorem rvT_step {es : List IE} {j k : Nat} {e : IE} (he : es[j]? = some e) (hk : k + j + 1 = es.length) : rvT es (k + 1) = rvT es k ++ [(j, e)] := by
  rw [rvT, List.range_succ, List.map_append, List.map_cons, List.map_nil, show es.length - 1 - k = j by omega, List.getD_eq_getElem?_getD, he]
  rfl
def KB (p : World → Prop) (X Y : World) : Prop := p X → p Y
def bwP (B : Nat) (A : Option Addr) (n c : Nat) (es : List IE) (w : World) : Prop := w.heap[B]? = some (.cells #[.slice A n c] 22 (0, 0)) ∧ (pfRow fJ FJ 5 A n c es).P w
end Go.Proofs.YtbdngknpngcojaaDoor.W

/- A range over a function whose iterator may itself range: the iterator's contract lets the caller's invariant hang on whatever is no cells, from the iterator's entry on. Over any program. No condition. -/
namespace Go.Proofs.YtbdngknpngcojaaDoor.W
open Go.RowKit Anv Go.Lib
def SeqO {α : Type} (P : Program) (g : Nat) (lb : Array Value) (encs : α → Array Value) (Kp : World → World → Prop) (S Sp : List α → Prop) (N : Nat) (w : World) : Prop :=
  ∀ (l : Nat) (J Jx : List α → World → Prop) (X : World), Below w.heap.size w X → w.heap.size + 2 ≤ X.heap.size → OwnFrom X.heap.size J → OwnFrom X.heap.size Jx →
    (∀ pre x Y, J pre Y → pre.length < N → YieldAt (WF none) 7 P l (encs x) Y fun e Z => (e = .returned (.bool true) ∧ J (pre ++ [x]) Z ∧ Kp Y Z) ∨ (e = .returned (.bool false) ∧ Jx (pre ++ [x]) Z ∧ Kp Y Z)) →
    J [] X → Calls P g (#[.func (.yield l) #[] #[]] ++ lb) X fun e Z => (∃ v, e = .returned v) ∧ ((∃ xs, S xs ∧ J xs Z) ∨ ∃ pre, Sp pre ∧ Jx pre Z)
def postO {α : Type} (B : Nat) (Kp : World → World → Prop) (I : List α → World → Prop) (Ix : Code → List α → World → Prop) (xs : List α) (W : World) : Exit → Act → World → Prop
  | .normal, _, Z => KeepsFrom B W Z ∧ Kp W Z ∧ I xs Z
  | .ret, _, Z => KeepsFrom B W Z ∧ Kp W Z ∧ Ix .ret xs Z
  | .exit id, _, Z => KeepsFrom B W Z ∧ Kp W Z ∧ Ix (.exit id) xs Z
  | _, _, _ => False
def lpR (fn : FuncId) (t : Array Value) (ps : Array Tmp) (asg bd : Code) (D : Nat) (st : LoopState) (pe : Option Code) : Loop := { state := st, pending := pe, fn := fn, tmps := t, params := ps, assign := asg, body := bd, defers := D }
def bkL (r : Loop) (D : Nat) (W : World) : Prop := W.heap[D + 1]? = some (.loop r) ∧ W.heap[D]? = some (.deferred (some []))
theorem bkL_own {β : Type} (r : Loop) (D : Nat) : OwnFrom (D + 2) (fun (_ : β) W => bkL r D W) := fun _ X Y row hs hg hr =>
  ⟨(hg.block _ (lt_of_block hs.1) fun e => by have := (hr _ e.symm).1; omega).trans hs.1, (hg.block _ (lt_of_block hs.2) fun e => by have := (hr _ e.symm).1; omega).trans hs.2⟩
theorem ownFrom_up {β : Type} {B C : Nat} {I : β → World → Prop} (h : OwnFrom B I) (hB : B ≤ C) : OwnFrom C I := fun s X Y row hs hg hr => h s X Y row hs hg fun r e => ⟨Nat.le_trans hB (hr r e).1, (hr r e).2⟩
theorem bkL_put {r r' : Loop} {D : Nat} {W : World} (h : bkL r D W) : bkL r' D (W.putObj (D + 1) (.loop r')) :=
  ⟨World.putObj_heap_same (lt_of_block h.1), (World.putObj_heap_other (by omega)).trans h.2⟩
theorem bkL_keep {r : Loop} {D : Nat} {X Y : World} (h : bkL r D X) (hk : KeepsFrom D X Y) : bkL r D Y := ⟨hk.same _ _ (by omega) h.1 rfl, hk.same _ _ (Nat.le_refl _) h.2 rfl⟩
section
variable {P : Program} {Q : Exit → Act → World → Prop} {N : Nat} {dq : List Deferred} {a : Act} {l : List (Nat × Value)} {w : World}
end
end Go.Proofs.YtbdngknpngcojaaDoor.W

/- slices.Backward, prog.Back: the closures they give. Printed by pv/gen_g7.py. No condition. -/
namespace Go.Proofs.YtbdngknpngcojaaDoor.W
open Go.RowKit Anv Go.Lib
set_option maxRecDepth 100000 in
set_option maxHeartbeats 2000000 in
theorem g_backward {A0 : Option Addr} {n0 c0 : Nat} {w0 : World} :
    Calls Tryd.prog 38 #[.slice A0 n0 c0] w0 fun e w' => ∃ g, e = .returned (.func (.func 59) #[] #[.pointer (some ⟨g, 0, none⟩)]) ∧ w'.heap[g]? = some (.cells #[.slice A0 n0 c0] 22 (0, 0)) ∧ w0.heap.size ≤ g ∧ Below w0.heap.size w0 w' := by
  refine enter Tryd.func38 rfl Tryd.ntmps38 rfl ?_
  intro a henv hst
  refine wp_seq ?_
  refine region_seq ?_
  refine seq_step rfl (op_box (c := #[.slice A0 n0 c0]) henv hst rfl rfl rfl ?_)
  clear henv hst a; intro a w52 g51 henv hst
  refine sv (v := .nilFunc) henv rfl (rn_assign henv rfl) ?_
  clear henv a; intro a henv
  refine wpList_nil ?_
  refine th_n ?_
  refine wp_seq ?_
  refine region_seq ?_
  revert a
  refine sA (v := .func (.func 59) #[] #[.pointer (some ⟨g51, 0, none⟩)]) rfl (fun _ henv => rn_makeFuncB (us := #[]) (vs := #[.pointer (some ⟨g51, 0, none⟩)]) henv rfl rfl) ?_
  refine aA rfl rfl ?_
  intro a henv
  refine wpList_nil ?_
  refine th_n ?_
  refine wp_ret ?_
  refine leave henv (res1 Tryd.results38 (RV.tmp henv rfl)) ?_
  exact ⟨g51, rfl, hst.oat (k := 0) rfl, hst.new _ (List.mem_of_getElem? (i := 0) rfl) _ rfl, hst.below⟩
set_option maxRecDepth 100000 in
set_option maxHeartbeats 2000000 in
theorem g_back {i g : Int} {A0 A1 : Option Addr} {n0 c0 n1 c1 : Nat} {w0 : World} :
    Calls Tryd.prog 14 #[.agg #[.int .i64 i, .int .i64 g, .slice A0 n0 c0, .slice A1 n1 c1]] w0 fun e w' => ∃ b, e = .returned (.func (.func 36) #[] #[.pointer (some ⟨b, 0, none⟩)]) ∧ w'.heap[b]? = some (.cells #[.int .i64 i, .int .i64 g, .slice A0 n0 c0, .slice A1 n1 c1] 25 (0, 0)) ∧ w0.heap.size ≤ b ∧ Below w0.heap.size w0 w' := by
  refine enter Tryd.func14 rfl Tryd.ntmps14 rfl ?_
  intro a henv hst
  refine wp_seq ?_
  refine region_seq ?_
  refine seq_step rfl (op_box (c := #[.int .i64 i, .int .i64 g, .slice A0 n0 c0, .slice A1 n1 c1]) henv hst rfl rfl rfl ?_)
  clear henv hst a; intro a w52 g51 henv hst
  refine sv (v := .nilFunc) henv rfl (rn_assign henv rfl) ?_
  clear henv a; intro a henv
  refine wpList_nil ?_
  refine th_n ?_
  refine wp_seq ?_
  refine region_seq ?_
  revert a
  refine sA (v := .func (.func 36) #[] #[.pointer (some ⟨g51, 0, none⟩)]) rfl (fun _ henv => rn_makeFuncB (us := #[]) (vs := #[.pointer (some ⟨g51, 0, none⟩)]) henv rfl rfl) ?_
  refine aA rfl rfl ?_
  intro a henv
  refine wpList_nil ?_
  refine th_n ?_
  refine wp_ret ?_
  refine leave henv (res1 Tryd.results14 (RV.tmp henv rfl)) ?_
  exact ⟨g51, rfl, hst.oat (k := 0) rfl, hst.new _ (List.mem_of_getElem? (i := 0) rfl) _ rfl, hst.below⟩
end Go.Proofs.YtbdngknpngcojaaDoor.W

/- prog.Back's iterator hands a right program's instructions out from behind; a wrong one's not at all. No condition. -/
namespace Go.Proofs.YtbdngknpngcojaaDoor.W
open Go.RowKit Anv Go.Lib
theorem grown_of {w w' : World} (h : Below w.heap.size w w') : w.grownBy w' none := ⟨h.os, h.tape, h.output, h.size, fun k hk _ => h.block k hk⟩
theorem kf_of {B : Nat} {w w' : World} (h : Below w.heap.size w w') : KeepsFrom B w w' := ⟨h.size, fun k _ _ hk _ => (h.block k (lt_of_block hk)).trans hk⟩
theorem cf_rowT {α : Type} {f : α → List Value} {F : α → PF} (hF : ∀ e b, ¬ (F e).foot b) {z n c : Nat} {A : Option Addr} {es : List α} (hz : 0 < z) : CellsF (pfRow f F z A n c es) := fun w b h hf => by
  rcases hf with ⟨hp, off, rfl⟩ | ⟨e, _, hf⟩
  · obtain ⟨b', o, e', hlt, hc⟩ := h.1.cells hp
    cases e'
    have hpos : 0 < n * z := Nat.mul_pos hp hz
    have h1 := hc 0 hpos
    rw [Nat.add_zero, List.getElem?_eq_getElem (by rw [h.1.len]; exact hpos)] at h1
    have h2 : w.heap[b]? = some w.heap[b] := Array.getElem?_eq_getElem hlt
    refine ⟨_, h2, ?_⟩
    unfold World.cell? at h1
    rw [h2] at h1
    revert h1
    cases w.heap[b] <;> simp [Obj.isCells]
  · exact (hF e b hf).elim
def pgP (B : Nat) (i g : Int) (A0 : Option Addr) (n0 c0 : Nat) (A1 : Option Addr) (n1 c1 : Nat) (es : List IE) (os : List Int) (w : World) : Prop :=
  (bk B #[.int .i64 i, .int .i64 g, .slice A0 n0 c0, .slice A1 n1 c1] 25).P w ∧ (pfRow fJ FJ 5 A0 n0 c0 es).P w ∧ (pfRow fI FI 1 A1 n1 c1 os).P w
theorem pg_own {B D n0 c0 n1 c1 : Nat} {i g : Int} {A0 A1 : Option Addr} {es : List IE} {os : List Int} {X Y : World} {row : Option Nat} (h : pgP B i g A0 n0 c0 A1 n1 c1 es os X) (hg : X.grownBy Y row) (hr : ∀ r, row = some r → D ≤ r ∧ ∃ o : Obj, X.heap[r]? = some o ∧ o.isCells = false) : pgP B i g A0 n0 c0 A1 n1 c1 es os Y :=
  ⟨own_keep cf_bk h.1 hg hr, own_keep (cf_rowT (fun _ _ h => h) (by decide)) h.2.1 hg hr, own_keep (cf_rowT (fun _ _ h => h) (by decide)) h.2.2 hg hr⟩
def KX (n : Nat) (p : World → Prop) (X Y : World) : Prop := X.heap.size ≤ Y.heap.size ∧ (∀ b o, n + 2 ≤ b → X.heap[b]? = some o → Y.heap[b]? = some o) ∧ (p X → p Y)
theorem kx_trans {n : Nat} {p : World → Prop} {X Y Z : World} (h : KX n p X Y) (k : KX n p Y Z) : KX n p X Z := ⟨Nat.le_trans h.1 k.1, fun b o hb ho => k.2.1 b o hb (h.2.1 b o hb ho), fun q => k.2.2 (h.2.2 q)⟩
section
variable {B n0 c0 n1 c1 : Nat} {i g : Int} {A0 A1 : Option Addr} {es : List IE} {os : List Int} {w : World}
theorem kx_put {n : Nat} {X : World} {o o' : Obj} (h : X.heap[n + 1]? = some o) (hc : o.isCells = false) : KX n (pgP B i g A0 n0 c0 A1 n1 c1 es os) X (X.putObj (n + 1) o') := by
  have hg := grownBy_putObj' X (n + 1) o'
  exact ⟨hg.size, fun b q hb hq => (World.putObj_heap_other (by omega)).trans hq, fun hp => pg_own (D := 0) hp hg fun r e => by cases e; exact ⟨Nat.zero_le _, o, h, hc⟩⟩
theorem pg_keep {X : World} (hp : pgP B i g A0 n0 c0 A1 n1 c1 es os w) (hX : Below w.heap.size w X) : pgP B i g A0 n0 c0 A1 n1 c1 es os X := pg_own (D := 0) hp (grown_of hX) fun r e => by cases e
end
end Go.Proofs.YtbdngknpngcojaaDoor.W

/- Rounds of a range over prog.Back: what they keep; a region that draws its order, in a round. No condition. -/
namespace Go.Proofs.YtbdngknpngcojaaDoor.W
open Go.RowKit Anv Go.Lib
section
variable {P : Program} {ro : Option Nat} {m : Nat} {Q : Exit → Act → World → Prop} {ops : Array Oper} {K : Act → World → Prop} {a : Act} {w : World} {md : Region.Mode}
def noDef (ops : Array Oper) : Bool := ops.all fun o => match o.op with | .defer _ => false | _ => true
theorem noDef_at (h : noDef ops = true) {i : Nat} {o : Oper} (hi : ops[i]? = some o) (c : Call) : o.op ≠ .defer c := fun e => by
  unfold noDef at h
  rw [Array.all_eq_true'] at h
  have := h o (Array.mem_of_getElem? hi)
  rw [e] at this
  cases this
theorem opIn_of (h : noDef ops = true) (hno : ∀ a w, ¬ Q .outgrown a w) {i : Nat} (hw : wpOp P ops Q i K a w) : wpOpIn (WF ro) m P ops Q i K a w := by
  unfold wpOp at hw
  unfold wpOpIn
  revert hw
  cases hi : ops[i]? with
  | none => exact id
  | some o =>
    simp only
    split
    · rintro (hw | ⟨_, a', w', hq⟩)
      · exact oper_in (noDef_at h hi) hw
      · exact (hno a' w' hq).elim
    · intro hw; exact ⟨fun _ _ => trivial, hw⟩
theorem any_in (h : noDef ops = true) (hno : ∀ a w, ¬ Q .outgrown a w) : ∀ (fuel : Nat) (listed : Array Bool) (a : Act) (w : World), wpAny P md ops Q fuel listed a w → wpAnyIn (WF ro) m P md ops Q fuel listed a w
  | 0, _, _, _, hw => hw
  | fuel + 1, _, _, _, hw => ⟨hw.1, fun i hi => opIn_of h hno (wpOp_mono (fun a' w' h' => any_in h hno fuel _ a' w' h') (hw.2 i hi))⟩
theorem region_anyIn {id n : Nat} {N : Nat} {dq : List Deferred} {w0 : World} {own ps : List PF} {l : List (Nat × Value)} (S : Nat → World → Prop) (hm : P.follows .mixedOrders = true) (hn : ops.size = n) (he : EnvD dq N a l) (hs : St w0 w own ps) (hd : noDef ops = true) (hno : ∀ a w, ¬ Q .outgrown a w)
    (h : ∀ w', EnvD dq N a l → St w0 w' own ps → sAny P ops Q S n (Array.replicate n false) a w') : (Code.region id ops true).wpIn (WF ro) m P Q a w := by
  subst hn
  exact wpIn_region_any hm (any_in hd hno _ _ _ _ (sAny_wp _ _ _ _ (h _ he hs.drew)))
end
def kaF (n : Nat) (X : World) : PF :=
  ⟨fun w => X.heap.size ≤ w.heap.size ∧ ∀ b o, n ≤ b → X.heap[b]? = some o → w.heap[b]? = some o, fun b => n ≤ b ∧ b < X.heap.size, fun h hb => Nat.lt_of_lt_of_le hb.2 h.1,
    fun h hs hk => ⟨Nat.le_trans h.1 hs, fun b o hb ho => (hk b ⟨hb, lt_of_block ho⟩).trans (h.2 b o hb ho)⟩⟩
def LowFs (n : Nat) : List PF → Prop
  | [] => True
  | e :: l => (∀ b, e.foot b → b < n) ∧ LowFs n l
theorem LowFs.at {n : Nat} : ∀ {l : List PF}, LowFs n l → ∀ e ∈ l, ∀ b, e.foot b → b < n
  | e :: _, h, f, hf => by
    rcases List.mem_cons.1 hf with rfl | hf
    · exact h.1
    · exact LowFs.at h.2 f hf
theorem low_all {n : Nat} : ∀ {l : List PF}, (∀ e ∈ l, ∀ b, e.foot b → b < n) → LowFs n l
  | [], _ => trivial
  | e :: l, h => ⟨h e (List.mem_cons_self ..), low_all fun f hf => h f (List.mem_cons_of_mem _ hf)⟩
section
variable {w0 w X Y : World} {own ps : List PF} {n k : Nat}
theorem low_of (h : St w0 w own ps) : LowFs w.heap.size own := low_all fun e he _ hb => e.lt (h.mine e he) hb
theorem St.addKA (h : St w0 w own ps) (hf : LowFs n own) : St w0 w own (kaF n w :: ps) := h.addP (kaF n w) ⟨Nat.le_refl _, fun _ _ _ h => h⟩ fun e he b hb hk => by
  have h1 := hf.at e he b hb
  have h2 : n ≤ b := hk.1
  omega
theorem St.addHi {g : Nat} {c : Array Value} {t : TypeId} (h : St w0 w own ps) (hf : LowFs n own) (hg : n ≤ g) (hp : (bk g c t).P w) : St w0 w own (bk g c t :: ps) := h.addP _ hp fun e he b hb hk => by
  have h1 := hf.at e he b hb
  obtain rfl : b = g := hk
  omega
theorem St.ka (h : St w0 w own ps) (hk : ps[k]? = some (kaF n X)) : KeepsFrom n X w := ⟨(h.pat hk).1, fun b o hb ho _ => (h.pat hk).2 b o hb ho⟩
theorem St.kax {p : World → Prop} (h : St w0 w own ps) (hk : ps[k]? = some (kaF n X)) (hp : p w) : KX n p X w := ⟨(h.pat hk).1, fun b o hb ho => (h.pat hk).2 b o (by omega) ho, fun _ => hp⟩
theorem kx_of {B i0 n0 c0 n1 c1 : Nat} {i g : Int} {A0 A1 : Option Addr} {es : List IE} {os : List Int} (h : Below X.heap.size X Y) : KX i0 (pgP B i g A0 n0 c0 A1 n1 c1 es os) X Y := ⟨h.size, fun b _ _ hb => (h.block b (lt_of_block hb)).trans hb, fun q => pg_keep q h⟩
end
def Mis (es : List IE) (n : Nat) (pre : List YE) : Prop := ∃ pr x, pre = pr ++ [x] ∧ pr.length < n ∧ ¬ (x.1 + pr.length + 1 = n ∧ es[x.1]? = some x.2)
end Go.Proofs.YtbdngknpngcojaaDoor.W

/- ProgBack. Printed by pv/gen_g8.py. No condition. -/
namespace Go.Proofs.YtbdngknpngcojaaDoor.W
open Go.RowKit Anv Go.Lib
section
variable {P : Program} {N : Nat} {dq : List Deferred} {a : Act} {l : List (Nat × Value)} {w : World} {d : Nat} {ty : TypeId} {pos : String} {af : Array Edge} {gd : Option (Nat × Bool)}
end
theorem cutFIn {P : Program} {ro : Option Nat} {m : Nat} {c : Code} {K : Act → World → Prop} {Q : Exit → Act → World → Prop} {a : Act} {w : World} (M : Act → World → Prop) (h : c.wpIn (WF ro) m P (Exit.then M (fun _ _ _ => False)) a w) (hK : ∀ a w, M a w → K a w) : c.wpIn (WF ro) m P (Exit.then K Q) a w :=
  wpIn_mono h fun e a w hq => by cases e <;> first | exact hK _ _ hq | exact hq.elim
end Go.Proofs.YtbdngknpngcojaaDoor.W

/- As Gi, Gh, Gk, but a yield is asked only where the pair is the one that comes next. No condition. -/
namespace Go.Proofs.YtbdngknpngcojaaDoor.W
open Go.RowKit Anv Go.Lib
def SeqV {α : Type} (P : Program) (g : Nat) (lb : Array Value) (encs : α → Array Value) (V : List α → α → Prop) (Kp : World → World → Prop) (S Sp : List α → Prop) (w : World) : Prop :=
  ∀ (l : Nat) (J Jx : List α → World → Prop) (X : World), Below w.heap.size w X → w.heap.size + 2 ≤ X.heap.size → OwnFrom X.heap.size J → OwnFrom X.heap.size Jx →
    (∀ pre x Y, V pre x → J pre Y → YieldAt (WF none) 7 P l (encs x) Y fun e Z => (e = .returned (.bool true) ∧ J (pre ++ [x]) Z ∧ Kp Y Z) ∨ (e = .returned (.bool false) ∧ Jx (pre ++ [x]) Z ∧ Kp Y Z)) →
    J [] X → Calls P g (#[.func (.yield l) #[] #[]] ++ lb) X fun e Z => (∃ v, e = .returned v) ∧ ((∃ xs, S xs ∧ J xs Z) ∨ ∃ pre, Sp pre ∧ Jx pre Z)
section
variable {P : Program} {Q : Exit → Act → World → Prop} {N : Nat} {dq : List Deferred} {a : Act} {l : List (Nat × Value)} {w : World}
set_option maxHeartbeats 1000000 in
theorem wp_rangeV {α : Type} {g : Operand} {p q gf : Nat} {lb : Array Value} {assign body : Code} {enc enc' : α → Value} {Kp : World → World → Prop} {S Sp : List α → Prop} {V : List α → α → Prop} (h : EnvD dq N a l)
    (hg : evl l g = some (.func (.func gf) #[] lb)) (eg : ∀ args w, (callFunc gf args).run P w = .ok (.enter gf args) w) (hp : Nat.blt p N = true) (hq : Nat.blt q N = true)
    (hseq : SeqV P gf lb (fun x => #[enc x, enc' x]) V Kp S Sp w)
    (hKt : ∀ {A B C : World}, Kp A B → Kp B C → Kp A C) (hKb : ∀ (W : World) (o o' : Obj), W.heap[w.heap.size + 1]? = some o → o.isCells = false → Kp W (W.putObj (w.heap.size + 1) o'))
    (I : List α → World → Prop) (Ix : Code → List α → World → Prop) (hI : OwnFrom w.heap.size I) (hIx : ∀ c, OwnFrom w.heap.size (Ix c)) (h0 : I [] w) (Ax : α → Act → World → Prop) (hAx : ∀ x a', OwnFrom w.heap.size (fun (_ : Unit) W => Ax x a' W))
    (hassign : ∀ (i : Nat) (pre : List α) (x : α) (W : World) (K : Act → World → Prop), V pre x → I pre W → (∀ a' W', KeepsFrom w.heap.size W W' → Kp W W' → I pre W' → Ax x a' W' → K a' W') → ∀ a, EnvD [] N a ((q, enc' x) :: (p, enc x) :: l) → assign.wpIn (WF (some i)) 7 P (Exit.then K (fun _ _ _ => False)) a W)
    (hbody : ∀ (i : Nat) (pre : List α) (x : α) (a' : Act) (W : World), V pre x → I pre W → Ax x a' W → body.wpIn (WF (some i)) 7 P (postO w.heap.size Kp I Ix (pre ++ [x]) W) a' W)
    (hdone : ∀ (D : Nat) (xs : List α) (W : World) (a : Act), w.heap.size ≤ D → S xs → I xs W → W.heap[D]? = some (.deferred (some [])) → EnvD ({ target := .collected D, args := #[] } :: dq) N a l → Q .normal a W)
    (hstop : ∀ (D : Nat) (c : Code) (pre : List α) (W : World) (a : Act), w.heap.size ≤ D → Sp pre → Ix c pre W → W.heap[D]? = some (.deferred (some [])) → EnvD ({ target := .collected D, args := #[] } :: dq) N a l → c.wp P Q a W) :
    (Code.rangeFunc g #[p, q] assign body).wp P Q a w := by
  refine (wpIn_wide (n := 9)).1 (wpIn_rangeFunc fun fn _ => ?_)
  obtain ⟨D, hD⟩ : ∃ D, D = w.heap.size := ⟨_, rfl⟩
  obtain ⟨X, hX⟩ : ∃ X, X = (w.alloc (.deferred (some []))).alloc (.loop (lpR fn a.tmps #[p, q] assign body w.heap.size .ready none)) := ⟨_, rfl⟩
  have hsz : X.heap.size = D + 2 := by rw [hX, World.size_alloc, World.size_alloc, hD]
  have hbX : bkL (lpR fn a.tmps #[p, q] assign body D .ready none) D X := by
    subst hX hD
    refine ⟨?_, ?_⟩
    · have := World.alloc_heap_new (w.alloc (.deferred (some []))) (.loop (lpR fn a.tmps #[p, q] assign body w.heap.size .ready none))
      rwa [World.size_alloc] at this
    · exact (Below.heap_alloc _ _ _ (by simp)).trans (World.alloc_heap_new w _)
  have hIX : I [] X := hX ▸ hI.alloc _ (hI.alloc _ h0)
  have hbel : Below w.heap.size w X := hX ▸ (((Below.refl _ w).alloc (Nat.le_refl _) _).alloc (by simp) _)
  subst hD
  have hev : a.eval g = .func (.func gf) #[] lb := h.ev hg
  refine ⟨w.heap.size + 1, [{ target := .collected w.heap.size, args := #[] }], X, { target := .fn (.func gf) lb, args := #[.func (.yield (w.heap.size + 1)) #[] #[]] }, X, gf, #[.func (.yield (w.heap.size + 1)) #[] #[]] ++ lb, X,
    hX ▸ run_enterLoop_outer fn a.tmps #[p, q] assign body, by simp only [resolve, hev]; simp [go_sem], fun _ _ => trivial, by simp [invoke, go_sem, eg], fun h => (by cases h), callsIn_of (ro := none) ?_⟩
  refine (hseq (w.heap.size + 1) (fun pre W => I pre W ∧ bkL (lpR fn a.tmps #[p, q] assign body w.heap.size .ready none) w.heap.size W) (fun pre W => ∃ c, Ix c pre W ∧ bkL (lpR fn a.tmps #[p, q] assign body w.heap.size .done (some c)) w.heap.size W) X hbel (by omega)
    (fun s Y Z row hs hgr hr => ⟨ownFrom_up hI (by omega) s Y Z row hs.1 hgr hr, bkL_own (β := Unit) _ _ () Y Z row hs.2 hgr fun r e => hsz ▸ hr r e⟩)
    (fun s Y Z row ⟨c, h1, h2⟩ hgr hr => ⟨c, ownFrom_up (hIx c) (by omega) s Y Z row h1 hgr hr, bkL_own (β := Unit) _ _ () Y Z row h2 hgr fun r e => hsz ▸ hr r e⟩)
    (fun pre x Y hV ⟨hi, hb⟩ => ⟨fn, _, assign, body, run_yield hb.1 rfl, roundIn_of_wpIn trivial ?_⟩) ⟨hIX, hbX⟩).mono fun e Z hZ => ?_
  · -- a round
    have h1 := env_par (env_par h (enc x) hp) (enc' x) hq
    have e : (#[p, q].zip #[enc x, enc' x]).foldl (fun t (p, v) => t.setIfInBounds p v) a.tmps = (a.tmps.setIfInBounds p (enc x)).setIfInBounds q (enc' x) := by simp
    show assign.wpIn (WF (some (w.heap.size + 1))) 7 P _ { tmps := (#[p, q].zip #[enc x, enc' x]).foldl (fun t (p, v) => t.setIfInBounds p v) a.tmps, defers := [] } Y
    rw [e]
    refine hassign _ pre x Y _ hV hi (fun a' Y2 hk2 hp2 hi2 hx2 => ?_) _ h1
    have hb2 := bkL_keep hb hk2
    refine ⟨_, run_beginRound hb2.1 rfl, ?_⟩
    have hb3 : bkL (lpR fn a.tmps #[p, q] assign body w.heap.size .busy none) w.heap.size _ := bkL_put hb2
    have hp3 := hKb Y2 _ (.loop (lpR fn a.tmps #[p, q] assign body w.heap.size .busy none)) hb2.1 rfl
    refine wpIn_mono (hbody _ pre x a' _ hV (hI.putObj _ hi2 (Nat.le_succ _) hb2.1 rfl) ((hAx x a').putObj (s := ()) _ hx2 (Nat.le_succ _) hb2.1 rfl)) ?_
    have stop : ∀ (c : Code) (Z : World), KeepsFrom w.heap.size _ Z ∧ Kp _ Z ∧ Ix c (pre ++ [x]) Z → ∃ v Z', (Instr.endRound (w.heap.size + 1) (some c)).run P Z = .ok v Z' ∧ ((Ending.returned v = .returned (.bool true) ∧ (I (pre ++ [x]) Z' ∧ bkL (lpR fn a.tmps #[p, q] assign body w.heap.size .ready none) w.heap.size Z') ∧ Kp Y Z') ∨ (Ending.returned v = .returned (.bool false) ∧ (∃ c, Ix c (pre ++ [x]) Z' ∧ bkL (lpR fn a.tmps #[p, q] assign body w.heap.size .done (some c)) w.heap.size Z') ∧ Kp Y Z')) := fun c Z ⟨hk, hkp, hix⟩ =>
      have hb4 := bkL_keep hb3 hk
      ⟨_, _, run_endRound _ hb4.1, .inr ⟨rfl, ⟨c, (hIx c).putObj _ hix (Nat.le_succ _) hb4.1 rfl, bkL_put hb4⟩, hKt hp2 (hKt hp3 (hKt hkp (hKb _ _ _ hb4.1 rfl)))⟩⟩
    intro e a3 Z hz
    cases e with
    | normal =>
      have hb4 := bkL_keep hb3 hz.1
      exact ⟨_, _, run_endRound none hb4.1, .inl ⟨rfl, ⟨hI.putObj _ hz.2.2 (Nat.le_succ _) hb4.1 rfl, bkL_put hb4⟩, hKt hp2 (hKt hp3 (hKt hz.2.1 (hKb _ _ _ hb4.1 rfl)))⟩⟩
    | ret => exact stop .ret Z hz
    | exit id => exact stop (.exit id) Z hz
    | goto t => exact hz.elim
    | panic _ => exact hz.elim
    | outgrown => exact hz.elim
  · -- behind it
    obtain ⟨⟨v, rfl⟩, (⟨xs, hS, hi, hb⟩ | ⟨pre, hS, c, hi, hb⟩)⟩ := hZ
    · exact ⟨none, _, run_endLoop hb.1 (by intro h; cases h), hdone _ xs _ _ (Nat.le_refl _) hS (hI.putObj _ hi (Nat.le_succ _) hb.1 rfl) (bkL_put hb).2 (env_done h _)⟩
    · exact ⟨some c, _, run_endLoop hb.1 (by intro h; cases h), (wpIn_wide (n := 9)).2 (hstop _ c pre _ _ (Nat.le_refl _) hS ((hIx c).putObj _ hi (Nat.le_succ _) hb.1 rfl) (bkL_put hb).2 (env_done h _))⟩
end
def VB (es : List IE) (n : Nat) (pre : List YE) (x : YE) : Prop := pre = rvT es pre.length ∧ pre.length + x.1 + 1 = n ∧ es[x.1]? = some x.2
set_option maxRecDepth 100000 in
set_option maxHeartbeats 2000000 in
theorem backward_V {B n c : Nat} {A : Option Addr} {es : List IE} {w : World} (hp0 : bwP B A n c es w) :
    SeqV Tryd.prog 59 #[.pointer (some ⟨B, 0, none⟩)] (fun x : YE => #[encI x, encJ x]) (VB es n) (KB (bwP B A n c es)) (fun xs => xs = rvT es n) (fun pre => ∃ k, k ≤ n ∧ pre = rvT es k) w := by
  intro l0 J Jx W hW _ _ _ hY h0
  have hl := hp0.2.2.1
  have hbig := Nat.le_trans hp0.2.1.cap hp0.2.1.big
  unfold maxLen at hbig
  have hpW : bwP B A n c es W := ⟨(hW.block B (lt_of_block hp0.1)).trans hp0.1, (pfRow fJ FJ 5 A n c es).keep hp0.2 hW.size fun b hb => hW.block b ((pfRow fJ FJ 5 A n c es).lt hp0.2 hb)⟩
  refine enter Tryd.func59 rfl Tryd.ntmps59 rfl ?_
  intro a henv _
  refine wp_seq ?_
  refine region_seq ?_
  refine seq_step rfl (op_val (v := .slice A n c) henv rfl (rn_load1 henv ty__api_Instr rfl hpW.1 rfl) ?_)
  clear henv a; intro a henv
  refine seq_step rfl (op_val (v := .int .i64 (n : Nat)) henv rfl (rn_len henv Tryd.underlying22 rfl) ?_)
  clear henv a; intro a henv
  refine seq_step rfl (op_val (v := .int .i64 (((n : Nat) : Int) - (1 : Int))) henv rfl (rn_sub henv rfl rfl (IntWalk.i64_in _ (by omega))) ?_)
  clear henv a; intro a henv
  refine seq_step rfl (op_val (v := .int .i64 (((n : Nat) : Int) - 1)) henv rfl (rn_assign henv rfl) ?_)
  clear henv a; intro a henv
  refine wpList_nil ?_
  refine th_n ?_
  refine wp_block ?_
  refine wp_loop_ghost (fun mz a w1 => ∃ k : Nat, k = mz ∧ Env 19 a [(0, .func (.yield l0) #[] #[]), (1, .pointer (some ⟨B, 0, none⟩)), (3, .int .i64 (((k : Nat) : Int) - 1))] ∧ bwP B A n c es w1 ∧ J (rvT es (n - k)) w1 ∧ k ≤ n) _ ⟨n, rfl, henv.sub ⟨rfl, rfl, rfl, trivial⟩, hpW, by rw [Nat.sub_self]; exact h0, Nat.le_refl _⟩ ?_
  clear henv a
  rintro mz a w1 ⟨k, rfl, henv, hp, hJk, hk⟩
  refine wp_seq ?_
  refine wp_seq ?_
  refine region_seq ?_
  refine seq_step rfl (op_val (v := .int .i64 (((k : Nat) : Int) - 1)) henv rfl (rn_move henv rfl) ?_)
  clear henv a; intro a henv
  refine seq_step rfl (op_val (v := .bool (decide (((k : Nat) : Int) - 1 ≥ (0 : Int)))) henv rfl (rn_bin henv rfl rfl rfl) ?_)
  clear henv a; intro a henv
  refine wpList_nil ?_
  refine th_n ?_
  refine if_split henv rfl (fun hc => ?_) (fun hc => ?_)
  · obtain ⟨j, rfl⟩ : ∃ j : Nat, k = j + 1 := ⟨k - 1, by have := of_decide_eq_true hc; omega⟩
    rw [show (((j + 1 : Nat) : Nat) : Int) - 1 = (j : Nat) by omega] at henv
    obtain ⟨⟨a1, a2, a3, a4, a5⟩, he0⟩ : ∃ e, es[j]? = some e := ⟨_, List.getElem?_eq_getElem (by omega)⟩
    refine wp_skip ?_
    refine th_n ?_
    refine wp_seq ?_
    refine wp_block ?_
    refine wp_seq ?_
    refine region_y 8 ?_
    refine in_step rfl (fun _ h => by cases h) (op_val (v := .func (.yield l0) #[] #[]) henv rfl (rn_move henv rfl) ?_)
    clear henv a; intro a henv
    refine in_step rfl (fun _ h => by cases h) (op_val (v := .int .i64 (j : Nat)) henv rfl (rn_move henv rfl) ?_)
    clear henv a; intro a henv
    refine in_step rfl (fun _ h => by cases h) (op_val (v := .slice A n c) henv rfl (rn_load1 henv ty__api_Instr rfl hp.1 rfl) ?_)
    clear henv a; intro a henv
    refine in_step rfl (fun _ h => by cases h) (op_val (v := .int .i64 (j : Nat)) henv rfl (rn_move henv rfl) ?_)
    clear henv a; intro a henv
    refine in_step rfl (fun _ h => by cases h) (op_val (v := .pointer (some ⟨ab A, ao A + j * 5, none⟩)) henv rfl (rn_idxR (i := j) henv Tryd.underlying22 (ty_anvil_api_Instr.size) rfl rfl (by omega) rfl hp.2.1) ?_)
    clear henv a; intro a henv
    refine in_step rfl (fun _ h => by cases h) (op_val (v := .agg #[.int .i64 a1, .int .i64 a2, .int .i64 a3, .int .i64 a4, .int .i64 a5]) henv rfl (rn_loadE (i := j) (e := (a1, a2, a3, a4, a5)) henv ty_anvil_api_Instr rfl rfl fJ_len hp.2.1 (by omega) he0 rfl) ?_)
    clear henv a; intro a henv
    refine in_stepY rfl (op_yieldR henv rfl rfl rfl (hY _ (j, a1, a2, a3, a4, a5) w1 ⟨by rw [rvT_len], by rw [rvT_len]; show n - (j + 1) + j + 1 = n; omega, he0⟩ hJk) ?_)
    have hst1 : rvT es (n - (j + 1)) ++ [(j, a1, a2, a3, a4, a5)] = rvT es (n - j) := by
      rw [show n - j = n - (j + 1) + 1 by omega]
      exact (rvT_step he0 (by omega)).symm
    rw [hst1]
    rintro e W3 h3
    rcases h3 with ⟨rfl, hJ3, hk3⟩ | ⟨rfl, hJ3, _⟩
    · refine ⟨_, rfl, ?_⟩
      clear henv a; intro a henv
      refine in_step rfl (fun _ h => by cases h) (op_val (v := .bool false) henv rfl (rn_un henv rfl rfl) ?_)
      clear henv a; intro a henv
      refine in_nil ?_
      refine th_n ?_
      refine if_f henv rfl rfl ?_
      refine wp_skip ?_
      refine bl_n (th_n ?_)
      refine region_seq ?_
      refine seq_step rfl (op_val (v := .int .i64 (j : Nat)) henv rfl (rn_move henv rfl) ?_)
      clear henv a; intro a henv
      refine seq_step rfl (op_val (v := .int .i64 (((j : Nat) : Int) - (1 : Int))) henv rfl (rn_sub henv rfl rfl (IntWalk.i64_in _ (by omega))) ?_)
      clear henv a; intro a henv
      refine seq_step rfl (op_val (v := .int .i64 (((j : Nat) : Int) - 1)) henv rfl (rn_assign henv rfl) ?_)
      clear henv a; intro a henv
      refine wpList_nil ?_
      exact th_n ⟨_, Nat.lt_succ_self j, j, rfl, henv.sub ⟨rfl, rfl, rfl, trivial⟩, hk3 hp, hJ3, by omega⟩
    · refine ⟨_, rfl, ?_⟩
      clear henv a; intro a henv
      refine in_step rfl (fun _ h => by cases h) (op_val (v := .bool true) henv rfl (rn_un henv rfl rfl) ?_)
      clear henv a; intro a henv
      refine in_nil ?_
      refine th_n ?_
      refine if_t henv rfl rfl ?_
      refine wp_ret ?_
      refine bl_r (th_r (th_r (bl_r ?_)))
      refine leave henv (res0 Tryd.results59) ?_
      exact ⟨⟨_, rfl⟩, .inr ⟨_, ⟨n - j, by omega, rfl⟩, hJ3⟩⟩
  · obtain rfl : k = 0 := by have := of_decide_eq_false hc; omega
    refine wp_exit ?_
    refine th_x (th_x (bl_x ?_))
    refine leave_end henv (res0 Tryd.results59) ?_
    exact ⟨⟨_, rfl⟩, .inl ⟨_, rfl, hJk⟩⟩
section
variable {B n0 c0 n1 c1 : Nat} {i g : Int} {A0 A1 : Option Addr} {es : List IE} {os : List Int} {w : World}
set_option maxRecDepth 100000 in
set_option maxHeartbeats 4000000 in
theorem backV_ok (hp0 : pgP B i g A0 n0 c0 A1 n1 c1 es os w) (hR : Right i g n0 n1 es os) :
    SeqV Tryd.prog 36 #[.pointer (some ⟨B, 0, none⟩)] (fun x : YE => #[encI x, encJ x]) (VB es n0) (KX w.heap.size (pgP B i g A0 n0 c0 A1 n1 c1 es os)) (fun xs => xs = rvT es n0) (fun pre => ∃ k, k ≤ n0 ∧ pre = rvT es k) w := by
  intro l0 J Jx X hX hX2 hJ hJx hY h0
  have hpX := pg_keep hp0 hX
  refine enterM Tryd.func36 rfl Tryd.ntmps36 rfl ?_
  intro a henv hst
  replace hst := ((hst.argP (bk B #[.int .i64 i, .int .i64 g, .slice A0 n0 c0, .slice A1 n1 c1] 25) hpX.1).argRow hpX.2.2).argRow hpX.2.1
  refine wp_seq ?_
  refine region_seq ?_
  refine seq_step rfl (op_box (c := #[.func (.yield l0) #[] #[]]) henv hst rfl rfl rfl ?_)
  clear henv hst a; intro a w52 g51 henv hst
  refine wpList_nil ?_
  refine th_n ?_
  refine wp_seq ?_
  refine wp_seq ?_
  refine region_seq ?_
  refine seq_step rfl (op_val (v := .agg #[.int .i64 i, .int .i64 g, .slice A0 n0 c0, .slice A1 n1 c1]) henv rfl (rn_load0 henv ty_anvil_api_Prog rfl (hst.pat (k := 2) rfl) rfl) ?_)
  clear henv a; intro a henv
  refine seq_step rfl (op_call henv rfl Tryd.call37 rfl (g_right_ok (hst.pat (k := 0) rfl) (hst.pat (k := 1) rfl) hR) ?_)
  rintro e w53 ⟨rfl, hb⟩
  refine ⟨_, rfl, ?_⟩
  clear henv a; intro a henv
  replace hst := hst.call hb
  clear hb
  refine seq_step rfl (op_val (v := .bool false) henv rfl (rn_un henv rfl rfl) ?_)
  clear henv a; intro a henv
  refine wpList_nil ?_
  refine th_n ?_
  refine if_f henv rfl (rfl) ?_
  refine wp_skip ?_
  refine th_n ?_
  refine wp_seq ?_
  refine region_seq ?_
  refine seq_step rfl (op_val (v := .pointer (some ⟨B, 2, none⟩)) henv rfl (rn_fieldAddr henv fd_anvil_api_Prog_2 (ty__api_Instr.size) (by decide) rfl) ?_)
  clear henv a; intro a henv
  refine seq_step rfl (op_val (v := .slice A0 n0 c0) henv rfl (rn_load1 henv ty__api_Instr rfl (hst.pat (k := 2) rfl) rfl) ?_)
  clear henv a; intro a henv
  refine seq_step rfl (op_call henv rfl Tryd.call38 rfl (g_backward (A0 := A0) (n0 := n0) (c0 := c0)) ?_)
  rintro e w2 ⟨g54, rfl, hS, hge, hb⟩
  refine ⟨_, rfl, ?_⟩
  clear henv a; intro a henv
  have hg51 : X.heap.size ≤ g51 := hst.oge (k := 0) rfl
  have hs53 := hst.below.size
  replace hst := hst.fresh hb (bk g54 #[.slice A0 n0 c0] 22) hS (fun _ hb => hb ▸ hge)
  clear hS
  clear hb
  refine wpList_nil ?_
  refine th_n ?_
  refine wp_block ?_
  have hxs := hst.below.size
  have hJ2 : J [] w2 := hJ _ _ _ none h0 (grown_of hst.below) fun r e => by cases e
  have hb1 : (bk g51 #[.func (.yield l0) #[] #[]] 64).P w2 := hst.owns (k := 0) rfl
  have hb2 : (bk g54 #[.slice A0 n0 c0] 22).P w2 := hst.pat (k := 0) rfl
  have hp2 : pgP B i g A0 n0 c0 A1 n1 c1 es os w2 := ⟨hst.pat (k := 3) rfl, hst.pat (k := 1) rfl, hst.pat (k := 2) rfl⟩
  clear hst
  refine wp_rangeV (α := YE) (enc := encI) (enc' := encJ) (Kp := KB (bwP g54 A0 n0 c0 es)) henv rfl Tryd.call59 rfl rfl (backward_V ⟨hb2, hp2.2.1⟩) (fun h k q => k (h q))
    (fun Y o o' h hc hq => ⟨own_keep (e := bk g54 #[.slice A0 n0 c0] 22) (B := 0) cf_bk hq.1 (grownBy_putObj' Y _ o') fun r e => by cases e; exact ⟨Nat.zero_le _, o, h, hc⟩, own_keep (B := 0) (cf_rowT (fun _ _ h => h) (by decide)) hq.2 (grownBy_putObj' Y _ o') fun r e => by cases e; exact ⟨Nat.zero_le _, o, h, hc⟩⟩)
    (fun pre Y => J pre Y ∧ (bk g51 #[.func (.yield l0) #[] #[]] 64).P Y ∧ (bk g54 #[.slice A0 n0 c0] 22).P Y ∧ pgP B i g A0 n0 c0 A1 n1 c1 es os Y ∧ w2.heap.size ≤ Y.heap.size) (fun c pre Y => Jx pre Y ∧ c = .ret)
    (fun s Y Z row hs hg hr => ⟨ownFrom_up hJ hxs s Y Z row hs.1 hg hr, own_keep cf_bk hs.2.1 hg hr, own_keep cf_bk hs.2.2.1 hg hr, pg_own hs.2.2.2.1 hg hr, Nat.le_trans hs.2.2.2.2 hg.size⟩)
    (fun c s Y Z row hs hg hr => ⟨ownFrom_up hJx hxs s Y Z row hs.1 hg hr, hs.2⟩) ⟨hJ2, hb1, hb2, hp2, Nat.le_refl _⟩
    (fun x a' Y => ∃ g4, EnvD [] 18 a' [(2, .pointer (some ⟨g51, 0, none⟩)), (3, encI x), (4, .pointer (some ⟨g4, 0, none⟩))] ∧ (bk g4 #[.int .i64 x.2.1, .int .i64 x.2.2.1, .int .i64 x.2.2.2.1, .int .i64 x.2.2.2.2.1, .int .i64 x.2.2.2.2.2] 37).P Y)
    (fun x a' s Y Z row hs hg hr => hs.elim fun g4 h => ⟨g4, h.1, own_keep cf_bk h.2 hg hr⟩) ?_ ?_ ?_ ?_
  · intro ix pre x Y K _ hi hK a henv
    have hst := St.start Y
    refine wpIn_seq ?_
    refine region_in ?_
    refine in_step rfl (fun _ h => by cases h) (op_val (v := encI x) henv rfl (rn_assign henv rfl) ?_)
    clear henv a; intro a henv
    refine in_nil ?_
    refine th_n ?_
    refine region_in ?_
    refine in_step rfl (fun _ h => by cases h) (op_alloc (c := #[.int .i64 0, .int .i64 0, .int .i64 0, .int .i64 0, .int .i64 0]) henv hst rfl zero_anvil_api_Instr rfl ?_)
    clear henv hst a; intro a w84 g83 henv hst
    refine in_step rfl (fun _ h => by cases h) (op_store (k := 0) (c' := #[.int .i64 x.2.1, .int .i64 x.2.2.1, .int .i64 x.2.2.2.1, .int .i64 x.2.2.2.2.1, .int .i64 x.2.2.2.2.2]) henv hst (ty_anvil_api_Instr.size) rfl rfl rfl rfl (by simp) rfl rfl ?_)
    clear henv hst a; intro a w85 henv hst
    refine in_nil ?_
    have hgr := grown_of hst.below
    exact th_n (hK _ _ (kf_of hst.below) (fun q => ⟨own_keep (e := bk g54 #[.slice A0 n0 c0] 22) (B := 0) cf_bk q.1 hgr (fun r e => by cases e), own_keep (B := 0) (cf_rowT (fun _ _ h => h) (by decide)) q.2 hgr (fun r e => by cases e)⟩)
      ⟨ownFrom_up hJ hxs _ _ _ none hi.1 hgr (fun r e => by cases e), own_keep (B := 0) cf_bk hi.2.1 hgr (fun r e => by cases e), own_keep (B := 0) cf_bk hi.2.2.1 hgr (fun r e => by cases e), pg_own (D := 0) hi.2.2.2.1 hgr (fun r e => by cases e), Nat.le_trans hi.2.2.2.2 hgr.size⟩
      ⟨g83, henv.sub ⟨rfl, rfl, rfl, trivial⟩, hst.oat (k := 0) rfl⟩)
  · rintro ix pre x a Y hv hi ⟨g4, henv, hg4⟩
    refine wpIn_block ?_
    refine wpIn_seq ?_
    refine region_in ?_
    refine in_step rfl (fun _ h => by cases h) (op_val (v := .func (.yield l0) #[] #[]) henv rfl (rn_load1 henv ty_func_int_api_Instr_bool rfl hi.2.1 rfl) ?_)
    clear henv a; intro a henv
    refine in_step rfl (fun _ h => by cases h) (op_val (v := encI x) henv rfl (rn_move henv rfl) ?_)
    clear henv a; intro a henv
    refine in_step rfl (fun _ h => by cases h) (op_val (v := encJ x) henv rfl (rn_load0 henv ty_anvil_api_Instr rfl hg4 rfl) ?_)
    clear henv a; intro a henv
    refine in_stepY rfl (op_yieldR henv rfl rfl rfl (hY pre x Y hv hi.1) ?_)
    rintro e Z hZ
    have hkx : KX w.heap.size (pgP B i g A0 n0 c0 A1 n1 c1 es os) Y Z := by
      rcases hZ with h | h
      · exact h.2.2
      · exact h.2.2
    have hkf : KeepsFrom w2.heap.size Y Z := ⟨hkx.1, fun b o hb ho _ => hkx.2.1 b o (by omega) ho⟩
    have hz1 : (bk g51 #[.func (.yield l0) #[] #[]] 64).P Z := hkx.2.1 _ _ (by omega) hi.2.1
    have hz2 : (bk g54 #[.slice A0 n0 c0] 22).P Z := hkx.2.1 _ _ (by omega) hi.2.2.1
    have hz3 := hkx.2.2 hi.2.2.2.1
    rcases hZ with ⟨rfl, hJ3, _⟩ | ⟨rfl, hJ3, _⟩
    · refine ⟨_, rfl, ?_⟩
      clear henv a; intro a henv
      refine in_step rfl (fun _ h => by cases h) (op_val (v := .bool false) henv rfl (rn_un henv rfl rfl) ?_)
      clear henv a; intro a henv
      refine in_nil ?_
      refine th_n ?_
      refine if_fIn henv rfl rfl ?_
      refine wpIn_skip ?_
      refine bl_n ?_
      exact ⟨hkf, fun _ => ⟨hz2, hz3.2.1⟩, hJ3, hz1, hz2, hz3, Nat.le_trans hi.2.2.2.2 hkx.1⟩
    · refine ⟨_, rfl, ?_⟩
      clear henv a; intro a henv
      refine in_step rfl (fun _ h => by cases h) (op_val (v := .bool true) henv rfl (rn_un henv rfl rfl) ?_)
      clear henv a; intro a henv
      refine in_nil ?_
      refine th_n ?_
      refine if_tIn henv rfl rfl ?_
      refine wpIn_ret ?_
      refine bl_r ?_
      exact ⟨hkf, fun _ => ⟨hz2, hz3.2.1⟩, hJ3, rfl⟩
  · intro D xs Z a hD hS hI hdD henv
    refine bl_n ?_
    refine leaveM1 henv hdD (res0 Tryd.results36) ?_
    exact ⟨⟨_, rfl⟩, .inl ⟨_, hS, hJ.putObj _ hI.1 (by omega) hdD rfl⟩⟩
  · rintro D c pre Z a hD hS ⟨hI, rfl⟩ hdD henv
    refine wp_ret ?_
    refine bl_r ?_
    refine leaveM1 henv hdD (res0 Tryd.results36) ?_
    exact ⟨⟨_, rfl⟩, .inr ⟨_, hS, hJx.putObj _ hI (by omega) hdD rfl⟩⟩
end
end Go.Proofs.YtbdngknpngcojaaDoor.W

/- Plain laws: which instructions of a program are needed. No program. No condition. -/
namespace Go.Proofs.YtbdngknpngcojaaDoor.W
open Go.RowKit Anv Go.Lib
def fO (b : Bool) : List Value := [.bool b]
def FO (_ : Bool) : PF := pfT0
theorem fO_len (b : Bool) : (fO b).length = 1 := rfl
def askE (e : IE) : List Int := asksL e.1 e.2.2.1 e.2.2.2.1
def ndF (os : List Int) : List IE → List Bool × (Int → Bool)
  | [] => ([], fun r => decide (r ∈ os))
  | e :: l => if (ndF os l).2 e.2.1 then (true :: (ndF os l).1, fun r => decide (r ∈ askE e) || (!decide (r = e.2.1) && (ndF os l).2 r)) else (false :: (ndF os l).1, (ndF os l).2)
theorem ndF_len (os : List Int) (l : List IE) : (ndF os l).1.length = l.length := by
  induction l with
  | nil => rfl
  | cons e l ih => rw [ndF]; split <;> rw [List.length_cons, List.length_cons, ih]
def scR (os : List Int) (r : Int) : List IE → List Bool → Bool
  | e :: l, b :: bs => (decide (r ∈ askE e) && b) || (!decide (e.2.1 = r) && scR os r l bs)
  | _, _ => decide (r ∈ os)
theorem scR_nd (os : List Int) (r : Int) (l : List IE) : scR os r l (ndF os l).1 = (ndF os l).2 r := by
  induction l with
  | nil => rfl
  | cons e l ih =>
    rw [ndF]
    by_cases h : (ndF os l).2 e.2.1 = true
    · rw [if_pos h, scR, ih, Bool.and_true]
      by_cases q : r = e.2.1
      · subst q; simp
      · rw [decide_eq_false (p := e.2.1 = r) (fun z => q z.symm)]
        dsimp only
        rw [decide_eq_false q]
    · rw [if_neg h, scR, ih, Bool.and_false, Bool.false_or]
      by_cases q : e.2.1 = r
      · subst q
        rw [decide_eq_true rfl, Bool.not_true, Bool.false_and]
        simpa using h
      · rw [decide_eq_false q, Bool.not_false, Bool.true_and]
theorem drop_at {α : Type} {l : List α} {k : Nat} {e : α} (h : l[k]? = some e) : l.drop k = e :: l.drop (k + 1) := by
  obtain ⟨h1, h2⟩ := List.getElem?_eq_some_iff.1 h
  rw [List.drop_eq_getElem_cons h1, h2]
theorem sc_step {os : List Int} {r : Int} {es : List IE} {bs : List Bool} {j q : Nat} {e : IE} {b : Bool} (he : es[j]? = some e) (hb : bs[q]? = some b) : scR os r (es.drop j) (bs.drop q) = ((decide (r ∈ askE e) && b) || (!decide (e.2.1 = r) && scR os r (es.drop (j + 1)) (bs.drop (q + 1)))) := by
  rw [drop_at he, drop_at hb, scR]
theorem sc_end {os : List Int} {r : Int} {es : List IE} {bs : List Bool} {j : Nat} (hj : es.length ≤ j) : scR os r (es.drop j) bs = decide (r ∈ os) := by
  rw [List.drop_eq_nil_of_le hj]; rfl
def ndT (os : List Int) (es : List IE) (t : Nat) : List Bool := List.replicate t false ++ (ndF os (es.drop t)).1
theorem ndT_len {os : List Int} {es : List IE} {t : Nat} (h : t ≤ es.length) : (ndT os es t).length = es.length := by
  rw [ndT, List.length_append, List.length_replicate, ndF_len, List.length_drop]; omega
theorem ndT_end (os : List Int) {es : List IE} {n : Nat} (h : es.length = n) : ndT os es n = List.replicate n false := by
  rw [ndT, List.drop_eq_nil_of_le (by omega)]; exact List.append_nil _
theorem set_rep {k : Nat} {b : Bool} {l : List Bool} : (List.replicate (k + 1) false ++ l).set k b = List.replicate k false ++ b :: l := by
  rw [List.replicate_succ', List.append_assoc, List.set_append_right (h := by rw [List.length_replicate]; exact Nat.le_refl _), List.length_replicate, Nat.sub_self]
  rfl
theorem ndT_set {os : List Int} {es : List IE} {k : Nat} {e : IE} (he : es[k]? = some e) : (ndT os es (k + 1)).set k ((ndF os (es.drop (k + 1))).2 e.2.1) = ndT os es k := by
  rw [ndT, ndT, set_rep, drop_at he, ndF]
  by_cases h : (ndF os (es.drop (k + 1))).2 e.2.1 = true
  · rw [if_pos h, h]
  · rw [if_neg h, Bool.eq_false_iff.2 h]
theorem ndT_at0 {os : List Int} {es : List IE} {t k : Nat} (h : k < t) : (ndT os es t)[k]? = some false := by
  rw [ndT, List.getElem?_append_left (by rw [List.length_replicate]; exact h), List.getElem?_replicate, if_pos h]
theorem ndT_at {os : List Int} {es : List IE} {t q : Nat} : (ndT os es t)[t + q]? = (ndF os (es.drop t)).1[q]? := by
  rw [ndT, List.getElem?_append_right (by rw [List.length_replicate]; omega), List.length_replicate, Nat.add_sub_cancel_left]
theorem setB_same {l : List Bool} {k : Nat} {b : Bool} (h : l[k]? = some b) : l.set k b = l := by
  obtain ⟨h1, h2⟩ := List.getElem?_eq_some_iff.1 h
  rw [← h2]; exact List.set_getElem_self h1
def akT (g : Nat) (f : Int → Bool) : List Bool := (List.range g).map fun r => f (r : Nat)
theorem akT_len (g : Nat) (f : Int → Bool) : (akT g f).length = g := by rw [akT, List.length_map, List.length_range]
theorem akT_at {g r : Nat} {f : Int → Bool} (h : r < g) : (akT g f)[r]? = some (f (r : Nat)) := by
  rw [akT, List.getElem?_map, List.getElem?_range h]; rfl
theorem akT_ext {g : Nat} {f f' : Int → Bool} (h : ∀ r, f r = f' r) : akT g f = akT g f' := by
  rw [show f = f' from funext h]
theorem akT_set {g t : Nat} {f : Int → Bool} {b : Bool} : (akT g f).set t b = akT g fun r => if r = (t : Nat) then b else f r := by
  apply List.ext_getElem?
  intro i
  rw [List.getElem?_set, akT, akT, List.getElem?_map, List.getElem?_map, List.length_map, List.length_range]
  by_cases h : i < g
  · rw [List.getElem?_range h]
    by_cases q : t = i
    · subst q; simp [h]
    · have : ¬ ((i : Int) = (t : Int)) := by omega
      simp [q, this]
  · rw [List.getElem?_eq_none (by rw [List.length_range]; omega)]
    by_cases q : t = i
    · subst q; simp [h]
    · simp [q]
def mkF (f : Int → Bool) (l : List Int) (r : Int) : Bool := f r || decide (r ∈ l)
theorem mk_nil (f : Int → Bool) (r : Int) : mkF f [] r = f r := by simp [mkF]
theorem mk_step {g q m : Nat} {f : Int → Bool} {l : List Int} (hq : l[m]? = some ((q : Nat) : Int)) : (akT g (mkF f (l.take m))).set q true = akT g (mkF f (l.take (m + 1))) := by
  rw [akT_set]
  refine akT_ext fun r => ?_
  rw [mkF, mkF, take_one hq]
  by_cases h : r = ((q : Nat) : Int)
  · rw [if_pos h, decide_eq_true (List.mem_append.2 (.inr (by rw [h]; exact List.mem_singleton.2 rfl))), Bool.or_true]
  · rw [if_neg h]
    congr 1
    exact decide_eq_decide.2 ⟨fun z => List.mem_append.2 (.inl z), fun z => (List.mem_append.1 z).elim id fun z => absurd (List.mem_singleton.1 z) h⟩
theorem ak_rep (g : Nat) : List.replicate g false = akT g fun _ => false := by
  rw [akT, List.map_const', List.length_range]
theorem ak_outs {g : Nat} (os : List Int) : akT g (mkF (fun _ => false) os) = akT g (ndF os []).2 := akT_ext fun r => by rw [mkF, ndF, Bool.false_or]
theorem ak_no {os : List Int} {es : List IE} {k : Nat} {e : IE} (he : es[k]? = some e) (h : (ndF os (es.drop (k + 1))).2 e.2.1 = false) : (ndF os (es.drop k)).2 = (ndF os (es.drop (k + 1))).2 := by
  rw [drop_at he, ndF, if_neg (by rw [h]; decide)]
theorem ak_yes {g : Nat} {os : List Int} {es : List IE} {k t : Nat} {e : IE} (he : es[k]? = some e) (ht : e.2.1 = (t : Nat)) (h : (ndF os (es.drop (k + 1))).2 e.2.1 = true) : akT g (mkF (fun r => if r = ((t : Nat) : Int) then false else (ndF os (es.drop (k + 1))).2 r) (askE e)) = akT g (ndF os (es.drop k)).2 := by
  refine akT_ext fun r => ?_
  rw [drop_at he, ndF, if_pos h, mkF]
  simp only
  rw [ht]
  by_cases q : r = ((t : Nat) : Int)
  · rw [if_pos q, decide_eq_true q, Bool.false_or, Bool.not_true, Bool.false_and, Bool.or_false]
  · rw [if_neg q, decide_eq_false q, Bool.not_false, Bool.true_and, Bool.or_comm]
def kpF (os : List Int) : List IE → List IE
  | [] => []
  | e :: l => if (ndF os l).2 e.2.1 then e :: kpF os l else kpF os l
theorem nd_kp (os : List Int) (l : List IE) : ndF os (kpF os l) = (List.replicate (kpF os l).length true, (ndF os l).2) := by
  induction l with
  | nil => rfl
  | cons e l ih =>
    rw [kpF]
    by_cases h : (ndF os l).2 e.2.1 = true
    · rw [if_pos h, ndF, ndF, ih, if_pos h, if_pos h, List.length_cons, List.replicate_succ]
    · rw [if_neg h, ih, ndF, if_neg h]
theorem kp_mem {os : List Int} {l : List IE} {e : IE} (h : e ∈ kpF os l) : e ∈ l := by
  induction l with
  | nil => cases h
  | cons x l ih =>
    rw [kpF] at h
    split at h
    · rcases List.mem_cons.1 h with rfl | h
      · exact List.mem_cons_self ..
      · exact List.mem_cons_of_mem _ (ih h)
    · exact List.mem_cons_of_mem _ (ih h)
theorem kp_len (os : List Int) (l : List IE) : (kpF os l).length ≤ l.length := by
  induction l with
  | nil => exact Nat.le_refl _
  | cons x l ih =>
    rw [kpF]
    split
    · rw [List.length_cons, List.length_cons]; omega
    · rw [List.length_cons]; omega
theorem nd_at {os : List Int} {es : List IE} {k : Nat} {e : IE} (he : es[k]? = some e) : (ndF os es).1[k]? = some ((ndF os (es.drop (k + 1))).2 e.2.1) := by
  induction es generalizing k with
  | nil => simp at he
  | cons x l ih =>
    cases k with
    | zero =>
      have : x = e := by simpa using he
      subst this
      rw [List.drop_succ_cons, List.drop_zero, ndF]
      by_cases h : (ndF os l).2 x.2.1 = true
      · rw [if_pos h, h]; rfl
      · rw [if_neg h, Bool.eq_false_iff.2 h]; rfl
    | succ k =>
      have h1 : l[k]? = some e := by simpa using he
      rw [List.drop_succ_cons, ndF, ← ih h1]
      split <;> rfl
theorem kp_yes {os : List Int} {es qs : List IE} {k : Nat} {e : IE} (hq : qs ++ kpF os (es.drop k) = kpF os es) (he : es[k]? = some e) (h : (ndF os (es.drop (k + 1))).2 e.2.1 = true) : (qs ++ [e]) ++ kpF os (es.drop (k + 1)) = kpF os es := by
  rw [← hq, drop_at he, kpF, if_pos h, List.append_assoc]; rfl
theorem kp_no {os : List Int} {es qs : List IE} {k : Nat} {e : IE} (hq : qs ++ kpF os (es.drop k) = kpF os es) (he : es[k]? = some e) (h : (ndF os (es.drop (k + 1))).2 e.2.1 = false) : qs ++ kpF os (es.drop (k + 1)) = kpF os es := by
  rw [← hq, drop_at he, kpF, if_neg (by rw [h]; decide)]
theorem right_kp {i g : Int} {n0 n1 : Nat} {es0 : List IE} {es1 : List Int} (h : Right i g n0 n1 es0 es1) (hl : es0.length = n0) : Right i g (kpF es1 es0).length n1 (kpF es1 es0) es1 := by
  obtain ⟨h1, h2, h3⟩ := h
  have := kp_len es1 es0
  exact ⟨by unfold HeadOk at *; omega, h2, fun e he => h3 e (kp_mem he)⟩
theorem nd_kp1 (os : List Int) (l : List IE) : (ndF os (kpF os l)).1 = List.replicate (kpF os l).length true := by rw [nd_kp]
end Go.Proofs.YtbdngknpngcojaaDoor.W

/- prog.Needed. Printed by pv/gen_gC.py. No condition. -/
namespace Go.Proofs.YtbdngknpngcojaaDoor.W
open Go.RowKit Anv Go.Lib
theorem nd_keep {os : List Int} {es : List IE} {k : Nat} {e : IE} (he : es[k]? = some e) (h : (ndF os (es.drop (k + 1))).2 e.2.1 = false) : ndT os es (k + 1) = ndT os es k := by
  have h1 := ndT_set (os := os) he
  rw [h, setB_same (ndT_at0 (Nat.lt_succ_self k))] at h1
  exact h1
set_option maxRecDepth 100000 in
set_option maxHeartbeats 8000000 in
theorem g_needed_ok {i : Int} {g : Nat} {A0 A1 : Option Addr} {n0 c0 n1 c1 : Nat} {es0 : List IE} {es1 : List Int} {w0 : World} (h0 : (pfRow fJ FJ 5 A0 n0 c0 es0).P w0) (h1 : (pfRow fI FI 1 A1 n1 c1 es1).P w0) (hR : Right i g n0 n1 es0 es1) :
    Calls Tryd.prog 27 #[.agg #[.int .i64 i, .int .i64 (g : Nat), .slice A0 n0 c0, .slice A1 n1 c1]] w0 fun e w' => ∃ A c, e = .returned (.tuple #[.slice A n0 c, .int .i64 0]) ∧ NewRow notU 4 1 fO FO w0.heap.size w' A n0 c (ndF es1 es0).1 ∧ Below w0.heap.size w0 w' := by
  obtain ⟨hh1, hh2, hh3, hh4, hh5, hh6⟩ := hR.1
  refine enterM Tryd.func27 rfl Tryd.ntmps27 rfl ?_
  intro a henv hst
  have hlen0 := h0.2.1
  have hbig0 := Nat.le_trans h0.1.cap h0.1.big
  unfold maxLen at hbig0
  have hlen1 := h1.2.1
  have hbig1 := Nat.le_trans h1.1.cap h1.1.big
  unfold maxLen at hbig1
  replace hst := hst.argRow h0
  replace hst := hst.argRow h1
  clear h0 h1
  refine wp_seq ?_
  refine region_seq ?_
  refine seq_step rfl (op_box (c := #[.int .i64 i, .int .i64 (g : Nat), .slice A0 n0 c0, .slice A1 n1 c1]) henv hst rfl rfl rfl ?_)
  clear henv hst a; intro a w52 g51 henv hst
  revert a
  refine aA rfl rfl ?_
  refine aA rfl rfl ?_
  intro a henv
  refine wpList_nil ?_
  refine th_n ?_
  refine wp_seq ?_
  refine wp_seq ?_
  refine region_seq ?_
  refine sv (v := .agg #[.int .i64 i, .int .i64 (g : Nat), .slice A0 n0 c0, .slice A1 n1 c1]) henv rfl (rn_load0 henv ty_anvil_api_Prog rfl (hst.oat (k := 0) rfl) rfl) ?_
  clear henv a; intro a henv
  refine seq_step rfl (op_call henv rfl Tryd.call37 rfl (g_right_ok (hst.pat (k := 1) rfl) (hst.pat (k := 0) rfl) hR) ?_)
  rintro e w53 ⟨rfl, hb⟩
  refine ⟨_, rfl, ?_⟩
  clear henv a; intro a henv
  replace hst := hst.call hb
  clear hb
  refine sv (v := .bool false) henv rfl (rn_un henv rfl rfl) ?_
  clear henv a; intro a henv
  refine wpList_nil ?_
  refine th_n ?_
  refine if_f henv rfl (rfl) ?_
  refine wp_skip ?_
  refine th_n ?_
  refine wp_seq ?_
  refine region_seq ?_
  revert a
  refine sA (v := .pointer (some ⟨g51, 2, none⟩)) rfl (fun _ henv => rn_fieldAddr henv fd_anvil_api_Prog_2 (ty__api_Instr.size) (by decide) rfl) ?_
  refine sA (v := .slice A0 n0 c0) rfl (fun _ henv => rn_load1 henv ty__api_Instr rfl (hst.oat (k := 0) rfl) rfl) ?_
  refine sA (v := .int .i64 (n0 : Nat)) rfl (fun _ henv => rn_len henv Tryd.underlying22 rfl) ?_
  intro a henv
  refine seq_step rfl (op_makeS (f := fO) (e0 := false) (q := notU) (n := n0) henv hst rfl Tryd.underlying48 inf_bool rfl rfl rfl rfl rfl rfl (by omega) (by unfold maxLen; omega) ?_)
  clear henv hst a; intro a w55 g54 henv hst
  refine seq_step rfl (op_alloc (c := #[.slice none 0 0]) henv hst rfl zero__bool rfl ?_)
  clear henv hst a; intro a w57 g56 henv hst
  refine seq_step rfl (op_store1 (k := 0) (c' := #[.slice (some ⟨g54, 0, none⟩) n0 n0]) henv hst (ty__bool.size) rfl rfl rfl (by simp) rfl rfl ?_)
  clear henv hst a; intro a w58 henv hst
  refine wpList_nil ?_
  refine th_n ?_
  refine wp_seq ?_
  refine region_seq ?_
  revert a
  refine sA (v := .pointer (some ⟨g51, 1, none⟩)) rfl (fun _ henv => rn_fieldAddr henv fd_anvil_api_Prog_1 (ty_int.size) (by decide) rfl) ?_
  refine sA (v := .int .i64 (g : Nat)) rfl (fun _ henv => rn_load1 henv ty_int rfl (hst.oat (k := 2) rfl) rfl) ?_
  intro a henv
  refine seq_step rfl (op_makeS (f := fO) (e0 := false) (q := notU) (n := g) henv hst rfl Tryd.underlying48 inf_bool rfl rfl rfl rfl rfl rfl (by omega) (by unfold maxLen; omega) ?_)
  clear henv hst a; intro a w60 g59 henv hst
  refine seq_step rfl (op_alloc (c := #[.slice none 0 0]) henv hst rfl zero__bool rfl ?_)
  clear henv hst a; intro a w62 g61 henv hst
  refine seq_step rfl (op_store1 (k := 0) (c' := #[.slice (some ⟨g59, 0, none⟩) g g]) henv hst (ty__bool.size) rfl rfl rfl (by simp) rfl rfl ?_)
  clear henv hst a; intro a w63 henv hst
  refine wpList_nil ?_
  refine th_n ?_
  refine wp_seq ?_
  refine wp_seq ?_
  refine region_seq ?_
  revert a
  refine sA (v := .pointer (some ⟨g51, 3, none⟩)) rfl (fun _ henv => rn_fieldAddr henv fd_anvil_api_Prog_3 (ty__int.size) (by decide) rfl) ?_
  refine sA (v := .slice A1 n1 c1) rfl (fun _ henv => rn_load1 henv ty__int rfl (hst.oat (k := 4) rfl) rfl) ?_
  refine sA (v := .int .i64 (n1 : Nat)) rfl (fun _ henv => rn_len henv Tryd.underlying23 rfl) ?_
  refine mA rfl rfl ?_
  intro a henv
  refine wpList_nil ?_
  refine th_n ?_
  refine wp_block ?_
  rw [ak_rep] at hst
  rw [show akT g (fun _ => false) = akT g (mkF (fun _ => false) (es1.take 0)) from akT_ext fun r => (mk_nil (fun _ => false) r).symm] at hst
  refine wp_loop_ghost (fun mz a w => ∃ j : Nat, n1 - j = mz ∧ Env 62 a [(1, .pointer (some ⟨g51, 0, none⟩)), (4, .pointer (some ⟨g56, 0, none⟩)), (5, .pointer (some ⟨g61, 0, none⟩)), (23, .slice A1 n1 c1), (24, .int .i64 (n1 : Nat)), (25, .int .i64 (j : Nat))] ∧ St w0 w [bk g61 #[.slice (some ⟨g59, 0, none⟩) g g] 48, rowS notU 4 1 (some ⟨g59, 0, none⟩) g g (fl fO (akT g (mkF (fun _ => false) (es1.take j)))), bk g56 #[.slice (some ⟨g54, 0, none⟩) n0 n0] 48, rowS notU 4 1 (some ⟨g54, 0, none⟩) n0 n0 (fl fO (List.replicate n0 false)), bk g51 #[.int .i64 i, .int .i64 (g : Nat), .slice A0 n0 c0, .slice A1 n1 c1] 25] [pfRow fI FI 1 A1 n1 c1 es1, pfRow fJ FJ 5 A0 n0 c0 es0] ∧ j ≤ n1) _ ⟨0, rfl, henv.sub ⟨rfl, rfl, rfl, rfl, rfl, rfl, trivial⟩, hst.pick [0, 1, 2, 3, 4] [0, 1] (by decide), (Nat.zero_le _)⟩ ?_
  clear henv hst a
  rintro mz a w64 ⟨j, rfl, henv, hst, hj⟩
  refine wp_seq ?_
  refine region_seq ?_
  refine sv (v := .bool (decide (((j : Nat) : Int) < ((n1 : Nat) : Int)))) henv rfl (rn_bin henv rfl rfl rfl) ?_
  clear henv a; intro a henv
  refine wpList_nil ?_
  refine th_n ?_
  refine wp_seq ?_
  refine if_split henv rfl (fun hc65 => ?_) (fun hc65 => ?_)
  · have hlt : j < n1 := by have := of_decide_eq_true hc65; omega
    obtain ⟨x, hea⟩ : ∃ x, es1[j]? = some x := ⟨_, List.getElem?_eq_getElem (by omega)⟩
    have hxr := hR.2.1 x (List.mem_of_getElem? hea)
    obtain ⟨q, rfl⟩ := Int.eq_ofNat_of_zero_le hxr.1
    have hqg : q < g := by omega
    refine wp_skip ?_
    refine th_n ?_
    refine wp_seq ?_
    refine wp_block ?_
    refine wp_seq ?_
    refine region_seq ?_
    revert a
    refine sA (v := .pointer (some ⟨ab A1, ao A1 + j * 1, none⟩)) rfl (fun _ henv => rn_idxR (i := j) henv Tryd.underlying23 (ty_int.size) rfl rfl (by omega) rfl (show (pfRow fI FI 1 A1 n1 c1 es1).P _ from (hst.pat (k := 0) rfl)).1) ?_
    refine sA (v := .int .i64 (q : Nat)) rfl (fun _ henv => rn_loadE1 (i := j) (j := 0) (e := ((q : Nat) : Int)) henv ty_int rfl rfl fI_len (by decide) (show (pfRow fI FI 1 A1 n1 c1 es1).P _ from (hst.pat (k := 0) rfl)).1 (by omega) hea rfl) ?_
    refine aA rfl rfl ?_
    intro a henv
    refine wpList_nil ?_
    refine th_n ?_
    refine region_seq ?_
    revert a
    refine sA (v := .slice (some ⟨g59, 0, none⟩) g g) rfl (fun _ henv => rn_load1 henv ty__bool rfl (hst.oat (k := 0) rfl) rfl) ?_
    refine mA rfl rfl ?_
    refine sA (v := .pointer (some ⟨ab (some ⟨g59, 0, none⟩), ao (some ⟨g59, 0, none⟩) + q * 1, none⟩)) rfl (fun _ henv => rn_idxR (i := q) henv Tryd.underlying48 (ty_bool.size) rfl rfl (by omega) rfl (rowS_rd (hst.owns (k := 1) rfl))) ?_
    intro a henv
    refine seq_step rfl (op_storeW1 (f := fO) (i := q) (e := true) (k := 1) henv hst (ty_bool.size) rfl rfl rfl rfl fO_len (by omega) (akT_len _ _) rfl rfl rfl ?_)
    clear henv hst a; intro a w66 henv hst
    rw [mk_step hea] at hst
    refine wpList_nil ?_
    refine bl_n (th_n ?_)
    refine region_seq ?_
    revert a
    refine sA (v := .int .i64 (j + 1 : Nat)) rfl (fun _ henv => rn_add henv rfl rfl (by rw [IntWalk.i64_in _ (by omega)]; omega)) ?_
    refine mA rfl rfl ?_
    intro a henv
    refine wpList_nil ?_
    exact th_n ⟨_, (by omega), ⟨j + 1, rfl, henv.sub ⟨rfl, rfl, rfl, rfl, rfl, rfl, trivial⟩, hst.pick [0, 1, 2, 3, 4] [0, 1] (by decide), (by omega)⟩⟩
  · have hjn : n1 ≤ j := by have := of_decide_eq_false hc65; omega
    rw [List.take_of_length_le (by omega), ak_outs] at hst
    rw [show (ndF es1 []).2 = (ndF es1 (es0.drop n0)).2 from by rw [List.drop_eq_nil_of_le (by omega)]] at hst
    rw [← ndT_end es1 hlen0] at hst
    replace hst : St w0 _ [bk g61 #[.slice (some ⟨g59, 0, none⟩) g g] 48, rowS notU 4 1 (some ⟨g59, 0, none⟩) g g (fl fO (akT g (ndF es1 (es0.drop n0)).2)), bk g56 #[.slice (some ⟨g54, 0, none⟩) n0 n0] 48, rowS notU 4 1 (some ⟨g54, 0, none⟩) n0 n0 (fl fO (ndT es1 es0 n0)), bk g51 #[.int .i64 i, .int .i64 (g : Nat), .slice A0 n0 c0, .slice A1 n1 c1] 25] [pfRow fI FI 1 A1 n1 c1 es1, pfRow fJ FJ 5 A0 n0 c0 es0] := hst
    refine wp_exit ?_
    refine th_x (th_x (bl_x (th_n ?_)))
    refine wp_seq ?_
    refine wp_seq ?_
    refine region_seq ?_
    refine sv (v := .agg #[.int .i64 i, .int .i64 (g : Nat), .slice A0 n0 c0, .slice A1 n1 c1]) henv rfl (rn_load0 henv ty_anvil_api_Prog rfl (hst.oat (k := 4) rfl) rfl) ?_
    clear henv a; intro a henv
    refine seq_step rfl (op_call henv rfl Tryd.call14 rfl (g_back (i := i) (g := (g : Nat)) (A0 := A0) (n0 := n0) (c0 := c0) (A1 := A1) (n1 := n1) (c1 := c1)) ?_)
    rintro e w67 ⟨gB, rfl, hS, hge, hb⟩
    refine ⟨_, rfl, ?_⟩
    clear henv a; intro a henv
    replace hst := hst.fresh hb (bk gB #[.int .i64 i, .int .i64 (g : Nat), .slice A0 n0 c0, .slice A1 n1 c1] 25) hS (fun _ hb => hb ▸ hge)
    clear hS hge
    clear hb
    refine wpList_nil ?_
    refine th_n ?_
    refine wp_block ?_
    have hsz := hst.below.size
    have hlow0 := low_of hst
    refine wp_rangeV (α := YE) (enc := encI) (enc' := encJ) (V := VB es0 n0) henv rfl Tryd.call36 rfl rfl (backV_ok ⟨hst.pat (k := 0) rfl, hst.pat (k := 2) rfl, hst.pat (k := 1) rfl⟩ hR) kx_trans (fun Y o o' h hc => kx_put h hc) (fun pre W => St w0 W [bk g61 #[.slice (some ⟨g59, 0, none⟩) g g] 48, rowS notU 4 1 (some ⟨g59, 0, none⟩) g g (fl fO (akT g (ndF es1 (es0.drop (n0 - pre.length))).2)), bk g56 #[.slice (some ⟨g54, 0, none⟩) n0 n0] 48, rowS notU 4 1 (some ⟨g54, 0, none⟩) n0 n0 (fl fO (ndT es1 es0 (n0 - pre.length))), bk g51 #[.int .i64 i, .int .i64 (g : Nat), .slice A0 n0 c0, .slice A1 n1 c1] 25] [bk gB #[.int .i64 i, .int .i64 (g : Nat), .slice A0 n0 c0, .slice A1 n1 c1] 25, pfRow fI FI 1 A1 n1 c1 es1, pfRow fJ FJ 5 A0 n0 c0 es0] ∧ w67.heap.size ≤ W.heap.size) (fun _ _ _ => False) (fun _ _ _ _ ⟨hst, hnB⟩ hg hr => ⟨hst.grown hsz ⟨cf_bk, cf_rowG, cf_bk, cf_rowG, cf_bk, trivial⟩ ⟨cf_bk, cf_rowT (fun _ _ h => h) (by decide), cf_rowT (fun _ _ h => h) (by decide), trivial⟩ hg hr, Nat.le_trans hnB hg.size⟩) (fun _ _ _ _ _ h _ _ => h) ⟨hst.pick [0, 1, 2, 3, 4] [0, 1, 2] (by decide), Nat.le_refl _⟩ (fun x a' W => ∃ g4, w67.heap.size ≤ g4 ∧ EnvD [] 62 a' [(4, .pointer (some ⟨g56, 0, none⟩)), (5, .pointer (some ⟨g61, 0, none⟩)), (8, .int .i64 (x.1 : Nat)), (9, .pointer (some ⟨g4, 0, none⟩))] ∧ (bk g4 #[.int .i64 x.2.1, .int .i64 x.2.2.1, .int .i64 x.2.2.2.1, .int .i64 x.2.2.2.2.1, .int .i64 x.2.2.2.2.2] 37).P W) (fun x a' s Y Z row hs hg hr => hs.elim fun g4 h => ⟨g4, h.1, h.2.1, own_keep cf_bk h.2.2 hg hr⟩) ?_ ?_ ?_ ?_
    · intro ix pre x W K _ hi hK a henv
      have hst := St.start W
      refine wpIn_seq ?_
      refine region_in ?_
      refine in_step rfl (fun _ h => by cases h) (op_val (v := .int .i64 (x.1 : Nat)) henv rfl (rn_assign henv rfl) ?_)
      clear henv a; intro a henv
      refine in_nil ?_
      refine th_n ?_
      refine region_in ?_
      refine in_step rfl (fun _ h => by cases h) (op_alloc (c := #[.int .i64 0, .int .i64 0, .int .i64 0, .int .i64 0, .int .i64 0]) henv hst rfl zero_anvil_api_Instr rfl ?_)
      clear henv hst a; intro a w69 g68 henv hst
      refine in_step rfl (fun _ h => by cases h) (op_store (k := 0) (c' := #[.int .i64 x.2.1, .int .i64 x.2.2.1, .int .i64 x.2.2.2.1, .int .i64 x.2.2.2.2.1, .int .i64 x.2.2.2.2.2]) henv hst (ty_anvil_api_Instr.size) rfl rfl rfl rfl (by simp) rfl rfl ?_)
      clear henv hst a; intro a w70 henv hst
      refine in_nil ?_
      have hg0 := grown_of hst.below
      have hr0 : ∀ r, (none : Option Nat) = some r → w67.heap.size ≤ r ∧ ∃ o : Obj, W.heap[r]? = some o ∧ o.isCells = false := fun r e => by cases e
      obtain ⟨hsi, hnB⟩ := hi
      exact th_n (hK _ _ (kf_of hst.below) (kx_of hst.below) ⟨hsi.grown hsz ⟨cf_bk, cf_rowG, cf_bk, cf_rowG, cf_bk, trivial⟩ ⟨cf_bk, cf_rowT (fun _ _ h => h) (by decide), cf_rowT (fun _ _ h => h) (by decide), trivial⟩ hg0 hr0, Nat.le_trans hnB hg0.size⟩ ⟨g68, Nat.le_trans hnB (hst.oge (k := 0) rfl), henv.sub ⟨rfl, rfl, rfl, rfl, trivial⟩, hst.oat (k := 0) rfl⟩)
    · rintro ix pre ⟨xj, x1, x2, x3, x4, x5⟩ a W ⟨hpre, hxi, hex⟩ ⟨hst, hnB⟩ ⟨g4, hg4, henv, hgb⟩
      have hlow : LowFs w67.heap.size [bk g61 #[.slice (some ⟨g59, 0, none⟩) g g] 48, rowS notU 4 1 (some ⟨g59, 0, none⟩) g g (fl fO (akT g (ndF es1 (es0.drop (n0 - pre.length))).2)), bk g56 #[.slice (some ⟨g54, 0, none⟩) n0 n0] 48, rowS notU 4 1 (some ⟨g54, 0, none⟩) n0 n0 (fl fO (ndT es1 es0 (n0 - pre.length))), bk g51 #[.int .i64 i, .int .i64 (g : Nat), .slice A0 n0 c0, .slice A1 n1 c1] 25] := hlow0
      replace hst := (((hst.addHi hlow hg4 hgb).addKA hlow).addKO ⟨cf_bk, cf_rowG, cf_bk, cf_rowG, cf_bk, trivial⟩)
      dsimp only at hex hgb henv hst
      have hmy : May (x1, x2, x3, x4, x5) g := hR.2.2 _ (List.mem_of_getElem? hex)
      obtain ⟨t, ht⟩ : ∃ t : Nat, x2 = t := ⟨x2.toNat, by have := hmy.2.2.1; simp only at this; omega⟩
      subst ht
      have htg : t < g := by have := hmy.2.2.2.1; simp only at this; omega
      have hak := may_asks hmy
      have hal := asks_len x1 x3 x4
      simp only at hak
      have hxj : n0 - pre.length = xj + 1 := by dsimp only at hxi; omega
      have hxj2 : xj < n0 := by dsimp only at hxi; omega
      rw [hxj] at hst
      replace hst : St w0 W [bk g61 #[.slice (some ⟨g59, 0, none⟩) g g] 48, rowS notU 4 1 (some ⟨g59, 0, none⟩) g g (fl fO (akT g (ndF es1 (es0.drop (xj + 1))).2)), bk g56 #[.slice (some ⟨g54, 0, none⟩) n0 n0] 48, rowS notU 4 1 (some ⟨g54, 0, none⟩) n0 n0 (fl fO (ndT es1 es0 (xj + 1))), bk g51 #[.int .i64 i, .int .i64 (g : Nat), .slice A0 n0 c0, .slice A1 n1 c1] 25] [koF W, kaF w67.heap.size W, bk g4 #[.int .i64 x1, .int .i64 (t : Nat), .int .i64 x3, .int .i64 x4, .int .i64 x5] 37, bk gB #[.int .i64 i, .int .i64 (g : Nat), .slice A0 n0 c0, .slice A1 n1 c1] 25, pfRow fI FI 1 A1 n1 c1 es1, pfRow fJ FJ 5 A0 n0 c0 es0] := hst
      obtain ⟨bt, hbf⟩ : ∃ bt, (ndF es1 (es0.drop (xj + 1))).2 ((t : Nat) : Int) = bt := ⟨_, rfl⟩
      have hbe : (akT g (ndF es1 (es0.drop (xj + 1))).2)[t]? = some bt := by rw [akT_at htg, hbf]
      refine wpIn_block ?_
      refine wpIn_seq ?_
      refine wpIn_seq ?_
      refine region_in ?_
      refine in_step rfl (fun _ h => by cases h) (op_val (v := .slice (some ⟨g59, 0, none⟩) g g) henv rfl (rn_load1 henv ty__bool rfl (hst.oat (k := 0) rfl) rfl) ?_)
      clear henv a; intro a henv
      refine in_step rfl (fun _ h => by cases h) (op_val (v := .pointer (some ⟨g4, 1, none⟩)) henv rfl (rn_fieldAddr henv fd_anvil_api_Instr_1 (ty_int.size) (by decide) rfl) ?_)
      clear henv a; intro a henv
      refine in_step rfl (fun _ h => by cases h) (op_val (v := .int .i64 (t : Nat)) henv rfl (rn_load1 henv ty_int rfl (hst.pat (k := 2) rfl) rfl) ?_)
      clear henv a; intro a henv
      refine in_step rfl (fun _ h => by cases h) (op_val (v := .pointer (some ⟨ab (some ⟨g59, 0, none⟩), ao (some ⟨g59, 0, none⟩) + t * 1, none⟩)) henv rfl (rn_idxR (i := t) henv Tryd.underlying48 (ty_bool.size) rfl rfl (by omega) rfl (rowS_rd (hst.owns (k := 1) rfl))) ?_)
      clear henv a; intro a henv
      refine in_step rfl (fun _ h => by cases h) (op_val (v := .bool bt) henv rfl (rn_loadE1 (i := t) (j := 0) (e := bt) henv ty_bool rfl rfl fO_len (by decide) (rowS_rd (hst.owns (k := 1) rfl)) (by omega) hbe rfl) ?_)
      clear henv a; intro a henv
      refine in_step rfl (fun _ h => by cases h) (op_val (v := .bool (!bt)) henv rfl (rn_un henv rfl rfl) ?_)
      clear henv a; intro a henv
      refine in_nil ?_
      refine th_n ?_
      refine if_splitIn henv rfl (fun hc71 => ?_) (fun hc71 => ?_)
      · obtain rfl : bt = false := bnot_t hc71
        refine wpIn_exit ?_
        refine th_x (bl_x ?_)
        rw [show ndT es1 es0 (xj + 1) = ndT es1 es0 xj from nd_keep hex hbf, show (ndF es1 (es0.drop (xj + 1))).2 = (ndF es1 (es0.drop xj)).2 from (ak_no hex hbf).symm] at hst
        have hlen1 : n0 - (pre ++ [((xj, x1, (t : Nat), x3, x4, x5) : YE)]).length = xj := by rw [List.length_append, List.length_singleton]; omega
        have hfin : St w0 W [bk g61 #[.slice (some ⟨g59, 0, none⟩) g g] 48, rowS notU 4 1 (some ⟨g59, 0, none⟩) g g (fl fO (akT g (ndF es1 (es0.drop xj)).2)), bk g56 #[.slice (some ⟨g54, 0, none⟩) n0 n0] 48, rowS notU 4 1 (some ⟨g54, 0, none⟩) n0 n0 (fl fO (ndT es1 es0 xj)), bk g51 #[.int .i64 i, .int .i64 (g : Nat), .slice A0 n0 c0, .slice A1 n1 c1] 25] [bk gB #[.int .i64 i, .int .i64 (g : Nat), .slice A0 n0 c0, .slice A1 n1 c1] 25, pfRow fI FI 1 A1 n1 c1 es1, pfRow fJ FJ 5 A0 n0 c0 es0] ∧ w67.heap.size ≤ W.heap.size := ⟨hst.pick [0, 1, 2, 3, 4] [3, 4, 5] (by decide), Nat.le_trans hnB (hst.ka (k := 1) rfl).size⟩
        rw [← hlen1] at hfin
        exact ⟨hst.ka (k := 1) rfl, hst.kax (k := 1) rfl ⟨hst.pat (k := 3) rfl, hst.pat (k := 5) rfl, hst.pat (k := 4) rfl⟩, hfin⟩
      · obtain rfl : bt = true := bnot_f hc71
        refine wpIn_skip ?_
        refine th_n ?_
        refine wpIn_seq ?_
        refine cutFIn (fun a w => Env 62 a [(4, .pointer (some ⟨g56, 0, none⟩)), (5, .pointer (some ⟨g61, 0, none⟩)), (9, .pointer (some ⟨g4, 0, none⟩)), (37, .slice (some ⟨g59, 0, none⟩) g g), (38, .pointer (some ⟨g4, 1, none⟩)), (39, .int .i64 (t : Nat)), (40, .pointer (some ⟨ab (some ⟨g59, 0, none⟩), ao (some ⟨g59, 0, none⟩) + t * 1, none⟩)), (41, .bool true), (42, .bool (!true))] ∧ St w0 w [bk g61 #[.slice (some ⟨g59, 0, none⟩) g g] 48, rowS notU 4 1 (some ⟨g59, 0, none⟩) g g (fl fO ((akT g (ndF es1 (es0.drop (xj + 1))).2).set t false)), bk g56 #[.slice (some ⟨g54, 0, none⟩) n0 n0] 48, rowS notU 4 1 (some ⟨g54, 0, none⟩) n0 n0 (fl fO ((ndT es1 es0 (xj + 1)).set xj true)), bk g51 #[.int .i64 i, .int .i64 (g : Nat), .slice A0 n0 c0, .slice A1 n1 c1] 25] [koF W, kaF w67.heap.size W, bk g4 #[.int .i64 x1, .int .i64 (t : Nat), .int .i64 x3, .int .i64 x4, .int .i64 x5] 37, bk gB #[.int .i64 i, .int .i64 (g : Nat), .slice A0 n0 c0, .slice A1 n1 c1] 25, pfRow fI FI 1 A1 n1 c1 es1, pfRow fJ FJ 5 A0 n0 c0 es0]) ?_ ?_
        · refine region_anyIn (n := 9) (Sk [bk g61 #[.slice (some ⟨g59, 0, none⟩) g g] 48, bk g56 #[.slice (some ⟨g54, 0, none⟩) n0 n0] 48, bk g51 #[.int .i64 i, .int .i64 (g : Nat), .slice A0 n0 c0, .slice A1 n1 c1] 25] [koF W, kaF w67.heap.size W, bk g4 #[.int .i64 x1, .int .i64 (t : Nat), .int .i64 x3, .int .i64 x4, .int .i64 x5] 37, bk gB #[.int .i64 i, .int .i64 (g : Nat), .slice A0 n0 c0, .slice A1 n1 c1] 25, pfRow fI FI 1 A1 n1 c1 es1, pfRow fJ FJ 5 A0 n0 c0 es0] [6, 8] [rowS notU 4 1 (some ⟨g59, 0, none⟩) g g (fl fO (akT g (ndF es1 (es0.drop (xj + 1))).2)), rowS notU 4 1 (some ⟨g54, 0, none⟩) n0 n0 (fl fO (ndT es1 es0 (xj + 1)))]) mixed rfl henv hst (by kernel_rfl) (fun _ _ h => h) ?_
          clear henv hst; intro w72 henv hst
          refine sAny_take (i := 0) [5, 6, 7, 8] (fun w' => w'.heap[g56]? = some (.cells #[.slice (some ⟨g54, 0, none⟩) n0 n0] 48 (0, 0))) (v := .slice (some ⟨g54, 0, none⟩) n0 n0) rfl (by kernel_rfl) (fun _ _ _ h => h) (fun _ _ _ hS => hS.1.oat (k := 1) rfl) henv rfl (hst.oat (k := 2) rfl) (fun w' hg => rn_load1 henv ty__bool rfl hg rfl) ?_
          clear henv a; intro a henv
          refine tM (i := 1) (rg 5 4) rfl (by kernel_rfl) (fun _ _ _ h => h) henv rfl rfl ?_
          clear henv a; intro a henv
          refine sAny_take (i := 2) [7, 8] (fun w' => w'.heap[g61]? = some (.cells #[.slice (some ⟨g59, 0, none⟩) g g] 48 (0, 0))) (v := .slice (some ⟨g59, 0, none⟩) g g) rfl (by kernel_rfl) (fun _ _ _ h => h) (fun _ _ _ hS => hS.1.oat (k := 0) rfl) henv rfl (hst.oat (k := 0) rfl) (fun w' hg => rn_load1 henv ty__bool rfl hg rfl) ?_
          clear henv a; intro a henv
          refine tA (i := 3) [4, 7, 8] (v := .pointer (some ⟨g4, 1, none⟩)) rfl (by kernel_rfl) (fun _ _ _ h => h) henv rfl (fun _ => rn_fieldAddr henv fd_anvil_api_Instr_1 (ty_int.size) (by decide) rfl) ?_
          clear henv a; intro a henv
          refine sAny_take (i := 4) [7, 8] (fun w' => (bk g4 #[.int .i64 x1, .int .i64 (t : Nat), .int .i64 x3, .int .i64 x4, .int .i64 x5] 37).P w') (v := .int .i64 (t : Nat)) rfl (by kernel_rfl) (fun _ _ _ h => h) (fun _ _ _ hS => hS.1.pat (k := 2) rfl) henv rfl (hst.pat (k := 2) rfl) (fun w' hg => rn_load1 henv ty_int rfl hg rfl) ?_
          clear henv a; intro a henv
          refine sAny_take (i := 5) [6, 7, 8] (fun w' => (rowS notU 4 1 (some ⟨g54, 0, none⟩) n0 n0 (fl fO (ndT es1 es0 (xj + 1)))).P w') (v := .pointer (some ⟨ab (some ⟨g54, 0, none⟩), ao (some ⟨g54, 0, none⟩) + xj * 1, none⟩)) rfl (by kernel_rfl) (fun _ _ _ h => h) (fun _ _ hj hS => (hS.two rfl hj).owns (k := 1) rfl) henv rfl (hst.owns (k := 3) rfl) (fun w' hg => rn_idxR (i := xj) henv Tryd.underlying48 (ty_bool.size) rfl rfl (by omega) rfl (rowS_rd hg)) ?_
          clear henv a; intro a henv
          refine sAny_one (i := 6) (by kernel_rfl) rfl rfl (op_storeW1 (f := fO) (i := xj) (e := true) (k := 3) henv hst (ty_bool.size) rfl rfl rfl rfl fO_len (by omega) ((ndT_len (by omega)).trans hlen0) rfl rfl rfl ?_)
          clear henv hst a; intro a w73 henv hst
          refine ⟨.inr ⟨hst.kn.pick [0, 2, 4] (rg 0 6), .inl rfl⟩, ?_⟩
          refine sAny_one (i := 7) (by kernel_rfl) rfl rfl (op_val (v := .pointer (some ⟨ab (some ⟨g59, 0, none⟩), ao (some ⟨g59, 0, none⟩) + t * 1, none⟩)) henv rfl (rn_idxR (i := t) henv Tryd.underlying48 (ty_bool.size) rfl rfl (by omega) rfl (rowS_rd (hst.owns (k := 1) rfl))) ?_)
          clear henv a; intro a henv
          refine ⟨.inl rfl, ?_⟩
          refine sAny_one (i := 8) (by kernel_rfl) rfl rfl (op_storeW1 (f := fO) (i := t) (e := false) (k := 1) henv hst (ty_bool.size) rfl rfl rfl rfl fO_len (by omega) (akT_len _ _) rfl rfl rfl ?_)
          clear henv hst a; intro a w74 henv hst
          refine ⟨.inr ⟨hst.kn.pick [0, 2, 4] (rg 0 6), .inl rfl⟩, ?_⟩
          refine sAny_done (by kernel_rfl) ?_ _
          exact th_n ⟨henv.sub ⟨rfl, rfl, rfl, rfl, rfl, rfl, rfl, rfl, rfl, trivial⟩, hst.pick [0, 1, 2, 3, 4] [0, 1, 2, 3, 4, 5] (by decide)⟩
        clear henv hst a
        rintro a w75 ⟨henv, hst⟩
        refine wpIn_seq ?_
        refine region_in ?_
        refine in_step rfl (fun _ h => by cases h) (op_val (v := .agg #[.int .i64 x1, .int .i64 (t : Nat), .int .i64 x3, .int .i64 x4, .int .i64 x5]) henv rfl (rn_load0 henv ty_anvil_api_Instr rfl (hst.pat (k := 2) rfl) rfl) ?_)
        clear henv a; intro a henv
        refine in_step rfl (fun _ h => by cases h) (op_call henv rfl Tryd.call18 rfl (g_asks (op := x1) (tr := (t : Nat)) (ra := x3) (rb := x4) (cn := x5)) ?_)
        rintro e w78 ⟨_, rfl, ⟨A76, c77, rfl, hr, hfr⟩, hb⟩
        refine ⟨_, rfl, ?_⟩
        clear henv a; intro a henv
        replace hst := hst.freshI hb hr hfr
        clear hr
        clear hb
        refine in_step rfl (fun _ h => by cases h) (op_val (v := .int .i64 ((asksL x1 x3 x4).length : Nat)) henv rfl (rn_len henv Tryd.underlying23 rfl) ?_)
        clear henv a; intro a henv
        refine in_step rfl (fun _ h => by cases h) (op_val (v := .int .i64 0) henv rfl (rn_move henv rfl) ?_)
        clear henv a; intro a henv
        refine in_nil ?_
        refine th_n ?_
        refine wpIn_block ?_
        rw [akT_set] at hst
        rw [show akT g (fun r => if r = ((t : Nat) : Int) then false else (ndF es1 (es0.drop (xj + 1))).2 r) = akT g (mkF (fun r => if r = ((t : Nat) : Int) then false else (ndF es1 (es0.drop (xj + 1))).2 r) ((asksL x1 x3 x4).take 0)) from akT_ext fun r => (mk_nil (fun r => if r = ((t : Nat) : Int) then false else (ndF es1 (es0.drop (xj + 1))).2 r) r).symm] at hst
        replace hst : St w0 _ [bk g61 #[.slice (some ⟨g59, 0, none⟩) g g] 48, rowS notU 4 1 (some ⟨g59, 0, none⟩) g g (fl fO (akT g (mkF (fun r => if r = ((t : Nat) : Int) then false else (ndF es1 (es0.drop (xj + 1))).2 r) ((asksL x1 x3 x4).take 0)))), bk g56 #[.slice (some ⟨g54, 0, none⟩) n0 n0] 48, rowS notU 4 1 (some ⟨g54, 0, none⟩) n0 n0 (fl fO ((ndT es1 es0 (xj + 1)).set xj true)), bk g51 #[.int .i64 i, .int .i64 (g : Nat), .slice A0 n0 c0, .slice A1 n1 c1] 25] [pfRow fI FI 1 A76 ((asksL x1 x3 x4).length) c77 (asksL x1 x3 x4), koF W, kaF w67.heap.size W, bk g4 #[.int .i64 x1, .int .i64 (t : Nat), .int .i64 x3, .int .i64 x4, .int .i64 x5] 37, bk gB #[.int .i64 i, .int .i64 (g : Nat), .slice A0 n0 c0, .slice A1 n1 c1] 25, pfRow fI FI 1 A1 n1 c1 es1, pfRow fJ FJ 5 A0 n0 c0 es0] := hst
        refine loop_ghostIn (fun mz a w => ∃ m : Nat, (asksL x1 x3 x4).length - m = mz ∧ Env 62 a [(4, .pointer (some ⟨g56, 0, none⟩)), (5, .pointer (some ⟨g61, 0, none⟩)), (51, .slice A76 ((asksL x1 x3 x4).length) c77), (52, .int .i64 ((asksL x1 x3 x4).length : Nat)), (53, .int .i64 (m : Nat))] ∧ St w0 w [bk g61 #[.slice (some ⟨g59, 0, none⟩) g g] 48, rowS notU 4 1 (some ⟨g59, 0, none⟩) g g (fl fO (akT g (mkF (fun r => if r = ((t : Nat) : Int) then false else (ndF es1 (es0.drop (xj + 1))).2 r) ((asksL x1 x3 x4).take m)))), bk g56 #[.slice (some ⟨g54, 0, none⟩) n0 n0] 48, rowS notU 4 1 (some ⟨g54, 0, none⟩) n0 n0 (fl fO ((ndT es1 es0 (xj + 1)).set xj true)), bk g51 #[.int .i64 i, .int .i64 (g : Nat), .slice A0 n0 c0, .slice A1 n1 c1] 25] [pfRow fI FI 1 A76 ((asksL x1 x3 x4).length) c77 (asksL x1 x3 x4), koF W, kaF w67.heap.size W, bk g4 #[.int .i64 x1, .int .i64 (t : Nat), .int .i64 x3, .int .i64 x4, .int .i64 x5] 37, bk gB #[.int .i64 i, .int .i64 (g : Nat), .slice A0 n0 c0, .slice A1 n1 c1] 25, pfRow fI FI 1 A1 n1 c1 es1, pfRow fJ FJ 5 A0 n0 c0 es0] ∧ m ≤ (asksL x1 x3 x4).length) _ ⟨0, rfl, henv.sub ⟨rfl, rfl, rfl, rfl, rfl, trivial⟩, hst.pick [0, 1, 2, 3, 4] [0, 1, 2, 3, 4, 5, 6] (by decide), (Nat.zero_le _)⟩ ?_
        clear henv hst a
        rintro mz a w79 ⟨m, rfl, henv, hst, hm⟩
        refine wpIn_seq ?_
        refine region_in ?_
        refine in_step rfl (fun _ h => by cases h) (op_val (v := .bool (decide (((m : Nat) : Int) < (((asksL x1 x3 x4).length : Nat) : Int)))) henv rfl (rn_bin henv rfl rfl rfl) ?_)
        clear henv a; intro a henv
        refine in_nil ?_
        refine th_n ?_
        refine wpIn_seq ?_
        refine if_splitIn henv rfl (fun hc80 => ?_) (fun hc80 => ?_)
        · have hlm : m < (asksL x1 x3 x4).length := by have := of_decide_eq_true hc80; omega
          obtain ⟨x, hea⟩ : ∃ x, (asksL x1 x3 x4)[m]? = some x := ⟨_, List.getElem?_eq_getElem hlm⟩
          have hxr := hak x (List.mem_of_getElem? hea)
          obtain ⟨q, rfl⟩ := Int.eq_ofNat_of_zero_le hxr.1
          have hqg : q < g := by omega
          refine wpIn_skip ?_
          refine th_n ?_
          refine wpIn_seq ?_
          refine wpIn_block ?_
          refine wpIn_seq ?_
          refine region_in ?_
          refine in_step rfl (fun _ h => by cases h) (op_val (v := .pointer (some ⟨ab A76, ao A76 + m * 1, none⟩)) henv rfl (rn_idxR (i := m) henv Tryd.underlying23 (ty_int.size) rfl rfl (by omega) rfl (show (pfRow fI FI 1 A76 ((asksL x1 x3 x4).length) c77 (asksL x1 x3 x4)).P _ from (hst.pat (k := 0) rfl)).1) ?_)
          clear henv a; intro a henv
          refine in_step rfl (fun _ h => by cases h) (op_val (v := .int .i64 (q : Nat)) henv rfl (rn_loadE1 (i := m) (j := 0) (e := ((q : Nat) : Int)) henv ty_int rfl rfl fI_len (by decide) (show (pfRow fI FI 1 A76 ((asksL x1 x3 x4).length) c77 (asksL x1 x3 x4)).P _ from (hst.pat (k := 0) rfl)).1 (by omega) hea rfl) ?_)
          clear henv a; intro a henv
          refine in_step rfl (fun _ h => by cases h) (op_val (v := .int .i64 (q : Nat)) henv rfl (rn_assign henv rfl) ?_)
          clear henv a; intro a henv
          refine in_nil ?_
          refine th_n ?_
          refine region_in ?_
          refine in_step rfl (fun _ h => by cases h) (op_val (v := .slice (some ⟨g59, 0, none⟩) g g) henv rfl (rn_load1 henv ty__bool rfl (hst.oat (k := 0) rfl) rfl) ?_)
          clear henv a; intro a henv
          refine in_step rfl (fun _ h => by cases h) (op_val (v := .int .i64 (q : Nat)) henv rfl (rn_move henv rfl) ?_)
          clear henv a; intro a henv
          refine in_step rfl (fun _ h => by cases h) (op_val (v := .pointer (some ⟨ab (some ⟨g59, 0, none⟩), ao (some ⟨g59, 0, none⟩) + q * 1, none⟩)) henv rfl (rn_idxR (i := q) henv Tryd.underlying48 (ty_bool.size) rfl rfl (by omega) rfl (rowS_rd (hst.owns (k := 1) rfl))) ?_)
          clear henv a; intro a henv
          refine in_step rfl (fun _ h => by cases h) (op_storeW1 (f := fO) (i := q) (e := true) (k := 1) henv hst (ty_bool.size) rfl rfl rfl rfl fO_len (by omega) (akT_len _ _) rfl rfl rfl ?_)
          clear henv hst a; intro a w81 henv hst
          rw [mk_step hea] at hst
          refine in_nil ?_
          refine bl_n (th_n ?_)
          refine region_in ?_
          refine in_step rfl (fun _ h => by cases h) (op_val (v := .int .i64 (m + 1 : Nat)) henv rfl (rn_add henv rfl rfl (by rw [IntWalk.i64_in _ (by omega)]; omega)) ?_)
          clear henv a; intro a henv
          refine in_step rfl (fun _ h => by cases h) (op_val (v := .int .i64 (m + 1 : Nat)) henv rfl (rn_move henv rfl) ?_)
          clear henv a; intro a henv
          refine in_nil ?_
          exact th_n ⟨_, (by omega), ⟨m + 1, rfl, henv.sub ⟨rfl, rfl, rfl, rfl, rfl, trivial⟩, hst.pick [0, 1, 2, 3, 4] [0, 1, 2, 3, 4, 5, 6] (by decide), (by omega)⟩⟩
        · have hlm : (asksL x1 x3 x4).length ≤ m := by have := of_decide_eq_false hc80; omega
          refine wpIn_exit ?_
          refine th_x (th_x (bl_x (bl_n ?_)))
          rw [show (ndT es1 es0 (xj + 1)).set xj true = ndT es1 es0 xj from by rw [← hbf]; exact ndT_set hex, List.take_of_length_le (show (asksL x1 x3 x4).length ≤ m by omega), show akT g (mkF (fun r => if r = ((t : Nat) : Int) then false else (ndF es1 (es0.drop (xj + 1))).2 r) (asksL x1 x3 x4)) = akT g (ndF es1 (es0.drop xj)).2 from ak_yes hex rfl hbf] at hst
          have hlen1 : n0 - (pre ++ [((xj, x1, (t : Nat), x3, x4, x5) : YE)]).length = xj := by rw [List.length_append, List.length_singleton]; omega
          have hfin : St w0 w79 [bk g61 #[.slice (some ⟨g59, 0, none⟩) g g] 48, rowS notU 4 1 (some ⟨g59, 0, none⟩) g g (fl fO (akT g (ndF es1 (es0.drop xj)).2)), bk g56 #[.slice (some ⟨g54, 0, none⟩) n0 n0] 48, rowS notU 4 1 (some ⟨g54, 0, none⟩) n0 n0 (fl fO (ndT es1 es0 xj)), bk g51 #[.int .i64 i, .int .i64 (g : Nat), .slice A0 n0 c0, .slice A1 n1 c1] 25] [bk gB #[.int .i64 i, .int .i64 (g : Nat), .slice A0 n0 c0, .slice A1 n1 c1] 25, pfRow fI FI 1 A1 n1 c1 es1, pfRow fJ FJ 5 A0 n0 c0 es0] ∧ w67.heap.size ≤ w79.heap.size := ⟨hst.pick [0, 1, 2, 3, 4] [4, 5, 6] (by decide), Nat.le_trans hnB (hst.ka (k := 2) rfl).size⟩
          rw [← hlen1] at hfin
          exact ⟨hst.ka (k := 2) rfl, hst.kax (k := 2) rfl ⟨hst.pat (k := 4) rfl, hst.pat (k := 6) rfl, hst.pat (k := 5) rfl⟩, hfin⟩
    · intro D82 xs W a hD82 hS hI hK henv
      obtain ⟨hst, hnB⟩ := hI
      subst hS
      rw [rvT_len, Nat.sub_self] at hst
      replace hst : St w0 W [bk g61 #[.slice (some ⟨g59, 0, none⟩) g g] 48, rowS notU 4 1 (some ⟨g59, 0, none⟩) g g (fl fO (akT g (ndF es1 (es0.drop 0)).2)), bk g56 #[.slice (some ⟨g54, 0, none⟩) n0 n0] 48, rowS notU 4 1 (some ⟨g54, 0, none⟩) n0 n0 (fl fO (ndT es1 es0 0)), bk g51 #[.int .i64 i, .int .i64 (g : Nat), .slice A0 n0 c0, .slice A1 n1 c1] 25] [bk gB #[.int .i64 i, .int .i64 (g : Nat), .slice A0 n0 c0, .slice A1 n1 c1] 25, pfRow fI FI 1 A1 n1 c1 es1, pfRow fJ FJ 5 A0 n0 c0 es0] := hst
      replace hst := hst.addD ⟨cf_bk, cf_rowG, cf_bk, cf_rowG, cf_bk, trivial⟩ hK
      have hDD82 := Nat.le_trans hsz hD82
      refine bl_n (th_n ?_)
      refine wp_seq ?_
      refine region_seq ?_
      revert a
      refine sA (v := .slice (some ⟨g54, 0, none⟩) n0 n0) rfl (fun _ henv => rn_load1 henv ty__bool rfl (hst.oat (k := 2) rfl) rfl) ?_
      refine aA rfl rfl ?_
      refine aA rfl rfl ?_
      intro a henv
      refine wpList_nil ?_
      refine th_n ?_
      refine wp_ret ?_
      have hdD82 : _ = _ := hst.pat (k := 0) rfl
      replace hst := hst.putD (k := 0) rfl hDD82 ⟨cf_bk, cf_rowG, cf_bk, cf_rowG, cf_bk, trivial⟩ ⟨cf_bk, cf_rowT (fun _ _ h => h) (by decide), cf_rowT (fun _ _ h => h) (by decide), trivial⟩
      refine leaveM1 henv hdD82 (res2 Tryd.results27 (RV.tmp henv rfl) (RV.tmp henv rfl)) ?_
      exact ⟨_, _, rfl, newrow_of (hst.owns (k := 3) rfl) (fun b hb => hst.new _ (List.mem_of_getElem? (i := 3) rfl) b hb) rfl, hst.below⟩
    · intro D83 c pre W a hD83 hS hI hK henv
      exact hI.elim
set_option maxRecDepth 100000 in
set_option maxHeartbeats 8000000 in
theorem g_needed_bad {i : Int} {g : Int} {A0 A1 : Option Addr} {n0 c0 n1 c1 : Nat} {es0 : List IE} {es1 : List Int} {w0 : World} (h0 : (pfRow fJ FJ 5 A0 n0 c0 es0).P w0) (h1 : (pfRow fI FI 1 A1 n1 c1 es1).P w0) {kk : Int} (hR : Wrong i g n0 n1 es0 es1 kk) :
    Calls Tryd.prog 27 #[.agg #[.int .i64 i, .int .i64 g, .slice A0 n0 c0, .slice A1 n1 c1]] w0 fun e w' => e = .returned (.tuple #[.slice none 0 0, .int .i64 80]) ∧ Below w0.heap.size w0 w' := by
  refine enter Tryd.func27 rfl Tryd.ntmps27 rfl ?_
  intro a henv hst
  have hlen0 := h0.2.1
  have hbig0 := Nat.le_trans h0.1.cap h0.1.big
  unfold maxLen at hbig0
  have hlen1 := h1.2.1
  have hbig1 := Nat.le_trans h1.1.cap h1.1.big
  unfold maxLen at hbig1
  replace hst := hst.argRow h0
  replace hst := hst.argRow h1
  clear h0 h1
  refine wp_seq ?_
  refine region_seq ?_
  refine seq_step rfl (op_box (c := #[.int .i64 i, .int .i64 g, .slice A0 n0 c0, .slice A1 n1 c1]) henv hst rfl rfl rfl ?_)
  clear henv hst a; intro a w52 g51 henv hst
  revert a
  refine aA rfl rfl ?_
  refine aA rfl rfl ?_
  intro a henv
  refine wpList_nil ?_
  refine th_n ?_
  refine wp_seq ?_
  refine wp_seq ?_
  refine region_seq ?_
  refine sv (v := .agg #[.int .i64 i, .int .i64 g, .slice A0 n0 c0, .slice A1 n1 c1]) henv rfl (rn_load0 henv ty_anvil_api_Prog rfl (hst.oat (k := 0) rfl) rfl) ?_
  clear henv a; intro a henv
  refine seq_step rfl (op_call henv rfl Tryd.call37 rfl (g_right_bad (hst.pat (k := 1) rfl) (hst.pat (k := 0) rfl) hR) ?_)
  rintro e w53 ⟨rfl, hb⟩
  refine ⟨_, rfl, ?_⟩
  clear henv a; intro a henv
  replace hst := hst.call hb
  clear hb
  refine sv (v := .bool true) henv rfl (rn_un henv rfl rfl) ?_
  clear henv a; intro a henv
  refine wpList_nil ?_
  refine th_n ?_
  refine if_t henv rfl (rfl) ?_
  refine wp_seq ?_
  refine region_seq ?_
  revert a
  refine aA rfl rfl ?_
  refine aA rfl rfl ?_
  intro a henv
  refine wpList_nil ?_
  refine th_n ?_
  refine wp_ret ?_
  refine th_r ?_
  refine leave henv (res2 Tryd.results27 (RV.tmp henv rfl) (RV.tmp henv rfl)) ?_
  exact ⟨rfl, hst.below⟩
end Go.Proofs.YtbdngknpngcojaaDoor.W

/- anvilref08.Needed. Printed by pv/gen_gB.py. No condition. -/
namespace Go.Proofs.YtbdngknpngcojaaDoor.W
open Go.RowKit Anv Go.Lib
theorem sc_next {T f f2 ov bt : Bool} {os : List Int} {r b1 b2 b3 b4 b5 : Int} {es : List IE} {bs : List Bool} {j q : Nat} (h : T = (f || (!ov && scR os r (es.drop j) (bs.drop q)))) (ho : ov = false) (he : es[j]? = some (b1, b2, b3, b4, b5)) (hb : bs[q]? = some bt) (hf : f2 = (f || (decide (r ∈ asksL b1 b3 b4) && bt))) : T = (f2 || (!(b2 == r) && scR os r (es.drop (j + 1)) (bs.drop (q + 1)))) := by
  rw [h, ho, sc_step he hb, hf, Bool.not_false, Bool.true_and, ← Bool.or_assoc]
  rfl
theorem in_hit {A f bt : Bool} {r x : Int} {Z : List Int} {m : Nat} (h : A = (f || (decide (r ∈ Z.drop m) && bt))) (hz : Z[m]? = some x) (hx : x = r) (hb : bt = true) : A = (true || (decide (r ∈ Z.drop (m + 1)) && bt)) := by
  rw [h, drop_at hz, hx, hb, decide_eq_true (List.mem_cons_self ..), Bool.and_true, Bool.or_true, Bool.true_or]
theorem in_low {A f bt : Bool} {r : Int} {Z : List Int} {m : Nat} (h : A = (f || (decide (r ∈ Z.drop m) && bt))) (hb : bt = false) : A = (f || (decide (r ∈ Z.drop (m + 1)) && bt)) := by
  rw [h, hb, Bool.and_false, Bool.and_false]
theorem mem_miss {r x : Int} {Z : List Int} {m : Nat} (hz : Z[m]? = some x) (hx : x ≠ r) : decide (r ∈ Z.drop m) = decide (r ∈ Z.drop (m + 1)) := by
  rw [drop_at hz]
  exact decide_eq_decide.2 ⟨fun q => (List.mem_cons.1 q).elim (fun e => absurd e.symm hx) id, fun q => List.mem_cons_of_mem _ q⟩
theorem in_miss {A f bt : Bool} {r x : Int} {Z : List Int} {m : Nat} (h : A = (f || (decide (r ∈ Z.drop m) && bt))) (hz : Z[m]? = some x) (hx : x ≠ r) : A = (f || (decide (r ∈ Z.drop (m + 1)) && bt)) := by
  rw [h, mem_miss hz hx]
theorem in_end {A f bt : Bool} {r : Int} {Z : List Int} {m : Nat} (h : A = (f || (decide (r ∈ Z.drop m) && bt))) (hm : Z.length ≤ m) : f = A := by
  rw [h, List.drop_eq_nil_of_le hm]
  simp
theorem ou_hit {T f ov : Bool} {r x : Int} {Z : List Int} {m : Nat} (h : T = (f || (!ov && decide (r ∈ Z.drop m)))) (hz : Z[m]? = some x) (hx : x = r) (ho : ov = false := by assumption) : T = (true || (!ov && decide (r ∈ Z.drop (m + 1)))) := by
  rw [h, drop_at hz, hx, ho, decide_eq_true (List.mem_cons_self ..), Bool.not_false, Bool.and_true, Bool.or_true, Bool.true_or]
theorem ou_miss {T f ov : Bool} {r x : Int} {Z : List Int} {m : Nat} (h : T = (f || (!ov && decide (r ∈ Z.drop m)))) (hz : Z[m]? = some x) (hx : x ≠ r) : T = (f || (!ov && decide (r ∈ Z.drop (m + 1)))) := by
  rw [h, mem_miss hz hx]
set_option maxRecDepth 100000 in
set_option maxHeartbeats 4000000 in
theorem r_needed {i g : Int} {A0 A1 : Option Addr} {n0 c0 n1 c1 : Nat} {es0 : List IE} {es1 : List Int} {w0 : World} (h0 : (pfRow fJ FJ 5 A0 n0 c0 es0).P w0) (h1 : (pfRow fI FI 1 A1 n1 c1 es1).P w0) (hR : Right i g n0 n1 es0 es1) :
    Calls Tryd.prog 29 #[.agg #[.int .i64 i, .int .i64 g, .slice A0 n0 c0, .slice A1 n1 c1]] w0 fun e w' => ∃ A c, e = .returned (.slice A n0 c) ∧ NewRow notU 4 1 fO FO w0.heap.size w' A n0 c (ndF es1 es0).1 ∧ Below w0.heap.size w0 w' := by
  obtain ⟨hh1, hh2, hh3, hh4, hh5, hh6⟩ := hR.1
  refine enter Tryd.func29 rfl Tryd.ntmps29 rfl ?_
  intro a henv hst
  have hlen0 := h0.2.1
  have hbig0 := Nat.le_trans h0.1.cap h0.1.big
  unfold maxLen at hbig0
  have hlen1 := h1.2.1
  have hbig1 := Nat.le_trans h1.1.cap h1.1.big
  unfold maxLen at hbig1
  replace hst := hst.argRow h0
  replace hst := hst.argRow h1
  clear h0 h1
  refine wp_seq ?_
  refine region_seq ?_
  refine seq_step rfl (op_box (c := #[.int .i64 i, .int .i64 g, .slice A0 n0 c0, .slice A1 n1 c1]) henv hst rfl rfl rfl ?_)
  clear henv hst a; intro a w52 g51 henv hst
  refine sv (v := .slice none 0 0) henv rfl (rn_assign henv rfl) ?_
  clear henv a; intro a henv
  refine wpList_nil ?_
  refine th_n ?_
  refine wp_seq ?_
  refine region_seq ?_
  revert a
  refine sA (v := .pointer (some ⟨g51, 2, none⟩)) rfl (fun _ henv => rn_fieldAddr henv fd_anvil_api_Prog_2 (ty__api_Instr.size) (by decide) rfl) ?_
  refine sA (v := .slice A0 n0 c0) rfl (fun _ henv => rn_load1 henv ty__api_Instr rfl (hst.oat (k := 0) rfl) rfl) ?_
  refine sA (v := .int .i64 (n0 : Nat)) rfl (fun _ henv => rn_len henv Tryd.underlying22 rfl) ?_
  intro a henv
  refine seq_step rfl (op_makeS (f := fO) (e0 := false) (q := notU) (n := n0) henv hst rfl Tryd.underlying48 inf_bool rfl rfl rfl rfl rfl rfl (by omega) (by unfold maxLen; omega) ?_)
  clear henv hst a; intro a w54 g53 henv hst
  refine sv (v := .slice (some ⟨g53, 0, none⟩) n0 n0) henv rfl (rn_assign henv rfl) ?_
  clear henv a; intro a henv
  refine wpList_nil ?_
  refine th_n ?_
  refine wp_seq ?_
  refine wp_seq ?_
  refine region_seq ?_
  revert a
  refine sA (v := .pointer (some ⟨g51, 2, none⟩)) rfl (fun _ henv => rn_fieldAddr henv fd_anvil_api_Prog_2 (ty__api_Instr.size) (by decide) rfl) ?_
  refine sA (v := .slice A0 n0 c0) rfl (fun _ henv => rn_load1 henv ty__api_Instr rfl (hst.oat (k := 1) rfl) rfl) ?_
  refine sA (v := .int .i64 (n0 : Nat)) rfl (fun _ henv => rn_len henv Tryd.underlying22 rfl) ?_
  refine sA (v := .int .i64 (((n0 : Nat) : Int) - (1 : Int))) rfl (fun _ henv => rn_sub henv rfl rfl (IntWalk.i64_in _ (by omega))) ?_
  refine aA rfl rfl ?_
  intro a henv
  refine wpList_nil ?_
  refine th_n ?_
  refine wp_block ?_
  rw [← ndT_end es1 hlen0] at hst
  refine wp_loop_ghost (fun mz a w => ∃ t : Nat, t = mz ∧ Env 99 a [(1, .pointer (some ⟨g51, 0, none⟩)), (3, .slice (some ⟨g53, 0, none⟩) n0 n0), (4, .int .i64 (((t : Nat) : Int) - (1 : Int)))] ∧ St w0 w [rowS notU 4 1 (some ⟨g53, 0, none⟩) n0 n0 (fl fO (ndT es1 es0 t)), bk g51 #[.int .i64 i, .int .i64 g, .slice A0 n0 c0, .slice A1 n1 c1] 25] [pfRow fI FI 1 A1 n1 c1 es1, pfRow fJ FJ 5 A0 n0 c0 es0] ∧ t ≤ n0) _ ⟨n0, rfl, henv.sub ⟨rfl, rfl, rfl, trivial⟩, hst.pick [0, 1] [0, 1] (by decide), (Nat.le_refl _)⟩ ?_
  clear henv hst a
  rintro mz a w55 ⟨t, rfl, henv, hst, ht⟩
  refine wp_seq ?_
  refine wp_seq ?_
  refine region_seq ?_
  revert a
  refine mA rfl rfl ?_
  refine sA (v := .bool (decide (((t : Nat) : Int) - (1 : Int) ≥ (0 : Int)))) rfl (fun _ henv => rn_bin henv rfl rfl rfl) ?_
  intro a henv
  refine wpList_nil ?_
  refine th_n ?_
  refine if_split henv rfl (fun hc56 => ?_) (fun hc56 => ?_)
  · obtain ⟨k, rfl⟩ : ∃ k : Nat, t = k + 1 := ⟨t - 1, by have := of_decide_eq_true hc56; omega⟩
    rw [show (((k + 1 : Nat) : Nat) : Int) - 1 = (k : Nat) by omega] at henv
    obtain ⟨⟨a1, a2, a3, a4, a5⟩, he0⟩ : ∃ e, es0[k]? = some e := ⟨_, List.getElem?_eq_getElem (by omega)⟩
    have hkn : k < n0 := by omega
    have hml : (ndT es1 es0 (k + 1)).length = n0 := (ndT_len (by omega)).trans hlen0
    refine wp_skip ?_
    refine th_n ?_
    refine wp_seq ?_
    refine wp_block ?_
    refine wp_seq ?_
    refine region_seq ?_
    revert a
    refine sA (v := .pointer (some ⟨g51, 2, none⟩)) rfl (fun _ henv => rn_fieldAddr henv fd_anvil_api_Prog_2 (ty__api_Instr.size) (by decide) rfl) ?_
    refine sA (v := .slice A0 n0 c0) rfl (fun _ henv => rn_load1 henv ty__api_Instr rfl (hst.oat (k := 1) rfl) rfl) ?_
    refine mA rfl rfl ?_
    refine sA (v := .pointer (some ⟨ab A0, ao A0 + k * 5, none⟩)) rfl (fun _ henv => rn_idxR (i := k) henv Tryd.underlying22 (ty_anvil_api_Instr.size) rfl rfl (by omega) rfl (show (pfRow fJ FJ 5 A0 n0 c0 es0).P _ from (hst.pat (k := 1) rfl)).1) ?_
    refine sA (v := .pointer (some ⟨ab A0, ao A0 + k * 5 + 1, none⟩)) rfl (fun _ henv => rn_fieldAddr henv fd_anvil_api_Instr_1 (ty_int.size) (by decide) rfl) ?_
    refine sA (v := .int .i64 a2) rfl (fun _ henv => rn_loadE1 (i := k) (j := 1) (e := (a1, a2, a3, a4, a5)) henv ty_int rfl rfl fJ_len (by decide) (show (pfRow fJ FJ 5 A0 n0 c0 es0).P _ from (hst.pat (k := 1) rfl)).1 (by omega) he0 rfl) ?_
    refine aA rfl rfl ?_
    intro a henv
    refine wpList_nil ?_
    refine th_n ?_
    refine wp_seq ?_
    refine region_seq ?_
    refine sv (v := .bool false) henv rfl (rn_assign henv rfl) ?_
    clear henv a; intro a henv
    refine wpList_nil ?_
    refine th_n ?_
    refine wp_seq ?_
    refine wp_seq ?_
    refine region_seq ?_
    revert a
    refine mA rfl rfl ?_
    refine sA (v := .int .i64 (k + 1 : Nat)) rfl (fun _ henv => rn_add henv rfl rfl (by rw [IntWalk.i64_in _ (by omega)]; omega)) ?_
    refine aA rfl rfl ?_
    intro a henv
    refine wpList_nil ?_
    refine th_n ?_
    refine cut (fun a w => ∃ f : Bool, ∃ ov : Bool, Env 99 a [(1, .pointer (some ⟨g51, 0, none⟩)), (3, .slice (some ⟨g53, 0, none⟩) n0 n0), (4, .int .i64 (k : Nat)), (5, .int .i64 a2), (6, .bool ov)] ∧ St w0 w [rowS notU 4 1 (some ⟨g53, 0, none⟩) n0 n0 (fl fO ((ndT es1 es0 (k + 1)).set k f)), bk g51 #[.int .i64 i, .int .i64 g, .slice A0 n0 c0, .slice A1 n1 c1] 25] [pfRow fI FI 1 A1 n1 c1 es1, pfRow fJ FJ 5 A0 n0 c0 es0] ∧ (ndF es1 (es0.drop (k + 1))).2 a2 = (f || (!ov && decide (a2 ∈ es1)))) ?_ ?_
    · refine wp_block ?_
      rw [show (ndT es1 es0 (k + 1)) = (ndT es1 es0 (k + 1)).set k false from (setB_same (ndT_at0 (Nat.lt_succ_self k))).symm] at hst
      refine wp_loop_ghost (fun mz a w => ∃ q : Nat, ∃ f : Bool, ∃ ov : Bool, n0 - (k + 1 + q) = mz ∧ Env 99 a [(1, .pointer (some ⟨g51, 0, none⟩)), (3, .slice (some ⟨g53, 0, none⟩) n0 n0), (4, .int .i64 (k : Nat)), (5, .int .i64 a2), (6, .bool ov), (7, .int .i64 (k + 1 + q : Nat))] ∧ St w0 w [rowS notU 4 1 (some ⟨g53, 0, none⟩) n0 n0 (fl fO ((ndT es1 es0 (k + 1)).set k f)), bk g51 #[.int .i64 i, .int .i64 g, .slice A0 n0 c0, .slice A1 n1 c1] 25] [pfRow fI FI 1 A1 n1 c1 es1, pfRow fJ FJ 5 A0 n0 c0 es0] ∧ k + 1 + q ≤ n0 ∧ (ndF es1 (es0.drop (k + 1))).2 a2 = (f || (!ov && scR es1 a2 (es0.drop (k + 1 + q)) ((ndF es1 (es0.drop (k + 1))).1.drop q)))) _ ⟨0, false, false, rfl, henv.sub ⟨rfl, rfl, rfl, rfl, rfl, rfl, trivial⟩, hst.pick [0, 1] [0, 1] (by decide), (by omega), (by rw [← scR_nd]; rfl)⟩ ?_
      clear henv hst a
      rintro mz a w57 ⟨q, f, ov, rfl, henv, hst, hq, hsc⟩
      refine wp_seq ?_
      refine wp_seq ?_
      refine region_seq ?_
      revert a
      refine mA rfl rfl ?_
      refine sA (v := .pointer (some ⟨g51, 2, none⟩)) rfl (fun _ henv => rn_fieldAddr henv fd_anvil_api_Prog_2 (ty__api_Instr.size) (by decide) rfl) ?_
      refine sA (v := .slice A0 n0 c0) rfl (fun _ henv => rn_load1 henv ty__api_Instr rfl (hst.oat (k := 1) rfl) rfl) ?_
      refine sA (v := .int .i64 (n0 : Nat)) rfl (fun _ henv => rn_len henv Tryd.underlying22 rfl) ?_
      refine sA (v := .bool (decide (((k + 1 + q : Nat) : Int) < ((n0 : Nat) : Int)))) rfl (fun _ henv => rn_bin henv rfl rfl rfl) ?_
      refine mA rfl rfl ?_
      intro a henv
      rcases bool_em (decide (((k + 1 + q : Nat) : Int) < ((n0 : Nat) : Int))) with hg58 | hg58
      · rw [hg58] at henv
        have hlt : k + 1 + q < n0 := by have := of_decide_eq_true hg58; omega
        obtain ⟨⟨b1, b2, b3, b4, b5⟩, heb⟩ : ∃ e, es0[k + 1 + q]? = some e := ⟨_, List.getElem?_eq_getElem (by omega)⟩
        revert a
        refine gA (v := .bool ov) rfl rfl rfl rfl (fun _ henv => rn_move henv rfl) ?_
        refine gA (v := .bool (!ov)) rfl rfl rfl rfl (fun _ henv => rn_un henv rfl rfl) ?_
        refine sA (v := .bool (!ov)) rfl (fun _ henv => rn_pick henv rfl rfl) ?_
        intro a henv
        refine wpList_nil ?_
        refine th_n ?_
        refine if_split henv rfl (fun hc59 => ?_) (fun hc59 => ?_)
        · have hov : ov = false := bnot_t hc59
          have hab := asks_len b1 b3 b4
          obtain ⟨bt, hbt⟩ : ∃ bt, (ndF es1 (es0.drop (k + 1))).1[q]? = some bt := ⟨_, List.getElem?_eq_getElem (by rw [ndF_len, List.length_drop]; omega)⟩
          refine wp_skip ?_
          refine th_n ?_
          refine wp_seq ?_
          refine wp_block ?_
          refine wp_seq ?_
          refine region_seq ?_
          revert a
          refine sA (v := .pointer (some ⟨g51, 2, none⟩)) rfl (fun _ henv => rn_fieldAddr henv fd_anvil_api_Prog_2 (ty__api_Instr.size) (by decide) rfl) ?_
          refine sA (v := .slice A0 n0 c0) rfl (fun _ henv => rn_load1 henv ty__api_Instr rfl (hst.oat (k := 1) rfl) rfl) ?_
          refine mA rfl rfl ?_
          refine sA (v := .pointer (some ⟨ab A0, ao A0 + (k + 1 + q) * 5, none⟩)) rfl (fun _ henv => rn_idxR (i := k + 1 + q) henv Tryd.underlying22 (ty_anvil_api_Instr.size) rfl rfl (by omega) rfl (show (pfRow fJ FJ 5 A0 n0 c0 es0).P _ from (hst.pat (k := 1) rfl)).1) ?_
          refine sA (v := .agg #[.int .i64 b1, .int .i64 b2, .int .i64 b3, .int .i64 b4, .int .i64 b5]) rfl (fun _ henv => rn_loadE (i := k + 1 + q) (e := (b1, b2, b3, b4, b5)) henv ty_anvil_api_Instr rfl rfl fJ_len (show (pfRow fJ FJ 5 A0 n0 c0 es0).P _ from (hst.pat (k := 1) rfl)).1 (by omega) heb rfl) ?_
          intro a henv
          refine seq_step rfl (op_call henv rfl Tryd.call19 rfl (r_asks (op := b1) (tr := b2) (ra := b3) (rb := b4) (cn := b5)) ?_)
          rintro e w62 ⟨_, rfl, ⟨A60, c61, rfl, hr, hfr⟩, hb⟩
          refine ⟨_, rfl, ?_⟩
          clear henv a; intro a henv
          replace hst := hst.freshI hb hr hfr
          clear hr
          clear hb
          refine sv (v := .slice A60 ((asksL b1 b3 b4).length) c61) henv rfl (rn_assign henv rfl) ?_
          clear henv a; intro a henv
          refine wpList_nil ?_
          refine th_n ?_
          refine wp_seq ?_
          refine wp_seq ?_
          refine region_seq ?_
          refine sv (v := .int .i64 0) henv rfl (rn_assign henv rfl) ?_
          clear henv a; intro a henv
          refine wpList_nil ?_
          refine th_n ?_
          refine wp_block ?_
          refine wp_loop_ghost (fun mz a w => ∃ m : Nat, ∃ f2 : Bool, (asksL b1 b3 b4).length - m = mz ∧ Env 99 a [(1, .pointer (some ⟨g51, 0, none⟩)), (3, .slice (some ⟨g53, 0, none⟩) n0 n0), (4, .int .i64 (k : Nat)), (5, .int .i64 a2), (6, .bool ov), (7, .int .i64 (k + 1 + q : Nat)), (8, .slice A60 ((asksL b1 b3 b4).length) c61), (9, .int .i64 (m : Nat))] ∧ St w0 w [rowS notU 4 1 (some ⟨g53, 0, none⟩) n0 n0 (fl fO ((ndT es1 es0 (k + 1)).set k f2)), bk g51 #[.int .i64 i, .int .i64 g, .slice A0 n0 c0, .slice A1 n1 c1] 25] [pfRow fI FI 1 A60 ((asksL b1 b3 b4).length) c61 (asksL b1 b3 b4), pfRow fI FI 1 A1 n1 c1 es1, pfRow fJ FJ 5 A0 n0 c0 es0] ∧ m ≤ (asksL b1 b3 b4).length ∧ (f || (decide (a2 ∈ (asksL b1 b3 b4)) && bt)) = (f2 || (decide (a2 ∈ (asksL b1 b3 b4).drop m) && bt))) _ ⟨0, f, rfl, henv.sub ⟨rfl, rfl, rfl, rfl, rfl, rfl, rfl, rfl, trivial⟩, hst.pick [0, 1] [0, 1, 2] (by decide), (Nat.zero_le _), rfl⟩ ?_
          clear henv hst a
          rintro mz a w63 ⟨m, f2, rfl, henv, hst, hm, hin⟩
          refine wp_seq ?_
          refine wp_seq ?_
          refine region_seq ?_
          revert a
          refine mA rfl rfl ?_
          refine mA rfl rfl ?_
          refine sA (v := .int .i64 ((asksL b1 b3 b4).length : Nat)) rfl (fun _ henv => rn_len henv Tryd.underlying23 rfl) ?_
          refine sA (v := .bool (decide (((m : Nat) : Int) < (((asksL b1 b3 b4).length : Nat) : Int)))) rfl (fun _ henv => rn_bin henv rfl rfl rfl) ?_
          intro a henv
          refine wpList_nil ?_
          refine th_n ?_
          refine if_split henv rfl (fun hc64 => ?_) (fun hc64 => ?_)
          · have hlm : m < (asksL b1 b3 b4).length := by have := of_decide_eq_true hc64; omega
            obtain ⟨x, hea⟩ : ∃ x, (asksL b1 b3 b4)[m]? = some x := ⟨_, List.getElem?_eq_getElem hlm⟩
            refine wp_skip ?_
            refine th_n ?_
            refine wp_seq ?_
            refine wp_block ?_
            refine wp_seq ?_
            refine region_seq ?_
            revert a
            refine mA rfl rfl ?_
            refine mA rfl rfl ?_
            refine sA (v := .pointer (some ⟨ab A60, ao A60 + m * 1, none⟩)) rfl (fun _ henv => rn_idxR (i := m) henv Tryd.underlying23 (ty_int.size) rfl rfl (by omega) rfl (show (pfRow fI FI 1 A60 ((asksL b1 b3 b4).length) c61 (asksL b1 b3 b4)).P _ from (hst.pat (k := 0) rfl)).1) ?_
            refine sA (v := .int .i64 x) rfl (fun _ henv => rn_loadE1 (i := m) (j := 0) (e := x) henv ty_int rfl rfl fI_len (by decide) (show (pfRow fI FI 1 A60 ((asksL b1 b3 b4).length) c61 (asksL b1 b3 b4)).P _ from (hst.pat (k := 0) rfl)).1 (by omega) hea rfl) ?_
            refine mA rfl rfl ?_
            refine sA (v := .bool (x == a2)) rfl (fun _ henv => rn_bin henv rfl rfl rfl) ?_
            refine mA rfl rfl ?_
            intro a henv
            rcases bool_em (x == a2) with hg65 | hg65
            · rw [hg65] at henv
              have hxe : x = a2 := eq_of_beq hg65
              have hob : ((ndT es1 es0 (k + 1)).set k f2)[k + 1 + q]? = some bt := by rw [List.getElem?_set_ne (by omega), ndT_at]; exact hbt
              revert a
              refine gA (v := .slice (some ⟨g53, 0, none⟩) n0 n0) rfl rfl rfl rfl (fun _ henv => rn_move henv rfl) ?_
              refine gA (v := .int .i64 (k + 1 + q : Nat)) rfl rfl rfl rfl (fun _ henv => rn_move henv rfl) ?_
              refine gA (v := .pointer (some ⟨ab (some ⟨g53, 0, none⟩), ao (some ⟨g53, 0, none⟩) + (k + 1 + q) * 1, none⟩)) rfl rfl rfl rfl (fun _ henv => rn_idxR (i := k + 1 + q) henv Tryd.underlying48 (ty_bool.size) rfl rfl (by omega) rfl (rowS_rd (hst.owns (k := 0) rfl))) ?_
              refine gA (v := .bool bt) rfl rfl rfl rfl (fun _ henv => rn_loadE1 (i := k + 1 + q) (j := 0) (e := bt) henv ty_bool rfl rfl fO_len (by decide) (rowS_rd (hst.owns (k := 0) rfl)) (by omega) hob rfl) ?_
              refine sA (v := .bool bt) rfl (fun _ henv => rn_pick henv rfl rfl) ?_
              intro a henv
              refine wpList_nil ?_
              refine th_n ?_
              refine if_split henv rfl (fun hc66 => ?_) (fun hc66 => ?_)
              · have hbv : bt = true := hc66
                refine region_seq ?_
                revert a
                refine mA rfl rfl ?_
                refine mA rfl rfl ?_
                refine sA (v := .pointer (some ⟨ab (some ⟨g53, 0, none⟩), ao (some ⟨g53, 0, none⟩) + k * 1, none⟩)) rfl (fun _ henv => rn_idxR (i := k) henv Tryd.underlying48 (ty_bool.size) rfl rfl (by omega) rfl (rowS_rd (hst.owns (k := 0) rfl))) ?_
                intro a henv
                refine seq_step rfl (op_storeW1 (f := fO) (i := k) (e := true) (k := 0) henv hst (ty_bool.size) rfl rfl rfl rfl fO_len (by omega) (by rw [List.length_set]; exact hml) rfl rfl rfl ?_)
                clear henv hst a; intro a w67 henv hst
                rw [List.set_set] at hst
                refine wpList_nil ?_
                refine bl_n (th_n ?_)
                refine region_seq ?_
                revert a
                refine mA rfl rfl ?_
                refine sA (v := .int .i64 (m + 1 : Nat)) rfl (fun _ henv => rn_add henv rfl rfl (by rw [IntWalk.i64_in _ (by omega)]; omega)) ?_
                refine aA rfl rfl ?_
                intro a henv
                refine wpList_nil ?_
                exact th_n ⟨_, (by omega), ⟨m + 1, true, rfl, henv.sub ⟨rfl, rfl, rfl, rfl, rfl, rfl, rfl, rfl, trivial⟩, hst.pick [0, 1] [0, 1, 2] (by decide), (by omega), (in_hit hin hea hxe hbv)⟩⟩
              · have hbv : bt = false := hc66
                refine wp_skip ?_
                refine bl_n (th_n ?_)
                refine region_seq ?_
                revert a
                refine mA rfl rfl ?_
                refine sA (v := .int .i64 (m + 1 : Nat)) rfl (fun _ henv => rn_add henv rfl rfl (by rw [IntWalk.i64_in _ (by omega)]; omega)) ?_
                refine aA rfl rfl ?_
                intro a henv
                refine wpList_nil ?_
                exact th_n ⟨_, (by omega), ⟨m + 1, f2, rfl, henv.sub ⟨rfl, rfl, rfl, rfl, rfl, rfl, rfl, rfl, trivial⟩, hst.pick [0, 1] [0, 1, 2] (by decide), (by omega), (in_low hin hbv)⟩⟩
            · rw [hg65] at henv
              have hxe : x ≠ a2 := ne_of_beq_false hg65
              revert a
              refine kA rfl rfl rfl rfl rfl ?_
              refine kA rfl rfl rfl rfl rfl ?_
              refine kA rfl rfl rfl rfl rfl ?_
              refine kA rfl rfl rfl rfl rfl ?_
              refine sA (v := .bool false) rfl (fun _ henv => rn_pick henv rfl rfl) ?_
              intro a henv
              refine wpList_nil ?_
              refine th_n ?_
              refine if_f henv rfl (rfl) ?_
              refine wp_skip ?_
              refine bl_n (th_n ?_)
              refine region_seq ?_
              revert a
              refine mA rfl rfl ?_
              refine sA (v := .int .i64 (m + 1 : Nat)) rfl (fun _ henv => rn_add henv rfl rfl (by rw [IntWalk.i64_in _ (by omega)]; omega)) ?_
              refine aA rfl rfl ?_
              intro a henv
              refine wpList_nil ?_
              exact th_n ⟨_, (by omega), ⟨m + 1, f2, rfl, henv.sub ⟨rfl, rfl, rfl, rfl, rfl, rfl, rfl, rfl, trivial⟩, hst.pick [0, 1] [0, 1, 2] (by decide), (by omega), (in_miss hin hea hxe)⟩⟩
          · have hf2 : f2 = (f || (decide (a2 ∈ (asksL b1 b3 b4)) && bt)) := in_end hin (by have := of_decide_eq_false hc64; omega)
            refine wp_exit ?_
            refine th_x (th_x (bl_x (th_n ?_)))
            refine region_seq ?_
            revert a
            refine sA (v := .pointer (some ⟨g51, 2, none⟩)) rfl (fun _ henv => rn_fieldAddr henv fd_anvil_api_Prog_2 (ty__api_Instr.size) (by decide) rfl) ?_
            refine sA (v := .slice A0 n0 c0) rfl (fun _ henv => rn_load1 henv ty__api_Instr rfl (hst.oat (k := 1) rfl) rfl) ?_
            refine mA rfl rfl ?_
            refine sA (v := .pointer (some ⟨ab A0, ao A0 + (k + 1 + q) * 5, none⟩)) rfl (fun _ henv => rn_idxR (i := k + 1 + q) henv Tryd.underlying22 (ty_anvil_api_Instr.size) rfl rfl (by omega) rfl (show (pfRow fJ FJ 5 A0 n0 c0 es0).P _ from (hst.pat (k := 2) rfl)).1) ?_
            refine sA (v := .pointer (some ⟨ab A0, ao A0 + (k + 1 + q) * 5 + 1, none⟩)) rfl (fun _ henv => rn_fieldAddr henv fd_anvil_api_Instr_1 (ty_int.size) (by decide) rfl) ?_
            refine sA (v := .int .i64 b2) rfl (fun _ henv => rn_loadE1 (i := k + 1 + q) (j := 1) (e := (b1, b2, b3, b4, b5)) henv ty_int rfl rfl fJ_len (by decide) (show (pfRow fJ FJ 5 A0 n0 c0 es0).P _ from (hst.pat (k := 2) rfl)).1 (by omega) heb rfl) ?_
            refine mA rfl rfl ?_
            refine sA (v := .bool (b2 == a2)) rfl (fun _ henv => rn_bin henv rfl rfl rfl) ?_
            refine aA rfl rfl ?_
            intro a henv
            refine wpList_nil ?_
            refine bl_n (th_n ?_)
            refine region_seq ?_
            revert a
            refine mA rfl rfl ?_
            refine sA (v := .int .i64 ((k + 1 + q) + 1 : Nat)) rfl (fun _ henv => rn_add henv rfl rfl (by rw [IntWalk.i64_in _ (by omega)]; omega)) ?_
            refine aA rfl rfl ?_
            intro a henv
            refine wpList_nil ?_
            exact th_n ⟨_, (by omega), ⟨q + 1, f2, (b2 == a2), rfl, henv.sub ⟨rfl, rfl, rfl, rfl, rfl, rfl, trivial⟩, hst.pick [0, 1] [1, 2] (by decide), (by omega), (sc_next hsc hov heb hbt hf2)⟩⟩
        · have hov : ov = true := bnot_f hc59
          refine wp_exit ?_
          refine th_x (th_x (bl_x (th_n ?_)))
          exact ⟨f, ov, henv.sub ⟨rfl, rfl, rfl, rfl, rfl, trivial⟩, hst.pick [0, 1] [0, 1] (by decide), (by rw [hsc, hov]; rfl)⟩
      · rw [hg58] at henv
        have hqe : n0 ≤ k + 1 + q := by have := of_decide_eq_false hg58; omega
        revert a
        refine kA rfl rfl rfl rfl rfl ?_
        refine kA rfl rfl rfl rfl rfl ?_
        refine sA (v := .bool false) rfl (fun _ henv => rn_pick henv rfl rfl) ?_
        intro a henv
        refine wpList_nil ?_
        refine th_n ?_
        refine if_f henv rfl (rfl) ?_
        refine wp_exit ?_
        refine th_x (th_x (bl_x (th_n ?_)))
        exact ⟨f, ov, henv.sub ⟨rfl, rfl, rfl, rfl, rfl, trivial⟩, hst.pick [0, 1] [0, 1] (by decide), (by rw [hsc, sc_end (by omega)])⟩
    clear henv hst a
    rintro a w68 ⟨f, ov, henv, hst, hsd⟩
    refine wp_seq ?_
    refine region_seq ?_
    refine sv (v := .int .i64 0) henv rfl (rn_assign henv rfl) ?_
    clear henv a; intro a henv
    refine wpList_nil ?_
    refine th_n ?_
    refine wp_block ?_
    refine wp_loop_ghost (fun mz a w => ∃ m : Nat, ∃ f3 : Bool, n1 - m = mz ∧ Env 99 a [(1, .pointer (some ⟨g51, 0, none⟩)), (3, .slice (some ⟨g53, 0, none⟩) n0 n0), (4, .int .i64 (k : Nat)), (5, .int .i64 a2), (6, .bool ov), (10, .int .i64 (m : Nat))] ∧ St w0 w [rowS notU 4 1 (some ⟨g53, 0, none⟩) n0 n0 (fl fO ((ndT es1 es0 (k + 1)).set k f3)), bk g51 #[.int .i64 i, .int .i64 g, .slice A0 n0 c0, .slice A1 n1 c1] 25] [pfRow fI FI 1 A1 n1 c1 es1, pfRow fJ FJ 5 A0 n0 c0 es0] ∧ m ≤ n1 ∧ (ndF es1 (es0.drop (k + 1))).2 a2 = (f3 || (!ov && decide (a2 ∈ es1.drop m)))) _ ⟨0, f, rfl, henv.sub ⟨rfl, rfl, rfl, rfl, rfl, rfl, trivial⟩, hst.pick [0, 1] [0, 1] (by decide), (Nat.zero_le _), hsd⟩ ?_
    clear henv hst a
    rintro mz a w69 ⟨m, f3, rfl, henv, hst, hm, hse⟩
    refine wp_seq ?_
    refine wp_seq ?_
    refine region_seq ?_
    revert a
    refine mA rfl rfl ?_
    refine sA (v := .pointer (some ⟨g51, 3, none⟩)) rfl (fun _ henv => rn_fieldAddr henv fd_anvil_api_Prog_3 (ty__int.size) (by decide) rfl) ?_
    refine sA (v := .slice A1 n1 c1) rfl (fun _ henv => rn_load1 henv ty__int rfl (hst.oat (k := 1) rfl) rfl) ?_
    refine sA (v := .int .i64 (n1 : Nat)) rfl (fun _ henv => rn_len henv Tryd.underlying23 rfl) ?_
    refine sA (v := .bool (decide (((m : Nat) : Int) < ((n1 : Nat) : Int)))) rfl (fun _ henv => rn_bin henv rfl rfl rfl) ?_
    refine mA rfl rfl ?_
    intro a henv
    rcases bool_em (decide (((m : Nat) : Int) < ((n1 : Nat) : Int))) with hg70 | hg70
    · rw [hg70] at henv
      have hlm : m < n1 := by have := of_decide_eq_true hg70; omega
      obtain ⟨x, hea⟩ : ∃ e, es1[m]? = some e := ⟨_, List.getElem?_eq_getElem (by omega)⟩
      revert a
      refine gA (v := .bool ov) rfl rfl rfl rfl (fun _ henv => rn_move henv rfl) ?_
      refine gA (v := .bool (!ov)) rfl rfl rfl rfl (fun _ henv => rn_un henv rfl rfl) ?_
      refine sA (v := .bool (!ov)) rfl (fun _ henv => rn_pick henv rfl rfl) ?_
      intro a henv
      refine wpList_nil ?_
      refine th_n ?_
      refine if_split henv rfl (fun hc71 => ?_) (fun hc71 => ?_)
      · have hov : ov = false := bnot_t hc71
        refine wp_skip ?_
        refine th_n ?_
        refine wp_seq ?_
        refine wp_block ?_
        refine wp_seq ?_
        refine region_seq ?_
        revert a
        refine sA (v := .pointer (some ⟨g51, 3, none⟩)) rfl (fun _ henv => rn_fieldAddr henv fd_anvil_api_Prog_3 (ty__int.size) (by decide) rfl) ?_
        refine sA (v := .slice A1 n1 c1) rfl (fun _ henv => rn_load1 henv ty__int rfl (hst.oat (k := 1) rfl) rfl) ?_
        refine mA rfl rfl ?_
        refine sA (v := .pointer (some ⟨ab A1, ao A1 + m * 1, none⟩)) rfl (fun _ henv => rn_idxR (i := m) henv Tryd.underlying23 (ty_int.size) rfl rfl (by omega) rfl (show (pfRow fI FI 1 A1 n1 c1 es1).P _ from (hst.pat (k := 0) rfl)).1) ?_
        refine sA (v := .int .i64 x) rfl (fun _ henv => rn_loadE1 (i := m) (j := 0) (e := x) henv ty_int rfl rfl fI_len (by decide) (show (pfRow fI FI 1 A1 n1 c1 es1).P _ from (hst.pat (k := 0) rfl)).1 (by omega) hea rfl) ?_
        refine mA rfl rfl ?_
        refine sA (v := .bool (x == a2)) rfl (fun _ henv => rn_bin henv rfl rfl rfl) ?_
        intro a henv
        refine wpList_nil ?_
        refine th_n ?_
        refine if_split henv rfl (fun hc72 => ?_) (fun hc72 => ?_)
        · have hxe : x = a2 := eq_of_beq hc72
          refine region_seq ?_
          revert a
          refine mA rfl rfl ?_
          refine mA rfl rfl ?_
          refine sA (v := .pointer (some ⟨ab (some ⟨g53, 0, none⟩), ao (some ⟨g53, 0, none⟩) + k * 1, none⟩)) rfl (fun _ henv => rn_idxR (i := k) henv Tryd.underlying48 (ty_bool.size) rfl rfl (by omega) rfl (rowS_rd (hst.owns (k := 0) rfl))) ?_
          intro a henv
          refine seq_step rfl (op_storeW1 (f := fO) (i := k) (e := true) (k := 0) henv hst (ty_bool.size) rfl rfl rfl rfl fO_len (by omega) (by rw [List.length_set]; exact hml) rfl rfl rfl ?_)
          clear henv hst a; intro a w73 henv hst
          rw [List.set_set] at hst
          refine wpList_nil ?_
          refine bl_n (th_n ?_)
          refine region_seq ?_
          revert a
          refine mA rfl rfl ?_
          refine sA (v := .int .i64 (m + 1 : Nat)) rfl (fun _ henv => rn_add henv rfl rfl (by rw [IntWalk.i64_in _ (by omega)]; omega)) ?_
          refine aA rfl rfl ?_
          intro a henv
          refine wpList_nil ?_
          exact th_n ⟨_, (by omega), ⟨m + 1, true, rfl, henv.sub ⟨rfl, rfl, rfl, rfl, rfl, rfl, trivial⟩, hst.pick [0, 1] [0, 1] (by decide), (by omega), (ou_hit hse hea hxe)⟩⟩
        · have hxe : x ≠ a2 := ne_of_beq_false hc72
          refine wp_skip ?_
          refine bl_n (th_n ?_)
          refine region_seq ?_
          revert a
          refine mA rfl rfl ?_
          refine sA (v := .int .i64 (m + 1 : Nat)) rfl (fun _ henv => rn_add henv rfl rfl (by rw [IntWalk.i64_in _ (by omega)]; omega)) ?_
          refine aA rfl rfl ?_
          intro a henv
          refine wpList_nil ?_
          exact th_n ⟨_, (by omega), ⟨m + 1, f3, rfl, henv.sub ⟨rfl, rfl, rfl, rfl, rfl, rfl, trivial⟩, hst.pick [0, 1] [0, 1] (by decide), (by omega), (ou_miss hse hea hxe)⟩⟩
      · have hov : ov = true := bnot_f hc71
        have hfin : f3 = (ndF es1 (es0.drop (k + 1))).2 a2 := by rw [hse, hov]; cases f3 <;> rfl
        refine wp_exit ?_
        refine th_x (th_x (bl_x (bl_n (th_n ?_))))
        refine region_seq ?_
        revert a
        refine mA rfl rfl ?_
        refine sA (v := .int .i64 (((k : Nat) : Int) - (1 : Int))) rfl (fun _ henv => rn_sub henv rfl rfl (IntWalk.i64_in _ (by omega))) ?_
        refine aA rfl rfl ?_
        intro a henv
        refine wpList_nil ?_
        rw [show ((ndT es1 es0 (k + 1)).set k f3) = ndT es1 es0 k from by rw [hfin]; exact ndT_set he0] at hst
        exact th_n ⟨_, (Nat.lt_succ_self k), ⟨k, rfl, henv.sub ⟨rfl, rfl, rfl, trivial⟩, hst.pick [0, 1] [0, 1] (by decide), (by omega)⟩⟩
    · rw [hg70] at henv
      have hfin : f3 = (ndF es1 (es0.drop (k + 1))).2 a2 := by rw [hse, List.drop_eq_nil_of_le (by have := of_decide_eq_false hg70; omega)]; cases f3 <;> cases ov <;> rfl
      revert a
      refine kA rfl rfl rfl rfl rfl ?_
      refine kA rfl rfl rfl rfl rfl ?_
      refine sA (v := .bool false) rfl (fun _ henv => rn_pick henv rfl rfl) ?_
      intro a henv
      refine wpList_nil ?_
      refine th_n ?_
      refine if_f henv rfl (rfl) ?_
      refine wp_exit ?_
      refine th_x (th_x (bl_x (bl_n (th_n ?_))))
      refine region_seq ?_
      revert a
      refine mA rfl rfl ?_
      refine sA (v := .int .i64 (((k : Nat) : Int) - (1 : Int))) rfl (fun _ henv => rn_sub henv rfl rfl (IntWalk.i64_in _ (by omega))) ?_
      refine aA rfl rfl ?_
      intro a henv
      refine wpList_nil ?_
      rw [show ((ndT es1 es0 (k + 1)).set k f3) = ndT es1 es0 k from by rw [hfin]; exact ndT_set he0] at hst
      exact th_n ⟨_, (Nat.lt_succ_self k), ⟨k, rfl, henv.sub ⟨rfl, rfl, rfl, trivial⟩, hst.pick [0, 1] [0, 1] (by decide), (by omega)⟩⟩
  · obtain rfl : t = 0 := by have := of_decide_eq_false hc56; omega
    refine wp_exit ?_
    refine th_x (th_x (bl_x (th_n ?_)))
    refine wp_seq ?_
    refine region_seq ?_
    revert a
    refine mA rfl rfl ?_
    refine aA rfl rfl ?_
    intro a henv
    refine wpList_nil ?_
    refine th_n ?_
    refine wp_ret ?_
    refine leave henv (res1 Tryd.results29 (RV.tmp henv rfl)) ?_
    exact ⟨_, _, rfl, newrow_of (hst.owns (k := 0) rfl) (fun b hb => hst.new _ (List.mem_of_getElem? (i := 0) rfl) b hb) rfl, hst.below⟩
end Go.Proofs.YtbdngknpngcojaaDoor.W

/- anvilref08.Depth. Printed by pv/gen_g9.py. No condition. -/
namespace Go.Proofs.YtbdngknpngcojaaDoor.W
open Go.RowKit Anv Go.Lib
set_option maxRecDepth 100000 in
set_option maxHeartbeats 4000000 in
theorem r_depth {i : Int} {g : Nat} {A0 A1 : Option Addr} {n0 c0 n1 c1 : Nat} {es0 : List IE} {es1 : List Int} {w0 : World} (h0 : (pfRow fJ FJ 5 A0 n0 c0 es0).P w0) (h1 : (pfRow fI FI 1 A1 n1 c1 es1).P w0) (hR : Right i g n0 n1 es0 es1) :
    Calls Tryd.prog 30 #[.agg #[.int .i64 i, .int .i64 (g : Nat), .slice A0 n0 c0, .slice A1 n1 c1]] w0 fun e w' => e = .returned (.int .i64 (dpt g es0 es1)) ∧ Below w0.heap.size w0 w' := by
  obtain ⟨hh1, hh2, hh3, hh4, hh5, hh6⟩ := hR.1
  refine enter Tryd.func30 rfl Tryd.ntmps30 rfl ?_
  intro a henv hst
  have hlen0 := h0.2.1
  have hbig0 := Nat.le_trans h0.1.cap h0.1.big
  unfold maxLen at hbig0
  have hlen1 := h1.2.1
  have hbig1 := Nat.le_trans h1.1.cap h1.1.big
  unfold maxLen at hbig1
  replace hst := hst.argRow h0
  replace hst := hst.argRow h1
  clear h0 h1
  refine wp_seq ?_
  refine region_seq ?_
  refine seq_step rfl (op_box (c := #[.int .i64 i, .int .i64 (g : Nat), .slice A0 n0 c0, .slice A1 n1 c1]) henv hst rfl rfl rfl ?_)
  clear henv hst a; intro a w52 g51 henv hst
  refine sv (v := .int .i64 0) henv rfl (rn_assign henv rfl) ?_
  clear henv a; intro a henv
  refine wpList_nil ?_
  refine th_n ?_
  refine wp_seq ?_
  refine region_seq ?_
  revert a
  refine sA (v := .pointer (some ⟨g51, 1, none⟩)) rfl (fun _ henv => rn_fieldAddr henv fd_anvil_api_Prog_1 (ty_int.size) (by decide) rfl) ?_
  refine sA (v := .int .i64 (g : Nat)) rfl (fun _ henv => rn_load1 henv ty_int rfl (hst.oat (k := 0) rfl) rfl) ?_
  intro a henv
  refine seq_step rfl (op_makeS (f := fI) (e0 := 0) (q := notU) (n := g) henv hst rfl Tryd.underlying23 inf_int rfl rfl rfl rfl rfl rfl (by omega) (by unfold maxLen; omega) ?_)
  clear henv hst a; intro a w54 g53 henv hst
  refine sv (v := .slice (some ⟨g53, 0, none⟩) g g) henv rfl (rn_assign henv rfl) ?_
  clear henv a; intro a henv
  refine wpList_nil ?_
  refine th_n ?_
  refine wp_seq ?_
  refine wp_seq ?_
  refine region_seq ?_
  refine sv (v := .int .i64 0) henv rfl (rn_assign henv rfl) ?_
  clear henv a; intro a henv
  refine wpList_nil ?_
  refine th_n ?_
  refine wp_block ?_
  refine wp_loop_ghost (fun mz a w => ∃ j : Nat, ∃ ds : List Int, n0 - j = mz ∧ Env 84 a [(1, .pointer (some ⟨g51, 0, none⟩)), (3, .slice (some ⟨g53, 0, none⟩) g g), (4, .int .i64 (j : Nat))] ∧ St w0 w [rowS notU 3 1 (some ⟨g53, 0, none⟩) g g (fl fI ds), bk g51 #[.int .i64 i, .int .i64 (g : Nat), .slice A0 n0 c0, .slice A1 n1 c1] 25] [pfRow fI FI 1 A1 n1 c1 es1, pfRow fJ FJ 5 A0 n0 c0 es0] ∧ j ≤ n0 ∧ ds = (es0.take j).foldl dstep (List.replicate g 0) ∧ ds.length = g ∧ (∀ x ∈ ds, 0 ≤ x ∧ x ≤ (j : Nat))) _ ⟨0, (List.replicate g 0), rfl, henv.sub ⟨rfl, rfl, rfl, trivial⟩, hst.pick [0, 1] [0, 1] (by decide), (Nat.zero_le _), rfl, List.length_replicate, (fun x hx => by rw [List.eq_of_mem_replicate hx]; omega)⟩ ?_
  clear henv hst a
  rintro mz a w55 ⟨j, ds, rfl, henv, hst, hj, hd, hdl, hdb⟩
  refine wp_seq ?_
  refine wp_seq ?_
  refine region_seq ?_
  revert a
  refine mA rfl rfl ?_
  refine sA (v := .pointer (some ⟨g51, 2, none⟩)) rfl (fun _ henv => rn_fieldAddr henv fd_anvil_api_Prog_2 (ty__api_Instr.size) (by decide) rfl) ?_
  refine sA (v := .slice A0 n0 c0) rfl (fun _ henv => rn_load1 henv ty__api_Instr rfl (hst.oat (k := 1) rfl) rfl) ?_
  refine sA (v := .int .i64 (n0 : Nat)) rfl (fun _ henv => rn_len henv Tryd.underlying22 rfl) ?_
  refine sA (v := .bool (decide (((j : Nat) : Int) < ((n0 : Nat) : Int)))) rfl (fun _ henv => rn_bin henv rfl rfl rfl) ?_
  intro a henv
  refine wpList_nil ?_
  refine th_n ?_
  refine if_split henv rfl (fun hc56 => ?_) (fun hc56 => ?_)
  · have hlt : j < n0 := by have := of_decide_eq_true hc56; omega
    obtain ⟨⟨a1, a2, a3, a4, a5⟩, he0⟩ : ∃ e, es0[j]? = some e := ⟨_, List.getElem?_eq_getElem (by omega)⟩
    have hmy : May (a1, a2, a3, a4, a5) g := hR.2.2 _ (List.mem_of_getElem? he0)
    obtain ⟨t, ht⟩ : ∃ t : Nat, a2 = t := ⟨a2.toNat, by have := hmy.2.2.1; simp only at this; omega⟩
    subst ht
    have htg : t < g := by have := hmy.2.2.2.1; simp only at this; omega
    have hak := may_asks hmy
    have hal := asks_len a1 a3 a4
    simp only at hak
    refine wp_skip ?_
    refine th_n ?_
    refine wp_seq ?_
    refine wp_block ?_
    refine wp_seq ?_
    refine region_seq ?_
    refine sv (v := .int .i64 0) henv rfl (rn_assign henv rfl) ?_
    clear henv a; intro a henv
    refine wpList_nil ?_
    refine th_n ?_
    refine wp_seq ?_
    refine region_seq ?_
    revert a
    refine sA (v := .pointer (some ⟨g51, 2, none⟩)) rfl (fun _ henv => rn_fieldAddr henv fd_anvil_api_Prog_2 (ty__api_Instr.size) (by decide) rfl) ?_
    refine sA (v := .slice A0 n0 c0) rfl (fun _ henv => rn_load1 henv ty__api_Instr rfl (hst.oat (k := 1) rfl) rfl) ?_
    refine mA rfl rfl ?_
    refine sA (v := .pointer (some ⟨ab A0, ao A0 + j * 5, none⟩)) rfl (fun _ henv => rn_idxR (i := j) henv Tryd.underlying22 (ty_anvil_api_Instr.size) rfl rfl (by omega) rfl (show (pfRow fJ FJ 5 A0 n0 c0 es0).P _ from (hst.pat (k := 1) rfl)).1) ?_
    refine sA (v := .agg #[.int .i64 a1, .int .i64 (t : Nat), .int .i64 a3, .int .i64 a4, .int .i64 a5]) rfl (fun _ henv => rn_loadE (i := j) (e := (a1, (t : Int), a3, a4, a5)) henv ty_anvil_api_Instr rfl rfl fJ_len (show (pfRow fJ FJ 5 A0 n0 c0 es0).P _ from (hst.pat (k := 1) rfl)).1 (by omega) he0 rfl) ?_
    intro a henv
    refine seq_step rfl (op_call henv rfl Tryd.call19 rfl (r_asks (op := a1) (tr := (t : Nat)) (ra := a3) (rb := a4) (cn := a5)) ?_)
    rintro e w59 ⟨_, rfl, ⟨A57, c58, rfl, hr, hfr⟩, hb⟩
    refine ⟨_, rfl, ?_⟩
    clear henv a; intro a henv
    replace hst := hst.freshI hb hr hfr
    clear hr
    clear hb
    refine sv (v := .slice A57 ((asksL a1 a3 a4).length) c58) henv rfl (rn_assign henv rfl) ?_
    clear henv a; intro a henv
    refine wpList_nil ?_
    refine th_n ?_
    refine wp_seq ?_
    refine wp_seq ?_
    refine region_seq ?_
    refine sv (v := .int .i64 0) henv rfl (rn_assign henv rfl) ?_
    clear henv a; intro a henv
    refine wpList_nil ?_
    refine th_n ?_
    refine wp_block ?_
    refine wp_loop_ghost (fun mz a w => ∃ m : Nat, ∃ v : Int, (asksL a1 a3 a4).length - m = mz ∧ Env 84 a [(1, .pointer (some ⟨g51, 0, none⟩)), (3, .slice (some ⟨g53, 0, none⟩) g g), (4, .int .i64 (j : Nat)), (6, .slice A57 ((asksL a1 a3 a4).length) c58), (5, .int .i64 v), (7, .int .i64 (m : Nat))] ∧ St w0 w [rowS notU 3 1 (some ⟨g53, 0, none⟩) g g (fl fI ds), bk g51 #[.int .i64 i, .int .i64 (g : Nat), .slice A0 n0 c0, .slice A1 n1 c1] 25] [pfRow fI FI 1 A57 ((asksL a1 a3 a4).length) c58 (asksL a1 a3 a4), pfRow fI FI 1 A1 n1 c1 es1, pfRow fJ FJ 5 A0 n0 c0 es0] ∧ m ≤ (asksL a1 a3 a4).length ∧ v = mxL ds ((asksL a1 a3 a4).take m) ∧ (0 ≤ v ∧ v ≤ (j : Nat))) _ ⟨0, 0, rfl, henv.sub ⟨rfl, rfl, rfl, rfl, rfl, rfl, trivial⟩, hst.pick [0, 1] [0, 1, 2] (by decide), (Nat.zero_le _), rfl, ⟨by omega, by omega⟩⟩ ?_
    clear henv hst a
    rintro mz a w60 ⟨m, v, rfl, henv, hst, hm, hv, hvb⟩
    refine wp_seq ?_
    refine wp_seq ?_
    refine region_seq ?_
    revert a
    refine mA rfl rfl ?_
    refine mA rfl rfl ?_
    refine sA (v := .int .i64 ((asksL a1 a3 a4).length : Nat)) rfl (fun _ henv => rn_len henv Tryd.underlying23 rfl) ?_
    refine sA (v := .bool (decide (((m : Nat) : Int) < (((asksL a1 a3 a4).length : Nat) : Int)))) rfl (fun _ henv => rn_bin henv rfl rfl rfl) ?_
    intro a henv
    refine wpList_nil ?_
    refine th_n ?_
    refine if_split henv rfl (fun hc61 => ?_) (fun hc61 => ?_)
    · have hlm : m < (asksL a1 a3 a4).length := by have := of_decide_eq_true hc61; omega
      obtain ⟨x, hea⟩ : ∃ x, (asksL a1 a3 a4)[m]? = some x := ⟨_, List.getElem?_eq_getElem hlm⟩
      have hxr := hak x (List.mem_of_getElem? hea)
      obtain ⟨q, rfl⟩ := Int.eq_ofNat_of_zero_le hxr.1
      have hqg : q < g := by omega
      obtain ⟨y, hye⟩ : ∃ y, ds[q]? = some y := ⟨_, List.getElem?_eq_getElem (by omega)⟩
      have hyd : ds.getD q 0 = y := by rw [List.getD_eq_getElem?_getD, hye]; rfl
      have hyb := hdb y (List.mem_of_getElem? hye)
      refine wp_skip ?_
      refine th_n ?_
      refine wp_seq ?_
      refine wp_block ?_
      refine wp_seq ?_
      refine region_seq ?_
      revert a
      refine mA rfl rfl ?_
      refine mA rfl rfl ?_
      refine mA rfl rfl ?_
      refine sA (v := .pointer (some ⟨ab A57, ao A57 + m * 1, none⟩)) rfl (fun _ henv => rn_idxR (i := m) henv Tryd.underlying23 (ty_int.size) rfl rfl (by omega) rfl (show (pfRow fI FI 1 A57 ((asksL a1 a3 a4).length) c58 (asksL a1 a3 a4)).P _ from (hst.pat (k := 0) rfl)).1) ?_
      refine sA (v := .int .i64 (q : Nat)) rfl (fun _ henv => rn_loadE1 (i := m) (j := 0) (e := ((q : Nat) : Int)) henv ty_int rfl rfl fI_len (by decide) (show (pfRow fI FI 1 A57 ((asksL a1 a3 a4).length) c58 (asksL a1 a3 a4)).P _ from (hst.pat (k := 0) rfl)).1 (by omega) hea rfl) ?_
      refine sA (v := .pointer (some ⟨ab (some ⟨g53, 0, none⟩), ao (some ⟨g53, 0, none⟩) + q * 1, none⟩)) rfl (fun _ henv => rn_idxR (i := q) henv Tryd.underlying23 (ty_int.size) rfl rfl (by omega) rfl (rowS_rd (hst.owns (k := 0) rfl))) ?_
      refine sA (v := .int .i64 y) rfl (fun _ henv => rn_loadE1 (i := q) (j := 0) (e := y) henv ty_int rfl rfl fI_len (by decide) (rowS_rd (hst.owns (k := 0) rfl)) (by omega) hye rfl) ?_
      refine mA rfl rfl ?_
      refine sA (v := .bool (decide (y > v))) rfl (fun _ henv => rn_bin henv rfl rfl rfl) ?_
      intro a henv
      refine wpList_nil ?_
      refine th_n ?_
      refine if_split henv rfl (fun hc62 => ?_) (fun hc62 => ?_)
      · have hgt := of_decide_eq_true hc62
        refine region_seq ?_
        revert a
        refine mA rfl rfl ?_
        refine mA rfl rfl ?_
        refine mA rfl rfl ?_
        refine sA (v := .pointer (some ⟨ab A57, ao A57 + m * 1, none⟩)) rfl (fun _ henv => rn_idxR (i := m) henv Tryd.underlying23 (ty_int.size) rfl rfl (by omega) rfl (show (pfRow fI FI 1 A57 ((asksL a1 a3 a4).length) c58 (asksL a1 a3 a4)).P _ from (hst.pat (k := 0) rfl)).1) ?_
        refine sA (v := .int .i64 (q : Nat)) rfl (fun _ henv => rn_loadE1 (i := m) (j := 0) (e := ((q : Nat) : Int)) henv ty_int rfl rfl fI_len (by decide) (show (pfRow fI FI 1 A57 ((asksL a1 a3 a4).length) c58 (asksL a1 a3 a4)).P _ from (hst.pat (k := 0) rfl)).1 (by omega) hea rfl) ?_
        refine sA (v := .pointer (some ⟨ab (some ⟨g53, 0, none⟩), ao (some ⟨g53, 0, none⟩) + q * 1, none⟩)) rfl (fun _ henv => rn_idxR (i := q) henv Tryd.underlying23 (ty_int.size) rfl rfl (by omega) rfl (rowS_rd (hst.owns (k := 0) rfl))) ?_
        refine sA (v := .int .i64 y) rfl (fun _ henv => rn_loadE1 (i := q) (j := 0) (e := y) henv ty_int rfl rfl fI_len (by decide) (rowS_rd (hst.owns (k := 0) rfl)) (by omega) hye rfl) ?_
        refine aA rfl rfl ?_
        intro a henv
        refine wpList_nil ?_
        refine bl_n (th_n ?_)
        refine region_seq ?_
        revert a
        refine mA rfl rfl ?_
        refine sA (v := .int .i64 (m + 1 : Nat)) rfl (fun _ henv => rn_add henv rfl rfl (by rw [IntWalk.i64_in _ (by omega)]; omega)) ?_
        refine aA rfl rfl ?_
        intro a henv
        refine wpList_nil ?_
        exact th_n ⟨_, (by omega), ⟨m + 1, y, rfl, henv.sub ⟨rfl, rfl, rfl, rfl, rfl, rfl, trivial⟩, hst.pick [0, 1] [0, 1, 2] (by decide), (by omega), (by rw [mx_step hea, ← hv]; show _ = max v (ds.getD q 0); rw [hyd]; omega), ⟨by omega, by omega⟩⟩⟩
      · have hgt := of_decide_eq_false hc62
        refine wp_skip ?_
        refine bl_n (th_n ?_)
        refine region_seq ?_
        revert a
        refine mA rfl rfl ?_
        refine sA (v := .int .i64 (m + 1 : Nat)) rfl (fun _ henv => rn_add henv rfl rfl (by rw [IntWalk.i64_in _ (by omega)]; omega)) ?_
        refine aA rfl rfl ?_
        intro a henv
        refine wpList_nil ?_
        exact th_n ⟨_, (by omega), ⟨m + 1, v, rfl, henv.sub ⟨rfl, rfl, rfl, rfl, rfl, rfl, trivial⟩, hst.pick [0, 1] [0, 1, 2] (by decide), (by omega), (by rw [mx_step hea, ← hv]; show _ = max v (ds.getD q 0); rw [hyd]; omega), ⟨by omega, by omega⟩⟩⟩
    · have hvf : v = mxL ds (asksL a1 a3 a4) := by rw [hv, List.take_of_length_le (by have := of_decide_eq_false hc61; omega)]
      refine wp_exit ?_
      refine th_x (th_x (bl_x (th_n ?_)))
      refine region_seq ?_
      revert a
      refine mA rfl rfl ?_
      refine sA (v := .pointer (some ⟨g51, 2, none⟩)) rfl (fun _ henv => rn_fieldAddr henv fd_anvil_api_Prog_2 (ty__api_Instr.size) (by decide) rfl) ?_
      refine sA (v := .slice A0 n0 c0) rfl (fun _ henv => rn_load1 henv ty__api_Instr rfl (hst.oat (k := 1) rfl) rfl) ?_
      refine mA rfl rfl ?_
      refine sA (v := .pointer (some ⟨ab A0, ao A0 + j * 5, none⟩)) rfl (fun _ henv => rn_idxR (i := j) henv Tryd.underlying22 (ty_anvil_api_Instr.size) rfl rfl (by omega) rfl (show (pfRow fJ FJ 5 A0 n0 c0 es0).P _ from (hst.pat (k := 2) rfl)).1) ?_
      refine sA (v := .pointer (some ⟨ab A0, ao A0 + j * 5 + 1, none⟩)) rfl (fun _ henv => rn_fieldAddr henv fd_anvil_api_Instr_1 (ty_int.size) (by decide) rfl) ?_
      refine sA (v := .int .i64 (t : Nat)) rfl (fun _ henv => rn_loadE1 (i := j) (j := 1) (e := (a1, (t : Int), a3, a4, a5)) henv ty_int rfl rfl fJ_len (by decide) (show (pfRow fJ FJ 5 A0 n0 c0 es0).P _ from (hst.pat (k := 2) rfl)).1 (by omega) he0 rfl) ?_
      refine mA rfl rfl ?_
      refine sA (v := .int .i64 (v + (1 : Int))) rfl (fun _ henv => rn_add henv rfl rfl (IntWalk.i64_in _ (by omega))) ?_
      refine sA (v := .pointer (some ⟨ab (some ⟨g53, 0, none⟩), ao (some ⟨g53, 0, none⟩) + t * 1, none⟩)) rfl (fun _ henv => rn_idxR (i := t) henv Tryd.underlying23 (ty_int.size) rfl rfl (by omega) rfl (rowS_rd (hst.owns (k := 0) rfl))) ?_
      intro a henv
      refine seq_step rfl (op_storeW1 (f := fI) (i := t) (e := v + (1 : Int)) (k := 0) henv hst (ty_int.size) rfl rfl rfl rfl fI_len (by omega) hdl rfl rfl rfl ?_)
      clear henv hst a; intro a w63 henv hst
      refine wpList_nil ?_
      refine bl_n (th_n ?_)
      refine region_seq ?_
      revert a
      refine mA rfl rfl ?_
      refine sA (v := .int .i64 (j + 1 : Nat)) rfl (fun _ henv => rn_add henv rfl rfl (by rw [IntWalk.i64_in _ (by omega)]; omega)) ?_
      refine aA rfl rfl ?_
      intro a henv
      refine wpList_nil ?_
      exact th_n ⟨_, (by omega), ⟨j + 1, (ds.set t (v + (1 : Int))), rfl, henv.sub ⟨rfl, rfl, rfl, trivial⟩, hst.pick [0, 1] [1, 2] (by decide), (by omega), (dstep_take hd he0 hvf), (by rw [List.length_set]; exact hdl), (set_bd hdb (by omega))⟩⟩
  · have hje : j = n0 := by have := of_decide_eq_false hc56; omega
    rw [List.take_of_length_le (by omega)] at hd
    refine wp_exit ?_
    refine th_x (th_x (bl_x (th_n ?_)))
    refine wp_seq ?_
    refine region_seq ?_
    refine sv (v := .int .i64 0) henv rfl (rn_assign henv rfl) ?_
    clear henv a; intro a henv
    refine wpList_nil ?_
    refine th_n ?_
    refine wp_seq ?_
    refine wp_seq ?_
    refine region_seq ?_
    refine sv (v := .int .i64 0) henv rfl (rn_assign henv rfl) ?_
    clear henv a; intro a henv
    refine wpList_nil ?_
    refine th_n ?_
    refine wp_block ?_
    refine wp_loop_ghost (fun mz a w => ∃ m : Nat, ∃ v : Int, n1 - m = mz ∧ Env 84 a [(1, .pointer (some ⟨g51, 0, none⟩)), (3, .slice (some ⟨g53, 0, none⟩) g g), (8, .int .i64 v), (9, .int .i64 (m : Nat))] ∧ St w0 w [rowS notU 3 1 (some ⟨g53, 0, none⟩) g g (fl fI ds), bk g51 #[.int .i64 i, .int .i64 (g : Nat), .slice A0 n0 c0, .slice A1 n1 c1] 25] [pfRow fI FI 1 A1 n1 c1 es1, pfRow fJ FJ 5 A0 n0 c0 es0] ∧ m ≤ n1 ∧ v = mxL ds (es1.take m)) _ ⟨0, 0, rfl, henv.sub ⟨rfl, rfl, rfl, rfl, trivial⟩, hst.pick [0, 1] [0, 1] (by decide), (Nat.zero_le _), rfl⟩ ?_
    clear henv hst a
    rintro mz a w64 ⟨m, v, rfl, henv, hst, hm, hv⟩
    refine wp_seq ?_
    refine wp_seq ?_
    refine region_seq ?_
    revert a
    refine mA rfl rfl ?_
    refine sA (v := .pointer (some ⟨g51, 3, none⟩)) rfl (fun _ henv => rn_fieldAddr henv fd_anvil_api_Prog_3 (ty__int.size) (by decide) rfl) ?_
    refine sA (v := .slice A1 n1 c1) rfl (fun _ henv => rn_load1 henv ty__int rfl (hst.oat (k := 1) rfl) rfl) ?_
    refine sA (v := .int .i64 (n1 : Nat)) rfl (fun _ henv => rn_len henv Tryd.underlying23 rfl) ?_
    refine sA (v := .bool (decide (((m : Nat) : Int) < ((n1 : Nat) : Int)))) rfl (fun _ henv => rn_bin henv rfl rfl rfl) ?_
    intro a henv
    refine wpList_nil ?_
    refine th_n ?_
    refine if_split henv rfl (fun hc65 => ?_) (fun hc65 => ?_)
    · have hlm : m < n1 := by have := of_decide_eq_true hc65; omega
      obtain ⟨x, hea⟩ : ∃ x, es1[m]? = some x := ⟨_, List.getElem?_eq_getElem (by omega)⟩
      have hxr := hR.2.1 x (List.mem_of_getElem? hea)
      obtain ⟨q, rfl⟩ := Int.eq_ofNat_of_zero_le hxr.1
      have hqg : q < g := by omega
      obtain ⟨y, hye⟩ : ∃ y, ds[q]? = some y := ⟨_, List.getElem?_eq_getElem (by omega)⟩
      have hyd : ds.getD q 0 = y := by rw [List.getD_eq_getElem?_getD, hye]; rfl
      have hyb := hdb y (List.mem_of_getElem? hye)
      refine wp_skip ?_
      refine th_n ?_
      refine wp_seq ?_
      refine wp_block ?_
      refine wp_seq ?_
      refine region_seq ?_
      revert a
      refine mA rfl rfl ?_
      refine sA (v := .pointer (some ⟨g51, 3, none⟩)) rfl (fun _ henv => rn_fieldAddr henv fd_anvil_api_Prog_3 (ty__int.size) (by decide) rfl) ?_
      refine sA (v := .slice A1 n1 c1) rfl (fun _ henv => rn_load1 henv ty__int rfl (hst.oat (k := 1) rfl) rfl) ?_
      refine mA rfl rfl ?_
      refine sA (v := .pointer (some ⟨ab A1, ao A1 + m * 1, none⟩)) rfl (fun _ henv => rn_idxR (i := m) henv Tryd.underlying23 (ty_int.size) rfl rfl (by omega) rfl (show (pfRow fI FI 1 A1 n1 c1 es1).P _ from (hst.pat (k := 0) rfl)).1) ?_
      refine sA (v := .int .i64 (q : Nat)) rfl (fun _ henv => rn_loadE1 (i := m) (j := 0) (e := ((q : Nat) : Int)) henv ty_int rfl rfl fI_len (by decide) (show (pfRow fI FI 1 A1 n1 c1 es1).P _ from (hst.pat (k := 0) rfl)).1 (by omega) hea rfl) ?_
      refine sA (v := .pointer (some ⟨ab (some ⟨g53, 0, none⟩), ao (some ⟨g53, 0, none⟩) + q * 1, none⟩)) rfl (fun _ henv => rn_idxR (i := q) henv Tryd.underlying23 (ty_int.size) rfl rfl (by omega) rfl (rowS_rd (hst.owns (k := 0) rfl))) ?_
      refine sA (v := .int .i64 y) rfl (fun _ henv => rn_loadE1 (i := q) (j := 0) (e := y) henv ty_int rfl rfl fI_len (by decide) (rowS_rd (hst.owns (k := 0) rfl)) (by omega) hye rfl) ?_
      refine mA rfl rfl ?_
      refine sA (v := .bool (decide (y > v))) rfl (fun _ henv => rn_bin henv rfl rfl rfl) ?_
      intro a henv
      refine wpList_nil ?_
      refine th_n ?_
      refine if_split henv rfl (fun hc66 => ?_) (fun hc66 => ?_)
      · have hgt := of_decide_eq_true hc66
        refine region_seq ?_
        revert a
        refine mA rfl rfl ?_
        refine sA (v := .pointer (some ⟨g51, 3, none⟩)) rfl (fun _ henv => rn_fieldAddr henv fd_anvil_api_Prog_3 (ty__int.size) (by decide) rfl) ?_
        refine sA (v := .slice A1 n1 c1) rfl (fun _ henv => rn_load1 henv ty__int rfl (hst.oat (k := 1) rfl) rfl) ?_
        refine mA rfl rfl ?_
        refine sA (v := .pointer (some ⟨ab A1, ao A1 + m * 1, none⟩)) rfl (fun _ henv => rn_idxR (i := m) henv Tryd.underlying23 (ty_int.size) rfl rfl (by omega) rfl (show (pfRow fI FI 1 A1 n1 c1 es1).P _ from (hst.pat (k := 0) rfl)).1) ?_
        refine sA (v := .int .i64 (q : Nat)) rfl (fun _ henv => rn_loadE1 (i := m) (j := 0) (e := ((q : Nat) : Int)) henv ty_int rfl rfl fI_len (by decide) (show (pfRow fI FI 1 A1 n1 c1 es1).P _ from (hst.pat (k := 0) rfl)).1 (by omega) hea rfl) ?_
        refine sA (v := .pointer (some ⟨ab (some ⟨g53, 0, none⟩), ao (some ⟨g53, 0, none⟩) + q * 1, none⟩)) rfl (fun _ henv => rn_idxR (i := q) henv Tryd.underlying23 (ty_int.size) rfl rfl (by omega) rfl (rowS_rd (hst.owns (k := 0) rfl))) ?_
        refine sA (v := .int .i64 y) rfl (fun _ henv => rn_loadE1 (i := q) (j := 0) (e := y) henv ty_int rfl rfl fI_len (by decide) (rowS_rd (hst.owns (k := 0) rfl)) (by omega) hye rfl) ?_
        refine aA rfl rfl ?_
        intro a henv
        refine wpList_nil ?_
        refine bl_n (th_n ?_)
        refine region_seq ?_
        revert a
        refine mA rfl rfl ?_
        refine sA (v := .int .i64 (m + 1 : Nat)) rfl (fun _ henv => rn_add henv rfl rfl (by rw [IntWalk.i64_in _ (by omega)]; omega)) ?_
        refine aA rfl rfl ?_
        intro a henv
        refine wpList_nil ?_
        exact th_n ⟨_, (by omega), ⟨m + 1, y, rfl, henv.sub ⟨rfl, rfl, rfl, rfl, trivial⟩, hst.pick [0, 1] [0, 1] (by decide), (by omega), (by rw [mx_step hea, ← hv]; show _ = max v (ds.getD q 0); rw [hyd]; omega)⟩⟩
      · have hgt := of_decide_eq_false hc66
        refine wp_skip ?_
        refine bl_n (th_n ?_)
        refine region_seq ?_
        revert a
        refine mA rfl rfl ?_
        refine sA (v := .int .i64 (m + 1 : Nat)) rfl (fun _ henv => rn_add henv rfl rfl (by rw [IntWalk.i64_in _ (by omega)]; omega)) ?_
        refine aA rfl rfl ?_
        intro a henv
        refine wpList_nil ?_
        exact th_n ⟨_, (by omega), ⟨m + 1, v, rfl, henv.sub ⟨rfl, rfl, rfl, rfl, trivial⟩, hst.pick [0, 1] [0, 1] (by decide), (by omega), (by rw [mx_step hea, ← hv]; show _ = max v (ds.getD q 0); rw [hyd]; omega)⟩⟩
    · have hvf : v = mxL ds es1 := by rw [hv, List.take_of_length_le (by have := of_decide_eq_false hc65; omega)]
      refine wp_exit ?_
      refine th_x (th_x (bl_x (th_n ?_)))
      refine wp_seq ?_
      refine region_seq ?_
      revert a
      refine mA rfl rfl ?_
      refine aA rfl rfl ?_
      intro a henv
      refine wpList_nil ?_
      refine th_n ?_
      refine wp_ret ?_
      refine leave henv (res1 Tryd.results30 (RV.tmp henv rfl)) ?_
      have hfin : v = dpt g es0 es1 := by rw [hvf, hd]; rfl
      exact ⟨by rw [← hfin], hst.below⟩
end Go.Proofs.YtbdngknpngcojaaDoor.W

/- Count, both. Printed by pv/gen_gA.py. No condition. -/
namespace Go.Proofs.YtbdngknpngcojaaDoor.W
open Go.RowKit Anv Go.Lib
def clN (op : Int) : Nat := if op = 1 then 0 else if op = 5 then 2 else if op = 6 then 3 else if op = 7 ∨ op = 8 then 4 else 1
theorem cl_cases (op : Int) : (op = 1 ∧ clN op = 0) ∨ (op = 5 ∧ clN op = 2) ∨ (op = 6 ∧ clN op = 3) ∨ ((op = 7 ∨ op = 8) ∧ clN op = 4) ∨ (¬ (op = 1 ∨ op = 5 ∨ op = 6 ∨ op = 7 ∨ op = 8) ∧ clN op = 1) := by
  unfold clN
  by_cases h1 : op = 1
  · exact .inl ⟨h1, if_pos h1⟩
  by_cases h5 : op = 5
  · exact .inr (.inl ⟨h5, by rw [if_neg h1, if_pos h5]⟩)
  by_cases h6 : op = 6
  · exact .inr (.inr (.inl ⟨h6, by rw [if_neg h1, if_neg h5, if_pos h6]⟩))
  by_cases h7 : op = 7 ∨ op = 8
  · exact .inr (.inr (.inr (.inl ⟨h7, by rw [if_neg h1, if_neg h5, if_neg h6, if_pos h7]⟩)))
  · exact .inr (.inr (.inr (.inr ⟨by omega, by rw [if_neg h1, if_neg h5, if_neg h6, if_neg h7]⟩)))
def cnN (es : List IE) (j k : Nat) : Nat := ((es.take j).filter fun e => decide (clN e.1 = k)).length
theorem cn_step {es : List IE} {j : Nat} {e : IE} (he : es[j]? = some e) (k : Nat) : cnN es (j + 1) k = cnN es j k + if clN e.1 = k then 1 else 0 := by
  unfold cnN
  rw [take_one he, List.filter_append, List.length_append]
  by_cases h : clN e.1 = k
  · simp [h]
  · simp [h]
set_option maxRecDepth 100000 in
set_option maxHeartbeats 4000000 in
theorem g_count {i g : Int} {A0 A1 : Option Addr} {n0 c0 n1 c1 : Nat} {es0 : List IE} {es1 : List Int} {w0 : World} (h0 : (pfRow fJ FJ 5 A0 n0 c0 es0).P w0) (h1 : (pfRow fI FI 1 A1 n1 c1 es1).P w0) (hR : Right i g n0 n1 es0 es1) :
    Calls Tryd.prog 26 #[.agg #[.int .i64 i, .int .i64 g, .slice A0 n0 c0, .slice A1 n1 c1]] w0 fun e w' => e = .returned (.tuple #[.agg #[.int .i64 ((cnN es0 n0 0 : Nat) : Int), .int .i64 ((cnN es0 n0 1 : Nat) : Int), .int .i64 ((cnN es0 n0 2 : Nat) : Int), .int .i64 ((cnN es0 n0 3 : Nat) : Int), .int .i64 ((cnN es0 n0 4 : Nat) : Int)], .int .i64 0]) ∧ Below w0.heap.size w0 w' := by
  obtain ⟨hh1, hh2, hh3, hh4, hh5, hh6⟩ := hR.1
  refine enter Tryd.func26 rfl Tryd.ntmps26 rfl ?_
  intro a henv hst
  have hlen0 := h0.2.1
  have hbig0 := Nat.le_trans h0.1.cap h0.1.big
  unfold maxLen at hbig0
  have hlen1 := h1.2.1
  have hbig1 := Nat.le_trans h1.1.cap h1.1.big
  unfold maxLen at hbig1
  replace hst := hst.argRow h0
  replace hst := hst.argRow h1
  clear h0 h1
  refine wp_seq ?_
  refine region_seq ?_
  refine seq_step rfl (op_box (c := #[.int .i64 i, .int .i64 g, .slice A0 n0 c0, .slice A1 n1 c1]) henv hst rfl rfl rfl ?_)
  clear henv hst a; intro a w52 g51 henv hst
  refine seq_step rfl (op_alloc (c := #[.int .i64 0, .int .i64 0, .int .i64 0, .int .i64 0, .int .i64 0]) henv hst rfl zero_anvil_prog_Counts rfl ?_)
  clear henv hst a; intro a w54 g53 henv hst
  refine sv (v := .int .i64 0) henv rfl (rn_assign henv rfl) ?_
  clear henv a; intro a henv
  refine wpList_nil ?_
  refine th_n ?_
  refine wp_seq ?_
  refine region_seq ?_
  refine seq_step rfl (op_alloc (c := #[.int .i64 0, .int .i64 0, .int .i64 0, .int .i64 0, .int .i64 0]) henv hst rfl zero_anvil_prog_Counts rfl ?_)
  clear henv hst a; intro a w56 g55 henv hst
  refine wpList_nil ?_
  refine th_n ?_
  refine wp_seq ?_
  refine wp_seq ?_
  refine region_seq ?_
  refine sv (v := .agg #[.int .i64 i, .int .i64 g, .slice A0 n0 c0, .slice A1 n1 c1]) henv rfl (rn_load0 henv ty_anvil_api_Prog rfl (hst.oat (k := 2) rfl) rfl) ?_
  clear henv a; intro a henv
  refine seq_step rfl (op_call henv rfl Tryd.call37 rfl (g_right_ok (hst.pat (k := 1) rfl) (hst.pat (k := 0) rfl) hR) ?_)
  rintro e w57 ⟨rfl, hb⟩
  refine ⟨_, rfl, ?_⟩
  clear henv a; intro a henv
  replace hst := hst.call hb
  clear hb
  refine sv (v := .bool false) henv rfl (rn_un henv rfl rfl) ?_
  clear henv a; intro a henv
  refine wpList_nil ?_
  refine th_n ?_
  refine if_f henv rfl (rfl) ?_
  refine wp_skip ?_
  refine th_n ?_
  refine wp_seq ?_
  refine wp_seq ?_
  refine region_seq ?_
  revert a
  refine sA (v := .pointer (some ⟨g51, 2, none⟩)) rfl (fun _ henv => rn_fieldAddr henv fd_anvil_api_Prog_2 (ty__api_Instr.size) (by decide) rfl) ?_
  refine sA (v := .slice A0 n0 c0) rfl (fun _ henv => rn_load1 henv ty__api_Instr rfl (hst.oat (k := 2) rfl) rfl) ?_
  refine sA (v := .int .i64 (n0 : Nat)) rfl (fun _ henv => rn_len henv Tryd.underlying22 rfl) ?_
  refine mA rfl rfl ?_
  intro a henv
  refine wpList_nil ?_
  refine th_n ?_
  refine wp_block ?_
  refine wp_loop_ghost (fun mz a w => ∃ j : Nat, ∃ z0 : Nat, ∃ z1 : Nat, ∃ z2 : Nat, ∃ z3 : Nat, ∃ z4 : Nat, n0 - j = mz ∧ Env 51 a [(1, .pointer (some ⟨g51, 0, none⟩)), (2, .pointer (some ⟨g53, 0, none⟩)), (4, .pointer (some ⟨g55, 0, none⟩)), (12, .slice A0 n0 c0), (13, .int .i64 (n0 : Nat)), (14, .int .i64 (j : Nat))] ∧ St w0 w [bk g55 #[.int .i64 (z0 : Nat), .int .i64 (z1 : Nat), .int .i64 (z2 : Nat), .int .i64 (z3 : Nat), .int .i64 (z4 : Nat)] 45, bk g53 #[.int .i64 0, .int .i64 0, .int .i64 0, .int .i64 0, .int .i64 0] 45, bk g51 #[.int .i64 i, .int .i64 g, .slice A0 n0 c0, .slice A1 n1 c1] 25] [pfRow fI FI 1 A1 n1 c1 es1, pfRow fJ FJ 5 A0 n0 c0 es0] ∧ j ≤ n0 ∧ z0 = cnN es0 j 0 ∧ z1 = cnN es0 j 1 ∧ z2 = cnN es0 j 2 ∧ z3 = cnN es0 j 3 ∧ z4 = cnN es0 j 4 ∧ z0 ≤ j ∧ z1 ≤ j ∧ z2 ≤ j ∧ z3 ≤ j ∧ z4 ≤ j) _ ⟨0, 0, 0, 0, 0, 0, rfl, henv.sub ⟨rfl, rfl, rfl, rfl, rfl, rfl, trivial⟩, hst.pick [0, 1, 2] [0, 1] (by decide), (Nat.zero_le _), rfl, rfl, rfl, rfl, rfl, (by omega)⟩ ?_
  clear henv hst a
  rintro mz a w58 ⟨j, z0, z1, z2, z3, z4, rfl, henv, hst, hj, hz0, hz1, hz2, hz3, hz4, hzj⟩
  refine wp_seq ?_
  refine region_seq ?_
  refine sv (v := .bool (decide (((j : Nat) : Int) < ((n0 : Nat) : Int)))) henv rfl (rn_bin henv rfl rfl rfl) ?_
  clear henv a; intro a henv
  refine wpList_nil ?_
  refine th_n ?_
  refine wp_seq ?_
  refine if_split henv rfl (fun hc59 => ?_) (fun hc59 => ?_)
  · have hlt : j < n0 := by have := of_decide_eq_true hc59; omega
    obtain ⟨⟨a1, a2, a3, a4, a5⟩, he0⟩ : ∃ e, es0[j]? = some e := ⟨_, List.getElem?_eq_getElem (by omega)⟩
    have hmy : May (a1, a2, a3, a4, a5) g := hR.2.2 _ (List.mem_of_getElem? he0)
    have hop : 1 ≤ a1 ∧ a1 ≤ 8 := ⟨hmy.1, hmy.2.1⟩
    refine wp_skip ?_
    refine th_n ?_
    refine wp_seq ?_
    refine wp_block ?_
    refine wp_seq ?_
    refine region_seq ?_
    revert a
    refine sA (v := .pointer (some ⟨ab A0, ao A0 + j * 5, none⟩)) rfl (fun _ henv => rn_idxR (i := j) henv Tryd.underlying22 (ty_anvil_api_Instr.size) rfl rfl (by omega) rfl (show (pfRow fJ FJ 5 A0 n0 c0 es0).P _ from (hst.pat (k := 1) rfl)).1) ?_
    refine sA (v := .agg #[.int .i64 a1, .int .i64 a2, .int .i64 a3, .int .i64 a4, .int .i64 a5]) rfl (fun _ henv => rn_loadE (i := j) (e := (a1, a2, a3, a4, a5)) henv ty_anvil_api_Instr rfl rfl fJ_len (show (pfRow fJ FJ 5 A0 n0 c0 es0).P _ from (hst.pat (k := 1) rfl)).1 (by omega) he0 rfl) ?_
    intro a henv
    refine seq_step rfl (op_alloc (c := #[.int .i64 0, .int .i64 0, .int .i64 0, .int .i64 0, .int .i64 0]) henv hst rfl zero_anvil_api_Instr rfl ?_)
    clear henv hst a; intro a w61 g60 henv hst
    refine seq_step rfl (op_store (k := 0) (c' := #[.int .i64 a1, .int .i64 a2, .int .i64 a3, .int .i64 a4, .int .i64 a5]) henv hst (ty_anvil_api_Instr.size) rfl rfl rfl rfl (by simp) rfl rfl ?_)
    clear henv hst a; intro a w62 henv hst
    refine wpList_nil ?_
    refine th_n ?_
    refine wp_seq ?_
    refine region_seq ?_
    revert a
    refine sA (v := .pointer (some ⟨g60, 0, none⟩)) rfl (fun _ henv => rn_fieldAddr henv fd_anvil_api_Instr_0 (ty_int.size) (by decide) rfl) ?_
    refine sA (v := .int .i64 a1) rfl (fun _ henv => rn_load1 henv ty_int rfl (hst.oat (k := 0) rfl) rfl) ?_
    intro a henv
    refine wpList_nil ?_
    refine th_n ?_
    refine wp_block ?_
    refine wp_seq ?_
    refine region_seq ?_
    revert a
    refine sA (v := .bool (a1 == (1 : Int))) rfl (fun _ henv => rn_bin henv rfl rfl rfl) ?_
    refine aA rfl rfl ?_
    intro a henv
    refine wpList_nil ?_
    refine th_n ?_
    refine if_split henv rfl (fun hc63 => ?_) (fun hc63 => ?_)
    · have hx64 := eq_of_beq hc63
      refine region_seq ?_
      revert a
      refine sA (v := .pointer (some ⟨g55, 0, none⟩)) rfl (fun _ henv => rn_fieldAddr henv fd_anvil_prog_Counts_0 (ty_int.size) (by decide) rfl) ?_
      refine sA (v := .int .i64 (z0 : Nat)) rfl (fun _ henv => rn_load1 henv ty_int rfl (hst.oat (k := 1) rfl) rfl) ?_
      refine sA (v := .int .i64 (z0 + 1 : Nat)) rfl (fun _ henv => rn_add henv rfl rfl (by rw [IntWalk.i64_in _ (by omega)]; omega)) ?_
      refine sA (v := .pointer (some ⟨g55, 0, none⟩)) rfl (fun _ henv => rn_fieldAddr henv fd_anvil_prog_Counts_0 (ty_int.size) (by decide) rfl) ?_
      intro a henv
      refine seq_step rfl (op_store1 (k := 1) (c' := #[.int .i64 (z0 + 1 : Nat), .int .i64 (z1 : Nat), .int .i64 (z2 : Nat), .int .i64 (z3 : Nat), .int .i64 (z4 : Nat)]) henv hst (ty_int.size) rfl rfl rfl (by simp) rfl rfl ?_)
      clear henv hst a; intro a w65 henv hst
      refine wpList_nil ?_
      refine bl_n (bl_n (th_n ?_))
      refine region_seq ?_
      revert a
      refine sA (v := .int .i64 (j + 1 : Nat)) rfl (fun _ henv => rn_add henv rfl rfl (by rw [IntWalk.i64_in _ (by omega)]; omega)) ?_
      refine mA rfl rfl ?_
      intro a henv
      refine wpList_nil ?_
      exact th_n ⟨_, (by omega), ⟨j + 1, z0 + 1, z1, z2, z3, z4, rfl, henv.sub ⟨rfl, rfl, rfl, rfl, rfl, rfl, trivial⟩, hst.pick [1, 2, 3] [0, 1] (by decide), (by omega), (by have hq := cn_step he0 0; rcases cl_cases a1 with h | h | h | h | h <;> simp [h.2] at hq <;> omega), (by have hq := cn_step he0 1; rcases cl_cases a1 with h | h | h | h | h <;> simp [h.2] at hq <;> omega), (by have hq := cn_step he0 2; rcases cl_cases a1 with h | h | h | h | h <;> simp [h.2] at hq <;> omega), (by have hq := cn_step he0 3; rcases cl_cases a1 with h | h | h | h | h <;> simp [h.2] at hq <;> omega), (by have hq := cn_step he0 4; rcases cl_cases a1 with h | h | h | h | h <;> simp [h.2] at hq <;> omega), (by omega)⟩⟩
    · have hx66 := ne_of_beq_false hc63
      refine wp_seq ?_
      refine region_seq ?_
      revert a
      refine sA (v := .bool (a1 == (5 : Int))) rfl (fun _ henv => rn_bin henv rfl rfl rfl) ?_
      refine aA rfl rfl ?_
      intro a henv
      refine wpList_nil ?_
      refine th_n ?_
      refine if_split henv rfl (fun hc67 => ?_) (fun hc67 => ?_)
      · have hx68 := eq_of_beq hc67
        refine region_seq ?_
        revert a
        refine sA (v := .pointer (some ⟨g55, 2, none⟩)) rfl (fun _ henv => rn_fieldAddr henv fd_anvil_prog_Counts_2 (ty_int.size) (by decide) rfl) ?_
        refine sA (v := .int .i64 (z2 : Nat)) rfl (fun _ henv => rn_load1 henv ty_int rfl (hst.oat (k := 1) rfl) rfl) ?_
        refine sA (v := .int .i64 (z2 + 1 : Nat)) rfl (fun _ henv => rn_add henv rfl rfl (by rw [IntWalk.i64_in _ (by omega)]; omega)) ?_
        refine sA (v := .pointer (some ⟨g55, 2, none⟩)) rfl (fun _ henv => rn_fieldAddr henv fd_anvil_prog_Counts_2 (ty_int.size) (by decide) rfl) ?_
        intro a henv
        refine seq_step rfl (op_store1 (k := 1) (c' := #[.int .i64 (z0 : Nat), .int .i64 (z1 : Nat), .int .i64 (z2 + 1 : Nat), .int .i64 (z3 : Nat), .int .i64 (z4 : Nat)]) henv hst (ty_int.size) rfl rfl rfl (by simp) rfl rfl ?_)
        clear henv hst a; intro a w69 henv hst
        refine wpList_nil ?_
        refine bl_n (bl_n (th_n ?_))
        refine region_seq ?_
        revert a
        refine sA (v := .int .i64 (j + 1 : Nat)) rfl (fun _ henv => rn_add henv rfl rfl (by rw [IntWalk.i64_in _ (by omega)]; omega)) ?_
        refine mA rfl rfl ?_
        intro a henv
        refine wpList_nil ?_
        exact th_n ⟨_, (by omega), ⟨j + 1, z0, z1, z2 + 1, z3, z4, rfl, henv.sub ⟨rfl, rfl, rfl, rfl, rfl, rfl, trivial⟩, hst.pick [1, 2, 3] [0, 1] (by decide), (by omega), (by have hq := cn_step he0 0; rcases cl_cases a1 with h | h | h | h | h <;> simp [h.2] at hq <;> omega), (by have hq := cn_step he0 1; rcases cl_cases a1 with h | h | h | h | h <;> simp [h.2] at hq <;> omega), (by have hq := cn_step he0 2; rcases cl_cases a1 with h | h | h | h | h <;> simp [h.2] at hq <;> omega), (by have hq := cn_step he0 3; rcases cl_cases a1 with h | h | h | h | h <;> simp [h.2] at hq <;> omega), (by have hq := cn_step he0 4; rcases cl_cases a1 with h | h | h | h | h <;> simp [h.2] at hq <;> omega), (by omega)⟩⟩
      · have hx70 := ne_of_beq_false hc67
        refine wp_seq ?_
        refine region_seq ?_
        revert a
        refine sA (v := .bool (a1 == (6 : Int))) rfl (fun _ henv => rn_bin henv rfl rfl rfl) ?_
        refine aA rfl rfl ?_
        intro a henv
        refine wpList_nil ?_
        refine th_n ?_
        refine if_split henv rfl (fun hc71 => ?_) (fun hc71 => ?_)
        · have hx72 := eq_of_beq hc71
          refine region_seq ?_
          revert a
          refine sA (v := .pointer (some ⟨g55, 3, none⟩)) rfl (fun _ henv => rn_fieldAddr henv fd_anvil_prog_Counts_3 (ty_int.size) (by decide) rfl) ?_
          refine sA (v := .int .i64 (z3 : Nat)) rfl (fun _ henv => rn_load1 henv ty_int rfl (hst.oat (k := 1) rfl) rfl) ?_
          refine sA (v := .int .i64 (z3 + 1 : Nat)) rfl (fun _ henv => rn_add henv rfl rfl (by rw [IntWalk.i64_in _ (by omega)]; omega)) ?_
          refine sA (v := .pointer (some ⟨g55, 3, none⟩)) rfl (fun _ henv => rn_fieldAddr henv fd_anvil_prog_Counts_3 (ty_int.size) (by decide) rfl) ?_
          intro a henv
          refine seq_step rfl (op_store1 (k := 1) (c' := #[.int .i64 (z0 : Nat), .int .i64 (z1 : Nat), .int .i64 (z2 : Nat), .int .i64 (z3 + 1 : Nat), .int .i64 (z4 : Nat)]) henv hst (ty_int.size) rfl rfl rfl (by simp) rfl rfl ?_)
          clear henv hst a; intro a w73 henv hst
          refine wpList_nil ?_
          refine bl_n (bl_n (th_n ?_))
          refine region_seq ?_
          revert a
          refine sA (v := .int .i64 (j + 1 : Nat)) rfl (fun _ henv => rn_add henv rfl rfl (by rw [IntWalk.i64_in _ (by omega)]; omega)) ?_
          refine mA rfl rfl ?_
          intro a henv
          refine wpList_nil ?_
          exact th_n ⟨_, (by omega), ⟨j + 1, z0, z1, z2, z3 + 1, z4, rfl, henv.sub ⟨rfl, rfl, rfl, rfl, rfl, rfl, trivial⟩, hst.pick [1, 2, 3] [0, 1] (by decide), (by omega), (by have hq := cn_step he0 0; rcases cl_cases a1 with h | h | h | h | h <;> simp [h.2] at hq <;> omega), (by have hq := cn_step he0 1; rcases cl_cases a1 with h | h | h | h | h <;> simp [h.2] at hq <;> omega), (by have hq := cn_step he0 2; rcases cl_cases a1 with h | h | h | h | h <;> simp [h.2] at hq <;> omega), (by have hq := cn_step he0 3; rcases cl_cases a1 with h | h | h | h | h <;> simp [h.2] at hq <;> omega), (by have hq := cn_step he0 4; rcases cl_cases a1 with h | h | h | h | h <;> simp [h.2] at hq <;> omega), (by omega)⟩⟩
        · have hx74 := ne_of_beq_false hc71
          refine wp_seq ?_
          refine wp_seq ?_
          refine region_seq ?_
          revert a
          refine sA (v := .bool (a1 == (7 : Int))) rfl (fun _ henv => rn_bin henv rfl rfl rfl) ?_
          refine aA rfl rfl ?_
          intro a henv
          refine wpList_nil ?_
          refine th_n ?_
          refine if_split henv rfl (fun hc75 => ?_) (fun hc75 => ?_)
          · have hx76 := eq_of_beq hc75
            refine wp_skip ?_
            refine th_n ?_
            refine if_split henv rfl (fun hc77 => ?_) (fun hc77 => ?_)
            · have hx78 := eq_of_beq hc77
              refine region_seq ?_
              revert a
              refine sA (v := .pointer (some ⟨g55, 4, none⟩)) rfl (fun _ henv => rn_fieldAddr henv fd_anvil_prog_Counts_4 (ty_int.size) (by decide) rfl) ?_
              refine sA (v := .int .i64 (z4 : Nat)) rfl (fun _ henv => rn_load1 henv ty_int rfl (hst.oat (k := 1) rfl) rfl) ?_
              refine sA (v := .int .i64 (z4 + 1 : Nat)) rfl (fun _ henv => rn_add henv rfl rfl (by rw [IntWalk.i64_in _ (by omega)]; omega)) ?_
              refine sA (v := .pointer (some ⟨g55, 4, none⟩)) rfl (fun _ henv => rn_fieldAddr henv fd_anvil_prog_Counts_4 (ty_int.size) (by decide) rfl) ?_
              intro a henv
              refine seq_step rfl (op_store1 (k := 1) (c' := #[.int .i64 (z0 : Nat), .int .i64 (z1 : Nat), .int .i64 (z2 : Nat), .int .i64 (z3 : Nat), .int .i64 (z4 + 1 : Nat)]) henv hst (ty_int.size) rfl rfl rfl (by simp) rfl rfl ?_)
              clear henv hst a; intro a w79 henv hst
              refine wpList_nil ?_
              refine bl_n (bl_n (th_n ?_))
              refine region_seq ?_
              revert a
              refine sA (v := .int .i64 (j + 1 : Nat)) rfl (fun _ henv => rn_add henv rfl rfl (by rw [IntWalk.i64_in _ (by omega)]; omega)) ?_
              refine mA rfl rfl ?_
              intro a henv
              refine wpList_nil ?_
              exact th_n ⟨_, (by omega), ⟨j + 1, z0, z1, z2, z3, z4 + 1, rfl, henv.sub ⟨rfl, rfl, rfl, rfl, rfl, rfl, trivial⟩, hst.pick [1, 2, 3] [0, 1] (by decide), (by omega), (by have hq := cn_step he0 0; rcases cl_cases a1 with h | h | h | h | h <;> simp [h.2] at hq <;> omega), (by have hq := cn_step he0 1; rcases cl_cases a1 with h | h | h | h | h <;> simp [h.2] at hq <;> omega), (by have hq := cn_step he0 2; rcases cl_cases a1 with h | h | h | h | h <;> simp [h.2] at hq <;> omega), (by have hq := cn_step he0 3; rcases cl_cases a1 with h | h | h | h | h <;> simp [h.2] at hq <;> omega), (by have hq := cn_step he0 4; rcases cl_cases a1 with h | h | h | h | h <;> simp [h.2] at hq <;> omega), (by omega)⟩⟩
            · have hx80 := ne_of_beq_false hc77
              refine region_seq ?_
              revert a
              refine sA (v := .pointer (some ⟨g55, 1, none⟩)) rfl (fun _ henv => rn_fieldAddr henv fd_anvil_prog_Counts_1 (ty_int.size) (by decide) rfl) ?_
              refine sA (v := .int .i64 (z1 : Nat)) rfl (fun _ henv => rn_load1 henv ty_int rfl (hst.oat (k := 1) rfl) rfl) ?_
              refine sA (v := .int .i64 (z1 + 1 : Nat)) rfl (fun _ henv => rn_add henv rfl rfl (by rw [IntWalk.i64_in _ (by omega)]; omega)) ?_
              refine sA (v := .pointer (some ⟨g55, 1, none⟩)) rfl (fun _ henv => rn_fieldAddr henv fd_anvil_prog_Counts_1 (ty_int.size) (by decide) rfl) ?_
              intro a henv
              refine seq_step rfl (op_store1 (k := 1) (c' := #[.int .i64 (z0 : Nat), .int .i64 (z1 + 1 : Nat), .int .i64 (z2 : Nat), .int .i64 (z3 : Nat), .int .i64 (z4 : Nat)]) henv hst (ty_int.size) rfl rfl rfl (by simp) rfl rfl ?_)
              clear henv hst a; intro a w81 henv hst
              refine wpList_nil ?_
              refine bl_n (bl_n (th_n ?_))
              refine region_seq ?_
              revert a
              refine sA (v := .int .i64 (j + 1 : Nat)) rfl (fun _ henv => rn_add henv rfl rfl (by rw [IntWalk.i64_in _ (by omega)]; omega)) ?_
              refine mA rfl rfl ?_
              intro a henv
              refine wpList_nil ?_
              exact th_n ⟨_, (by omega), ⟨j + 1, z0, z1 + 1, z2, z3, z4, rfl, henv.sub ⟨rfl, rfl, rfl, rfl, rfl, rfl, trivial⟩, hst.pick [1, 2, 3] [0, 1] (by decide), (by omega), (by have hq := cn_step he0 0; rcases cl_cases a1 with h | h | h | h | h <;> simp [h.2] at hq <;> omega), (by have hq := cn_step he0 1; rcases cl_cases a1 with h | h | h | h | h <;> simp [h.2] at hq <;> omega), (by have hq := cn_step he0 2; rcases cl_cases a1 with h | h | h | h | h <;> simp [h.2] at hq <;> omega), (by have hq := cn_step he0 3; rcases cl_cases a1 with h | h | h | h | h <;> simp [h.2] at hq <;> omega), (by have hq := cn_step he0 4; rcases cl_cases a1 with h | h | h | h | h <;> simp [h.2] at hq <;> omega), (by omega)⟩⟩
          · have hx82 := ne_of_beq_false hc75
            refine region_seq ?_
            revert a
            refine sA (v := .bool (a1 == (8 : Int))) rfl (fun _ henv => rn_bin henv rfl rfl rfl) ?_
            refine aA rfl rfl ?_
            intro a henv
            refine wpList_nil ?_
            refine th_n ?_
            refine if_split henv rfl (fun hc83 => ?_) (fun hc83 => ?_)
            · have hx84 := eq_of_beq hc83
              refine region_seq ?_
              revert a
              refine sA (v := .pointer (some ⟨g55, 4, none⟩)) rfl (fun _ henv => rn_fieldAddr henv fd_anvil_prog_Counts_4 (ty_int.size) (by decide) rfl) ?_
              refine sA (v := .int .i64 (z4 : Nat)) rfl (fun _ henv => rn_load1 henv ty_int rfl (hst.oat (k := 1) rfl) rfl) ?_
              refine sA (v := .int .i64 (z4 + 1 : Nat)) rfl (fun _ henv => rn_add henv rfl rfl (by rw [IntWalk.i64_in _ (by omega)]; omega)) ?_
              refine sA (v := .pointer (some ⟨g55, 4, none⟩)) rfl (fun _ henv => rn_fieldAddr henv fd_anvil_prog_Counts_4 (ty_int.size) (by decide) rfl) ?_
              intro a henv
              refine seq_step rfl (op_store1 (k := 1) (c' := #[.int .i64 (z0 : Nat), .int .i64 (z1 : Nat), .int .i64 (z2 : Nat), .int .i64 (z3 : Nat), .int .i64 (z4 + 1 : Nat)]) henv hst (ty_int.size) rfl rfl rfl (by simp) rfl rfl ?_)
              clear henv hst a; intro a w85 henv hst
              refine wpList_nil ?_
              refine bl_n (bl_n (th_n ?_))
              refine region_seq ?_
              revert a
              refine sA (v := .int .i64 (j + 1 : Nat)) rfl (fun _ henv => rn_add henv rfl rfl (by rw [IntWalk.i64_in _ (by omega)]; omega)) ?_
              refine mA rfl rfl ?_
              intro a henv
              refine wpList_nil ?_
              exact th_n ⟨_, (by omega), ⟨j + 1, z0, z1, z2, z3, z4 + 1, rfl, henv.sub ⟨rfl, rfl, rfl, rfl, rfl, rfl, trivial⟩, hst.pick [1, 2, 3] [0, 1] (by decide), (by omega), (by have hq := cn_step he0 0; rcases cl_cases a1 with h | h | h | h | h <;> simp [h.2] at hq <;> omega), (by have hq := cn_step he0 1; rcases cl_cases a1 with h | h | h | h | h <;> simp [h.2] at hq <;> omega), (by have hq := cn_step he0 2; rcases cl_cases a1 with h | h | h | h | h <;> simp [h.2] at hq <;> omega), (by have hq := cn_step he0 3; rcases cl_cases a1 with h | h | h | h | h <;> simp [h.2] at hq <;> omega), (by have hq := cn_step he0 4; rcases cl_cases a1 with h | h | h | h | h <;> simp [h.2] at hq <;> omega), (by omega)⟩⟩
            · have hx86 := ne_of_beq_false hc83
              refine region_seq ?_
              revert a
              refine sA (v := .pointer (some ⟨g55, 1, none⟩)) rfl (fun _ henv => rn_fieldAddr henv fd_anvil_prog_Counts_1 (ty_int.size) (by decide) rfl) ?_
              refine sA (v := .int .i64 (z1 : Nat)) rfl (fun _ henv => rn_load1 henv ty_int rfl (hst.oat (k := 1) rfl) rfl) ?_
              refine sA (v := .int .i64 (z1 + 1 : Nat)) rfl (fun _ henv => rn_add henv rfl rfl (by rw [IntWalk.i64_in _ (by omega)]; omega)) ?_
              refine sA (v := .pointer (some ⟨g55, 1, none⟩)) rfl (fun _ henv => rn_fieldAddr henv fd_anvil_prog_Counts_1 (ty_int.size) (by decide) rfl) ?_
              intro a henv
              refine seq_step rfl (op_store1 (k := 1) (c' := #[.int .i64 (z0 : Nat), .int .i64 (z1 + 1 : Nat), .int .i64 (z2 : Nat), .int .i64 (z3 : Nat), .int .i64 (z4 : Nat)]) henv hst (ty_int.size) rfl rfl rfl (by simp) rfl rfl ?_)
              clear henv hst a; intro a w87 henv hst
              refine wpList_nil ?_
              refine bl_n (bl_n (th_n ?_))
              refine region_seq ?_
              revert a
              refine sA (v := .int .i64 (j + 1 : Nat)) rfl (fun _ henv => rn_add henv rfl rfl (by rw [IntWalk.i64_in _ (by omega)]; omega)) ?_
              refine mA rfl rfl ?_
              intro a henv
              refine wpList_nil ?_
              exact th_n ⟨_, (by omega), ⟨j + 1, z0, z1 + 1, z2, z3, z4, rfl, henv.sub ⟨rfl, rfl, rfl, rfl, rfl, rfl, trivial⟩, hst.pick [1, 2, 3] [0, 1] (by decide), (by omega), (by have hq := cn_step he0 0; rcases cl_cases a1 with h | h | h | h | h <;> simp [h.2] at hq <;> omega), (by have hq := cn_step he0 1; rcases cl_cases a1 with h | h | h | h | h <;> simp [h.2] at hq <;> omega), (by have hq := cn_step he0 2; rcases cl_cases a1 with h | h | h | h | h <;> simp [h.2] at hq <;> omega), (by have hq := cn_step he0 3; rcases cl_cases a1 with h | h | h | h | h <;> simp [h.2] at hq <;> omega), (by have hq := cn_step he0 4; rcases cl_cases a1 with h | h | h | h | h <;> simp [h.2] at hq <;> omega), (by omega)⟩⟩
  · obtain rfl : n0 = j := by have := of_decide_eq_false hc59; omega
    refine wp_exit ?_
    refine th_x (th_x (bl_x (th_n ?_)))
    refine wp_seq ?_
    refine region_seq ?_
    refine sv (v := .agg #[.int .i64 (z0 : Nat), .int .i64 (z1 : Nat), .int .i64 (z2 : Nat), .int .i64 (z3 : Nat), .int .i64 (z4 : Nat)]) henv rfl (rn_load0 henv ty_anvil_prog_Counts rfl (hst.oat (k := 0) rfl) rfl) ?_
    clear henv a; intro a henv
    refine seq_step rfl (op_store (k := 1) (c' := #[.int .i64 (z0 : Nat), .int .i64 (z1 : Nat), .int .i64 (z2 : Nat), .int .i64 (z3 : Nat), .int .i64 (z4 : Nat)]) henv hst (ty_anvil_prog_Counts.size) rfl rfl rfl rfl (by simp) rfl rfl ?_)
    clear henv hst a; intro a w88 henv hst
    refine sv (v := .int .i64 0) henv rfl (rn_assign henv rfl) ?_
    clear henv a; intro a henv
    refine wpList_nil ?_
    refine th_n ?_
    refine wp_ret ?_
    refine leave henv (res2 Tryd.results26 (RV.cell henv ty_anvil_prog_Counts rfl (hst.oat (k := 1) rfl) rfl) (RV.tmp henv rfl)) ?_
    subst hz0 hz1 hz2 hz3 hz4
    exact ⟨rfl, hst.below⟩
set_option maxRecDepth 100000 in
set_option maxHeartbeats 4000000 in
theorem r_count {i g : Int} {A0 A1 : Option Addr} {n0 c0 n1 c1 : Nat} {es0 : List IE} {es1 : List Int} {w0 : World} (h0 : (pfRow fJ FJ 5 A0 n0 c0 es0).P w0) (h1 : (pfRow fI FI 1 A1 n1 c1 es1).P w0) (hR : Right i g n0 n1 es0 es1) :
    Calls Tryd.prog 28 #[.agg #[.int .i64 i, .int .i64 g, .slice A0 n0 c0, .slice A1 n1 c1]] w0 fun e w' => e = .returned (.agg #[.int .i64 ((cnN es0 n0 0 : Nat) : Int), .int .i64 ((cnN es0 n0 1 : Nat) : Int), .int .i64 ((cnN es0 n0 2 : Nat) : Int), .int .i64 ((cnN es0 n0 3 : Nat) : Int), .int .i64 ((cnN es0 n0 4 : Nat) : Int)]) ∧ Below w0.heap.size w0 w' := by
  obtain ⟨hh1, hh2, hh3, hh4, hh5, hh6⟩ := hR.1
  refine enter Tryd.func28 rfl Tryd.ntmps28 rfl ?_
  intro a henv hst
  have hlen0 := h0.2.1
  have hbig0 := Nat.le_trans h0.1.cap h0.1.big
  unfold maxLen at hbig0
  have hlen1 := h1.2.1
  have hbig1 := Nat.le_trans h1.1.cap h1.1.big
  unfold maxLen at hbig1
  replace hst := hst.argRow h0
  replace hst := hst.argRow h1
  clear h0 h1
  refine wp_seq ?_
  refine region_seq ?_
  refine seq_step rfl (op_box (c := #[.int .i64 i, .int .i64 g, .slice A0 n0 c0, .slice A1 n1 c1]) henv hst rfl rfl rfl ?_)
  clear henv hst a; intro a w52 g51 henv hst
  refine seq_step rfl (op_alloc (c := #[.int .i64 0, .int .i64 0, .int .i64 0, .int .i64 0, .int .i64 0]) henv hst rfl zero__5_int rfl ?_)
  clear henv hst a; intro a w54 g53 henv hst
  refine wpList_nil ?_
  refine th_n ?_
  refine wp_seq ?_
  refine region_seq ?_
  refine seq_step rfl (op_alloc (c := #[.int .i64 0, .int .i64 0, .int .i64 0, .int .i64 0, .int .i64 0]) henv hst rfl zero__5_int rfl ?_)
  clear henv hst a; intro a w56 g55 henv hst
  refine wpList_nil ?_
  refine th_n ?_
  refine wp_seq ?_
  refine wp_seq ?_
  refine region_seq ?_
  refine sv (v := .int .i64 0) henv rfl (rn_assign henv rfl) ?_
  clear henv a; intro a henv
  refine wpList_nil ?_
  refine th_n ?_
  refine wp_block ?_
  refine wp_loop_ghost (fun mz a w => ∃ j : Nat, ∃ z0 : Nat, ∃ z1 : Nat, ∃ z2 : Nat, ∃ z3 : Nat, ∃ z4 : Nat, n0 - j = mz ∧ Env 48 a [(1, .pointer (some ⟨g51, 0, none⟩)), (2, .pointer (some ⟨g53, 0, none⟩)), (3, .pointer (some ⟨g55, 0, none⟩)), (4, .int .i64 (j : Nat))] ∧ St w0 w [bk g55 #[.int .i64 (z0 : Nat), .int .i64 (z1 : Nat), .int .i64 (z2 : Nat), .int .i64 (z3 : Nat), .int .i64 (z4 : Nat)] 51, bk g53 #[.int .i64 0, .int .i64 0, .int .i64 0, .int .i64 0, .int .i64 0] 51, bk g51 #[.int .i64 i, .int .i64 g, .slice A0 n0 c0, .slice A1 n1 c1] 25] [pfRow fI FI 1 A1 n1 c1 es1, pfRow fJ FJ 5 A0 n0 c0 es0] ∧ j ≤ n0 ∧ z0 = cnN es0 j 0 ∧ z1 = cnN es0 j 1 ∧ z2 = cnN es0 j 2 ∧ z3 = cnN es0 j 3 ∧ z4 = cnN es0 j 4 ∧ z0 ≤ j ∧ z1 ≤ j ∧ z2 ≤ j ∧ z3 ≤ j ∧ z4 ≤ j) _ ⟨0, 0, 0, 0, 0, 0, rfl, henv.sub ⟨rfl, rfl, rfl, rfl, trivial⟩, hst.pick [0, 1, 2] [0, 1] (by decide), (Nat.zero_le _), rfl, rfl, rfl, rfl, rfl, (by omega)⟩ ?_
  clear henv hst a
  rintro mz a w57 ⟨j, z0, z1, z2, z3, z4, rfl, henv, hst, hj, hz0, hz1, hz2, hz3, hz4, hzj⟩
  refine wp_seq ?_
  refine wp_seq ?_
  refine region_seq ?_
  revert a
  refine mA rfl rfl ?_
  refine sA (v := .pointer (some ⟨g51, 2, none⟩)) rfl (fun _ henv => rn_fieldAddr henv fd_anvil_api_Prog_2 (ty__api_Instr.size) (by decide) rfl) ?_
  refine sA (v := .slice A0 n0 c0) rfl (fun _ henv => rn_load1 henv ty__api_Instr rfl (hst.oat (k := 2) rfl) rfl) ?_
  refine sA (v := .int .i64 (n0 : Nat)) rfl (fun _ henv => rn_len henv Tryd.underlying22 rfl) ?_
  refine sA (v := .bool (decide (((j : Nat) : Int) < ((n0 : Nat) : Int)))) rfl (fun _ henv => rn_bin henv rfl rfl rfl) ?_
  intro a henv
  refine wpList_nil ?_
  refine th_n ?_
  refine if_split henv rfl (fun hc58 => ?_) (fun hc58 => ?_)
  · have hlt : j < n0 := by have := of_decide_eq_true hc58; omega
    obtain ⟨⟨a1, a2, a3, a4, a5⟩, he0⟩ : ∃ e, es0[j]? = some e := ⟨_, List.getElem?_eq_getElem (by omega)⟩
    have hmy : May (a1, a2, a3, a4, a5) g := hR.2.2 _ (List.mem_of_getElem? he0)
    have hop : 1 ≤ a1 ∧ a1 ≤ 8 := ⟨hmy.1, hmy.2.1⟩
    refine wp_skip ?_
    refine th_n ?_
    refine wp_seq ?_
    refine wp_block ?_
    refine wp_seq ?_
    refine region_seq ?_
    revert a
    refine sA (v := .pointer (some ⟨g51, 2, none⟩)) rfl (fun _ henv => rn_fieldAddr henv fd_anvil_api_Prog_2 (ty__api_Instr.size) (by decide) rfl) ?_
    refine sA (v := .slice A0 n0 c0) rfl (fun _ henv => rn_load1 henv ty__api_Instr rfl (hst.oat (k := 2) rfl) rfl) ?_
    refine mA rfl rfl ?_
    refine sA (v := .pointer (some ⟨ab A0, ao A0 + j * 5, none⟩)) rfl (fun _ henv => rn_idxR (i := j) henv Tryd.underlying22 (ty_anvil_api_Instr.size) rfl rfl (by omega) rfl (show (pfRow fJ FJ 5 A0 n0 c0 es0).P _ from (hst.pat (k := 1) rfl)).1) ?_
    refine sA (v := .pointer (some ⟨ab A0, ao A0 + j * 5 + 0, none⟩)) rfl (fun _ henv => rn_fieldAddr henv fd_anvil_api_Instr_0 (ty_int.size) (by decide) rfl) ?_
    refine sA (v := .int .i64 a1) rfl (fun _ henv => rn_loadE1 (i := j) (j := 0) (e := (a1, a2, a3, a4, a5)) henv ty_int rfl rfl fJ_len (by decide) (show (pfRow fJ FJ 5 A0 n0 c0 es0).P _ from (hst.pat (k := 1) rfl)).1 (by omega) he0 rfl) ?_
    refine aA rfl rfl ?_
    intro a henv
    refine wpList_nil ?_
    refine th_n ?_
    refine wp_seq ?_
    refine region_seq ?_
    revert a
    refine mA rfl rfl ?_
    refine sA (v := .bool (a1 == (1 : Int))) rfl (fun _ henv => rn_bin henv rfl rfl rfl) ?_
    intro a henv
    refine wpList_nil ?_
    refine th_n ?_
    refine if_split henv rfl (fun hc59 => ?_) (fun hc59 => ?_)
    · have hx60 := eq_of_beq hc59
      refine region_seq ?_
      revert a
      refine sA (v := .pointer (some ⟨g55, 0, none⟩)) rfl (fun _ henv => rn_idxA (i := 0) henv Tryd.underlying51 (ty_int.size) rfl rfl (by omega) (by omega)) ?_
      refine sA (v := .int .i64 (z0 : Nat)) rfl (fun _ henv => rn_load1 henv ty_int rfl (hst.oat (k := 0) rfl) rfl) ?_
      refine sA (v := .int .i64 (z0 + 1 : Nat)) rfl (fun _ henv => rn_add henv rfl rfl (by rw [IntWalk.i64_in _ (by omega)]; omega)) ?_
      refine sA (v := .pointer (some ⟨g55, 0, none⟩)) rfl (fun _ henv => rn_idxA (i := 0) henv Tryd.underlying51 (ty_int.size) rfl rfl (by omega) (by omega)) ?_
      intro a henv
      refine seq_step rfl (op_store1 (k := 0) (c' := #[.int .i64 (z0 + 1 : Nat), .int .i64 (z1 : Nat), .int .i64 (z2 : Nat), .int .i64 (z3 : Nat), .int .i64 (z4 : Nat)]) henv hst (ty_int.size) rfl rfl rfl (by simp) rfl rfl ?_)
      clear henv hst a; intro a w61 henv hst
      refine wpList_nil ?_
      refine bl_n (th_n ?_)
      refine region_seq ?_
      revert a
      refine mA rfl rfl ?_
      refine sA (v := .int .i64 (j + 1 : Nat)) rfl (fun _ henv => rn_add henv rfl rfl (by rw [IntWalk.i64_in _ (by omega)]; omega)) ?_
      refine aA rfl rfl ?_
      intro a henv
      refine wpList_nil ?_
      exact th_n ⟨_, (by omega), ⟨j + 1, z0 + 1, z1, z2, z3, z4, rfl, henv.sub ⟨rfl, rfl, rfl, rfl, trivial⟩, hst.pick [0, 1, 2] [0, 1] (by decide), (by omega), (by have hq := cn_step he0 0; rcases cl_cases a1 with h | h | h | h | h <;> simp [h.2] at hq <;> omega), (by have hq := cn_step he0 1; rcases cl_cases a1 with h | h | h | h | h <;> simp [h.2] at hq <;> omega), (by have hq := cn_step he0 2; rcases cl_cases a1 with h | h | h | h | h <;> simp [h.2] at hq <;> omega), (by have hq := cn_step he0 3; rcases cl_cases a1 with h | h | h | h | h <;> simp [h.2] at hq <;> omega), (by have hq := cn_step he0 4; rcases cl_cases a1 with h | h | h | h | h <;> simp [h.2] at hq <;> omega), (by omega)⟩⟩
    · have hx62 := ne_of_beq_false hc59
      refine wp_seq ?_
      refine region_seq ?_
      revert a
      refine mA rfl rfl ?_
      refine sA (v := .bool (decide (a1 ≤ (4 : Int)))) rfl (fun _ henv => rn_bin henv rfl rfl rfl) ?_
      intro a henv
      refine wpList_nil ?_
      refine th_n ?_
      refine if_split henv rfl (fun hc63 => ?_) (fun hc63 => ?_)
      · have hx64 := of_decide_eq_true hc63
        refine region_seq ?_
        revert a
        refine sA (v := .pointer (some ⟨g55, 1, none⟩)) rfl (fun _ henv => rn_idxA (i := 1) henv Tryd.underlying51 (ty_int.size) rfl rfl (by omega) (by omega)) ?_
        refine sA (v := .int .i64 (z1 : Nat)) rfl (fun _ henv => rn_load1 henv ty_int rfl (hst.oat (k := 0) rfl) rfl) ?_
        refine sA (v := .int .i64 (z1 + 1 : Nat)) rfl (fun _ henv => rn_add henv rfl rfl (by rw [IntWalk.i64_in _ (by omega)]; omega)) ?_
        refine sA (v := .pointer (some ⟨g55, 1, none⟩)) rfl (fun _ henv => rn_idxA (i := 1) henv Tryd.underlying51 (ty_int.size) rfl rfl (by omega) (by omega)) ?_
        intro a henv
        refine seq_step rfl (op_store1 (k := 0) (c' := #[.int .i64 (z0 : Nat), .int .i64 (z1 + 1 : Nat), .int .i64 (z2 : Nat), .int .i64 (z3 : Nat), .int .i64 (z4 : Nat)]) henv hst (ty_int.size) rfl rfl rfl (by simp) rfl rfl ?_)
        clear henv hst a; intro a w65 henv hst
        refine wpList_nil ?_
        refine bl_n (th_n ?_)
        refine region_seq ?_
        revert a
        refine mA rfl rfl ?_
        refine sA (v := .int .i64 (j + 1 : Nat)) rfl (fun _ henv => rn_add henv rfl rfl (by rw [IntWalk.i64_in _ (by omega)]; omega)) ?_
        refine aA rfl rfl ?_
        intro a henv
        refine wpList_nil ?_
        exact th_n ⟨_, (by omega), ⟨j + 1, z0, z1 + 1, z2, z3, z4, rfl, henv.sub ⟨rfl, rfl, rfl, rfl, trivial⟩, hst.pick [0, 1, 2] [0, 1] (by decide), (by omega), (by have hq := cn_step he0 0; rcases cl_cases a1 with h | h | h | h | h <;> simp [h.2] at hq <;> omega), (by have hq := cn_step he0 1; rcases cl_cases a1 with h | h | h | h | h <;> simp [h.2] at hq <;> omega), (by have hq := cn_step he0 2; rcases cl_cases a1 with h | h | h | h | h <;> simp [h.2] at hq <;> omega), (by have hq := cn_step he0 3; rcases cl_cases a1 with h | h | h | h | h <;> simp [h.2] at hq <;> omega), (by have hq := cn_step he0 4; rcases cl_cases a1 with h | h | h | h | h <;> simp [h.2] at hq <;> omega), (by omega)⟩⟩
      · have hx66 := of_decide_eq_false hc63
        refine wp_seq ?_
        refine region_seq ?_
        revert a
        refine mA rfl rfl ?_
        refine sA (v := .bool (a1 == (5 : Int))) rfl (fun _ henv => rn_bin henv rfl rfl rfl) ?_
        intro a henv
        refine wpList_nil ?_
        refine th_n ?_
        refine if_split henv rfl (fun hc67 => ?_) (fun hc67 => ?_)
        · have hx68 := eq_of_beq hc67
          refine region_seq ?_
          revert a
          refine sA (v := .pointer (some ⟨g55, 2, none⟩)) rfl (fun _ henv => rn_idxA (i := 2) henv Tryd.underlying51 (ty_int.size) rfl rfl (by omega) (by omega)) ?_
          refine sA (v := .int .i64 (z2 : Nat)) rfl (fun _ henv => rn_load1 henv ty_int rfl (hst.oat (k := 0) rfl) rfl) ?_
          refine sA (v := .int .i64 (z2 + 1 : Nat)) rfl (fun _ henv => rn_add henv rfl rfl (by rw [IntWalk.i64_in _ (by omega)]; omega)) ?_
          refine sA (v := .pointer (some ⟨g55, 2, none⟩)) rfl (fun _ henv => rn_idxA (i := 2) henv Tryd.underlying51 (ty_int.size) rfl rfl (by omega) (by omega)) ?_
          intro a henv
          refine seq_step rfl (op_store1 (k := 0) (c' := #[.int .i64 (z0 : Nat), .int .i64 (z1 : Nat), .int .i64 (z2 + 1 : Nat), .int .i64 (z3 : Nat), .int .i64 (z4 : Nat)]) henv hst (ty_int.size) rfl rfl rfl (by simp) rfl rfl ?_)
          clear henv hst a; intro a w69 henv hst
          refine wpList_nil ?_
          refine bl_n (th_n ?_)
          refine region_seq ?_
          revert a
          refine mA rfl rfl ?_
          refine sA (v := .int .i64 (j + 1 : Nat)) rfl (fun _ henv => rn_add henv rfl rfl (by rw [IntWalk.i64_in _ (by omega)]; omega)) ?_
          refine aA rfl rfl ?_
          intro a henv
          refine wpList_nil ?_
          exact th_n ⟨_, (by omega), ⟨j + 1, z0, z1, z2 + 1, z3, z4, rfl, henv.sub ⟨rfl, rfl, rfl, rfl, trivial⟩, hst.pick [0, 1, 2] [0, 1] (by decide), (by omega), (by have hq := cn_step he0 0; rcases cl_cases a1 with h | h | h | h | h <;> simp [h.2] at hq <;> omega), (by have hq := cn_step he0 1; rcases cl_cases a1 with h | h | h | h | h <;> simp [h.2] at hq <;> omega), (by have hq := cn_step he0 2; rcases cl_cases a1 with h | h | h | h | h <;> simp [h.2] at hq <;> omega), (by have hq := cn_step he0 3; rcases cl_cases a1 with h | h | h | h | h <;> simp [h.2] at hq <;> omega), (by have hq := cn_step he0 4; rcases cl_cases a1 with h | h | h | h | h <;> simp [h.2] at hq <;> omega), (by omega)⟩⟩
        · have hx70 := ne_of_beq_false hc67
          refine wp_seq ?_
          refine region_seq ?_
          revert a
          refine mA rfl rfl ?_
          refine sA (v := .bool (a1 == (6 : Int))) rfl (fun _ henv => rn_bin henv rfl rfl rfl) ?_
          intro a henv
          refine wpList_nil ?_
          refine th_n ?_
          refine if_split henv rfl (fun hc71 => ?_) (fun hc71 => ?_)
          · have hx72 := eq_of_beq hc71
            refine region_seq ?_
            revert a
            refine sA (v := .pointer (some ⟨g55, 3, none⟩)) rfl (fun _ henv => rn_idxA (i := 3) henv Tryd.underlying51 (ty_int.size) rfl rfl (by omega) (by omega)) ?_
            refine sA (v := .int .i64 (z3 : Nat)) rfl (fun _ henv => rn_load1 henv ty_int rfl (hst.oat (k := 0) rfl) rfl) ?_
            refine sA (v := .int .i64 (z3 + 1 : Nat)) rfl (fun _ henv => rn_add henv rfl rfl (by rw [IntWalk.i64_in _ (by omega)]; omega)) ?_
            refine sA (v := .pointer (some ⟨g55, 3, none⟩)) rfl (fun _ henv => rn_idxA (i := 3) henv Tryd.underlying51 (ty_int.size) rfl rfl (by omega) (by omega)) ?_
            intro a henv
            refine seq_step rfl (op_store1 (k := 0) (c' := #[.int .i64 (z0 : Nat), .int .i64 (z1 : Nat), .int .i64 (z2 : Nat), .int .i64 (z3 + 1 : Nat), .int .i64 (z4 : Nat)]) henv hst (ty_int.size) rfl rfl rfl (by simp) rfl rfl ?_)
            clear henv hst a; intro a w73 henv hst
            refine wpList_nil ?_
            refine bl_n (th_n ?_)
            refine region_seq ?_
            revert a
            refine mA rfl rfl ?_
            refine sA (v := .int .i64 (j + 1 : Nat)) rfl (fun _ henv => rn_add henv rfl rfl (by rw [IntWalk.i64_in _ (by omega)]; omega)) ?_
            refine aA rfl rfl ?_
            intro a henv
            refine wpList_nil ?_
            exact th_n ⟨_, (by omega), ⟨j + 1, z0, z1, z2, z3 + 1, z4, rfl, henv.sub ⟨rfl, rfl, rfl, rfl, trivial⟩, hst.pick [0, 1, 2] [0, 1] (by decide), (by omega), (by have hq := cn_step he0 0; rcases cl_cases a1 with h | h | h | h | h <;> simp [h.2] at hq <;> omega), (by have hq := cn_step he0 1; rcases cl_cases a1 with h | h | h | h | h <;> simp [h.2] at hq <;> omega), (by have hq := cn_step he0 2; rcases cl_cases a1 with h | h | h | h | h <;> simp [h.2] at hq <;> omega), (by have hq := cn_step he0 3; rcases cl_cases a1 with h | h | h | h | h <;> simp [h.2] at hq <;> omega), (by have hq := cn_step he0 4; rcases cl_cases a1 with h | h | h | h | h <;> simp [h.2] at hq <;> omega), (by omega)⟩⟩
          · have hx74 := ne_of_beq_false hc71
            refine region_seq ?_
            revert a
            refine sA (v := .pointer (some ⟨g55, 4, none⟩)) rfl (fun _ henv => rn_idxA (i := 4) henv Tryd.underlying51 (ty_int.size) rfl rfl (by omega) (by omega)) ?_
            refine sA (v := .int .i64 (z4 : Nat)) rfl (fun _ henv => rn_load1 henv ty_int rfl (hst.oat (k := 0) rfl) rfl) ?_
            refine sA (v := .int .i64 (z4 + 1 : Nat)) rfl (fun _ henv => rn_add henv rfl rfl (by rw [IntWalk.i64_in _ (by omega)]; omega)) ?_
            refine sA (v := .pointer (some ⟨g55, 4, none⟩)) rfl (fun _ henv => rn_idxA (i := 4) henv Tryd.underlying51 (ty_int.size) rfl rfl (by omega) (by omega)) ?_
            intro a henv
            refine seq_step rfl (op_store1 (k := 0) (c' := #[.int .i64 (z0 : Nat), .int .i64 (z1 : Nat), .int .i64 (z2 : Nat), .int .i64 (z3 : Nat), .int .i64 (z4 + 1 : Nat)]) henv hst (ty_int.size) rfl rfl rfl (by simp) rfl rfl ?_)
            clear henv hst a; intro a w75 henv hst
            refine wpList_nil ?_
            refine bl_n (th_n ?_)
            refine region_seq ?_
            revert a
            refine mA rfl rfl ?_
            refine sA (v := .int .i64 (j + 1 : Nat)) rfl (fun _ henv => rn_add henv rfl rfl (by rw [IntWalk.i64_in _ (by omega)]; omega)) ?_
            refine aA rfl rfl ?_
            intro a henv
            refine wpList_nil ?_
            exact th_n ⟨_, (by omega), ⟨j + 1, z0, z1, z2, z3, z4 + 1, rfl, henv.sub ⟨rfl, rfl, rfl, rfl, trivial⟩, hst.pick [0, 1, 2] [0, 1] (by decide), (by omega), (by have hq := cn_step he0 0; rcases cl_cases a1 with h | h | h | h | h <;> simp [h.2] at hq <;> omega), (by have hq := cn_step he0 1; rcases cl_cases a1 with h | h | h | h | h <;> simp [h.2] at hq <;> omega), (by have hq := cn_step he0 2; rcases cl_cases a1 with h | h | h | h | h <;> simp [h.2] at hq <;> omega), (by have hq := cn_step he0 3; rcases cl_cases a1 with h | h | h | h | h <;> simp [h.2] at hq <;> omega), (by have hq := cn_step he0 4; rcases cl_cases a1 with h | h | h | h | h <;> simp [h.2] at hq <;> omega), (by omega)⟩⟩
  · obtain rfl : n0 = j := by have := of_decide_eq_false hc58; omega
    refine wp_exit ?_
    refine th_x (th_x (bl_x (th_n ?_)))
    refine wp_seq ?_
    refine region_seq ?_
    refine sv (v := .agg #[.int .i64 (z0 : Nat), .int .i64 (z1 : Nat), .int .i64 (z2 : Nat), .int .i64 (z3 : Nat), .int .i64 (z4 : Nat)]) henv rfl (rn_load0 henv ty__5_int rfl (hst.oat (k := 0) rfl) rfl) ?_
    clear henv a; intro a henv
    refine seq_step rfl (op_store (k := 1) (c' := #[.int .i64 (z0 : Nat), .int .i64 (z1 : Nat), .int .i64 (z2 : Nat), .int .i64 (z3 : Nat), .int .i64 (z4 : Nat)]) henv hst (ty__5_int.size) rfl rfl rfl rfl (by simp) rfl rfl ?_)
    clear henv hst a; intro a w76 henv hst
    refine wpList_nil ?_
    refine th_n ?_
    refine wp_ret ?_
    refine leave henv (res1 Tryd.results28 (RV.cell henv ty__5_int rfl (hst.oat (k := 1) rfl) rfl)) ?_
    subst hz0 hz1 hz2 hz3 hz4
    exact ⟨rfl, hst.below⟩
end Go.Proofs.YtbdngknpngcojaaDoor.W
