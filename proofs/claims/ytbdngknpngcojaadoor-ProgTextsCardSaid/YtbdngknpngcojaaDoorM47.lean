/- strings.Join at a blank; row.Text. Printed by pv/gen_rtx2.py. No condition. -/
import Derived.Test.YtbdngknpngcojaaDoorM45
import Derived.Test.YtbdngknpngcojaaDoorM15
import Derived.Test.YtbdngknpngcojaaDoorM46
import Derived.Test.YtbdngknpngcojaaDoorM31
import Derived.Test.YtbdngknpngcojaaDoorM6
import Derived.Test.YtbdngknpngcojaaDoorM36
import Derived.Test.YtbdngknpngcojaaDoorM12

namespace Go.Proofs.YtbdngknpngcojaaDoor.W
open Go.RowKit Anv Go.Lib
def jt (s : List UInt8) (r : List (List UInt8)) (k : Nat) : List UInt8 := s ++ (r.take k).flatMap fun t => 32 :: t
def textRow (zs : List Int) : List UInt8 := 91 :: (jn (zs.map textZ) ++ [93])
end Go.Proofs.YtbdngknpngcojaaDoor.W

/- row.Zero, Unit, IsZero; the laws' live; RowMakes. Printed by pv/gen_row2.py. No condition. -/
namespace Go.Proofs.YtbdngknpngcojaaDoor.W
open Go.RowKit Anv Go.Lib
def allz (es : List NE) : Bool := es.all fun e => decide (zz e = 0)
end Go.Proofs.YtbdngknpngcojaaDoor.W

/- The laws' long. Printed by pv/gen_row4.py. No condition. -/
namespace Go.Proofs.YtbdngknpngcojaaDoor.W
open Go.RowKit Anv Go.Lib
abbrev VE := Option Addr × Nat × Nat × List UE
def fV (v : VE) : List Value := [.slice v.1 v.2.1 v.2.2.1]
def FV (v : VE) : PF := pfRow fU FU 2 v.1 v.2.1 v.2.2.1 v.2.2.2
def tl (us : List UE) : Nat := (us.map fun e => e.2.2.1).sum
def tv (vs : List VE) : Nat := (vs.map fun v => v.2.1 + tl v.2.2.2).sum
def vz (e : UE) : Int := sg e.1 (val 4294967296 e.2.2.2.2)
end Go.Proofs.YtbdngknpngcojaaDoor.W

/- row.Cmp, Same; the reference's Cmp, Same, IsZero. Printed by pv/gen_row5.py. No condition. -/
namespace Go.Proofs.YtbdngknpngcojaaDoor.W
open Go.RowKit Anv Go.Lib
def lexc : List Int → List Int → Int
  | x :: xs, y :: ys => if (x - y).sign = 0 then lexc xs ys else (x - y).sign
  | _, _ => 0
def cmpR (xs ys : List Int) : Int := if xs.length < ys.length then -1 else if ys.length < xs.length then 1 else lexc xs ys
end Go.Proofs.YtbdngknpngcojaaDoor.W

/- row.Widest, anvilref04.Widest. Printed by pv/gen_row6.py. No condition. -/
namespace Go.Proofs.YtbdngknpngcojaaDoor.W
open Go.RowKit Anv Go.Lib
def wid (zs : List Int) : Int := zs.foldl (fun w z => if w < (z.natAbs : Int) then (z.natAbs : Int) else w) 0
end Go.Proofs.YtbdngknpngcojaaDoor.W

/- What the law RowHolds needs, with no program in sight but the shape of the memory. No condition. -/
namespace Go.Proofs.YtbdngknpngcojaaDoor.W
open Go.RowKit Anv Go.Lib
theorem St.fresh2 {α β : Type} {f : α → List Value} {F : α → PF} {f' : β → List Value} {F' : β → PF} {es : List α} {es' : List β} {q q' : Value → Bool} {E E' z z' n n' c c' : Nat} {A A' : Option Addr} {w0 w w' : World} {own ps : List PF} (h : St w0 w own ps) (hb : Below w.heap.size w w')
    (hr : NewRow q E z f F w.heap.size w' A n c es) (hl : es.length = n) (hE : ∀ o ∈ own, ∀ b, o.foot b → o.P w' → ¬ (pfEs F es).foot b)
    (hr' : NewRow q' E' z' f' F' w.heap.size w' A' n' c' es') (hl' : es'.length = n') (hE' : ∀ o ∈ own, ∀ b, o.foot b → o.P w' → ¬ (pfEs F' es').foot b) :
    St w0 w' own (pfRow f' F' z' A' n' c' es' :: pfRow f F z A n c es :: ps) :=
  (h.freshRd hb hr hl hE).addP _ ((h.freshRd hb hr' hl' hE').pat (k := 0) rfl) fun o ho b h1 h2 => (h.freshRd hb hr' hl' hE').apart _ (List.mem_cons_self ..) o ho b h1 h2
theorem tl_mem {us : List UE} {e : UE} (h : e ∈ us) : e.2.2.1 ≤ tl us := by
  induction us with
  | nil => cases h
  | cons x us ih =>
    unfold tl at *
    rw [List.map_cons, List.sum_cons]
    rcases List.mem_cons.1 h with rfl | h
    · omega
    · have := ih h; omega
end Go.Proofs.YtbdngknpngcojaaDoor.W

/- What the laws of rows need of the memory: rows of rows written out, numbers written out, sizes. No program but the shape of the memory. No condition. -/
namespace Go.Proofs.YtbdngknpngcojaaDoor.W
open Go.RowKit Anv Go.Lib
theorem zl_vze {w : World} {b : Bool} {A : Option Addr} {n c k : Nat} {xs : List Nat} (h : U32 w A n c xs) (hn : n ≤ k) : zl (sg b (val 4294967296 xs)) ≤ k := by
  have h2 := nl_val h
  have e : zl (sg b (val 4294967296 xs)) = nl (val 4294967296 xs) := by
    unfold sg zl
    split
    · rw [Int.natAbs_neg, Int.natAbs_natCast]
    · rw [Int.natAbs_natCast]
  omega
def Zk (k : Nat) (zs : List Int) : Prop := ∀ z ∈ zs, zl z ≤ k
theorem Zk.es {k : Nat} {es : List NE} {zs : List Int} (h : Zk k zs) (e : es.map zz = zs) : ZB k es := fun x hx => h (zz x) (e ▸ List.mem_map_of_mem hx)
theorem Zk.mono {k m : Nat} {zs : List Int} (h : Zk k zs) (hm : k ≤ m) : Zk m zs := fun z hz => Nat.le_trans (h z hz) hm
theorem Zk.map {k m : Nat} {zs : List Int} {f : Int → Int} (h : Zk k zs) (hf : ∀ z, zl z ≤ k → zl (f z) ≤ m) : Zk m (zs.map f) := fun x hx => by
  obtain ⟨z, hz, rfl⟩ := List.mem_map.1 hx
  exact hf z (h z hz)
theorem Zk.vz {es : List UE} {k : Nat} {w : World} (h : (pfEs FU es).P w) (ht : tl es ≤ k) : Zk k (es.map vz) := by
  intro z hz
  obtain ⟨e, he, rfl⟩ := List.mem_map.1 hz
  have h1 : U32 w e.2.1 e.2.2.1 e.2.2.2.1 e.2.2.2.2 := h e he
  exact zl_vze h1 (Nat.le_trans (tl_mem he) ht)
theorem Zk.prim {k : Nat} {zs : List Int} (h : Zk k zs) : Zk k (prim zs) := h.map fun _ hz => Nat.le_trans (zl_ediv _ _) hz
theorem Zk.take {k : Nat} {zs : List Int} (h : Zk k zs) (j : Nat) : Zk k (zs.take j) := fun z hz => h z (List.mem_of_mem_take hz)
end Go.Proofs.YtbdngknpngcojaaDoor.W

/- prog's may, Asks, Check; the reference's. Printed by pv/gen_g1.py. No condition. -/
namespace Go.Proofs.YtbdngknpngcojaaDoor.W
open Go.RowKit Anv Go.Lib
theorem bnot_t {b : Bool} (h : (!b) = true) : b = false := by cases b <;> simp_all
theorem bnot_f {b : Bool} (h : (!b) = false) : b = true := by cases b <;> simp_all
theorem bne_yes {x y : Int} (h : (x != y) = true) : x ≠ y := bne_iff_ne.1 h
theorem bne_no {x y : Int} (h : (x != y) = false) : x = y := by simpa using h
theorem beq_dec {x y : Int} {P : Prop} [Decidable P] (h : x = y ↔ P) : (x == y) = decide P := by
  by_cases hp : P
  · rw [decide_eq_true hp]; exact beq_iff_eq.2 (h.2 hp)
  · rw [decide_eq_false hp]; exact beq_eq_false_iff_ne.2 fun q => hp (h.1 q)
theorem bool_em (b : Bool) : b = true ∨ b = false := by cases b <;> simp
def CN (op cn : Int) : Prop := ((op = 5 ∨ op = 6) → cn ≠ 0 ∧ -512 ≤ cn ∧ cn ≤ 512) ∧ ((op = 7 ∨ op = 8) → 1 ≤ cn ∧ cn ≤ 64) ∧ (¬ (op = 5 ∨ op = 6 ∨ op = 7 ∨ op = 8) → cn = 0)
instance (op cn : Int) : Decidable (CN op cn) := by unfold CN; infer_instance
def May (e : IE) (g : Int) : Prop := 1 ≤ e.1 ∧ e.1 ≤ 8 ∧ 0 ≤ e.2.1 ∧ e.2.1 < g ∧ 0 ≤ e.2.2.1 ∧ e.2.2.1 < g ∧ ((e.1 = 3 ∨ e.1 = 4) → 0 ≤ e.2.2.2.1 ∧ e.2.2.2.1 < g ∧ e.2.2.2.2 = 0) ∧ (¬ (e.1 = 3 ∨ e.1 = 4) → e.2.2.2.1 = 0) ∧
  ((e.1 = 5 ∨ e.1 = 6) → e.2.2.2.2 ≠ 0 ∧ -512 ≤ e.2.2.2.2 ∧ e.2.2.2.2 ≤ 512) ∧ ((e.1 = 7 ∨ e.1 = 8) → 1 ≤ e.2.2.2.2 ∧ e.2.2.2.2 ≤ 64) ∧ ((e.1 = 1 ∨ e.1 = 2) → e.2.2.2.2 = 0)
instance (e : IE) (g : Int) : Decidable (May e g) := by unfold May; infer_instance
def asksL (op ra rb : Int) : List Int := if op = 3 ∨ op = 4 then [ra, rb] else if 1 ≤ op ∧ op ≤ 8 then [ra] else []
theorem asks_len (op ra rb : Int) : (asksL op ra rb).length ≤ 2 := by
  unfold asksL
  split
  · simp
  · split <;> simp
theorem asks_all {op ra rb g : Int} : (∀ x ∈ asksL op ra rb, 0 ≤ x ∧ x < g) ↔ ((op = 3 ∨ op = 4) → 0 ≤ rb ∧ rb < g) ∧ ((1 ≤ op ∧ op ≤ 8) → 0 ≤ ra ∧ ra < g) := by
  unfold asksL
  by_cases h1 : op = 3 ∨ op = 4
  · rw [if_pos h1]
    simp only [List.forall_mem_cons, List.not_mem_nil, false_implies, implies_true, and_true]
    omega
  · rw [if_neg h1]
    by_cases h2 : 1 ≤ op ∧ op ≤ 8
    · rw [if_pos h2]
      simp only [List.forall_mem_cons, List.not_mem_nil, false_implies, implies_true, and_true]
      omega
    · rw [if_neg h2]
      simp only [List.not_mem_nil, false_implies, implies_true, true_iff]
      omega
theorem all_snoc {P : Int → Prop} {l : List Int} {j : Nat} {x : Int} (h : ∀ y ∈ l.take j, P y) (hx : l[j]? = some x) (hp : P x) : ∀ y ∈ l.take (j + 1), P y := fun y hy => by
  rw [take_one hx] at hy
  rcases List.mem_append.1 hy with hy | hy
  · exact h y hy
  · rw [List.mem_singleton.1 hy]; exact hp
theorem all_full {P : Int → Prop} {l : List Int} {j : Nat} (h : ∀ y ∈ l.take j, P y) (hj : l.length ≤ j) : ∀ y ∈ l, P y := by
  rwa [List.take_of_length_le hj] at h
def IRow (B : Nat) (w : World) (v : Value) (zs : List Int) : Prop := ∃ A c, v = .slice A zs.length c ∧ (pfRow fI FI 1 A zs.length c zs).P w ∧ ∀ a, A = some a → B ≤ a.block
theorem irow_nil {B : Nat} {w : World} : IRow B w (.slice none 0 0) [] := ⟨none, 0, rfl, row_nil fI FI 1 w, fun a h => by cases h⟩
theorem fl_ints (zs : List Int) : fl fI zs = zs.map fun x => .int .i64 x := by
  induction zs with
  | nil => rfl
  | cons e es ih => rw [List.map_cons, ← ih]; rfl
theorem irow_new {B : Nat} {w : World} {g : Nat} {zs : List Int} {t : TypeId} (h : w.heap[g]? = some (.cells (zs.map fun x => Value.int .i64 x).toArray t (0, 0))) (hg : B ≤ g) (hm : zs.length ≤ 2 := by simp) : IRow B w (.slice (some ⟨g, 0, none⟩) zs.length zs.length) zs :=
  ⟨_, _, rfl, ⟨⟨by rw [fl_ints, List.length_map, Nat.mul_one], Nat.le_refl _, Nat.le_trans hm (by decide), fun _ => ⟨g, 0, rfl, lt_of_block h, fun i _ => by
    rw [Nat.zero_add, cell_of_row w g i _ t (0, 0) h, fl_ints]; simp⟩⟩, rfl, fun _ _ => trivial⟩, fun a ha => by cases ha; exact hg⟩
theorem St.freshI {w0 w w' : World} {own ps : List PF} {A : Option Addr} {n c : Nat} {zs : List Int} (h : St w0 w own ps) (hb : Below w.heap.size w w') (hr : (pfRow fI FI 1 A n c zs).P w') (hf : ∀ a, A = some a → w.heap.size ≤ a.block) : St w0 w' own (pfRow fI FI 1 A n c zs :: ps) :=
  (h.call hb).addP _ hr fun o ho b hfb hff => by
    rcases hff with ⟨_, off, rfl⟩ | ⟨e, _, hff⟩
    · have h2 : w.heap.size ≤ b := hf _ rfl
      have h3 := o.lt (h.mine o ho) hfb
      omega
    · cases hff
theorem out_cases (es : List Int) (g : Int) (j : Nat) : es[j]? = none ∨ (∃ x, es[j]? = some x ∧ x < 0) ∨ (∃ x, es[j]? = some x ∧ 0 ≤ x ∧ g ≤ x) ∨ ∃ x, es[j]? = some x ∧ 0 ≤ x ∧ x < g := by
  cases h : es[j]? with
  | none => exact .inl rfl
  | some x =>
    rcases (show x < 0 ∨ (0 ≤ x ∧ g ≤ x) ∨ (0 ≤ x ∧ x < g) by omega) with q | q | q
    · exact .inr (.inl ⟨x, rfl, q⟩)
    · exact .inr (.inr (.inl ⟨x, rfl, q⟩))
    · exact .inr (.inr (.inr ⟨x, rfl, q⟩))
def HeadOk (i g : Int) (n m : Nat) : Prop := 1 ≤ i ∧ i ≤ g ∧ g ≤ 128 ∧ n ≤ 16384 ∧ 1 ≤ m ∧ m ≤ 128
instance (i g : Int) (n m : Nat) : Decidable (HeadOk i g n m) := by unfold HeadOk; infer_instance
def Right (i g : Int) (n m : Nat) (es : List IE) (os : List Int) : Prop := HeadOk i g n m ∧ (∀ x ∈ os, 0 ≤ x ∧ x < g) ∧ ∀ e ∈ es, May e g
def Wrong (i g : Int) (n m : Nat) (es : List IE) (os : List Int) (k : Int) : Prop :=
  (k = -1 ∧ ¬ HeadOk i g n m) ∨ (k = -1 ∧ HeadOk i g n m ∧ ¬ ∀ x ∈ os, 0 ≤ x ∧ x < g) ∨
  ∃ (q : Nat) (ek : IE), k = (q : Nat) ∧ HeadOk i g n m ∧ (∀ x ∈ os, 0 ≤ x ∧ x < g) ∧ es[q]? = some ek ∧ ¬ May ek g ∧ ∀ j e, j < q → es[j]? = some e → May e g
theorem first_bad (g : Int) : ∀ es : List IE, (∀ e ∈ es, May e g) ∨ ∃ (q : Nat) (ek : IE), es[q]? = some ek ∧ ¬ May ek g ∧ ∀ j e, j < q → es[j]? = some e → May e g
  | [] => .inl fun _ h => by cases h
  | e :: es => by
    by_cases h : May e g
    · rcases first_bad g es with ha | ⟨q, ek, h1, h2, h3⟩
      · exact .inl fun x hx => (List.mem_cons.1 hx).elim (fun q => q ▸ h) (ha x)
      · refine .inr ⟨q + 1, ek, by simpa using h1, h2, fun j x hj hx => ?_⟩
        cases j with
        | zero => rw [show x = e by simpa using hx.symm]; exact h
        | succ j => exact h3 j x (by omega) (by simpa using hx)
    · exact .inr ⟨0, e, rfl, h, fun j x hj => absurd hj (Nat.not_lt_zero _)⟩
theorem right_or (i g : Int) (n m : Nat) (es : List IE) (os : List Int) : Right i g n m es os ∨ ∃ k, Wrong i g n m es os k := by
  by_cases h : HeadOk i g n m
  · by_cases ho : ∀ x ∈ os, 0 ≤ x ∧ x < g
    · rcases first_bad g es with ha | ⟨q, ek, h1, h2, h3⟩
      · exact .inl ⟨h, ho, ha⟩
      · exact .inr ⟨_, .inr (.inr ⟨q, ek, rfl, h, ho, h1, h2, h3⟩)⟩
    · exact .inr ⟨_, .inr (.inl ⟨rfl, h, ho⟩)⟩
  · exact .inr ⟨_, .inl ⟨rfl, h⟩⟩
set_option maxRecDepth 100000 in
set_option maxHeartbeats 2000000 in
theorem g_two {op : Int} {w0 : World} :
    Calls Tryd.prog 57 #[.int .i64 op] w0 fun e w' => e = .returned (.bool (decide (op = 3 ∨ op = 4))) ∧ Below w0.heap.size w0 w' := by
  refine enter Tryd.func57 rfl Tryd.ntmps57 rfl ?_
  intro a henv hst
  refine wp_seq ?_
  refine region_seq ?_
  refine sv (v := .bool false) henv rfl (rn_assign henv rfl) ?_
  clear henv a; intro a henv
  refine wpList_nil ?_
  refine th_n ?_
  refine wp_seq ?_
  refine region_seq ?_
  revert a
  refine mA rfl rfl ?_
  refine sA (v := .bool (op == (3 : Int))) rfl (fun _ henv => rn_bin henv rfl rfl rfl) ?_
  refine mA rfl rfl ?_
  intro a henv
  rcases bool_em (op == (3 : Int)) with hg51 | hg51
  · rw [hg51] at henv
    have hx52 := eq_of_beq hg51
    revert a
    refine kA rfl rfl rfl rfl rfl ?_
    refine kA rfl rfl rfl rfl rfl ?_
    refine sA (v := .bool true) rfl (fun _ henv => rn_pick henv rfl rfl) ?_
    refine aA rfl rfl ?_
    intro a henv
    refine wpList_nil ?_
    refine th_n ?_
    refine wp_ret ?_
    refine leave henv (res1 Tryd.results57 (RV.tmp henv rfl)) ?_
    exact ⟨by rw [decide_eq_true (show (op = 3 ∨ op = 4) by omega)], hst.below⟩
  · rw [hg51] at henv
    have hx53 := ne_of_beq_false hg51
    revert a
    refine gA (v := .int .i64 op) rfl rfl rfl rfl (fun _ henv => rn_move henv rfl) ?_
    refine gA (v := .bool (op == (4 : Int))) rfl rfl rfl rfl (fun _ henv => rn_bin henv rfl rfl rfl) ?_
    refine sA (v := .bool (op == (4 : Int))) rfl (fun _ henv => rn_pick henv rfl rfl) ?_
    refine aA rfl rfl ?_
    intro a henv
    refine wpList_nil ?_
    refine th_n ?_
    refine wp_ret ?_
    refine leave henv (res1 Tryd.results57 (RV.tmp henv rfl)) ?_
    exact ⟨congrArg (fun b => Ending.returned (Value.bool b)) (beq_dec (by omega)), hst.below⟩
set_option maxRecDepth 100000 in
set_option maxHeartbeats 2000000 in
theorem g_constant {op tr ra rb cn : Int} {w0 : World} :
    Calls Tryd.prog 58 #[.agg #[.int .i64 op, .int .i64 tr, .int .i64 ra, .int .i64 rb, .int .i64 cn]] w0 fun e w' => e = .returned (.bool (decide (CN op cn))) ∧ Below w0.heap.size w0 w' := by
  refine enter Tryd.func58 rfl Tryd.ntmps58 rfl ?_
  intro a henv hst
  refine wp_seq ?_
  refine region_seq ?_
  refine seq_step rfl (op_box (c := #[.int .i64 op, .int .i64 tr, .int .i64 ra, .int .i64 rb, .int .i64 cn]) henv hst rfl rfl rfl ?_)
  clear henv hst a; intro a w52 g51 henv hst
  refine sv (v := .bool false) henv rfl (rn_assign henv rfl) ?_
  clear henv a; intro a henv
  refine wpList_nil ?_
  refine th_n ?_
  refine wp_seq ?_
  refine wp_seq ?_
  refine region_seq ?_
  revert a
  refine sA (v := .pointer (some ⟨g51, 0, none⟩)) rfl (fun _ henv => rn_fieldAddr henv fd_anvil_api_Instr_0 (ty_int.size) (by decide) rfl) ?_
  refine sA (v := .int .i64 op) rfl (fun _ henv => rn_load1 henv ty_int rfl (hst.oat (k := 0) rfl) rfl) ?_
  intro a henv
  refine wpList_nil ?_
  refine th_n ?_
  refine wp_block ?_
  refine wp_seq ?_
  refine wp_seq ?_
  refine region_seq ?_
  revert a
  refine sA (v := .bool (op == (5 : Int))) rfl (fun _ henv => rn_bin henv rfl rfl rfl) ?_
  refine aA rfl rfl ?_
  intro a henv
  refine wpList_nil ?_
  refine th_n ?_
  refine if_split henv rfl (fun hc53 => ?_) (fun hc53 => ?_)
  · have hx54 := eq_of_beq hc53
    refine wp_skip ?_
    refine th_n ?_
    refine if_split henv rfl (fun hc55 => ?_) (fun hc55 => ?_)
    · have hx56 := eq_of_beq hc55
      refine wp_seq ?_
      refine region_seq ?_
      revert a
      refine sA (v := .pointer (some ⟨g51, 4, none⟩)) rfl (fun _ henv => rn_fieldAddr henv fd_anvil_api_Instr_4 (ty_int.size) (by decide) rfl) ?_
      refine sA (v := .int .i64 cn) rfl (fun _ henv => rn_load1 henv ty_int rfl (hst.oat (k := 0) rfl) rfl) ?_
      refine sA (v := .bool (cn != (0 : Int))) rfl (fun _ henv => rn_bin henv rfl rfl rfl) ?_
      refine mA rfl rfl ?_
      intro a henv
      rcases bool_em (cn != (0 : Int)) with hg57 | hg57
      · rw [hg57] at henv
        have hx58 := bne_yes hg57
        revert a
        refine gA (v := .pointer (some ⟨g51, 4, none⟩)) rfl rfl rfl rfl (fun _ henv => rn_fieldAddr henv fd_anvil_api_Instr_4 (ty_int.size) (by decide) rfl) ?_
        refine gA (v := .int .i64 cn) rfl rfl rfl rfl (fun _ henv => rn_load1 henv ty_int rfl (hst.oat (k := 0) rfl) rfl) ?_
        refine gA (v := .bool (decide (cn ≥ (-512)))) rfl rfl rfl rfl (fun _ henv => rn_bin henv rfl rfl rfl) ?_
        refine sA (v := .bool (decide (cn ≥ (-512)))) rfl (fun _ henv => rn_pick henv rfl rfl) ?_
        refine mA rfl rfl ?_
        intro a henv
        rcases bool_em (decide (cn ≥ (-512))) with hg59 | hg59
        · rw [hg59] at henv
          have hx60 := of_decide_eq_true hg59
          revert a
          refine gA (v := .pointer (some ⟨g51, 4, none⟩)) rfl rfl rfl rfl (fun _ henv => rn_fieldAddr henv fd_anvil_api_Instr_4 (ty_int.size) (by decide) rfl) ?_
          refine gA (v := .int .i64 cn) rfl rfl rfl rfl (fun _ henv => rn_load1 henv ty_int rfl (hst.oat (k := 0) rfl) rfl) ?_
          refine gA (v := .bool (decide (cn ≤ (512 : Int)))) rfl rfl rfl rfl (fun _ henv => rn_bin henv rfl rfl rfl) ?_
          refine sA (v := .bool (decide (cn ≤ (512 : Int)))) rfl (fun _ henv => rn_pick henv rfl rfl) ?_
          refine aA rfl rfl ?_
          intro a henv
          refine wpList_nil ?_
          refine th_n ?_
          refine wp_ret ?_
          refine bl_r (th_r ?_)
          refine leave henv (res1 Tryd.results58 (RV.tmp henv rfl)) ?_
          exact ⟨congrArg (fun b => Ending.returned (Value.bool b)) (decide_eq_decide.2 (by unfold CN at *; (try simp only at *); omega)), hst.below⟩
        · rw [hg59] at henv
          have hx61 := of_decide_eq_false hg59
          revert a
          refine kA rfl rfl rfl rfl rfl ?_
          refine kA rfl rfl rfl rfl rfl ?_
          refine kA rfl rfl rfl rfl rfl ?_
          refine sA (v := .bool false) rfl (fun _ henv => rn_pick henv rfl rfl) ?_
          refine aA rfl rfl ?_
          intro a henv
          refine wpList_nil ?_
          refine th_n ?_
          refine wp_ret ?_
          refine bl_r (th_r ?_)
          refine leave henv (res1 Tryd.results58 (RV.tmp henv rfl)) ?_
          exact ⟨by rw [decide_eq_false (show ¬ (CN op cn) by unfold CN at *; (try simp only at *); omega)], hst.below⟩
      · rw [hg57] at henv
        have hx62 := bne_no hg57
        revert a
        refine kA rfl rfl rfl rfl rfl ?_
        refine kA rfl rfl rfl rfl rfl ?_
        refine kA rfl rfl rfl rfl rfl ?_
        refine sA (v := .bool false) rfl (fun _ henv => rn_pick henv rfl rfl) ?_
        refine mA rfl rfl ?_
        refine kA rfl rfl rfl rfl rfl ?_
        refine kA rfl rfl rfl rfl rfl ?_
        refine kA rfl rfl rfl rfl rfl ?_
        refine sA (v := .bool false) rfl (fun _ henv => rn_pick henv rfl rfl) ?_
        refine aA rfl rfl ?_
        intro a henv
        refine wpList_nil ?_
        refine th_n ?_
        refine wp_ret ?_
        refine bl_r (th_r ?_)
        refine leave henv (res1 Tryd.results58 (RV.tmp henv rfl)) ?_
        exact ⟨by rw [decide_eq_false (show ¬ (CN op cn) by unfold CN at *; (try simp only at *); omega)], hst.below⟩
    · have hx63 := ne_of_beq_false hc55
      refine wp_seq ?_
      refine wp_seq ?_
      refine region_seq ?_
      revert a
      refine sA (v := .bool (op == (7 : Int))) rfl (fun _ henv => rn_bin henv rfl rfl rfl) ?_
      refine aA rfl rfl ?_
      intro a henv
      refine wpList_nil ?_
      refine th_n ?_
      refine if_split henv rfl (fun hc64 => ?_) (fun hc64 => ?_)
      · have hx65 := eq_of_beq hc64
        refine wp_skip ?_
        refine th_n ?_
        refine if_split henv rfl (fun hc66 => ?_) (fun hc66 => ?_)
        · have hx67 := eq_of_beq hc66
          refine wp_seq ?_
          refine region_seq ?_
          revert a
          refine sA (v := .pointer (some ⟨g51, 4, none⟩)) rfl (fun _ henv => rn_fieldAddr henv fd_anvil_api_Instr_4 (ty_int.size) (by decide) rfl) ?_
          refine sA (v := .int .i64 cn) rfl (fun _ henv => rn_load1 henv ty_int rfl (hst.oat (k := 0) rfl) rfl) ?_
          refine sA (v := .bool (decide (cn ≥ (1 : Int)))) rfl (fun _ henv => rn_bin henv rfl rfl rfl) ?_
          refine mA rfl rfl ?_
          intro a henv
          rcases bool_em (decide (cn ≥ (1 : Int))) with hg68 | hg68
          · rw [hg68] at henv
            have hx69 := of_decide_eq_true hg68
            revert a
            refine gA (v := .pointer (some ⟨g51, 4, none⟩)) rfl rfl rfl rfl (fun _ henv => rn_fieldAddr henv fd_anvil_api_Instr_4 (ty_int.size) (by decide) rfl) ?_
            refine gA (v := .int .i64 cn) rfl rfl rfl rfl (fun _ henv => rn_load1 henv ty_int rfl (hst.oat (k := 0) rfl) rfl) ?_
            refine gA (v := .bool (decide (cn ≤ (64 : Int)))) rfl rfl rfl rfl (fun _ henv => rn_bin henv rfl rfl rfl) ?_
            refine sA (v := .bool (decide (cn ≤ (64 : Int)))) rfl (fun _ henv => rn_pick henv rfl rfl) ?_
            refine aA rfl rfl ?_
            intro a henv
            refine wpList_nil ?_
            refine th_n ?_
            refine wp_ret ?_
            refine bl_r (th_r ?_)
            refine leave henv (res1 Tryd.results58 (RV.tmp henv rfl)) ?_
            exact ⟨congrArg (fun b => Ending.returned (Value.bool b)) (decide_eq_decide.2 (by unfold CN at *; (try simp only at *); omega)), hst.below⟩
          · rw [hg68] at henv
            have hx70 := of_decide_eq_false hg68
            revert a
            refine kA rfl rfl rfl rfl rfl ?_
            refine kA rfl rfl rfl rfl rfl ?_
            refine kA rfl rfl rfl rfl rfl ?_
            refine sA (v := .bool false) rfl (fun _ henv => rn_pick henv rfl rfl) ?_
            refine aA rfl rfl ?_
            intro a henv
            refine wpList_nil ?_
            refine th_n ?_
            refine wp_ret ?_
            refine bl_r (th_r ?_)
            refine leave henv (res1 Tryd.results58 (RV.tmp henv rfl)) ?_
            exact ⟨by rw [decide_eq_false (show ¬ (CN op cn) by unfold CN at *; (try simp only at *); omega)], hst.below⟩
        · have hx71 := ne_of_beq_false hc66
          refine wp_skip ?_
          refine bl_n (th_n ?_)
          refine wp_seq ?_
          refine region_seq ?_
          revert a
          refine sA (v := .pointer (some ⟨g51, 4, none⟩)) rfl (fun _ henv => rn_fieldAddr henv fd_anvil_api_Instr_4 (ty_int.size) (by decide) rfl) ?_
          refine sA (v := .int .i64 cn) rfl (fun _ henv => rn_load1 henv ty_int rfl (hst.oat (k := 0) rfl) rfl) ?_
          refine sA (v := .bool (cn == (0 : Int))) rfl (fun _ henv => rn_bin henv rfl rfl rfl) ?_
          refine aA rfl rfl ?_
          intro a henv
          refine wpList_nil ?_
          refine th_n ?_
          refine wp_ret ?_
          refine leave henv (res1 Tryd.results58 (RV.tmp henv rfl)) ?_
          exact ⟨congrArg (fun b => Ending.returned (Value.bool b)) (beq_dec (by unfold CN at *; (try simp only at *); omega)), hst.below⟩
      · have hx72 := ne_of_beq_false hc64
        refine region_seq ?_
        revert a
        refine sA (v := .bool (op == (8 : Int))) rfl (fun _ henv => rn_bin henv rfl rfl rfl) ?_
        refine aA rfl rfl ?_
        intro a henv
        refine wpList_nil ?_
        refine th_n ?_
        refine if_split henv rfl (fun hc73 => ?_) (fun hc73 => ?_)
        · have hx74 := eq_of_beq hc73
          refine wp_seq ?_
          refine region_seq ?_
          revert a
          refine sA (v := .pointer (some ⟨g51, 4, none⟩)) rfl (fun _ henv => rn_fieldAddr henv fd_anvil_api_Instr_4 (ty_int.size) (by decide) rfl) ?_
          refine sA (v := .int .i64 cn) rfl (fun _ henv => rn_load1 henv ty_int rfl (hst.oat (k := 0) rfl) rfl) ?_
          refine sA (v := .bool (decide (cn ≥ (1 : Int)))) rfl (fun _ henv => rn_bin henv rfl rfl rfl) ?_
          refine mA rfl rfl ?_
          intro a henv
          rcases bool_em (decide (cn ≥ (1 : Int))) with hg75 | hg75
          · rw [hg75] at henv
            have hx76 := of_decide_eq_true hg75
            revert a
            refine gA (v := .pointer (some ⟨g51, 4, none⟩)) rfl rfl rfl rfl (fun _ henv => rn_fieldAddr henv fd_anvil_api_Instr_4 (ty_int.size) (by decide) rfl) ?_
            refine gA (v := .int .i64 cn) rfl rfl rfl rfl (fun _ henv => rn_load1 henv ty_int rfl (hst.oat (k := 0) rfl) rfl) ?_
            refine gA (v := .bool (decide (cn ≤ (64 : Int)))) rfl rfl rfl rfl (fun _ henv => rn_bin henv rfl rfl rfl) ?_
            refine sA (v := .bool (decide (cn ≤ (64 : Int)))) rfl (fun _ henv => rn_pick henv rfl rfl) ?_
            refine aA rfl rfl ?_
            intro a henv
            refine wpList_nil ?_
            refine th_n ?_
            refine wp_ret ?_
            refine bl_r (th_r ?_)
            refine leave henv (res1 Tryd.results58 (RV.tmp henv rfl)) ?_
            exact ⟨congrArg (fun b => Ending.returned (Value.bool b)) (decide_eq_decide.2 (by unfold CN at *; (try simp only at *); omega)), hst.below⟩
          · rw [hg75] at henv
            have hx77 := of_decide_eq_false hg75
            revert a
            refine kA rfl rfl rfl rfl rfl ?_
            refine kA rfl rfl rfl rfl rfl ?_
            refine kA rfl rfl rfl rfl rfl ?_
            refine sA (v := .bool false) rfl (fun _ henv => rn_pick henv rfl rfl) ?_
            refine aA rfl rfl ?_
            intro a henv
            refine wpList_nil ?_
            refine th_n ?_
            refine wp_ret ?_
            refine bl_r (th_r ?_)
            refine leave henv (res1 Tryd.results58 (RV.tmp henv rfl)) ?_
            exact ⟨by rw [decide_eq_false (show ¬ (CN op cn) by unfold CN at *; (try simp only at *); omega)], hst.below⟩
        · have hx78 := ne_of_beq_false hc73
          refine wp_skip ?_
          refine bl_n (th_n ?_)
          refine wp_seq ?_
          refine region_seq ?_
          revert a
          refine sA (v := .pointer (some ⟨g51, 4, none⟩)) rfl (fun _ henv => rn_fieldAddr henv fd_anvil_api_Instr_4 (ty_int.size) (by decide) rfl) ?_
          refine sA (v := .int .i64 cn) rfl (fun _ henv => rn_load1 henv ty_int rfl (hst.oat (k := 0) rfl) rfl) ?_
          refine sA (v := .bool (cn == (0 : Int))) rfl (fun _ henv => rn_bin henv rfl rfl rfl) ?_
          refine aA rfl rfl ?_
          intro a henv
          refine wpList_nil ?_
          refine th_n ?_
          refine wp_ret ?_
          refine leave henv (res1 Tryd.results58 (RV.tmp henv rfl)) ?_
          exact ⟨congrArg (fun b => Ending.returned (Value.bool b)) (beq_dec (by unfold CN at *; (try simp only at *); omega)), hst.below⟩
  · have hx79 := ne_of_beq_false hc53
    refine region_seq ?_
    revert a
    refine sA (v := .bool (op == (6 : Int))) rfl (fun _ henv => rn_bin henv rfl rfl rfl) ?_
    refine aA rfl rfl ?_
    intro a henv
    refine wpList_nil ?_
    refine th_n ?_
    refine if_split henv rfl (fun hc80 => ?_) (fun hc80 => ?_)
    · have hx81 := eq_of_beq hc80
      refine wp_seq ?_
      refine region_seq ?_
      revert a
      refine sA (v := .pointer (some ⟨g51, 4, none⟩)) rfl (fun _ henv => rn_fieldAddr henv fd_anvil_api_Instr_4 (ty_int.size) (by decide) rfl) ?_
      refine sA (v := .int .i64 cn) rfl (fun _ henv => rn_load1 henv ty_int rfl (hst.oat (k := 0) rfl) rfl) ?_
      refine sA (v := .bool (cn != (0 : Int))) rfl (fun _ henv => rn_bin henv rfl rfl rfl) ?_
      refine mA rfl rfl ?_
      intro a henv
      rcases bool_em (cn != (0 : Int)) with hg82 | hg82
      · rw [hg82] at henv
        have hx83 := bne_yes hg82
        revert a
        refine gA (v := .pointer (some ⟨g51, 4, none⟩)) rfl rfl rfl rfl (fun _ henv => rn_fieldAddr henv fd_anvil_api_Instr_4 (ty_int.size) (by decide) rfl) ?_
        refine gA (v := .int .i64 cn) rfl rfl rfl rfl (fun _ henv => rn_load1 henv ty_int rfl (hst.oat (k := 0) rfl) rfl) ?_
        refine gA (v := .bool (decide (cn ≥ (-512)))) rfl rfl rfl rfl (fun _ henv => rn_bin henv rfl rfl rfl) ?_
        refine sA (v := .bool (decide (cn ≥ (-512)))) rfl (fun _ henv => rn_pick henv rfl rfl) ?_
        refine mA rfl rfl ?_
        intro a henv
        rcases bool_em (decide (cn ≥ (-512))) with hg84 | hg84
        · rw [hg84] at henv
          have hx85 := of_decide_eq_true hg84
          revert a
          refine gA (v := .pointer (some ⟨g51, 4, none⟩)) rfl rfl rfl rfl (fun _ henv => rn_fieldAddr henv fd_anvil_api_Instr_4 (ty_int.size) (by decide) rfl) ?_
          refine gA (v := .int .i64 cn) rfl rfl rfl rfl (fun _ henv => rn_load1 henv ty_int rfl (hst.oat (k := 0) rfl) rfl) ?_
          refine gA (v := .bool (decide (cn ≤ (512 : Int)))) rfl rfl rfl rfl (fun _ henv => rn_bin henv rfl rfl rfl) ?_
          refine sA (v := .bool (decide (cn ≤ (512 : Int)))) rfl (fun _ henv => rn_pick henv rfl rfl) ?_
          refine aA rfl rfl ?_
          intro a henv
          refine wpList_nil ?_
          refine th_n ?_
          refine wp_ret ?_
          refine bl_r (th_r ?_)
          refine leave henv (res1 Tryd.results58 (RV.tmp henv rfl)) ?_
          exact ⟨congrArg (fun b => Ending.returned (Value.bool b)) (decide_eq_decide.2 (by unfold CN at *; (try simp only at *); omega)), hst.below⟩
        · rw [hg84] at henv
          have hx86 := of_decide_eq_false hg84
          revert a
          refine kA rfl rfl rfl rfl rfl ?_
          refine kA rfl rfl rfl rfl rfl ?_
          refine kA rfl rfl rfl rfl rfl ?_
          refine sA (v := .bool false) rfl (fun _ henv => rn_pick henv rfl rfl) ?_
          refine aA rfl rfl ?_
          intro a henv
          refine wpList_nil ?_
          refine th_n ?_
          refine wp_ret ?_
          refine bl_r (th_r ?_)
          refine leave henv (res1 Tryd.results58 (RV.tmp henv rfl)) ?_
          exact ⟨by rw [decide_eq_false (show ¬ (CN op cn) by unfold CN at *; (try simp only at *); omega)], hst.below⟩
      · rw [hg82] at henv
        have hx87 := bne_no hg82
        revert a
        refine kA rfl rfl rfl rfl rfl ?_
        refine kA rfl rfl rfl rfl rfl ?_
        refine kA rfl rfl rfl rfl rfl ?_
        refine sA (v := .bool false) rfl (fun _ henv => rn_pick henv rfl rfl) ?_
        refine mA rfl rfl ?_
        refine kA rfl rfl rfl rfl rfl ?_
        refine kA rfl rfl rfl rfl rfl ?_
        refine kA rfl rfl rfl rfl rfl ?_
        refine sA (v := .bool false) rfl (fun _ henv => rn_pick henv rfl rfl) ?_
        refine aA rfl rfl ?_
        intro a henv
        refine wpList_nil ?_
        refine th_n ?_
        refine wp_ret ?_
        refine bl_r (th_r ?_)
        refine leave henv (res1 Tryd.results58 (RV.tmp henv rfl)) ?_
        exact ⟨by rw [decide_eq_false (show ¬ (CN op cn) by unfold CN at *; (try simp only at *); omega)], hst.below⟩
    · have hx88 := ne_of_beq_false hc80
      refine wp_seq ?_
      refine wp_seq ?_
      refine region_seq ?_
      revert a
      refine sA (v := .bool (op == (7 : Int))) rfl (fun _ henv => rn_bin henv rfl rfl rfl) ?_
      refine aA rfl rfl ?_
      intro a henv
      refine wpList_nil ?_
      refine th_n ?_
      refine if_split henv rfl (fun hc89 => ?_) (fun hc89 => ?_)
      · have hx90 := eq_of_beq hc89
        refine wp_skip ?_
        refine th_n ?_
        refine if_split henv rfl (fun hc91 => ?_) (fun hc91 => ?_)
        · have hx92 := eq_of_beq hc91
          refine wp_seq ?_
          refine region_seq ?_
          revert a
          refine sA (v := .pointer (some ⟨g51, 4, none⟩)) rfl (fun _ henv => rn_fieldAddr henv fd_anvil_api_Instr_4 (ty_int.size) (by decide) rfl) ?_
          refine sA (v := .int .i64 cn) rfl (fun _ henv => rn_load1 henv ty_int rfl (hst.oat (k := 0) rfl) rfl) ?_
          refine sA (v := .bool (decide (cn ≥ (1 : Int)))) rfl (fun _ henv => rn_bin henv rfl rfl rfl) ?_
          refine mA rfl rfl ?_
          intro a henv
          rcases bool_em (decide (cn ≥ (1 : Int))) with hg93 | hg93
          · rw [hg93] at henv
            have hx94 := of_decide_eq_true hg93
            revert a
            refine gA (v := .pointer (some ⟨g51, 4, none⟩)) rfl rfl rfl rfl (fun _ henv => rn_fieldAddr henv fd_anvil_api_Instr_4 (ty_int.size) (by decide) rfl) ?_
            refine gA (v := .int .i64 cn) rfl rfl rfl rfl (fun _ henv => rn_load1 henv ty_int rfl (hst.oat (k := 0) rfl) rfl) ?_
            refine gA (v := .bool (decide (cn ≤ (64 : Int)))) rfl rfl rfl rfl (fun _ henv => rn_bin henv rfl rfl rfl) ?_
            refine sA (v := .bool (decide (cn ≤ (64 : Int)))) rfl (fun _ henv => rn_pick henv rfl rfl) ?_
            refine aA rfl rfl ?_
            intro a henv
            refine wpList_nil ?_
            refine th_n ?_
            refine wp_ret ?_
            refine bl_r (th_r ?_)
            refine leave henv (res1 Tryd.results58 (RV.tmp henv rfl)) ?_
            exact ⟨congrArg (fun b => Ending.returned (Value.bool b)) (decide_eq_decide.2 (by unfold CN at *; (try simp only at *); omega)), hst.below⟩
          · rw [hg93] at henv
            have hx95 := of_decide_eq_false hg93
            revert a
            refine kA rfl rfl rfl rfl rfl ?_
            refine kA rfl rfl rfl rfl rfl ?_
            refine kA rfl rfl rfl rfl rfl ?_
            refine sA (v := .bool false) rfl (fun _ henv => rn_pick henv rfl rfl) ?_
            refine aA rfl rfl ?_
            intro a henv
            refine wpList_nil ?_
            refine th_n ?_
            refine wp_ret ?_
            refine bl_r (th_r ?_)
            refine leave henv (res1 Tryd.results58 (RV.tmp henv rfl)) ?_
            exact ⟨by rw [decide_eq_false (show ¬ (CN op cn) by unfold CN at *; (try simp only at *); omega)], hst.below⟩
        · have hx96 := ne_of_beq_false hc91
          refine wp_skip ?_
          refine bl_n (th_n ?_)
          refine wp_seq ?_
          refine region_seq ?_
          revert a
          refine sA (v := .pointer (some ⟨g51, 4, none⟩)) rfl (fun _ henv => rn_fieldAddr henv fd_anvil_api_Instr_4 (ty_int.size) (by decide) rfl) ?_
          refine sA (v := .int .i64 cn) rfl (fun _ henv => rn_load1 henv ty_int rfl (hst.oat (k := 0) rfl) rfl) ?_
          refine sA (v := .bool (cn == (0 : Int))) rfl (fun _ henv => rn_bin henv rfl rfl rfl) ?_
          refine aA rfl rfl ?_
          intro a henv
          refine wpList_nil ?_
          refine th_n ?_
          refine wp_ret ?_
          refine leave henv (res1 Tryd.results58 (RV.tmp henv rfl)) ?_
          exact ⟨congrArg (fun b => Ending.returned (Value.bool b)) (beq_dec (by unfold CN at *; (try simp only at *); omega)), hst.below⟩
      · have hx97 := ne_of_beq_false hc89
        refine region_seq ?_
        revert a
        refine sA (v := .bool (op == (8 : Int))) rfl (fun _ henv => rn_bin henv rfl rfl rfl) ?_
        refine aA rfl rfl ?_
        intro a henv
        refine wpList_nil ?_
        refine th_n ?_
        refine if_split henv rfl (fun hc98 => ?_) (fun hc98 => ?_)
        · have hx99 := eq_of_beq hc98
          refine wp_seq ?_
          refine region_seq ?_
          revert a
          refine sA (v := .pointer (some ⟨g51, 4, none⟩)) rfl (fun _ henv => rn_fieldAddr henv fd_anvil_api_Instr_4 (ty_int.size) (by decide) rfl) ?_
          refine sA (v := .int .i64 cn) rfl (fun _ henv => rn_load1 henv ty_int rfl (hst.oat (k := 0) rfl) rfl) ?_
          refine sA (v := .bool (decide (cn ≥ (1 : Int)))) rfl (fun _ henv => rn_bin henv rfl rfl rfl) ?_
          refine mA rfl rfl ?_
          intro a henv
          rcases bool_em (decide (cn ≥ (1 : Int))) with hg100 | hg100
          · rw [hg100] at henv
            have hx101 := of_decide_eq_true hg100
            revert a
            refine gA (v := .pointer (some ⟨g51, 4, none⟩)) rfl rfl rfl rfl (fun _ henv => rn_fieldAddr henv fd_anvil_api_Instr_4 (ty_int.size) (by decide) rfl) ?_
            refine gA (v := .int .i64 cn) rfl rfl rfl rfl (fun _ henv => rn_load1 henv ty_int rfl (hst.oat (k := 0) rfl) rfl) ?_
            refine gA (v := .bool (decide (cn ≤ (64 : Int)))) rfl rfl rfl rfl (fun _ henv => rn_bin henv rfl rfl rfl) ?_
            refine sA (v := .bool (decide (cn ≤ (64 : Int)))) rfl (fun _ henv => rn_pick henv rfl rfl) ?_
            refine aA rfl rfl ?_
            intro a henv
            refine wpList_nil ?_
            refine th_n ?_
            refine wp_ret ?_
            refine bl_r (th_r ?_)
            refine leave henv (res1 Tryd.results58 (RV.tmp henv rfl)) ?_
            exact ⟨congrArg (fun b => Ending.returned (Value.bool b)) (decide_eq_decide.2 (by unfold CN at *; (try simp only at *); omega)), hst.below⟩
          · rw [hg100] at henv
            have hx102 := of_decide_eq_false hg100
            revert a
            refine kA rfl rfl rfl rfl rfl ?_
            refine kA rfl rfl rfl rfl rfl ?_
            refine kA rfl rfl rfl rfl rfl ?_
            refine sA (v := .bool false) rfl (fun _ henv => rn_pick henv rfl rfl) ?_
            refine aA rfl rfl ?_
            intro a henv
            refine wpList_nil ?_
            refine th_n ?_
            refine wp_ret ?_
            refine bl_r (th_r ?_)
            refine leave henv (res1 Tryd.results58 (RV.tmp henv rfl)) ?_
            exact ⟨by rw [decide_eq_false (show ¬ (CN op cn) by unfold CN at *; (try simp only at *); omega)], hst.below⟩
        · have hx103 := ne_of_beq_false hc98
          refine wp_skip ?_
          refine bl_n (th_n ?_)
          refine wp_seq ?_
          refine region_seq ?_
          revert a
          refine sA (v := .pointer (some ⟨g51, 4, none⟩)) rfl (fun _ henv => rn_fieldAddr henv fd_anvil_api_Instr_4 (ty_int.size) (by decide) rfl) ?_
          refine sA (v := .int .i64 cn) rfl (fun _ henv => rn_load1 henv ty_int rfl (hst.oat (k := 0) rfl) rfl) ?_
          refine sA (v := .bool (cn == (0 : Int))) rfl (fun _ henv => rn_bin henv rfl rfl rfl) ?_
          refine aA rfl rfl ?_
          intro a henv
          refine wpList_nil ?_
          refine th_n ?_
          refine wp_ret ?_
          refine leave henv (res1 Tryd.results58 (RV.tmp henv rfl)) ?_
          exact ⟨congrArg (fun b => Ending.returned (Value.bool b)) (beq_dec (by unfold CN at *; (try simp only at *); omega)), hst.below⟩
set_option maxRecDepth 100000 in
set_option maxHeartbeats 2000000 in
theorem g_asks {op tr ra rb cn : Int} {w0 : World} :
    Calls Tryd.prog 18 #[.agg #[.int .i64 op, .int .i64 tr, .int .i64 ra, .int .i64 rb, .int .i64 cn]] w0 fun e w' => ∃ v, e = .returned v ∧ IRow w0.heap.size w' v (asksL op ra rb) ∧ Below w0.heap.size w0 w' := by
  refine enter Tryd.func18 rfl Tryd.ntmps18 rfl ?_
  intro a henv hst
  refine wp_seq ?_
  refine region_seq ?_
  refine seq_step rfl (op_box (c := #[.int .i64 op, .int .i64 tr, .int .i64 ra, .int .i64 rb, .int .i64 cn]) henv hst rfl rfl rfl ?_)
  clear henv hst a; intro a w52 g51 henv hst
  refine sv (v := .slice none 0 0) henv rfl (rn_assign henv rfl) ?_
  clear henv a; intro a henv
  refine wpList_nil ?_
  refine th_n ?_
  refine wp_seq ?_
  refine wp_seq ?_
  refine region_seq ?_
  revert a
  refine sA (v := .pointer (some ⟨g51, 0, none⟩)) rfl (fun _ henv => rn_fieldAddr henv fd_anvil_api_Instr_0 (ty_int.size) (by decide) rfl) ?_
  refine sA (v := .int .i64 op) rfl (fun _ henv => rn_load1 henv ty_int rfl (hst.oat (k := 0) rfl) rfl) ?_
  intro a henv
  refine wpList_nil ?_
  refine th_n ?_
  refine wp_block ?_
  refine wp_seq ?_
  refine wp_seq ?_
  refine region_seq ?_
  revert a
  refine sA (v := .bool (op == (3 : Int))) rfl (fun _ henv => rn_bin henv rfl rfl rfl) ?_
  refine aA rfl rfl ?_
  intro a henv
  refine wpList_nil ?_
  refine th_n ?_
  refine if_split henv rfl (fun hc53 => ?_) (fun hc53 => ?_)
  · have hx54 := eq_of_beq hc53
    refine wp_skip ?_
    refine th_n ?_
    refine if_split henv rfl (fun hc55 => ?_) (fun hc55 => ?_)
    · have hx56 := eq_of_beq hc55
      refine wp_seq ?_
      refine region_seq ?_
      revert a
      refine sA (v := .pointer (some ⟨g51, 2, none⟩)) rfl (fun _ henv => rn_fieldAddr henv fd_anvil_api_Instr_2 (ty_int.size) (by decide) rfl) ?_
      refine sA (v := .int .i64 ra) rfl (fun _ henv => rn_load1 henv ty_int rfl (hst.oat (k := 0) rfl) rfl) ?_
      refine sA (v := .pointer (some ⟨g51, 3, none⟩)) rfl (fun _ henv => rn_fieldAddr henv fd_anvil_api_Instr_3 (ty_int.size) (by decide) rfl) ?_
      refine sA (v := .int .i64 rb) rfl (fun _ henv => rn_load1 henv ty_int rfl (hst.oat (k := 0) rfl) rfl) ?_
      intro a henv
      refine seq_step rfl (op_buildSlice (z := 1) (pv := #[(0, .int .i64 ra), (1, .int .i64 rb)]) (c := #[.int .i64 ra, .int .i64 rb]) henv hst rfl Tryd.underlying23 (ty_int.size) zero_int (by decide) (by decide) rfl (by kernel_rfl) ?_)
      clear henv hst a; intro a w58 g57 henv hst
      refine sv (v := .slice (some ⟨g57, 0, none⟩) 2 2) henv rfl (rn_assign henv rfl) ?_
      clear henv a; intro a henv
      refine wpList_nil ?_
      refine th_n ?_
      refine wp_ret ?_
      refine bl_r (th_r ?_)
      refine leave henv (res1 Tryd.results18 (RV.tmp henv rfl)) ?_
      exact ⟨_, rfl, by rw [show asksL op ra rb = [ra, rb] by unfold asksL; rw [if_pos (by omega)]]; exact irow_new (zs := [ra, rb]) (hst.oat (k := 0) rfl) (hst.new _ (List.mem_of_getElem? (i := 0) rfl) _ rfl), hst.below⟩
    · have hx59 := ne_of_beq_false hc55
      refine wp_seq ?_
      refine wp_seq ?_
      refine region_seq ?_
      revert a
      refine sA (v := .bool (op == (1 : Int))) rfl (fun _ henv => rn_bin henv rfl rfl rfl) ?_
      refine aA rfl rfl ?_
      intro a henv
      refine wpList_nil ?_
      refine th_n ?_
      refine if_split henv rfl (fun hc60 => ?_) (fun hc60 => ?_)
      · have hx61 := eq_of_beq hc60
        refine wp_skip ?_
        refine th_n ?_
        refine if_split henv rfl (fun hc62 => ?_) (fun hc62 => ?_)
        · have hx63 := eq_of_beq hc62
          refine wp_seq ?_
          refine region_seq ?_
          revert a
          refine sA (v := .pointer (some ⟨g51, 2, none⟩)) rfl (fun _ henv => rn_fieldAddr henv fd_anvil_api_Instr_2 (ty_int.size) (by decide) rfl) ?_
          refine sA (v := .int .i64 ra) rfl (fun _ henv => rn_load1 henv ty_int rfl (hst.oat (k := 0) rfl) rfl) ?_
          intro a henv
          refine seq_step rfl (op_buildSlice (z := 1) (pv := #[(0, .int .i64 ra)]) (c := #[.int .i64 ra]) henv hst rfl Tryd.underlying23 (ty_int.size) zero_int (by decide) (by decide) rfl (by kernel_rfl) ?_)
          clear henv hst a; intro a w65 g64 henv hst
          refine sv (v := .slice (some ⟨g64, 0, none⟩) 1 1) henv rfl (rn_assign henv rfl) ?_
          clear henv a; intro a henv
          refine wpList_nil ?_
          refine th_n ?_
          refine wp_ret ?_
          refine bl_r (th_r ?_)
          refine leave henv (res1 Tryd.results18 (RV.tmp henv rfl)) ?_
          exact ⟨_, rfl, by rw [show asksL op ra rb = [ra] by unfold asksL; rw [if_neg (by omega), if_pos (by omega)]]; exact irow_new (zs := [ra]) (hst.oat (k := 0) rfl) (hst.new _ (List.mem_of_getElem? (i := 0) rfl) _ rfl), hst.below⟩
        · have hx66 := ne_of_beq_false hc62
          refine wp_skip ?_
          refine bl_n (th_n ?_)
          refine wp_seq ?_
          refine region_seq ?_
          refine sv (v := .slice none 0 0) henv rfl (rn_assign henv rfl) ?_
          clear henv a; intro a henv
          refine wpList_nil ?_
          refine th_n ?_
          refine wp_ret ?_
          refine leave henv (res1 Tryd.results18 (RV.tmp henv rfl)) ?_
          exact ⟨_, rfl, by rw [show asksL op ra rb = [] by unfold asksL; rw [if_neg (by omega), if_neg (by omega)]]; exact irow_nil, hst.below⟩
      · have hx67 := ne_of_beq_false hc60
        refine wp_seq ?_
        refine region_seq ?_
        revert a
        refine sA (v := .bool (op == (2 : Int))) rfl (fun _ henv => rn_bin henv rfl rfl rfl) ?_
        refine aA rfl rfl ?_
        intro a henv
        refine wpList_nil ?_
        refine th_n ?_
        refine if_split henv rfl (fun hc68 => ?_) (fun hc68 => ?_)
        · have hx69 := eq_of_beq hc68
          refine wp_skip ?_
          refine th_n ?_
          refine if_split henv rfl (fun hc70 => ?_) (fun hc70 => ?_)
          · have hx71 := eq_of_beq hc70
            refine wp_seq ?_
            refine region_seq ?_
            revert a
            refine sA (v := .pointer (some ⟨g51, 2, none⟩)) rfl (fun _ henv => rn_fieldAddr henv fd_anvil_api_Instr_2 (ty_int.size) (by decide) rfl) ?_
            refine sA (v := .int .i64 ra) rfl (fun _ henv => rn_load1 henv ty_int rfl (hst.oat (k := 0) rfl) rfl) ?_
            intro a henv
            refine seq_step rfl (op_buildSlice (z := 1) (pv := #[(0, .int .i64 ra)]) (c := #[.int .i64 ra]) henv hst rfl Tryd.underlying23 (ty_int.size) zero_int (by decide) (by decide) rfl (by kernel_rfl) ?_)
            clear henv hst a; intro a w73 g72 henv hst
            refine sv (v := .slice (some ⟨g72, 0, none⟩) 1 1) henv rfl (rn_assign henv rfl) ?_
            clear henv a; intro a henv
            refine wpList_nil ?_
            refine th_n ?_
            refine wp_ret ?_
            refine bl_r (th_r ?_)
            refine leave henv (res1 Tryd.results18 (RV.tmp henv rfl)) ?_
            exact ⟨_, rfl, by rw [show asksL op ra rb = [ra] by unfold asksL; rw [if_neg (by omega), if_pos (by omega)]]; exact irow_new (zs := [ra]) (hst.oat (k := 0) rfl) (hst.new _ (List.mem_of_getElem? (i := 0) rfl) _ rfl), hst.below⟩
          · have hx74 := ne_of_beq_false hc70
            refine wp_skip ?_
            refine bl_n (th_n ?_)
            refine wp_seq ?_
            refine region_seq ?_
            refine sv (v := .slice none 0 0) henv rfl (rn_assign henv rfl) ?_
            clear henv a; intro a henv
            refine wpList_nil ?_
            refine th_n ?_
            refine wp_ret ?_
            refine leave henv (res1 Tryd.results18 (RV.tmp henv rfl)) ?_
            exact ⟨_, rfl, by rw [show asksL op ra rb = [] by unfold asksL; rw [if_neg (by omega), if_neg (by omega)]]; exact irow_nil, hst.below⟩
        · have hx75 := ne_of_beq_false hc68
          refine wp_seq ?_
          refine region_seq ?_
          revert a
          refine sA (v := .bool (op == (5 : Int))) rfl (fun _ henv => rn_bin henv rfl rfl rfl) ?_
          refine aA rfl rfl ?_
          intro a henv
          refine wpList_nil ?_
          refine th_n ?_
          refine if_split henv rfl (fun hc76 => ?_) (fun hc76 => ?_)
          · have hx77 := eq_of_beq hc76
            refine wp_skip ?_
            refine th_n ?_
            refine if_split henv rfl (fun hc78 => ?_) (fun hc78 => ?_)
            · have hx79 := eq_of_beq hc78
              refine wp_seq ?_
              refine region_seq ?_
              revert a
              refine sA (v := .pointer (some ⟨g51, 2, none⟩)) rfl (fun _ henv => rn_fieldAddr henv fd_anvil_api_Instr_2 (ty_int.size) (by decide) rfl) ?_
              refine sA (v := .int .i64 ra) rfl (fun _ henv => rn_load1 henv ty_int rfl (hst.oat (k := 0) rfl) rfl) ?_
              intro a henv
              refine seq_step rfl (op_buildSlice (z := 1) (pv := #[(0, .int .i64 ra)]) (c := #[.int .i64 ra]) henv hst rfl Tryd.underlying23 (ty_int.size) zero_int (by decide) (by decide) rfl (by kernel_rfl) ?_)
              clear henv hst a; intro a w81 g80 henv hst
              refine sv (v := .slice (some ⟨g80, 0, none⟩) 1 1) henv rfl (rn_assign henv rfl) ?_
              clear henv a; intro a henv
              refine wpList_nil ?_
              refine th_n ?_
              refine wp_ret ?_
              refine bl_r (th_r ?_)
              refine leave henv (res1 Tryd.results18 (RV.tmp henv rfl)) ?_
              exact ⟨_, rfl, by rw [show asksL op ra rb = [ra] by unfold asksL; rw [if_neg (by omega), if_pos (by omega)]]; exact irow_new (zs := [ra]) (hst.oat (k := 0) rfl) (hst.new _ (List.mem_of_getElem? (i := 0) rfl) _ rfl), hst.below⟩
            · have hx82 := ne_of_beq_false hc78
              refine wp_skip ?_
              refine bl_n (th_n ?_)
              refine wp_seq ?_
              refine region_seq ?_
              refine sv (v := .slice none 0 0) henv rfl (rn_assign henv rfl) ?_
              clear henv a; intro a henv
              refine wpList_nil ?_
              refine th_n ?_
              refine wp_ret ?_
              refine leave henv (res1 Tryd.results18 (RV.tmp henv rfl)) ?_
              exact ⟨_, rfl, by rw [show asksL op ra rb = [] by unfold asksL; rw [if_neg (by omega), if_neg (by omega)]]; exact irow_nil, hst.below⟩
          · have hx83 := ne_of_beq_false hc76
            refine wp_seq ?_
            refine region_seq ?_
            revert a
            refine sA (v := .bool (op == (6 : Int))) rfl (fun _ henv => rn_bin henv rfl rfl rfl) ?_
            refine aA rfl rfl ?_
            intro a henv
            refine wpList_nil ?_
            refine th_n ?_
            refine if_split henv rfl (fun hc84 => ?_) (fun hc84 => ?_)
            · have hx85 := eq_of_beq hc84
              refine wp_skip ?_
              refine th_n ?_
              refine if_split henv rfl (fun hc86 => ?_) (fun hc86 => ?_)
              · have hx87 := eq_of_beq hc86
                refine wp_seq ?_
                refine region_seq ?_
                revert a
                refine sA (v := .pointer (some ⟨g51, 2, none⟩)) rfl (fun _ henv => rn_fieldAddr henv fd_anvil_api_Instr_2 (ty_int.size) (by decide) rfl) ?_
                refine sA (v := .int .i64 ra) rfl (fun _ henv => rn_load1 henv ty_int rfl (hst.oat (k := 0) rfl) rfl) ?_
                intro a henv
                refine seq_step rfl (op_buildSlice (z := 1) (pv := #[(0, .int .i64 ra)]) (c := #[.int .i64 ra]) henv hst rfl Tryd.underlying23 (ty_int.size) zero_int (by decide) (by decide) rfl (by kernel_rfl) ?_)
                clear henv hst a; intro a w89 g88 henv hst
                refine sv (v := .slice (some ⟨g88, 0, none⟩) 1 1) henv rfl (rn_assign henv rfl) ?_
                clear henv a; intro a henv
                refine wpList_nil ?_
                refine th_n ?_
                refine wp_ret ?_
                refine bl_r (th_r ?_)
                refine leave henv (res1 Tryd.results18 (RV.tmp henv rfl)) ?_
                exact ⟨_, rfl, by rw [show asksL op ra rb = [ra] by unfold asksL; rw [if_neg (by omega), if_pos (by omega)]]; exact irow_new (zs := [ra]) (hst.oat (k := 0) rfl) (hst.new _ (List.mem_of_getElem? (i := 0) rfl) _ rfl), hst.below⟩
              · have hx90 := ne_of_beq_false hc86
                refine wp_skip ?_
                refine bl_n (th_n ?_)
                refine wp_seq ?_
                refine region_seq ?_
                refine sv (v := .slice none 0 0) henv rfl (rn_assign henv rfl) ?_
                clear henv a; intro a henv
                refine wpList_nil ?_
                refine th_n ?_
                refine wp_ret ?_
                refine leave henv (res1 Tryd.results18 (RV.tmp henv rfl)) ?_
                exact ⟨_, rfl, by rw [show asksL op ra rb = [] by unfold asksL; rw [if_neg (by omega), if_neg (by omega)]]; exact irow_nil, hst.below⟩
            · have hx91 := ne_of_beq_false hc84
              refine wp_seq ?_
              refine region_seq ?_
              revert a
              refine sA (v := .bool (op == (7 : Int))) rfl (fun _ henv => rn_bin henv rfl rfl rfl) ?_
              refine aA rfl rfl ?_
              intro a henv
              refine wpList_nil ?_
              refine th_n ?_
              refine if_split henv rfl (fun hc92 => ?_) (fun hc92 => ?_)
              · have hx93 := eq_of_beq hc92
                refine wp_skip ?_
                refine th_n ?_
                refine if_split henv rfl (fun hc94 => ?_) (fun hc94 => ?_)
                · have hx95 := eq_of_beq hc94
                  refine wp_seq ?_
                  refine region_seq ?_
                  revert a
                  refine sA (v := .pointer (some ⟨g51, 2, none⟩)) rfl (fun _ henv => rn_fieldAddr henv fd_anvil_api_Instr_2 (ty_int.size) (by decide) rfl) ?_
                  refine sA (v := .int .i64 ra) rfl (fun _ henv => rn_load1 henv ty_int rfl (hst.oat (k := 0) rfl) rfl) ?_
                  intro a henv
                  refine seq_step rfl (op_buildSlice (z := 1) (pv := #[(0, .int .i64 ra)]) (c := #[.int .i64 ra]) henv hst rfl Tryd.underlying23 (ty_int.size) zero_int (by decide) (by decide) rfl (by kernel_rfl) ?_)
                  clear henv hst a; intro a w97 g96 henv hst
                  refine sv (v := .slice (some ⟨g96, 0, none⟩) 1 1) henv rfl (rn_assign henv rfl) ?_
                  clear henv a; intro a henv
                  refine wpList_nil ?_
                  refine th_n ?_
                  refine wp_ret ?_
                  refine bl_r (th_r ?_)
                  refine leave henv (res1 Tryd.results18 (RV.tmp henv rfl)) ?_
                  exact ⟨_, rfl, by rw [show asksL op ra rb = [ra] by unfold asksL; rw [if_neg (by omega), if_pos (by omega)]]; exact irow_new (zs := [ra]) (hst.oat (k := 0) rfl) (hst.new _ (List.mem_of_getElem? (i := 0) rfl) _ rfl), hst.below⟩
                · have hx98 := ne_of_beq_false hc94
                  refine wp_skip ?_
                  refine bl_n (th_n ?_)
                  refine wp_seq ?_
                  refine region_seq ?_
                  refine sv (v := .slice none 0 0) henv rfl (rn_assign henv rfl) ?_
                  clear henv a; intro a henv
                  refine wpList_nil ?_
                  refine th_n ?_
                  refine wp_ret ?_
                  refine leave henv (res1 Tryd.results18 (RV.tmp henv rfl)) ?_
                  exact ⟨_, rfl, by rw [show asksL op ra rb = [] by unfold asksL; rw [if_neg (by omega), if_neg (by omega)]]; exact irow_nil, hst.below⟩
              · have hx99 := ne_of_beq_false hc92
                refine region_seq ?_
                revert a
                refine sA (v := .bool (op == (8 : Int))) rfl (fun _ henv => rn_bin henv rfl rfl rfl) ?_
                refine aA rfl rfl ?_
                intro a henv
                refine wpList_nil ?_
                refine th_n ?_
                refine if_split henv rfl (fun hc100 => ?_) (fun hc100 => ?_)
                · have hx101 := eq_of_beq hc100
                  refine wp_seq ?_
                  refine region_seq ?_
                  revert a
                  refine sA (v := .pointer (some ⟨g51, 2, none⟩)) rfl (fun _ henv => rn_fieldAddr henv fd_anvil_api_Instr_2 (ty_int.size) (by decide) rfl) ?_
                  refine sA (v := .int .i64 ra) rfl (fun _ henv => rn_load1 henv ty_int rfl (hst.oat (k := 0) rfl) rfl) ?_
                  intro a henv
                  refine seq_step rfl (op_buildSlice (z := 1) (pv := #[(0, .int .i64 ra)]) (c := #[.int .i64 ra]) henv hst rfl Tryd.underlying23 (ty_int.size) zero_int (by decide) (by decide) rfl (by kernel_rfl) ?_)
                  clear henv hst a; intro a w103 g102 henv hst
                  refine sv (v := .slice (some ⟨g102, 0, none⟩) 1 1) henv rfl (rn_assign henv rfl) ?_
                  clear henv a; intro a henv
                  refine wpList_nil ?_
                  refine th_n ?_
                  refine wp_ret ?_
                  refine bl_r (th_r ?_)
                  refine leave henv (res1 Tryd.results18 (RV.tmp henv rfl)) ?_
                  exact ⟨_, rfl, by rw [show asksL op ra rb = [ra] by unfold asksL; rw [if_neg (by omega), if_pos (by omega)]]; exact irow_new (zs := [ra]) (hst.oat (k := 0) rfl) (hst.new _ (List.mem_of_getElem? (i := 0) rfl) _ rfl), hst.below⟩
                · have hx104 := ne_of_beq_false hc100
                  refine wp_skip ?_
                  refine bl_n (th_n ?_)
                  refine wp_seq ?_
                  refine region_seq ?_
                  refine sv (v := .slice none 0 0) henv rfl (rn_assign henv rfl) ?_
                  clear henv a; intro a henv
                  refine wpList_nil ?_
                  refine th_n ?_
                  refine wp_ret ?_
                  refine leave henv (res1 Tryd.results18 (RV.tmp henv rfl)) ?_
                  exact ⟨_, rfl, by rw [show asksL op ra rb = [] by unfold asksL; rw [if_neg (by omega), if_neg (by omega)]]; exact irow_nil, hst.below⟩
  · have hx105 := ne_of_beq_false hc53
    refine region_seq ?_
    revert a
    refine sA (v := .bool (op == (4 : Int))) rfl (fun _ henv => rn_bin henv rfl rfl rfl) ?_
    refine aA rfl rfl ?_
    intro a henv
    refine wpList_nil ?_
    refine th_n ?_
    refine if_split henv rfl (fun hc106 => ?_) (fun hc106 => ?_)
    · have hx107 := eq_of_beq hc106
      refine wp_seq ?_
      refine region_seq ?_
      revert a
      refine sA (v := .pointer (some ⟨g51, 2, none⟩)) rfl (fun _ henv => rn_fieldAddr henv fd_anvil_api_Instr_2 (ty_int.size) (by decide) rfl) ?_
      refine sA (v := .int .i64 ra) rfl (fun _ henv => rn_load1 henv ty_int rfl (hst.oat (k := 0) rfl) rfl) ?_
      refine sA (v := .pointer (some ⟨g51, 3, none⟩)) rfl (fun _ henv => rn_fieldAddr henv fd_anvil_api_Instr_3 (ty_int.size) (by decide) rfl) ?_
      refine sA (v := .int .i64 rb) rfl (fun _ henv => rn_load1 henv ty_int rfl (hst.oat (k := 0) rfl) rfl) ?_
      intro a henv
      refine seq_step rfl (op_buildSlice (z := 1) (pv := #[(0, .int .i64 ra), (1, .int .i64 rb)]) (c := #[.int .i64 ra, .int .i64 rb]) henv hst rfl Tryd.underlying23 (ty_int.size) zero_int (by decide) (by decide) rfl (by kernel_rfl) ?_)
      clear henv hst a; intro a w109 g108 henv hst
      refine sv (v := .slice (some ⟨g108, 0, none⟩) 2 2) henv rfl (rn_assign henv rfl) ?_
      clear henv a; intro a henv
      refine wpList_nil ?_
      refine th_n ?_
      refine wp_ret ?_
      refine bl_r (th_r ?_)
      refine leave henv (res1 Tryd.results18 (RV.tmp henv rfl)) ?_
      exact ⟨_, rfl, by rw [show asksL op ra rb = [ra, rb] by unfold asksL; rw [if_pos (by omega)]]; exact irow_new (zs := [ra, rb]) (hst.oat (k := 0) rfl) (hst.new _ (List.mem_of_getElem? (i := 0) rfl) _ rfl), hst.below⟩
    · have hx110 := ne_of_beq_false hc106
      refine wp_seq ?_
      refine wp_seq ?_
      refine region_seq ?_
      revert a
      refine sA (v := .bool (op == (1 : Int))) rfl (fun _ henv => rn_bin henv rfl rfl rfl) ?_
      refine aA rfl rfl ?_
      intro a henv
      refine wpList_nil ?_
      refine th_n ?_
      refine if_split henv rfl (fun hc111 => ?_) (fun hc111 => ?_)
      · have hx112 := eq_of_beq hc111
        refine wp_skip ?_
        refine th_n ?_
        refine if_split henv rfl (fun hc113 => ?_) (fun hc113 => ?_)
        · have hx114 := eq_of_beq hc113
          refine wp_seq ?_
          refine region_seq ?_
          revert a
          refine sA (v := .pointer (some ⟨g51, 2, none⟩)) rfl (fun _ henv => rn_fieldAddr henv fd_anvil_api_Instr_2 (ty_int.size) (by decide) rfl) ?_
          refine sA (v := .int .i64 ra) rfl (fun _ henv => rn_load1 henv ty_int rfl (hst.oat (k := 0) rfl) rfl) ?_
          intro a henv
          refine seq_step rfl (op_buildSlice (z := 1) (pv := #[(0, .int .i64 ra)]) (c := #[.int .i64 ra]) henv hst rfl Tryd.underlying23 (ty_int.size) zero_int (by decide) (by decide) rfl (by kernel_rfl) ?_)
          clear henv hst a; intro a w116 g115 henv hst
          refine sv (v := .slice (some ⟨g115, 0, none⟩) 1 1) henv rfl (rn_assign henv rfl) ?_
          clear henv a; intro a henv
          refine wpList_nil ?_
          refine th_n ?_
          refine wp_ret ?_
          refine bl_r (th_r ?_)
          refine leave henv (res1 Tryd.results18 (RV.tmp henv rfl)) ?_
          exact ⟨_, rfl, by rw [show asksL op ra rb = [ra] by unfold asksL; rw [if_neg (by omega), if_pos (by omega)]]; exact irow_new (zs := [ra]) (hst.oat (k := 0) rfl) (hst.new _ (List.mem_of_getElem? (i := 0) rfl) _ rfl), hst.below⟩
        · have hx117 := ne_of_beq_false hc113
          refine wp_skip ?_
          refine bl_n (th_n ?_)
          refine wp_seq ?_
          refine region_seq ?_
          refine sv (v := .slice none 0 0) henv rfl (rn_assign henv rfl) ?_
          clear henv a; intro a henv
          refine wpList_nil ?_
          refine th_n ?_
          refine wp_ret ?_
          refine leave henv (res1 Tryd.results18 (RV.tmp henv rfl)) ?_
          exact ⟨_, rfl, by rw [show asksL op ra rb = [] by unfold asksL; rw [if_neg (by omega), if_neg (by omega)]]; exact irow_nil, hst.below⟩
      · have hx118 := ne_of_beq_false hc111
        refine wp_seq ?_
        refine region_seq ?_
        revert a
        refine sA (v := .bool (op == (2 : Int))) rfl (fun _ henv => rn_bin henv rfl rfl rfl) ?_
        refine aA rfl rfl ?_
        intro a henv
        refine wpList_nil ?_
        refine th_n ?_
        refine if_split henv rfl (fun hc119 => ?_) (fun hc119 => ?_)
        · have hx120 := eq_of_beq hc119
          refine wp_skip ?_
          refine th_n ?_
          refine if_split henv rfl (fun hc121 => ?_) (fun hc121 => ?_)
          · have hx122 := eq_of_beq hc121
            refine wp_seq ?_
            refine region_seq ?_
            revert a
            refine sA (v := .pointer (some ⟨g51, 2, none⟩)) rfl (fun _ henv => rn_fieldAddr henv fd_anvil_api_Instr_2 (ty_int.size) (by decide) rfl) ?_
            refine sA (v := .int .i64 ra) rfl (fun _ henv => rn_load1 henv ty_int rfl (hst.oat (k := 0) rfl) rfl) ?_
            intro a henv
            refine seq_step rfl (op_buildSlice (z := 1) (pv := #[(0, .int .i64 ra)]) (c := #[.int .i64 ra]) henv hst rfl Tryd.underlying23 (ty_int.size) zero_int (by decide) (by decide) rfl (by kernel_rfl) ?_)
            clear henv hst a; intro a w124 g123 henv hst
            refine sv (v := .slice (some ⟨g123, 0, none⟩) 1 1) henv rfl (rn_assign henv rfl) ?_
            clear henv a; intro a henv
            refine wpList_nil ?_
            refine th_n ?_
            refine wp_ret ?_
            refine bl_r (th_r ?_)
            refine leave henv (res1 Tryd.results18 (RV.tmp henv rfl)) ?_
            exact ⟨_, rfl, by rw [show asksL op ra rb = [ra] by unfold asksL; rw [if_neg (by omega), if_pos (by omega)]]; exact irow_new (zs := [ra]) (hst.oat (k := 0) rfl) (hst.new _ (List.mem_of_getElem? (i := 0) rfl) _ rfl), hst.below⟩
          · have hx125 := ne_of_beq_false hc121
            refine wp_skip ?_
            refine bl_n (th_n ?_)
            refine wp_seq ?_
            refine region_seq ?_
            refine sv (v := .slice none 0 0) henv rfl (rn_assign henv rfl) ?_
            clear henv a; intro a henv
            refine wpList_nil ?_
            refine th_n ?_
            refine wp_ret ?_
            refine leave henv (res1 Tryd.results18 (RV.tmp henv rfl)) ?_
            exact ⟨_, rfl, by rw [show asksL op ra rb = [] by unfold asksL; rw [if_neg (by omega), if_neg (by omega)]]; exact irow_nil, hst.below⟩
        · have hx126 := ne_of_beq_false hc119
          refine wp_seq ?_
          refine region_seq ?_
          revert a
          refine sA (v := .bool (op == (5 : Int))) rfl (fun _ henv => rn_bin henv rfl rfl rfl) ?_
          refine aA rfl rfl ?_
          intro a henv
          refine wpList_nil ?_
          refine th_n ?_
          refine if_split henv rfl (fun hc127 => ?_) (fun hc127 => ?_)
          · have hx128 := eq_of_beq hc127
            refine wp_skip ?_
            refine th_n ?_
            refine if_split henv rfl (fun hc129 => ?_) (fun hc129 => ?_)
            · have hx130 := eq_of_beq hc129
              refine wp_seq ?_
              refine region_seq ?_
              revert a
              refine sA (v := .pointer (some ⟨g51, 2, none⟩)) rfl (fun _ henv => rn_fieldAddr henv fd_anvil_api_Instr_2 (ty_int.size) (by decide) rfl) ?_
              refine sA (v := .int .i64 ra) rfl (fun _ henv => rn_load1 henv ty_int rfl (hst.oat (k := 0) rfl) rfl) ?_
              intro a henv
              refine seq_step rfl (op_buildSlice (z := 1) (pv := #[(0, .int .i64 ra)]) (c := #[.int .i64 ra]) henv hst rfl Tryd.underlying23 (ty_int.size) zero_int (by decide) (by decide) rfl (by kernel_rfl) ?_)
              clear henv hst a; intro a w132 g131 henv hst
              refine sv (v := .slice (some ⟨g131, 0, none⟩) 1 1) henv rfl (rn_assign henv rfl) ?_
              clear henv a; intro a henv
              refine wpList_nil ?_
              refine th_n ?_
              refine wp_ret ?_
              refine bl_r (th_r ?_)
              refine leave henv (res1 Tryd.results18 (RV.tmp henv rfl)) ?_
              exact ⟨_, rfl, by rw [show asksL op ra rb = [ra] by unfold asksL; rw [if_neg (by omega), if_pos (by omega)]]; exact irow_new (zs := [ra]) (hst.oat (k := 0) rfl) (hst.new _ (List.mem_of_getElem? (i := 0) rfl) _ rfl), hst.below⟩
            · have hx133 := ne_of_beq_false hc129
              refine wp_skip ?_
              refine bl_n (th_n ?_)
              refine wp_seq ?_
              refine region_seq ?_
              refine sv (v := .slice none 0 0) henv rfl (rn_assign henv rfl) ?_
              clear henv a; intro a henv
              refine wpList_nil ?_
              refine th_n ?_
              refine wp_ret ?_
              refine leave henv (res1 Tryd.results18 (RV.tmp henv rfl)) ?_
              exact ⟨_, rfl, by rw [show asksL op ra rb = [] by unfold asksL; rw [if_neg (by omega), if_neg (by omega)]]; exact irow_nil, hst.below⟩
          · have hx134 := ne_of_beq_false hc127
            refine wp_seq ?_
            refine region_seq ?_
            revert a
            refine sA (v := .bool (op == (6 : Int))) rfl (fun _ henv => rn_bin henv rfl rfl rfl) ?_
            refine aA rfl rfl ?_
            intro a henv
            refine wpList_nil ?_
            refine th_n ?_
            refine if_split henv rfl (fun hc135 => ?_) (fun hc135 => ?_)
            · have hx136 := eq_of_beq hc135
              refine wp_skip ?_
              refine th_n ?_
              refine if_split henv rfl (fun hc137 => ?_) (fun hc137 => ?_)
              · have hx138 := eq_of_beq hc137
                refine wp_seq ?_
                refine region_seq ?_
                revert a
                refine sA (v := .pointer (some ⟨g51, 2, none⟩)) rfl (fun _ henv => rn_fieldAddr henv fd_anvil_api_Instr_2 (ty_int.size) (by decide) rfl) ?_
                refine sA (v := .int .i64 ra) rfl (fun _ henv => rn_load1 henv ty_int rfl (hst.oat (k := 0) rfl) rfl) ?_
                intro a henv
                refine seq_step rfl (op_buildSlice (z := 1) (pv := #[(0, .int .i64 ra)]) (c := #[.int .i64 ra]) henv hst rfl Tryd.underlying23 (ty_int.size) zero_int (by decide) (by decide) rfl (by kernel_rfl) ?_)
                clear henv hst a; intro a w140 g139 henv hst
                refine sv (v := .slice (some ⟨g139, 0, none⟩) 1 1) henv rfl (rn_assign henv rfl) ?_
                clear henv a; intro a henv
                refine wpList_nil ?_
                refine th_n ?_
                refine wp_ret ?_
                refine bl_r (th_r ?_)
                refine leave henv (res1 Tryd.results18 (RV.tmp henv rfl)) ?_
                exact ⟨_, rfl, by rw [show asksL op ra rb = [ra] by unfold asksL; rw [if_neg (by omega), if_pos (by omega)]]; exact irow_new (zs := [ra]) (hst.oat (k := 0) rfl) (hst.new _ (List.mem_of_getElem? (i := 0) rfl) _ rfl), hst.below⟩
              · have hx141 := ne_of_beq_false hc137
                refine wp_skip ?_
                refine bl_n (th_n ?_)
                refine wp_seq ?_
                refine region_seq ?_
                refine sv (v := .slice none 0 0) henv rfl (rn_assign henv rfl) ?_
                clear henv a; intro a henv
                refine wpList_nil ?_
                refine th_n ?_
                refine wp_ret ?_
                refine leave henv (res1 Tryd.results18 (RV.tmp henv rfl)) ?_
                exact ⟨_, rfl, by rw [show asksL op ra rb = [] by unfold asksL; rw [if_neg (by omega), if_neg (by omega)]]; exact irow_nil, hst.below⟩
            · have hx142 := ne_of_beq_false hc135
              refine wp_seq ?_
              refine region_seq ?_
              revert a
              refine sA (v := .bool (op == (7 : Int))) rfl (fun _ henv => rn_bin henv rfl rfl rfl) ?_
              refine aA rfl rfl ?_
              intro a henv
              refine wpList_nil ?_
              refine th_n ?_
              refine if_split henv rfl (fun hc143 => ?_) (fun hc143 => ?_)
              · have hx144 := eq_of_beq hc143
                refine wp_skip ?_
                refine th_n ?_
                refine if_split henv rfl (fun hc145 => ?_) (fun hc145 => ?_)
                · have hx146 := eq_of_beq hc145
                  refine wp_seq ?_
                  refine region_seq ?_
                  revert a
                  refine sA (v := .pointer (some ⟨g51, 2, none⟩)) rfl (fun _ henv => rn_fieldAddr henv fd_anvil_api_Instr_2 (ty_int.size) (by decide) rfl) ?_
                  refine sA (v := .int .i64 ra) rfl (fun _ henv => rn_load1 henv ty_int rfl (hst.oat (k := 0) rfl) rfl) ?_
                  intro a henv
                  refine seq_step rfl (op_buildSlice (z := 1) (pv := #[(0, .int .i64 ra)]) (c := #[.int .i64 ra]) henv hst rfl Tryd.underlying23 (ty_int.size) zero_int (by decide) (by decide) rfl (by kernel_rfl) ?_)
                  clear henv hst a; intro a w148 g147 henv hst
                  refine sv (v := .slice (some ⟨g147, 0, none⟩) 1 1) henv rfl (rn_assign henv rfl) ?_
                  clear henv a; intro a henv
                  refine wpList_nil ?_
                  refine th_n ?_
                  refine wp_ret ?_
                  refine bl_r (th_r ?_)
                  refine leave henv (res1 Tryd.results18 (RV.tmp henv rfl)) ?_
                  exact ⟨_, rfl, by rw [show asksL op ra rb = [ra] by unfold asksL; rw [if_neg (by omega), if_pos (by omega)]]; exact irow_new (zs := [ra]) (hst.oat (k := 0) rfl) (hst.new _ (List.mem_of_getElem? (i := 0) rfl) _ rfl), hst.below⟩
                · have hx149 := ne_of_beq_false hc145
                  refine wp_skip ?_
                  refine bl_n (th_n ?_)
                  refine wp_seq ?_
                  refine region_seq ?_
                  refine sv (v := .slice none 0 0) henv rfl (rn_assign henv rfl) ?_
                  clear henv a; intro a henv
                  refine wpList_nil ?_
                  refine th_n ?_
                  refine wp_ret ?_
                  refine leave henv (res1 Tryd.results18 (RV.tmp henv rfl)) ?_
                  exact ⟨_, rfl, by rw [show asksL op ra rb = [] by unfold asksL; rw [if_neg (by omega), if_neg (by omega)]]; exact irow_nil, hst.below⟩
              · have hx150 := ne_of_beq_false hc143
                refine region_seq ?_
                revert a
                refine sA (v := .bool (op == (8 : Int))) rfl (fun _ henv => rn_bin henv rfl rfl rfl) ?_
                refine aA rfl rfl ?_
                intro a henv
                refine wpList_nil ?_
                refine th_n ?_
                refine if_split henv rfl (fun hc151 => ?_) (fun hc151 => ?_)
                · have hx152 := eq_of_beq hc151
                  refine wp_seq ?_
                  refine region_seq ?_
                  revert a
                  refine sA (v := .pointer (some ⟨g51, 2, none⟩)) rfl (fun _ henv => rn_fieldAddr henv fd_anvil_api_Instr_2 (ty_int.size) (by decide) rfl) ?_
                  refine sA (v := .int .i64 ra) rfl (fun _ henv => rn_load1 henv ty_int rfl (hst.oat (k := 0) rfl) rfl) ?_
                  intro a henv
                  refine seq_step rfl (op_buildSlice (z := 1) (pv := #[(0, .int .i64 ra)]) (c := #[.int .i64 ra]) henv hst rfl Tryd.underlying23 (ty_int.size) zero_int (by decide) (by decide) rfl (by kernel_rfl) ?_)
                  clear henv hst a; intro a w154 g153 henv hst
                  refine sv (v := .slice (some ⟨g153, 0, none⟩) 1 1) henv rfl (rn_assign henv rfl) ?_
                  clear henv a; intro a henv
                  refine wpList_nil ?_
                  refine th_n ?_
                  refine wp_ret ?_
                  refine bl_r (th_r ?_)
                  refine leave henv (res1 Tryd.results18 (RV.tmp henv rfl)) ?_
                  exact ⟨_, rfl, by rw [show asksL op ra rb = [ra] by unfold asksL; rw [if_neg (by omega), if_pos (by omega)]]; exact irow_new (zs := [ra]) (hst.oat (k := 0) rfl) (hst.new _ (List.mem_of_getElem? (i := 0) rfl) _ rfl), hst.below⟩
                · have hx155 := ne_of_beq_false hc151
                  refine wp_skip ?_
                  refine bl_n (th_n ?_)
                  refine wp_seq ?_
                  refine region_seq ?_
                  refine sv (v := .slice none 0 0) henv rfl (rn_assign henv rfl) ?_
                  clear henv a; intro a henv
                  refine wpList_nil ?_
                  refine th_n ?_
                  refine wp_ret ?_
                  refine leave henv (res1 Tryd.results18 (RV.tmp henv rfl)) ?_
                  exact ⟨_, rfl, by rw [show asksL op ra rb = [] by unfold asksL; rw [if_neg (by omega), if_neg (by omega)]]; exact irow_nil, hst.below⟩
set_option maxRecDepth 100000 in
set_option maxHeartbeats 4000000 in
theorem g_may {op tr ra rb cn : Int} {g : Int} {w0 : World} :
    Calls Tryd.prog 34 #[.agg #[.int .i64 op, .int .i64 tr, .int .i64 ra, .int .i64 rb, .int .i64 cn], .int .i64 g] w0 fun e w' => e = .returned (.bool (decide (May (op, tr, ra, rb, cn) g))) ∧ Below w0.heap.size w0 w' := by
  have hal := asks_len op ra rb
  refine enter Tryd.func34 rfl Tryd.ntmps34 rfl ?_
  intro a henv hst
  refine wp_seq ?_
  refine region_seq ?_
  refine seq_step rfl (op_box (c := #[.int .i64 op, .int .i64 tr, .int .i64 ra, .int .i64 rb, .int .i64 cn]) henv hst rfl rfl rfl ?_)
  clear henv hst a; intro a w52 g51 henv hst
  refine sv (v := .bool false) henv rfl (rn_assign henv rfl) ?_
  clear henv a; intro a henv
  refine wpList_nil ?_
  refine th_n ?_
  refine wp_seq ?_
  refine wp_seq ?_
  refine region_seq ?_
  revert a
  refine sA (v := .pointer (some ⟨g51, 0, none⟩)) rfl (fun _ henv => rn_fieldAddr henv fd_anvil_api_Instr_0 (ty_int.size) (by decide) rfl) ?_
  refine sA (v := .int .i64 op) rfl (fun _ henv => rn_load1 henv ty_int rfl (hst.oat (k := 0) rfl) rfl) ?_
  refine sA (v := .bool (decide (op < (1 : Int)))) rfl (fun _ henv => rn_bin henv rfl rfl rfl) ?_
  refine mA rfl rfl ?_
  intro a henv
  rcases bool_em (decide (op < (1 : Int))) with hg53 | hg53
  · rw [hg53] at henv
    have hx54 := of_decide_eq_true hg53
    revert a
    refine kA rfl rfl rfl rfl rfl ?_
    refine kA rfl rfl rfl rfl rfl ?_
    refine kA rfl rfl rfl rfl rfl ?_
    refine sA (v := .bool true) rfl (fun _ henv => rn_pick henv rfl rfl) ?_
    refine mA rfl rfl ?_
    refine kA rfl rfl rfl rfl rfl ?_
    refine kA rfl rfl rfl rfl rfl ?_
    refine kA rfl rfl rfl rfl rfl ?_
    refine sA (v := .bool true) rfl (fun _ henv => rn_pick henv rfl rfl) ?_
    refine mA rfl rfl ?_
    refine kA rfl rfl rfl rfl rfl ?_
    refine kA rfl rfl rfl rfl rfl ?_
    refine kA rfl rfl rfl rfl rfl ?_
    refine kA rfl rfl rfl rfl rfl ?_
    refine sA (v := .bool true) rfl (fun _ henv => rn_pick henv rfl rfl) ?_
    refine mA rfl rfl ?_
    refine kA rfl rfl rfl rfl rfl ?_
    refine kA rfl rfl rfl rfl rfl ?_
    refine kA rfl rfl rfl rfl rfl ?_
    refine kA rfl rfl rfl rfl rfl ?_
    refine kA rfl rfl rfl rfl rfl ?_
    refine kA rfl rfl rfl rfl rfl ?_
    refine kA rfl rfl rfl rfl rfl ?_
    refine kA rfl rfl rfl rfl rfl ?_
    refine kA rfl rfl rfl rfl rfl ?_
    refine sA (v := .bool true) rfl (fun _ henv => rn_pick henv rfl rfl) ?_
    refine mA rfl rfl ?_
    refine kA rfl rfl rfl rfl rfl ?_
    refine kA rfl rfl rfl rfl rfl ?_
    refine kA rfl rfl rfl rfl rfl ?_
    refine sA (v := .bool true) rfl (fun _ henv => rn_pick henv rfl rfl) ?_
    intro a henv
    refine wpList_nil ?_
    refine th_n ?_
    refine if_t henv rfl (rfl) ?_
    refine wp_seq ?_
    refine region_seq ?_
    refine sv (v := .bool false) henv rfl (rn_assign henv rfl) ?_
    clear henv a; intro a henv
    refine wpList_nil ?_
    refine th_n ?_
    refine wp_ret ?_
    refine th_r ?_
    refine leave henv (res1 Tryd.results34 (RV.tmp henv rfl)) ?_
    exact ⟨by rw [decide_eq_false (show ¬ May (op, tr, ra, rb, cn) g by unfold May; (try unfold CN at *); (try simp only at *); omega)], hst.below⟩
  · rw [hg53] at henv
    have hx55 := of_decide_eq_false hg53
    revert a
    refine gA (v := .pointer (some ⟨g51, 0, none⟩)) rfl rfl rfl rfl (fun _ henv => rn_fieldAddr henv fd_anvil_api_Instr_0 (ty_int.size) (by decide) rfl) ?_
    refine gA (v := .int .i64 op) rfl rfl rfl rfl (fun _ henv => rn_load1 henv ty_int rfl (hst.oat (k := 0) rfl) rfl) ?_
    refine gA (v := .bool (decide (op > (8 : Int)))) rfl rfl rfl rfl (fun _ henv => rn_bin henv rfl rfl rfl) ?_
    refine sA (v := .bool (decide (op > (8 : Int)))) rfl (fun _ henv => rn_pick henv rfl rfl) ?_
    refine mA rfl rfl ?_
    intro a henv
    rcases bool_em (decide (op > (8 : Int))) with hg56 | hg56
    · rw [hg56] at henv
      have hx57 := of_decide_eq_true hg56
      revert a
      refine kA rfl rfl rfl rfl rfl ?_
      refine kA rfl rfl rfl rfl rfl ?_
      refine kA rfl rfl rfl rfl rfl ?_
      refine sA (v := .bool true) rfl (fun _ henv => rn_pick henv rfl rfl) ?_
      refine mA rfl rfl ?_
      refine kA rfl rfl rfl rfl rfl ?_
      refine kA rfl rfl rfl rfl rfl ?_
      refine kA rfl rfl rfl rfl rfl ?_
      refine kA rfl rfl rfl rfl rfl ?_
      refine sA (v := .bool true) rfl (fun _ henv => rn_pick henv rfl rfl) ?_
      refine mA rfl rfl ?_
      refine kA rfl rfl rfl rfl rfl ?_
      refine kA rfl rfl rfl rfl rfl ?_
      refine kA rfl rfl rfl rfl rfl ?_
      refine kA rfl rfl rfl rfl rfl ?_
      refine kA rfl rfl rfl rfl rfl ?_
      refine kA rfl rfl rfl rfl rfl ?_
      refine kA rfl rfl rfl rfl rfl ?_
      refine kA rfl rfl rfl rfl rfl ?_
      refine kA rfl rfl rfl rfl rfl ?_
      refine sA (v := .bool true) rfl (fun _ henv => rn_pick henv rfl rfl) ?_
      refine mA rfl rfl ?_
      refine kA rfl rfl rfl rfl rfl ?_
      refine kA rfl rfl rfl rfl rfl ?_
      refine kA rfl rfl rfl rfl rfl ?_
      refine sA (v := .bool true) rfl (fun _ henv => rn_pick henv rfl rfl) ?_
      intro a henv
      refine wpList_nil ?_
      refine th_n ?_
      refine if_t henv rfl (rfl) ?_
      refine wp_seq ?_
      refine region_seq ?_
      refine sv (v := .bool false) henv rfl (rn_assign henv rfl) ?_
      clear henv a; intro a henv
      refine wpList_nil ?_
      refine th_n ?_
      refine wp_ret ?_
      refine th_r ?_
      refine leave henv (res1 Tryd.results34 (RV.tmp henv rfl)) ?_
      exact ⟨by rw [decide_eq_false (show ¬ May (op, tr, ra, rb, cn) g by unfold May; (try unfold CN at *); (try simp only at *); omega)], hst.below⟩
    · rw [hg56] at henv
      have hx58 := of_decide_eq_false hg56
      revert a
      refine gA (v := .pointer (some ⟨g51, 1, none⟩)) rfl rfl rfl rfl (fun _ henv => rn_fieldAddr henv fd_anvil_api_Instr_1 (ty_int.size) (by decide) rfl) ?_
      refine gA (v := .int .i64 tr) rfl rfl rfl rfl (fun _ henv => rn_load1 henv ty_int rfl (hst.oat (k := 0) rfl) rfl) ?_
      refine gA (v := .bool (decide (tr < (0 : Int)))) rfl rfl rfl rfl (fun _ henv => rn_bin henv rfl rfl rfl) ?_
      refine sA (v := .bool (decide (tr < (0 : Int)))) rfl (fun _ henv => rn_pick henv rfl rfl) ?_
      refine mA rfl rfl ?_
      intro a henv
      rcases bool_em (decide (tr < (0 : Int))) with hg59 | hg59
      · rw [hg59] at henv
        have hx60 := of_decide_eq_true hg59
        revert a
        refine kA rfl rfl rfl rfl rfl ?_
        refine kA rfl rfl rfl rfl rfl ?_
        refine kA rfl rfl rfl rfl rfl ?_
        refine kA rfl rfl rfl rfl rfl ?_
        refine sA (v := .bool true) rfl (fun _ henv => rn_pick henv rfl rfl) ?_
        refine mA rfl rfl ?_
        refine kA rfl rfl rfl rfl rfl ?_
        refine kA rfl rfl rfl rfl rfl ?_
        refine kA rfl rfl rfl rfl rfl ?_
        refine kA rfl rfl rfl rfl rfl ?_
        refine kA rfl rfl rfl rfl rfl ?_
        refine kA rfl rfl rfl rfl rfl ?_
        refine kA rfl rfl rfl rfl rfl ?_
        refine kA rfl rfl rfl rfl rfl ?_
        refine kA rfl rfl rfl rfl rfl ?_
        refine sA (v := .bool true) rfl (fun _ henv => rn_pick henv rfl rfl) ?_
        refine mA rfl rfl ?_
        refine kA rfl rfl rfl rfl rfl ?_
        refine kA rfl rfl rfl rfl rfl ?_
        refine kA rfl rfl rfl rfl rfl ?_
        refine sA (v := .bool true) rfl (fun _ henv => rn_pick henv rfl rfl) ?_
        intro a henv
        refine wpList_nil ?_
        refine th_n ?_
        refine if_t henv rfl (rfl) ?_
        refine wp_seq ?_
        refine region_seq ?_
        refine sv (v := .bool false) henv rfl (rn_assign henv rfl) ?_
        clear henv a; intro a henv
        refine wpList_nil ?_
        refine th_n ?_
        refine wp_ret ?_
        refine th_r ?_
        refine leave henv (res1 Tryd.results34 (RV.tmp henv rfl)) ?_
        exact ⟨by rw [decide_eq_false (show ¬ May (op, tr, ra, rb, cn) g by unfold May; (try unfold CN at *); (try simp only at *); omega)], hst.below⟩
      · rw [hg59] at henv
        have hx61 := of_decide_eq_false hg59
        revert a
        refine gA (v := .pointer (some ⟨g51, 1, none⟩)) rfl rfl rfl rfl (fun _ henv => rn_fieldAddr henv fd_anvil_api_Instr_1 (ty_int.size) (by decide) rfl) ?_
        refine gA (v := .int .i64 tr) rfl rfl rfl rfl (fun _ henv => rn_load1 henv ty_int rfl (hst.oat (k := 0) rfl) rfl) ?_
        refine gA (v := .int .i64 g) rfl rfl rfl rfl (fun _ henv => rn_move henv rfl) ?_
        refine gA (v := .bool (decide (tr ≥ g))) rfl rfl rfl rfl (fun _ henv => rn_bin henv rfl rfl rfl) ?_
        refine sA (v := .bool (decide (tr ≥ g))) rfl (fun _ henv => rn_pick henv rfl rfl) ?_
        refine mA rfl rfl ?_
        intro a henv
        rcases bool_em (decide (tr ≥ g)) with hg62 | hg62
        · rw [hg62] at henv
          have hx63 := of_decide_eq_true hg62
          revert a
          refine kA rfl rfl rfl rfl rfl ?_
          refine kA rfl rfl rfl rfl rfl ?_
          refine kA rfl rfl rfl rfl rfl ?_
          refine kA rfl rfl rfl rfl rfl ?_
          refine kA rfl rfl rfl rfl rfl ?_
          refine kA rfl rfl rfl rfl rfl ?_
          refine kA rfl rfl rfl rfl rfl ?_
          refine kA rfl rfl rfl rfl rfl ?_
          refine kA rfl rfl rfl rfl rfl ?_
          refine sA (v := .bool true) rfl (fun _ henv => rn_pick henv rfl rfl) ?_
          refine mA rfl rfl ?_
          refine kA rfl rfl rfl rfl rfl ?_
          refine kA rfl rfl rfl rfl rfl ?_
          refine kA rfl rfl rfl rfl rfl ?_
          refine sA (v := .bool true) rfl (fun _ henv => rn_pick henv rfl rfl) ?_
          intro a henv
          refine wpList_nil ?_
          refine th_n ?_
          refine if_t henv rfl (rfl) ?_
          refine wp_seq ?_
          refine region_seq ?_
          refine sv (v := .bool false) henv rfl (rn_assign henv rfl) ?_
          clear henv a; intro a henv
          refine wpList_nil ?_
          refine th_n ?_
          refine wp_ret ?_
          refine th_r ?_
          refine leave henv (res1 Tryd.results34 (RV.tmp henv rfl)) ?_
          exact ⟨by rw [decide_eq_false (show ¬ May (op, tr, ra, rb, cn) g by unfold May; (try unfold CN at *); (try simp only at *); omega)], hst.below⟩
        · rw [hg62] at henv
          have hx64 := of_decide_eq_false hg62
          revert a
          refine gA (v := .pointer (some ⟨g51, 0, none⟩)) rfl rfl rfl rfl (fun _ henv => rn_fieldAddr henv fd_anvil_api_Instr_0 (ty_int.size) (by decide) rfl) ?_
          refine gA (v := .int .i64 op) rfl rfl rfl rfl (fun _ henv => rn_load1 henv ty_int rfl (hst.oat (k := 0) rfl) rfl) ?_
          intro a henv
          refine seq_g rfl henv rfl rfl (op_call henv rfl Tryd.call57 rfl (g_two (op := op)) ?_)
          rintro e w65 ⟨rfl, hb⟩
          refine ⟨_, rfl, ?_⟩
          clear henv a; intro a henv
          replace hst := hst.call hb
          clear hb
          revert a
          refine gA (v := .bool (!(decide (op = 3 ∨ op = 4)))) rfl rfl rfl rfl (fun _ henv => rn_un henv rfl rfl) ?_
          refine gA (v := .bool (!(decide (op = 3 ∨ op = 4)))) rfl rfl rfl rfl (fun _ henv => rn_move henv rfl) ?_
          intro a henv
          rcases bool_em (!(decide (op = 3 ∨ op = 4))) with hg66 | hg66
          · rw [hg66] at henv
            have hx67 := of_decide_eq_false (bnot_t hg66)
            revert a
            refine gA (v := .pointer (some ⟨g51, 3, none⟩)) rfl rfl rfl rfl (fun _ henv => rn_fieldAddr henv fd_anvil_api_Instr_3 (ty_int.size) (by decide) rfl) ?_
            refine gA (v := .int .i64 rb) rfl rfl rfl rfl (fun _ henv => rn_load1 henv ty_int rfl (hst.oat (k := 0) rfl) rfl) ?_
            refine gA (v := .bool (rb != (0 : Int))) rfl rfl rfl rfl (fun _ henv => rn_bin henv rfl rfl rfl) ?_
            refine gA (v := .bool (rb != (0 : Int))) rfl rfl rfl rfl (fun _ henv => rn_pick henv rfl rfl) ?_
            refine sA (v := .bool (rb != (0 : Int))) rfl (fun _ henv => rn_pick henv rfl rfl) ?_
            refine mA rfl rfl ?_
            intro a henv
            rcases bool_em (rb != (0 : Int)) with hg68 | hg68
            · rw [hg68] at henv
              have hx69 := bne_yes hg68
              revert a
              refine kA rfl rfl rfl rfl rfl ?_
              refine kA rfl rfl rfl rfl rfl ?_
              refine kA rfl rfl rfl rfl rfl ?_
              refine sA (v := .bool true) rfl (fun _ henv => rn_pick henv rfl rfl) ?_
              intro a henv
              refine wpList_nil ?_
              refine th_n ?_
              refine if_t henv rfl (rfl) ?_
              refine wp_seq ?_
              refine region_seq ?_
              refine sv (v := .bool false) henv rfl (rn_assign henv rfl) ?_
              clear henv a; intro a henv
              refine wpList_nil ?_
              refine th_n ?_
              refine wp_ret ?_
              refine th_r ?_
              refine leave henv (res1 Tryd.results34 (RV.tmp henv rfl)) ?_
              exact ⟨by rw [decide_eq_false (show ¬ May (op, tr, ra, rb, cn) g by unfold May; (try unfold CN at *); (try simp only at *); omega)], hst.below⟩
            · rw [hg68] at henv
              have hx70 := bne_no hg68
              refine seq_g rfl henv rfl rfl (op_val (v := .agg #[.int .i64 op, .int .i64 tr, .int .i64 ra, .int .i64 rb, .int .i64 cn]) henv rfl (rn_load0 henv ty_anvil_api_Instr rfl (hst.oat (k := 0) rfl) rfl) ?_)
              clear henv a; intro a henv
              refine seq_g rfl henv rfl rfl (op_call henv rfl Tryd.call58 rfl (g_constant (op := op) (tr := tr) (ra := ra) (rb := rb) (cn := cn)) ?_)
              rintro e w71 ⟨rfl, hb⟩
              refine ⟨_, rfl, ?_⟩
              clear henv a; intro a henv
              replace hst := hst.call hb
              clear hb
              revert a
              refine gA (v := .bool (!(decide (CN op cn)))) rfl rfl rfl rfl (fun _ henv => rn_un henv rfl rfl) ?_
              refine sA (v := .bool (!(decide (CN op cn)))) rfl (fun _ henv => rn_pick henv rfl rfl) ?_
              intro a henv
              refine wpList_nil ?_
              refine th_n ?_
              refine if_split henv rfl (fun hc72 => ?_) (fun hc72 => ?_)
              · have hx73 := of_decide_eq_false (bnot_t hc72)
                refine wp_seq ?_
                refine region_seq ?_
                refine sv (v := .bool false) henv rfl (rn_assign henv rfl) ?_
                clear henv a; intro a henv
                refine wpList_nil ?_
                refine th_n ?_
                refine wp_ret ?_
                refine th_r ?_
                refine leave henv (res1 Tryd.results34 (RV.tmp henv rfl)) ?_
                exact ⟨by rw [decide_eq_false (show ¬ May (op, tr, ra, rb, cn) g by unfold May; (try unfold CN at *); (try simp only at *); omega)], hst.below⟩
              · have hx74 := of_decide_eq_true (bnot_f hc72)
                refine wp_skip ?_
                refine th_n ?_
                refine wp_seq ?_
                refine wp_seq ?_
                refine region_seq ?_
                refine sv (v := .agg #[.int .i64 op, .int .i64 tr, .int .i64 ra, .int .i64 rb, .int .i64 cn]) henv rfl (rn_load0 henv ty_anvil_api_Instr rfl (hst.oat (k := 0) rfl) rfl) ?_
                clear henv a; intro a henv
                refine seq_step rfl (op_call henv rfl Tryd.call18 rfl (g_asks (op := op) (tr := tr) (ra := ra) (rb := rb) (cn := cn)) ?_)
                rintro e w77 ⟨_, rfl, ⟨A75, c76, rfl, hr, hfr⟩, hb⟩
                refine ⟨_, rfl, ?_⟩
                clear henv a; intro a henv
                replace hst := hst.freshI hb hr hfr
                clear hr
                clear hb
                revert a
                refine sA (v := .int .i64 ((asksL op ra rb).length : Nat)) rfl (fun _ henv => rn_len henv Tryd.underlying23 rfl) ?_
                refine mA rfl rfl ?_
                intro a henv
                refine wpList_nil ?_
                refine th_n ?_
                refine wp_block ?_
                refine wp_loop_ghost (fun mz a w => ∃ j : Nat, (asksL op ra rb).length - j = mz ∧ Env 57 a [(1, .int .i64 g), (43, .slice A75 ((asksL op ra rb).length) c76), (44, .int .i64 ((asksL op ra rb).length : Nat)), (45, .int .i64 (j : Nat))] ∧ St w0 w [] [pfRow fI FI 1 A75 ((asksL op ra rb).length) c76 (asksL op ra rb)] ∧ j ≤ (asksL op ra rb).length ∧ (∀ x ∈ (asksL op ra rb).take j, 0 ≤ x ∧ x < g)) _ ⟨0, rfl, henv.sub ⟨rfl, rfl, rfl, rfl, trivial⟩, hst.pick [] [0] (by decide), (Nat.zero_le _), (fun _ h => by cases h)⟩ ?_
                clear henv hst a
                rintro mz a w78 ⟨j, rfl, henv, hst, hj, hall⟩
                refine wp_seq ?_
                refine region_seq ?_
                refine sv (v := .bool (decide (((j : Nat) : Int) < (((asksL op ra rb).length : Nat) : Int)))) henv rfl (rn_bin henv rfl rfl rfl) ?_
                clear henv a; intro a henv
                refine wpList_nil ?_
                refine th_n ?_
                refine wp_seq ?_
                refine if_split henv rfl (fun hc79 => ?_) (fun hc79 => ?_)
                · have hlt : j < (asksL op ra rb).length := by have := of_decide_eq_true hc79; omega
                  obtain ⟨x, he0⟩ : ∃ x, (asksL op ra rb)[j]? = some x := ⟨_, List.getElem?_eq_getElem hlt⟩
                  refine wp_skip ?_
                  refine th_n ?_
                  refine wp_seq ?_
                  refine wp_block ?_
                  refine wp_seq ?_
                  refine region_seq ?_
                  revert a
                  refine sA (v := .pointer (some ⟨ab A75, ao A75 + j * 1, none⟩)) rfl (fun _ henv => rn_idxR (i := j) henv Tryd.underlying23 (ty_int.size) rfl rfl (by omega) rfl (show (pfRow fI FI 1 A75 ((asksL op ra rb).length) c76 (asksL op ra rb)).P _ from (hst.pat (k := 0) rfl)).1) ?_
                  refine sA (v := .int .i64 x) rfl (fun _ henv => rn_loadE1 (i := j) (j := 0) (e := x) henv ty_int rfl rfl fI_len (by decide) (show (pfRow fI FI 1 A75 ((asksL op ra rb).length) c76 (asksL op ra rb)).P _ from (hst.pat (k := 0) rfl)).1 (by omega) he0 rfl) ?_
                  refine aA rfl rfl ?_
                  intro a henv
                  refine wpList_nil ?_
                  refine th_n ?_
                  refine wp_seq ?_
                  refine region_seq ?_
                  revert a
                  refine mA rfl rfl ?_
                  refine sA (v := .bool (decide (x < (0 : Int)))) rfl (fun _ henv => rn_bin henv rfl rfl rfl) ?_
                  refine mA rfl rfl ?_
                  intro a henv
                  rcases bool_em (decide (x < (0 : Int))) with hg80 | hg80
                  · rw [hg80] at henv
                    have hx81 := of_decide_eq_true hg80
                    revert a
                    refine kA rfl rfl rfl rfl rfl ?_
                    refine kA rfl rfl rfl rfl rfl ?_
                    refine kA rfl rfl rfl rfl rfl ?_
                    refine sA (v := .bool true) rfl (fun _ henv => rn_pick henv rfl rfl) ?_
                    intro a henv
                    refine wpList_nil ?_
                    refine th_n ?_
                    refine if_t henv rfl (rfl) ?_
                    refine wp_seq ?_
                    refine region_seq ?_
                    refine sv (v := .bool false) henv rfl (rn_assign henv rfl) ?_
                    clear henv a; intro a henv
                    refine wpList_nil ?_
                    refine th_n ?_
                    refine wp_ret ?_
                    refine bl_r (th_r (th_r (bl_r (th_r ?_))))
                    refine leave henv (res1 Tryd.results34 (RV.tmp henv rfl)) ?_
                    have hno : ¬ ∀ y ∈ (asksL op ra rb), 0 ≤ y ∧ y < g := fun q => by have := q x (List.mem_of_getElem? he0); omega
                    rw [asks_all] at hno
                    exact ⟨by rw [decide_eq_false (show ¬ May (op, tr, ra, rb, cn) g by unfold May; (try simp only at *); omega)], hst.below⟩
                  · rw [hg80] at henv
                    have hx82 := of_decide_eq_false hg80
                    revert a
                    refine gA (v := .int .i64 x) rfl rfl rfl rfl (fun _ henv => rn_move henv rfl) ?_
                    refine gA (v := .int .i64 g) rfl rfl rfl rfl (fun _ henv => rn_move henv rfl) ?_
                    refine gA (v := .bool (decide (x ≥ g))) rfl rfl rfl rfl (fun _ henv => rn_bin henv rfl rfl rfl) ?_
                    refine sA (v := .bool (decide (x ≥ g))) rfl (fun _ henv => rn_pick henv rfl rfl) ?_
                    intro a henv
                    refine wpList_nil ?_
                    refine th_n ?_
                    refine if_split henv rfl (fun hc83 => ?_) (fun hc83 => ?_)
                    · have hx84 := of_decide_eq_true hc83
                      refine wp_seq ?_
                      refine region_seq ?_
                      refine sv (v := .bool false) henv rfl (rn_assign henv rfl) ?_
                      clear henv a; intro a henv
                      refine wpList_nil ?_
                      refine th_n ?_
                      refine wp_ret ?_
                      refine bl_r (th_r (th_r (bl_r (th_r ?_))))
                      refine leave henv (res1 Tryd.results34 (RV.tmp henv rfl)) ?_
                      have hno : ¬ ∀ y ∈ (asksL op ra rb), 0 ≤ y ∧ y < g := fun q => by have := q x (List.mem_of_getElem? he0); omega
                      rw [asks_all] at hno
                      exact ⟨by rw [decide_eq_false (show ¬ May (op, tr, ra, rb, cn) g by unfold May; (try simp only at *); omega)], hst.below⟩
                    · have hx85 := of_decide_eq_false hc83
                      refine wp_skip ?_
                      refine bl_n (th_n ?_)
                      refine region_seq ?_
                      revert a
                      refine sA (v := .int .i64 (j + 1 : Nat)) rfl (fun _ henv => rn_add henv rfl rfl (by rw [IntWalk.i64_in _ (by omega)]; omega)) ?_
                      refine mA rfl rfl ?_
                      intro a henv
                      refine wpList_nil ?_
                      exact th_n ⟨_, (by omega), ⟨j + 1, rfl, henv.sub ⟨rfl, rfl, rfl, rfl, trivial⟩, hst.pick [] [0] (by decide), (by omega), (all_snoc hall he0 (by omega))⟩⟩
                · have hfull := all_full hall (show (asksL op ra rb).length ≤ j by have := of_decide_eq_false hc79; omega)
                  rw [asks_all] at hfull
                  refine wp_exit ?_
                  refine th_x (th_x (bl_x (th_n ?_)))
                  refine wp_seq ?_
                  refine region_seq ?_
                  refine sv (v := .bool true) henv rfl (rn_assign henv rfl) ?_
                  clear henv a; intro a henv
                  refine wpList_nil ?_
                  refine th_n ?_
                  refine wp_ret ?_
                  refine leave henv (res1 Tryd.results34 (RV.tmp henv rfl)) ?_
                  exact ⟨by rw [decide_eq_true (show May (op, tr, ra, rb, cn) g by unfold May; (try unfold CN at *); (try simp only at *); omega)], hst.below⟩
          · rw [hg66] at henv
            have hx86 := of_decide_eq_true (bnot_f hg66)
            revert a
            refine kA rfl rfl rfl rfl rfl ?_
            refine kA rfl rfl rfl rfl rfl ?_
            refine kA rfl rfl rfl rfl rfl ?_
            refine gA (v := .bool false) rfl rfl rfl rfl (fun _ henv => rn_pick henv rfl rfl) ?_
            refine sA (v := .bool false) rfl (fun _ henv => rn_pick henv rfl rfl) ?_
            refine mA rfl rfl ?_
            refine gA (v := .agg #[.int .i64 op, .int .i64 tr, .int .i64 ra, .int .i64 rb, .int .i64 cn]) rfl rfl rfl rfl (fun _ henv => rn_load0 henv ty_anvil_api_Instr rfl (hst.oat (k := 0) rfl) rfl) ?_
            intro a henv
            refine seq_g rfl henv rfl rfl (op_call henv rfl Tryd.call58 rfl (g_constant (op := op) (tr := tr) (ra := ra) (rb := rb) (cn := cn)) ?_)
            rintro e w87 ⟨rfl, hb⟩
            refine ⟨_, rfl, ?_⟩
            clear henv a; intro a henv
            replace hst := hst.call hb
            clear hb
            revert a
            refine gA (v := .bool (!(decide (CN op cn)))) rfl rfl rfl rfl (fun _ henv => rn_un henv rfl rfl) ?_
            refine sA (v := .bool (!(decide (CN op cn)))) rfl (fun _ henv => rn_pick henv rfl rfl) ?_
            intro a henv
            refine wpList_nil ?_
            refine th_n ?_
            refine if_split henv rfl (fun hc88 => ?_) (fun hc88 => ?_)
            · have hx89 := of_decide_eq_false (bnot_t hc88)
              refine wp_seq ?_
              refine region_seq ?_
              refine sv (v := .bool false) henv rfl (rn_assign henv rfl) ?_
              clear henv a; intro a henv
              refine wpList_nil ?_
              refine th_n ?_
              refine wp_ret ?_
              refine th_r ?_
              refine leave henv (res1 Tryd.results34 (RV.tmp henv rfl)) ?_
              exact ⟨by rw [decide_eq_false (show ¬ May (op, tr, ra, rb, cn) g by unfold May; (try unfold CN at *); (try simp only at *); omega)], hst.below⟩
            · have hx90 := of_decide_eq_true (bnot_f hc88)
              refine wp_skip ?_
              refine th_n ?_
              refine wp_seq ?_
              refine wp_seq ?_
              refine region_seq ?_
              refine sv (v := .agg #[.int .i64 op, .int .i64 tr, .int .i64 ra, .int .i64 rb, .int .i64 cn]) henv rfl (rn_load0 henv ty_anvil_api_Instr rfl (hst.oat (k := 0) rfl) rfl) ?_
              clear henv a; intro a henv
              refine seq_step rfl (op_call henv rfl Tryd.call18 rfl (g_asks (op := op) (tr := tr) (ra := ra) (rb := rb) (cn := cn)) ?_)
              rintro e w93 ⟨_, rfl, ⟨A91, c92, rfl, hr, hfr⟩, hb⟩
              refine ⟨_, rfl, ?_⟩
              clear henv a; intro a henv
              replace hst := hst.freshI hb hr hfr
              clear hr
              clear hb
              revert a
              refine sA (v := .int .i64 ((asksL op ra rb).length : Nat)) rfl (fun _ henv => rn_len henv Tryd.underlying23 rfl) ?_
              refine mA rfl rfl ?_
              intro a henv
              refine wpList_nil ?_
              refine th_n ?_
              refine wp_block ?_
              refine wp_loop_ghost (fun mz a w => ∃ j : Nat, (asksL op ra rb).length - j = mz ∧ Env 57 a [(1, .int .i64 g), (43, .slice A91 ((asksL op ra rb).length) c92), (44, .int .i64 ((asksL op ra rb).length : Nat)), (45, .int .i64 (j : Nat))] ∧ St w0 w [] [pfRow fI FI 1 A91 ((asksL op ra rb).length) c92 (asksL op ra rb)] ∧ j ≤ (asksL op ra rb).length ∧ (∀ x ∈ (asksL op ra rb).take j, 0 ≤ x ∧ x < g)) _ ⟨0, rfl, henv.sub ⟨rfl, rfl, rfl, rfl, trivial⟩, hst.pick [] [0] (by decide), (Nat.zero_le _), (fun _ h => by cases h)⟩ ?_
              clear henv hst a
              rintro mz a w94 ⟨j, rfl, henv, hst, hj, hall⟩
              refine wp_seq ?_
              refine region_seq ?_
              refine sv (v := .bool (decide (((j : Nat) : Int) < (((asksL op ra rb).length : Nat) : Int)))) henv rfl (rn_bin henv rfl rfl rfl) ?_
              clear henv a; intro a henv
              refine wpList_nil ?_
              refine th_n ?_
              refine wp_seq ?_
              refine if_split henv rfl (fun hc95 => ?_) (fun hc95 => ?_)
              · have hlt : j < (asksL op ra rb).length := by have := of_decide_eq_true hc95; omega
                obtain ⟨x, he0⟩ : ∃ x, (asksL op ra rb)[j]? = some x := ⟨_, List.getElem?_eq_getElem hlt⟩
                refine wp_skip ?_
                refine th_n ?_
                refine wp_seq ?_
                refine wp_block ?_
                refine wp_seq ?_
                refine region_seq ?_
                revert a
                refine sA (v := .pointer (some ⟨ab A91, ao A91 + j * 1, none⟩)) rfl (fun _ henv => rn_idxR (i := j) henv Tryd.underlying23 (ty_int.size) rfl rfl (by omega) rfl (show (pfRow fI FI 1 A91 ((asksL op ra rb).length) c92 (asksL op ra rb)).P _ from (hst.pat (k := 0) rfl)).1) ?_
                refine sA (v := .int .i64 x) rfl (fun _ henv => rn_loadE1 (i := j) (j := 0) (e := x) henv ty_int rfl rfl fI_len (by decide) (show (pfRow fI FI 1 A91 ((asksL op ra rb).length) c92 (asksL op ra rb)).P _ from (hst.pat (k := 0) rfl)).1 (by omega) he0 rfl) ?_
                refine aA rfl rfl ?_
                intro a henv
                refine wpList_nil ?_
                refine th_n ?_
                refine wp_seq ?_
                refine region_seq ?_
                revert a
                refine mA rfl rfl ?_
                refine sA (v := .bool (decide (x < (0 : Int)))) rfl (fun _ henv => rn_bin henv rfl rfl rfl) ?_
                refine mA rfl rfl ?_
                intro a henv
                rcases bool_em (decide (x < (0 : Int))) with hg96 | hg96
                · rw [hg96] at henv
                  have hx97 := of_decide_eq_true hg96
                  revert a
                  refine kA rfl rfl rfl rfl rfl ?_
                  refine kA rfl rfl rfl rfl rfl ?_
                  refine kA rfl rfl rfl rfl rfl ?_
                  refine sA (v := .bool true) rfl (fun _ henv => rn_pick henv rfl rfl) ?_
                  intro a henv
                  refine wpList_nil ?_
                  refine th_n ?_
                  refine if_t henv rfl (rfl) ?_
                  refine wp_seq ?_
                  refine region_seq ?_
                  refine sv (v := .bool false) henv rfl (rn_assign henv rfl) ?_
                  clear henv a; intro a henv
                  refine wpList_nil ?_
                  refine th_n ?_
                  refine wp_ret ?_
                  refine bl_r (th_r (th_r (bl_r (th_r ?_))))
                  refine leave henv (res1 Tryd.results34 (RV.tmp henv rfl)) ?_
                  have hno : ¬ ∀ y ∈ (asksL op ra rb), 0 ≤ y ∧ y < g := fun q => by have := q x (List.mem_of_getElem? he0); omega
                  rw [asks_all] at hno
                  exact ⟨by rw [decide_eq_false (show ¬ May (op, tr, ra, rb, cn) g by unfold May; (try simp only at *); omega)], hst.below⟩
                · rw [hg96] at henv
                  have hx98 := of_decide_eq_false hg96
                  revert a
                  refine gA (v := .int .i64 x) rfl rfl rfl rfl (fun _ henv => rn_move henv rfl) ?_
                  refine gA (v := .int .i64 g) rfl rfl rfl rfl (fun _ henv => rn_move henv rfl) ?_
                  refine gA (v := .bool (decide (x ≥ g))) rfl rfl rfl rfl (fun _ henv => rn_bin henv rfl rfl rfl) ?_
                  refine sA (v := .bool (decide (x ≥ g))) rfl (fun _ henv => rn_pick henv rfl rfl) ?_
                  intro a henv
                  refine wpList_nil ?_
                  refine th_n ?_
                  refine if_split henv rfl (fun hc99 => ?_) (fun hc99 => ?_)
                  · have hx100 := of_decide_eq_true hc99
                    refine wp_seq ?_
                    refine region_seq ?_
                    refine sv (v := .bool false) henv rfl (rn_assign henv rfl) ?_
                    clear henv a; intro a henv
                    refine wpList_nil ?_
                    refine th_n ?_
                    refine wp_ret ?_
                    refine bl_r (th_r (th_r (bl_r (th_r ?_))))
                    refine leave henv (res1 Tryd.results34 (RV.tmp henv rfl)) ?_
                    have hno : ¬ ∀ y ∈ (asksL op ra rb), 0 ≤ y ∧ y < g := fun q => by have := q x (List.mem_of_getElem? he0); omega
                    rw [asks_all] at hno
                    exact ⟨by rw [decide_eq_false (show ¬ May (op, tr, ra, rb, cn) g by unfold May; (try simp only at *); omega)], hst.below⟩
                  · have hx101 := of_decide_eq_false hc99
                    refine wp_skip ?_
                    refine bl_n (th_n ?_)
                    refine region_seq ?_
                    revert a
                    refine sA (v := .int .i64 (j + 1 : Nat)) rfl (fun _ henv => rn_add henv rfl rfl (by rw [IntWalk.i64_in _ (by omega)]; omega)) ?_
                    refine mA rfl rfl ?_
                    intro a henv
                    refine wpList_nil ?_
                    exact th_n ⟨_, (by omega), ⟨j + 1, rfl, henv.sub ⟨rfl, rfl, rfl, rfl, trivial⟩, hst.pick [] [0] (by decide), (by omega), (all_snoc hall he0 (by omega))⟩⟩
              · have hfull := all_full hall (show (asksL op ra rb).length ≤ j by have := of_decide_eq_false hc95; omega)
                rw [asks_all] at hfull
                refine wp_exit ?_
                refine th_x (th_x (bl_x (th_n ?_)))
                refine wp_seq ?_
                refine region_seq ?_
                refine sv (v := .bool true) henv rfl (rn_assign henv rfl) ?_
                clear henv a; intro a henv
                refine wpList_nil ?_
                refine th_n ?_
                refine wp_ret ?_
                refine leave henv (res1 Tryd.results34 (RV.tmp henv rfl)) ?_
                exact ⟨by rw [decide_eq_true (show May (op, tr, ra, rb, cn) g by unfold May; (try unfold CN at *); (try simp only at *); omega)], hst.below⟩
set_option maxRecDepth 100000 in
set_option maxHeartbeats 4000000 in
theorem r_may {op tr ra rb cn : Int} {g : Int} {w0 : World} :
    Calls Tryd.prog 35 #[.agg #[.int .i64 op, .int .i64 tr, .int .i64 ra, .int .i64 rb, .int .i64 cn], .int .i64 g] w0 fun e w' => e = .returned (.bool (decide (May (op, tr, ra, rb, cn) g))) ∧ Below w0.heap.size w0 w' := by
  refine enter Tryd.func35 rfl Tryd.ntmps35 rfl ?_
  intro a henv hst
  refine wp_seq ?_
  refine region_seq ?_
  refine seq_step rfl (op_box (c := #[.int .i64 op, .int .i64 tr, .int .i64 ra, .int .i64 rb, .int .i64 cn]) henv hst rfl rfl rfl ?_)
  clear henv hst a; intro a w52 g51 henv hst
  refine sv (v := .bool false) henv rfl (rn_assign henv rfl) ?_
  clear henv a; intro a henv
  refine wpList_nil ?_
  refine th_n ?_
  refine wp_seq ?_
  refine wp_seq ?_
  refine region_seq ?_
  revert a
  refine sA (v := .pointer (some ⟨g51, 0, none⟩)) rfl (fun _ henv => rn_fieldAddr henv fd_anvil_api_Instr_0 (ty_int.size) (by decide) rfl) ?_
  refine sA (v := .int .i64 op) rfl (fun _ henv => rn_load1 henv ty_int rfl (hst.oat (k := 0) rfl) rfl) ?_
  refine sA (v := .bool (decide (op < (1 : Int)))) rfl (fun _ henv => rn_bin henv rfl rfl rfl) ?_
  refine mA rfl rfl ?_
  intro a henv
  rcases bool_em (decide (op < (1 : Int))) with hg53 | hg53
  · rw [hg53] at henv
    have hx54 := of_decide_eq_true hg53
    revert a
    refine kA rfl rfl rfl rfl rfl ?_
    refine kA rfl rfl rfl rfl rfl ?_
    refine kA rfl rfl rfl rfl rfl ?_
    refine sA (v := .bool true) rfl (fun _ henv => rn_pick henv rfl rfl) ?_
    refine mA rfl rfl ?_
    refine kA rfl rfl rfl rfl rfl ?_
    refine kA rfl rfl rfl rfl rfl ?_
    refine kA rfl rfl rfl rfl rfl ?_
    refine sA (v := .bool true) rfl (fun _ henv => rn_pick henv rfl rfl) ?_
    refine mA rfl rfl ?_
    refine kA rfl rfl rfl rfl rfl ?_
    refine kA rfl rfl rfl rfl rfl ?_
    refine kA rfl rfl rfl rfl rfl ?_
    refine kA rfl rfl rfl rfl rfl ?_
    refine sA (v := .bool true) rfl (fun _ henv => rn_pick henv rfl rfl) ?_
    refine mA rfl rfl ?_
    refine kA rfl rfl rfl rfl rfl ?_
    refine kA rfl rfl rfl rfl rfl ?_
    refine kA rfl rfl rfl rfl rfl ?_
    refine sA (v := .bool true) rfl (fun _ henv => rn_pick henv rfl rfl) ?_
    refine mA rfl rfl ?_
    refine kA rfl rfl rfl rfl rfl ?_
    refine kA rfl rfl rfl rfl rfl ?_
    refine kA rfl rfl rfl rfl rfl ?_
    refine kA rfl rfl rfl rfl rfl ?_
    refine sA (v := .bool true) rfl (fun _ henv => rn_pick henv rfl rfl) ?_
    intro a henv
    refine wpList_nil ?_
    refine th_n ?_
    refine if_t henv rfl (rfl) ?_
    refine wp_seq ?_
    refine region_seq ?_
    refine sv (v := .bool false) henv rfl (rn_assign henv rfl) ?_
    clear henv a; intro a henv
    refine wpList_nil ?_
    refine th_n ?_
    refine wp_ret ?_
    refine th_r ?_
    refine leave henv (res1 Tryd.results35 (RV.tmp henv rfl)) ?_
    exact ⟨by rw [decide_eq_false (show ¬ (May (op, tr, ra, rb, cn) g) by unfold May at *; (try simp only at *); omega)], hst.below⟩
  · rw [hg53] at henv
    have hx55 := of_decide_eq_false hg53
    revert a
    refine gA (v := .pointer (some ⟨g51, 0, none⟩)) rfl rfl rfl rfl (fun _ henv => rn_fieldAddr henv fd_anvil_api_Instr_0 (ty_int.size) (by decide) rfl) ?_
    refine gA (v := .int .i64 op) rfl rfl rfl rfl (fun _ henv => rn_load1 henv ty_int rfl (hst.oat (k := 0) rfl) rfl) ?_
    refine gA (v := .bool (decide (op > (8 : Int)))) rfl rfl rfl rfl (fun _ henv => rn_bin henv rfl rfl rfl) ?_
    refine sA (v := .bool (decide (op > (8 : Int)))) rfl (fun _ henv => rn_pick henv rfl rfl) ?_
    refine mA rfl rfl ?_
    intro a henv
    rcases bool_em (decide (op > (8 : Int))) with hg56 | hg56
    · rw [hg56] at henv
      have hx57 := of_decide_eq_true hg56
      revert a
      refine kA rfl rfl rfl rfl rfl ?_
      refine kA rfl rfl rfl rfl rfl ?_
      refine kA rfl rfl rfl rfl rfl ?_
      refine sA (v := .bool true) rfl (fun _ henv => rn_pick henv rfl rfl) ?_
      refine mA rfl rfl ?_
      refine kA rfl rfl rfl rfl rfl ?_
      refine kA rfl rfl rfl rfl rfl ?_
      refine kA rfl rfl rfl rfl rfl ?_
      refine kA rfl rfl rfl rfl rfl ?_
      refine sA (v := .bool true) rfl (fun _ henv => rn_pick henv rfl rfl) ?_
      refine mA rfl rfl ?_
      refine kA rfl rfl rfl rfl rfl ?_
      refine kA rfl rfl rfl rfl rfl ?_
      refine kA rfl rfl rfl rfl rfl ?_
      refine sA (v := .bool true) rfl (fun _ henv => rn_pick henv rfl rfl) ?_
      refine mA rfl rfl ?_
      refine kA rfl rfl rfl rfl rfl ?_
      refine kA rfl rfl rfl rfl rfl ?_
      refine kA rfl rfl rfl rfl rfl ?_
      refine kA rfl rfl rfl rfl rfl ?_
      refine sA (v := .bool true) rfl (fun _ henv => rn_pick henv rfl rfl) ?_
      intro a henv
      refine wpList_nil ?_
      refine th_n ?_
      refine if_t henv rfl (rfl) ?_
      refine wp_seq ?_
      refine region_seq ?_
      refine sv (v := .bool false) henv rfl (rn_assign henv rfl) ?_
      clear henv a; intro a henv
      refine wpList_nil ?_
      refine th_n ?_
      refine wp_ret ?_
      refine th_r ?_
      refine leave henv (res1 Tryd.results35 (RV.tmp henv rfl)) ?_
      exact ⟨by rw [decide_eq_false (show ¬ (May (op, tr, ra, rb, cn) g) by unfold May at *; (try simp only at *); omega)], hst.below⟩
    · rw [hg56] at henv
      have hx58 := of_decide_eq_false hg56
      revert a
      refine gA (v := .pointer (some ⟨g51, 1, none⟩)) rfl rfl rfl rfl (fun _ henv => rn_fieldAddr henv fd_anvil_api_Instr_1 (ty_int.size) (by decide) rfl) ?_
      refine gA (v := .int .i64 tr) rfl rfl rfl rfl (fun _ henv => rn_load1 henv ty_int rfl (hst.oat (k := 0) rfl) rfl) ?_
      refine gA (v := .bool (decide (tr < (0 : Int)))) rfl rfl rfl rfl (fun _ henv => rn_bin henv rfl rfl rfl) ?_
      refine sA (v := .bool (decide (tr < (0 : Int)))) rfl (fun _ henv => rn_pick henv rfl rfl) ?_
      refine mA rfl rfl ?_
      intro a henv
      rcases bool_em (decide (tr < (0 : Int))) with hg59 | hg59
      · rw [hg59] at henv
        have hx60 := of_decide_eq_true hg59
        revert a
        refine kA rfl rfl rfl rfl rfl ?_
        refine kA rfl rfl rfl rfl rfl ?_
        refine kA rfl rfl rfl rfl rfl ?_
        refine kA rfl rfl rfl rfl rfl ?_
        refine sA (v := .bool true) rfl (fun _ henv => rn_pick henv rfl rfl) ?_
        refine mA rfl rfl ?_
        refine kA rfl rfl rfl rfl rfl ?_
        refine kA rfl rfl rfl rfl rfl ?_
        refine kA rfl rfl rfl rfl rfl ?_
        refine sA (v := .bool true) rfl (fun _ henv => rn_pick henv rfl rfl) ?_
        refine mA rfl rfl ?_
        refine kA rfl rfl rfl rfl rfl ?_
        refine kA rfl rfl rfl rfl rfl ?_
        refine kA rfl rfl rfl rfl rfl ?_
        refine kA rfl rfl rfl rfl rfl ?_
        refine sA (v := .bool true) rfl (fun _ henv => rn_pick henv rfl rfl) ?_
        intro a henv
        refine wpList_nil ?_
        refine th_n ?_
        refine if_t henv rfl (rfl) ?_
        refine wp_seq ?_
        refine region_seq ?_
        refine sv (v := .bool false) henv rfl (rn_assign henv rfl) ?_
        clear henv a; intro a henv
        refine wpList_nil ?_
        refine th_n ?_
        refine wp_ret ?_
        refine th_r ?_
        refine leave henv (res1 Tryd.results35 (RV.tmp henv rfl)) ?_
        exact ⟨by rw [decide_eq_false (show ¬ (May (op, tr, ra, rb, cn) g) by unfold May at *; (try simp only at *); omega)], hst.below⟩
      · rw [hg59] at henv
        have hx61 := of_decide_eq_false hg59
        revert a
        refine gA (v := .pointer (some ⟨g51, 1, none⟩)) rfl rfl rfl rfl (fun _ henv => rn_fieldAddr henv fd_anvil_api_Instr_1 (ty_int.size) (by decide) rfl) ?_
        refine gA (v := .int .i64 tr) rfl rfl rfl rfl (fun _ henv => rn_load1 henv ty_int rfl (hst.oat (k := 0) rfl) rfl) ?_
        refine gA (v := .int .i64 g) rfl rfl rfl rfl (fun _ henv => rn_move henv rfl) ?_
        refine gA (v := .bool (decide (tr ≥ g))) rfl rfl rfl rfl (fun _ henv => rn_bin henv rfl rfl rfl) ?_
        refine sA (v := .bool (decide (tr ≥ g))) rfl (fun _ henv => rn_pick henv rfl rfl) ?_
        refine mA rfl rfl ?_
        intro a henv
        rcases bool_em (decide (tr ≥ g)) with hg62 | hg62
        · rw [hg62] at henv
          have hx63 := of_decide_eq_true hg62
          revert a
          refine kA rfl rfl rfl rfl rfl ?_
          refine kA rfl rfl rfl rfl rfl ?_
          refine kA rfl rfl rfl rfl rfl ?_
          refine sA (v := .bool true) rfl (fun _ henv => rn_pick henv rfl rfl) ?_
          refine mA rfl rfl ?_
          refine kA rfl rfl rfl rfl rfl ?_
          refine kA rfl rfl rfl rfl rfl ?_
          refine kA rfl rfl rfl rfl rfl ?_
          refine kA rfl rfl rfl rfl rfl ?_
          refine sA (v := .bool true) rfl (fun _ henv => rn_pick henv rfl rfl) ?_
          intro a henv
          refine wpList_nil ?_
          refine th_n ?_
          refine if_t henv rfl (rfl) ?_
          refine wp_seq ?_
          refine region_seq ?_
          refine sv (v := .bool false) henv rfl (rn_assign henv rfl) ?_
          clear henv a; intro a henv
          refine wpList_nil ?_
          refine th_n ?_
          refine wp_ret ?_
          refine th_r ?_
          refine leave henv (res1 Tryd.results35 (RV.tmp henv rfl)) ?_
          exact ⟨by rw [decide_eq_false (show ¬ (May (op, tr, ra, rb, cn) g) by unfold May at *; (try simp only at *); omega)], hst.below⟩
        · rw [hg62] at henv
          have hx64 := of_decide_eq_false hg62
          revert a
          refine gA (v := .pointer (some ⟨g51, 2, none⟩)) rfl rfl rfl rfl (fun _ henv => rn_fieldAddr henv fd_anvil_api_Instr_2 (ty_int.size) (by decide) rfl) ?_
          refine gA (v := .int .i64 ra) rfl rfl rfl rfl (fun _ henv => rn_load1 henv ty_int rfl (hst.oat (k := 0) rfl) rfl) ?_
          refine gA (v := .bool (decide (ra < (0 : Int)))) rfl rfl rfl rfl (fun _ henv => rn_bin henv rfl rfl rfl) ?_
          refine sA (v := .bool (decide (ra < (0 : Int)))) rfl (fun _ henv => rn_pick henv rfl rfl) ?_
          refine mA rfl rfl ?_
          intro a henv
          rcases bool_em (decide (ra < (0 : Int))) with hg65 | hg65
          · rw [hg65] at henv
            have hx66 := of_decide_eq_true hg65
            revert a
            refine kA rfl rfl rfl rfl rfl ?_
            refine kA rfl rfl rfl rfl rfl ?_
            refine kA rfl rfl rfl rfl rfl ?_
            refine kA rfl rfl rfl rfl rfl ?_
            refine sA (v := .bool true) rfl (fun _ henv => rn_pick henv rfl rfl) ?_
            intro a henv
            refine wpList_nil ?_
            refine th_n ?_
            refine if_t henv rfl (rfl) ?_
            refine wp_seq ?_
            refine region_seq ?_
            refine sv (v := .bool false) henv rfl (rn_assign henv rfl) ?_
            clear henv a; intro a henv
            refine wpList_nil ?_
            refine th_n ?_
            refine wp_ret ?_
            refine th_r ?_
            refine leave henv (res1 Tryd.results35 (RV.tmp henv rfl)) ?_
            exact ⟨by rw [decide_eq_false (show ¬ (May (op, tr, ra, rb, cn) g) by unfold May at *; (try simp only at *); omega)], hst.below⟩
          · rw [hg65] at henv
            have hx67 := of_decide_eq_false hg65
            revert a
            refine gA (v := .pointer (some ⟨g51, 2, none⟩)) rfl rfl rfl rfl (fun _ henv => rn_fieldAddr henv fd_anvil_api_Instr_2 (ty_int.size) (by decide) rfl) ?_
            refine gA (v := .int .i64 ra) rfl rfl rfl rfl (fun _ henv => rn_load1 henv ty_int rfl (hst.oat (k := 0) rfl) rfl) ?_
            refine gA (v := .int .i64 g) rfl rfl rfl rfl (fun _ henv => rn_move henv rfl) ?_
            refine gA (v := .bool (decide (ra ≥ g))) rfl rfl rfl rfl (fun _ henv => rn_bin henv rfl rfl rfl) ?_
            refine sA (v := .bool (decide (ra ≥ g))) rfl (fun _ henv => rn_pick henv rfl rfl) ?_
            intro a henv
            refine wpList_nil ?_
            refine th_n ?_
            refine if_split henv rfl (fun hc68 => ?_) (fun hc68 => ?_)
            · have hx69 := of_decide_eq_true hc68
              refine wp_seq ?_
              refine region_seq ?_
              refine sv (v := .bool false) henv rfl (rn_assign henv rfl) ?_
              clear henv a; intro a henv
              refine wpList_nil ?_
              refine th_n ?_
              refine wp_ret ?_
              refine th_r ?_
              refine leave henv (res1 Tryd.results35 (RV.tmp henv rfl)) ?_
              exact ⟨by rw [decide_eq_false (show ¬ (May (op, tr, ra, rb, cn) g) by unfold May at *; (try simp only at *); omega)], hst.below⟩
            · have hx70 := of_decide_eq_false hc68
              refine wp_skip ?_
              refine th_n ?_
              refine wp_seq ?_
              refine wp_seq ?_
              refine region_seq ?_
              revert a
              refine sA (v := .pointer (some ⟨g51, 0, none⟩)) rfl (fun _ henv => rn_fieldAddr henv fd_anvil_api_Instr_0 (ty_int.size) (by decide) rfl) ?_
              refine sA (v := .int .i64 op) rfl (fun _ henv => rn_load1 henv ty_int rfl (hst.oat (k := 0) rfl) rfl) ?_
              refine sA (v := .bool (op == (3 : Int))) rfl (fun _ henv => rn_bin henv rfl rfl rfl) ?_
              refine mA rfl rfl ?_
              intro a henv
              rcases bool_em (op == (3 : Int)) with hg71 | hg71
              · rw [hg71] at henv
                have hx72 := eq_of_beq hg71
                revert a
                refine kA rfl rfl rfl rfl rfl ?_
                refine kA rfl rfl rfl rfl rfl ?_
                refine kA rfl rfl rfl rfl rfl ?_
                refine sA (v := .bool true) rfl (fun _ henv => rn_pick henv rfl rfl) ?_
                intro a henv
                refine wpList_nil ?_
                refine th_n ?_
                refine if_t henv rfl (rfl) ?_
                refine wp_seq ?_
                refine region_seq ?_
                revert a
                refine sA (v := .pointer (some ⟨g51, 3, none⟩)) rfl (fun _ henv => rn_fieldAddr henv fd_anvil_api_Instr_3 (ty_int.size) (by decide) rfl) ?_
                refine sA (v := .int .i64 rb) rfl (fun _ henv => rn_load1 henv ty_int rfl (hst.oat (k := 0) rfl) rfl) ?_
                refine sA (v := .bool (decide (rb ≥ (0 : Int)))) rfl (fun _ henv => rn_bin henv rfl rfl rfl) ?_
                refine mA rfl rfl ?_
                intro a henv
                rcases bool_em (decide (rb ≥ (0 : Int))) with hg73 | hg73
                · rw [hg73] at henv
                  have hx74 := of_decide_eq_true hg73
                  revert a
                  refine gA (v := .pointer (some ⟨g51, 3, none⟩)) rfl rfl rfl rfl (fun _ henv => rn_fieldAddr henv fd_anvil_api_Instr_3 (ty_int.size) (by decide) rfl) ?_
                  refine gA (v := .int .i64 rb) rfl rfl rfl rfl (fun _ henv => rn_load1 henv ty_int rfl (hst.oat (k := 0) rfl) rfl) ?_
                  refine gA (v := .int .i64 g) rfl rfl rfl rfl (fun _ henv => rn_move henv rfl) ?_
                  refine gA (v := .bool (decide (rb < g))) rfl rfl rfl rfl (fun _ henv => rn_bin henv rfl rfl rfl) ?_
                  refine sA (v := .bool (decide (rb < g))) rfl (fun _ henv => rn_pick henv rfl rfl) ?_
                  refine mA rfl rfl ?_
                  intro a henv
                  rcases bool_em (decide (rb < g)) with hg75 | hg75
                  · rw [hg75] at henv
                    have hx76 := of_decide_eq_true hg75
                    revert a
                    refine gA (v := .pointer (some ⟨g51, 4, none⟩)) rfl rfl rfl rfl (fun _ henv => rn_fieldAddr henv fd_anvil_api_Instr_4 (ty_int.size) (by decide) rfl) ?_
                    refine gA (v := .int .i64 cn) rfl rfl rfl rfl (fun _ henv => rn_load1 henv ty_int rfl (hst.oat (k := 0) rfl) rfl) ?_
                    refine gA (v := .bool (cn == (0 : Int))) rfl rfl rfl rfl (fun _ henv => rn_bin henv rfl rfl rfl) ?_
                    refine sA (v := .bool (cn == (0 : Int))) rfl (fun _ henv => rn_pick henv rfl rfl) ?_
                    refine aA rfl rfl ?_
                    intro a henv
                    refine wpList_nil ?_
                    refine th_n ?_
                    refine wp_ret ?_
                    refine th_r ?_
                    refine leave henv (res1 Tryd.results35 (RV.tmp henv rfl)) ?_
                    exact ⟨congrArg (fun b => Ending.returned (Value.bool b)) (beq_dec (by unfold May at *; (try simp only at *); omega)), hst.below⟩
                  · rw [hg75] at henv
                    have hx77 := of_decide_eq_false hg75
                    revert a
                    refine kA rfl rfl rfl rfl rfl ?_
                    refine kA rfl rfl rfl rfl rfl ?_
                    refine kA rfl rfl rfl rfl rfl ?_
                    refine sA (v := .bool false) rfl (fun _ henv => rn_pick henv rfl rfl) ?_
                    refine aA rfl rfl ?_
                    intro a henv
                    refine wpList_nil ?_
                    refine th_n ?_
                    refine wp_ret ?_
                    refine th_r ?_
                    refine leave henv (res1 Tryd.results35 (RV.tmp henv rfl)) ?_
                    exact ⟨by rw [decide_eq_false (show ¬ (May (op, tr, ra, rb, cn) g) by unfold May at *; (try simp only at *); omega)], hst.below⟩
                · rw [hg73] at henv
                  have hx78 := of_decide_eq_false hg73
                  revert a
                  refine kA rfl rfl rfl rfl rfl ?_
                  refine kA rfl rfl rfl rfl rfl ?_
                  refine kA rfl rfl rfl rfl rfl ?_
                  refine kA rfl rfl rfl rfl rfl ?_
                  refine sA (v := .bool false) rfl (fun _ henv => rn_pick henv rfl rfl) ?_
                  refine mA rfl rfl ?_
                  refine kA rfl rfl rfl rfl rfl ?_
                  refine kA rfl rfl rfl rfl rfl ?_
                  refine kA rfl rfl rfl rfl rfl ?_
                  refine sA (v := .bool false) rfl (fun _ henv => rn_pick henv rfl rfl) ?_
                  refine aA rfl rfl ?_
                  intro a henv
                  refine wpList_nil ?_
                  refine th_n ?_
                  refine wp_ret ?_
                  refine th_r ?_
                  refine leave henv (res1 Tryd.results35 (RV.tmp henv rfl)) ?_
                  exact ⟨by rw [decide_eq_false (show ¬ (May (op, tr, ra, rb, cn) g) by unfold May at *; (try simp only at *); omega)], hst.below⟩
              · rw [hg71] at henv
                have hx79 := ne_of_beq_false hg71
                revert a
                refine gA (v := .pointer (some ⟨g51, 0, none⟩)) rfl rfl rfl rfl (fun _ henv => rn_fieldAddr henv fd_anvil_api_Instr_0 (ty_int.size) (by decide) rfl) ?_
                refine gA (v := .int .i64 op) rfl rfl rfl rfl (fun _ henv => rn_load1 henv ty_int rfl (hst.oat (k := 0) rfl) rfl) ?_
                refine gA (v := .bool (op == (4 : Int))) rfl rfl rfl rfl (fun _ henv => rn_bin henv rfl rfl rfl) ?_
                refine sA (v := .bool (op == (4 : Int))) rfl (fun _ henv => rn_pick henv rfl rfl) ?_
                intro a henv
                refine wpList_nil ?_
                refine th_n ?_
                refine if_split henv rfl (fun hc80 => ?_) (fun hc80 => ?_)
                · have hx81 := eq_of_beq hc80
                  refine wp_seq ?_
                  refine region_seq ?_
                  revert a
                  refine sA (v := .pointer (some ⟨g51, 3, none⟩)) rfl (fun _ henv => rn_fieldAddr henv fd_anvil_api_Instr_3 (ty_int.size) (by decide) rfl) ?_
                  refine sA (v := .int .i64 rb) rfl (fun _ henv => rn_load1 henv ty_int rfl (hst.oat (k := 0) rfl) rfl) ?_
                  refine sA (v := .bool (decide (rb ≥ (0 : Int)))) rfl (fun _ henv => rn_bin henv rfl rfl rfl) ?_
                  refine mA rfl rfl ?_
                  intro a henv
                  rcases bool_em (decide (rb ≥ (0 : Int))) with hg82 | hg82
                  · rw [hg82] at henv
                    have hx83 := of_decide_eq_true hg82
                    revert a
                    refine gA (v := .pointer (some ⟨g51, 3, none⟩)) rfl rfl rfl rfl (fun _ henv => rn_fieldAddr henv fd_anvil_api_Instr_3 (ty_int.size) (by decide) rfl) ?_
                    refine gA (v := .int .i64 rb) rfl rfl rfl rfl (fun _ henv => rn_load1 henv ty_int rfl (hst.oat (k := 0) rfl) rfl) ?_
                    refine gA (v := .int .i64 g) rfl rfl rfl rfl (fun _ henv => rn_move henv rfl) ?_
                    refine gA (v := .bool (decide (rb < g))) rfl rfl rfl rfl (fun _ henv => rn_bin henv rfl rfl rfl) ?_
                    refine sA (v := .bool (decide (rb < g))) rfl (fun _ henv => rn_pick henv rfl rfl) ?_
                    refine mA rfl rfl ?_
                    intro a henv
                    rcases bool_em (decide (rb < g)) with hg84 | hg84
                    · rw [hg84] at henv
                      have hx85 := of_decide_eq_true hg84
                      revert a
                      refine gA (v := .pointer (some ⟨g51, 4, none⟩)) rfl rfl rfl rfl (fun _ henv => rn_fieldAddr henv fd_anvil_api_Instr_4 (ty_int.size) (by decide) rfl) ?_
                      refine gA (v := .int .i64 cn) rfl rfl rfl rfl (fun _ henv => rn_load1 henv ty_int rfl (hst.oat (k := 0) rfl) rfl) ?_
                      refine gA (v := .bool (cn == (0 : Int))) rfl rfl rfl rfl (fun _ henv => rn_bin henv rfl rfl rfl) ?_
                      refine sA (v := .bool (cn == (0 : Int))) rfl (fun _ henv => rn_pick henv rfl rfl) ?_
                      refine aA rfl rfl ?_
                      intro a henv
                      refine wpList_nil ?_
                      refine th_n ?_
                      refine wp_ret ?_
                      refine th_r ?_
                      refine leave henv (res1 Tryd.results35 (RV.tmp henv rfl)) ?_
                      exact ⟨congrArg (fun b => Ending.returned (Value.bool b)) (beq_dec (by unfold May at *; (try simp only at *); omega)), hst.below⟩
                    · rw [hg84] at henv
                      have hx86 := of_decide_eq_false hg84
                      revert a
                      refine kA rfl rfl rfl rfl rfl ?_
                      refine kA rfl rfl rfl rfl rfl ?_
                      refine kA rfl rfl rfl rfl rfl ?_
                      refine sA (v := .bool false) rfl (fun _ henv => rn_pick henv rfl rfl) ?_
                      refine aA rfl rfl ?_
                      intro a henv
                      refine wpList_nil ?_
                      refine th_n ?_
                      refine wp_ret ?_
                      refine th_r ?_
                      refine leave henv (res1 Tryd.results35 (RV.tmp henv rfl)) ?_
                      exact ⟨by rw [decide_eq_false (show ¬ (May (op, tr, ra, rb, cn) g) by unfold May at *; (try simp only at *); omega)], hst.below⟩
                  · rw [hg82] at henv
                    have hx87 := of_decide_eq_false hg82
                    revert a
                    refine kA rfl rfl rfl rfl rfl ?_
                    refine kA rfl rfl rfl rfl rfl ?_
                    refine kA rfl rfl rfl rfl rfl ?_
                    refine kA rfl rfl rfl rfl rfl ?_
                    refine sA (v := .bool false) rfl (fun _ henv => rn_pick henv rfl rfl) ?_
                    refine mA rfl rfl ?_
                    refine kA rfl rfl rfl rfl rfl ?_
                    refine kA rfl rfl rfl rfl rfl ?_
                    refine kA rfl rfl rfl rfl rfl ?_
                    refine sA (v := .bool false) rfl (fun _ henv => rn_pick henv rfl rfl) ?_
                    refine aA rfl rfl ?_
                    intro a henv
                    refine wpList_nil ?_
                    refine th_n ?_
                    refine wp_ret ?_
                    refine th_r ?_
                    refine leave henv (res1 Tryd.results35 (RV.tmp henv rfl)) ?_
                    exact ⟨by rw [decide_eq_false (show ¬ (May (op, tr, ra, rb, cn) g) by unfold May at *; (try simp only at *); omega)], hst.below⟩
                · have hx88 := ne_of_beq_false hc80
                  refine wp_skip ?_
                  refine th_n ?_
                  refine wp_seq ?_
                  refine wp_seq ?_
                  refine region_seq ?_
                  revert a
                  refine sA (v := .pointer (some ⟨g51, 3, none⟩)) rfl (fun _ henv => rn_fieldAddr henv fd_anvil_api_Instr_3 (ty_int.size) (by decide) rfl) ?_
                  refine sA (v := .int .i64 rb) rfl (fun _ henv => rn_load1 henv ty_int rfl (hst.oat (k := 0) rfl) rfl) ?_
                  refine sA (v := .bool (rb != (0 : Int))) rfl (fun _ henv => rn_bin henv rfl rfl rfl) ?_
                  intro a henv
                  refine wpList_nil ?_
                  refine th_n ?_
                  refine if_split henv rfl (fun hc89 => ?_) (fun hc89 => ?_)
                  · have hx90 := bne_yes hc89
                    refine wp_seq ?_
                    refine region_seq ?_
                    refine sv (v := .bool false) henv rfl (rn_assign henv rfl) ?_
                    clear henv a; intro a henv
                    refine wpList_nil ?_
                    refine th_n ?_
                    refine wp_ret ?_
                    refine th_r ?_
                    refine leave henv (res1 Tryd.results35 (RV.tmp henv rfl)) ?_
                    exact ⟨by rw [decide_eq_false (show ¬ (May (op, tr, ra, rb, cn) g) by unfold May at *; (try simp only at *); omega)], hst.below⟩
                  · have hx91 := bne_no hc89
                    refine wp_skip ?_
                    refine th_n ?_
                    refine wp_seq ?_
                    refine wp_seq ?_
                    refine region_seq ?_
                    revert a
                    refine sA (v := .pointer (some ⟨g51, 0, none⟩)) rfl (fun _ henv => rn_fieldAddr henv fd_anvil_api_Instr_0 (ty_int.size) (by decide) rfl) ?_
                    refine sA (v := .int .i64 op) rfl (fun _ henv => rn_load1 henv ty_int rfl (hst.oat (k := 0) rfl) rfl) ?_
                    refine sA (v := .bool (op == (5 : Int))) rfl (fun _ henv => rn_bin henv rfl rfl rfl) ?_
                    refine mA rfl rfl ?_
                    intro a henv
                    rcases bool_em (op == (5 : Int)) with hg92 | hg92
                    · rw [hg92] at henv
                      have hx93 := eq_of_beq hg92
                      revert a
                      refine kA rfl rfl rfl rfl rfl ?_
                      refine kA rfl rfl rfl rfl rfl ?_
                      refine kA rfl rfl rfl rfl rfl ?_
                      refine sA (v := .bool true) rfl (fun _ henv => rn_pick henv rfl rfl) ?_
                      intro a henv
                      refine wpList_nil ?_
                      refine th_n ?_
                      refine if_t henv rfl (rfl) ?_
                      refine wp_seq ?_
                      refine region_seq ?_
                      revert a
                      refine sA (v := .pointer (some ⟨g51, 4, none⟩)) rfl (fun _ henv => rn_fieldAddr henv fd_anvil_api_Instr_4 (ty_int.size) (by decide) rfl) ?_
                      refine sA (v := .int .i64 cn) rfl (fun _ henv => rn_load1 henv ty_int rfl (hst.oat (k := 0) rfl) rfl) ?_
                      refine sA (v := .bool (cn != (0 : Int))) rfl (fun _ henv => rn_bin henv rfl rfl rfl) ?_
                      refine mA rfl rfl ?_
                      intro a henv
                      rcases bool_em (cn != (0 : Int)) with hg94 | hg94
                      · rw [hg94] at henv
                        have hx95 := bne_yes hg94
                        revert a
                        refine gA (v := .pointer (some ⟨g51, 4, none⟩)) rfl rfl rfl rfl (fun _ henv => rn_fieldAddr henv fd_anvil_api_Instr_4 (ty_int.size) (by decide) rfl) ?_
                        refine gA (v := .int .i64 cn) rfl rfl rfl rfl (fun _ henv => rn_load1 henv ty_int rfl (hst.oat (k := 0) rfl) rfl) ?_
                        refine gA (v := .bool (decide (cn ≥ (-512)))) rfl rfl rfl rfl (fun _ henv => rn_bin henv rfl rfl rfl) ?_
                        refine sA (v := .bool (decide (cn ≥ (-512)))) rfl (fun _ henv => rn_pick henv rfl rfl) ?_
                        refine mA rfl rfl ?_
                        intro a henv
                        rcases bool_em (decide (cn ≥ (-512))) with hg96 | hg96
                        · rw [hg96] at henv
                          have hx97 := of_decide_eq_true hg96
                          revert a
                          refine gA (v := .pointer (some ⟨g51, 4, none⟩)) rfl rfl rfl rfl (fun _ henv => rn_fieldAddr henv fd_anvil_api_Instr_4 (ty_int.size) (by decide) rfl) ?_
                          refine gA (v := .int .i64 cn) rfl rfl rfl rfl (fun _ henv => rn_load1 henv ty_int rfl (hst.oat (k := 0) rfl) rfl) ?_
                          refine gA (v := .bool (decide (cn ≤ (512 : Int)))) rfl rfl rfl rfl (fun _ henv => rn_bin henv rfl rfl rfl) ?_
                          refine sA (v := .bool (decide (cn ≤ (512 : Int)))) rfl (fun _ henv => rn_pick henv rfl rfl) ?_
                          refine aA rfl rfl ?_
                          intro a henv
                          refine wpList_nil ?_
                          refine th_n ?_
                          refine wp_ret ?_
                          refine th_r ?_
                          refine leave henv (res1 Tryd.results35 (RV.tmp henv rfl)) ?_
                          exact ⟨congrArg (fun b => Ending.returned (Value.bool b)) (decide_eq_decide.2 (by unfold May at *; (try simp only at *); omega)), hst.below⟩
                        · rw [hg96] at henv
                          have hx98 := of_decide_eq_false hg96
                          revert a
                          refine kA rfl rfl rfl rfl rfl ?_
                          refine kA rfl rfl rfl rfl rfl ?_
                          refine kA rfl rfl rfl rfl rfl ?_
                          refine sA (v := .bool false) rfl (fun _ henv => rn_pick henv rfl rfl) ?_
                          refine aA rfl rfl ?_
                          intro a henv
                          refine wpList_nil ?_
                          refine th_n ?_
                          refine wp_ret ?_
                          refine th_r ?_
                          refine leave henv (res1 Tryd.results35 (RV.tmp henv rfl)) ?_
                          exact ⟨by rw [decide_eq_false (show ¬ (May (op, tr, ra, rb, cn) g) by unfold May at *; (try simp only at *); omega)], hst.below⟩
                      · rw [hg94] at henv
                        have hx99 := bne_no hg94
                        revert a
                        refine kA rfl rfl rfl rfl rfl ?_
                        refine kA rfl rfl rfl rfl rfl ?_
                        refine kA rfl rfl rfl rfl rfl ?_
                        refine sA (v := .bool false) rfl (fun _ henv => rn_pick henv rfl rfl) ?_
                        refine mA rfl rfl ?_
                        refine kA rfl rfl rfl rfl rfl ?_
                        refine kA rfl rfl rfl rfl rfl ?_
                        refine kA rfl rfl rfl rfl rfl ?_
                        refine sA (v := .bool false) rfl (fun _ henv => rn_pick henv rfl rfl) ?_
                        refine aA rfl rfl ?_
                        intro a henv
                        refine wpList_nil ?_
                        refine th_n ?_
                        refine wp_ret ?_
                        refine th_r ?_
                        refine leave henv (res1 Tryd.results35 (RV.tmp henv rfl)) ?_
                        exact ⟨by rw [decide_eq_false (show ¬ (May (op, tr, ra, rb, cn) g) by unfold May at *; (try simp only at *); omega)], hst.below⟩
                    · rw [hg92] at henv
                      have hx100 := ne_of_beq_false hg92
                      revert a
                      refine gA (v := .pointer (some ⟨g51, 0, none⟩)) rfl rfl rfl rfl (fun _ henv => rn_fieldAddr henv fd_anvil_api_Instr_0 (ty_int.size) (by decide) rfl) ?_
                      refine gA (v := .int .i64 op) rfl rfl rfl rfl (fun _ henv => rn_load1 henv ty_int rfl (hst.oat (k := 0) rfl) rfl) ?_
                      refine gA (v := .bool (op == (6 : Int))) rfl rfl rfl rfl (fun _ henv => rn_bin henv rfl rfl rfl) ?_
                      refine sA (v := .bool (op == (6 : Int))) rfl (fun _ henv => rn_pick henv rfl rfl) ?_
                      intro a henv
                      refine wpList_nil ?_
                      refine th_n ?_
                      refine if_split henv rfl (fun hc101 => ?_) (fun hc101 => ?_)
                      · have hx102 := eq_of_beq hc101
                        refine wp_seq ?_
                        refine region_seq ?_
                        revert a
                        refine sA (v := .pointer (some ⟨g51, 4, none⟩)) rfl (fun _ henv => rn_fieldAddr henv fd_anvil_api_Instr_4 (ty_int.size) (by decide) rfl) ?_
                        refine sA (v := .int .i64 cn) rfl (fun _ henv => rn_load1 henv ty_int rfl (hst.oat (k := 0) rfl) rfl) ?_
                        refine sA (v := .bool (cn != (0 : Int))) rfl (fun _ henv => rn_bin henv rfl rfl rfl) ?_
                        refine mA rfl rfl ?_
                        intro a henv
                        rcases bool_em (cn != (0 : Int)) with hg103 | hg103
                        · rw [hg103] at henv
                          have hx104 := bne_yes hg103
                          revert a
                          refine gA (v := .pointer (some ⟨g51, 4, none⟩)) rfl rfl rfl rfl (fun _ henv => rn_fieldAddr henv fd_anvil_api_Instr_4 (ty_int.size) (by decide) rfl) ?_
                          refine gA (v := .int .i64 cn) rfl rfl rfl rfl (fun _ henv => rn_load1 henv ty_int rfl (hst.oat (k := 0) rfl) rfl) ?_
                          refine gA (v := .bool (decide (cn ≥ (-512)))) rfl rfl rfl rfl (fun _ henv => rn_bin henv rfl rfl rfl) ?_
                          refine sA (v := .bool (decide (cn ≥ (-512)))) rfl (fun _ henv => rn_pick henv rfl rfl) ?_
                          refine mA rfl rfl ?_
                          intro a henv
                          rcases bool_em (decide (cn ≥ (-512))) with hg105 | hg105
                          · rw [hg105] at henv
                            have hx106 := of_decide_eq_true hg105
                            revert a
                            refine gA (v := .pointer (some ⟨g51, 4, none⟩)) rfl rfl rfl rfl (fun _ henv => rn_fieldAddr henv fd_anvil_api_Instr_4 (ty_int.size) (by decide) rfl) ?_
                            refine gA (v := .int .i64 cn) rfl rfl rfl rfl (fun _ henv => rn_load1 henv ty_int rfl (hst.oat (k := 0) rfl) rfl) ?_
                            refine gA (v := .bool (decide (cn ≤ (512 : Int)))) rfl rfl rfl rfl (fun _ henv => rn_bin henv rfl rfl rfl) ?_
                            refine sA (v := .bool (decide (cn ≤ (512 : Int)))) rfl (fun _ henv => rn_pick henv rfl rfl) ?_
                            refine aA rfl rfl ?_
                            intro a henv
                            refine wpList_nil ?_
                            refine th_n ?_
                            refine wp_ret ?_
                            refine th_r ?_
                            refine leave henv (res1 Tryd.results35 (RV.tmp henv rfl)) ?_
                            exact ⟨congrArg (fun b => Ending.returned (Value.bool b)) (decide_eq_decide.2 (by unfold May at *; (try simp only at *); omega)), hst.below⟩
                          · rw [hg105] at henv
                            have hx107 := of_decide_eq_false hg105
                            revert a
                            refine kA rfl rfl rfl rfl rfl ?_
                            refine kA rfl rfl rfl rfl rfl ?_
                            refine kA rfl rfl rfl rfl rfl ?_
                            refine sA (v := .bool false) rfl (fun _ henv => rn_pick henv rfl rfl) ?_
                            refine aA rfl rfl ?_
                            intro a henv
                            refine wpList_nil ?_
                            refine th_n ?_
                            refine wp_ret ?_
                            refine th_r ?_
                            refine leave henv (res1 Tryd.results35 (RV.tmp henv rfl)) ?_
                            exact ⟨by rw [decide_eq_false (show ¬ (May (op, tr, ra, rb, cn) g) by unfold May at *; (try simp only at *); omega)], hst.below⟩
                        · rw [hg103] at henv
                          have hx108 := bne_no hg103
                          revert a
                          refine kA rfl rfl rfl rfl rfl ?_
                          refine kA rfl rfl rfl rfl rfl ?_
                          refine kA rfl rfl rfl rfl rfl ?_
                          refine sA (v := .bool false) rfl (fun _ henv => rn_pick henv rfl rfl) ?_
                          refine mA rfl rfl ?_
                          refine kA rfl rfl rfl rfl rfl ?_
                          refine kA rfl rfl rfl rfl rfl ?_
                          refine kA rfl rfl rfl rfl rfl ?_
                          refine sA (v := .bool false) rfl (fun _ henv => rn_pick henv rfl rfl) ?_
                          refine aA rfl rfl ?_
                          intro a henv
                          refine wpList_nil ?_
                          refine th_n ?_
                          refine wp_ret ?_
                          refine th_r ?_
                          refine leave henv (res1 Tryd.results35 (RV.tmp henv rfl)) ?_
                          exact ⟨by rw [decide_eq_false (show ¬ (May (op, tr, ra, rb, cn) g) by unfold May at *; (try simp only at *); omega)], hst.below⟩
                      · have hx109 := ne_of_beq_false hc101
                        refine wp_skip ?_
                        refine th_n ?_
                        refine wp_seq ?_
                        refine wp_seq ?_
                        refine region_seq ?_
                        revert a
                        refine sA (v := .pointer (some ⟨g51, 0, none⟩)) rfl (fun _ henv => rn_fieldAddr henv fd_anvil_api_Instr_0 (ty_int.size) (by decide) rfl) ?_
                        refine sA (v := .int .i64 op) rfl (fun _ henv => rn_load1 henv ty_int rfl (hst.oat (k := 0) rfl) rfl) ?_
                        refine sA (v := .bool (op == (7 : Int))) rfl (fun _ henv => rn_bin henv rfl rfl rfl) ?_
                        refine mA rfl rfl ?_
                        intro a henv
                        rcases bool_em (op == (7 : Int)) with hg110 | hg110
                        · rw [hg110] at henv
                          have hx111 := eq_of_beq hg110
                          revert a
                          refine kA rfl rfl rfl rfl rfl ?_
                          refine kA rfl rfl rfl rfl rfl ?_
                          refine kA rfl rfl rfl rfl rfl ?_
                          refine sA (v := .bool true) rfl (fun _ henv => rn_pick henv rfl rfl) ?_
                          intro a henv
                          refine wpList_nil ?_
                          refine th_n ?_
                          refine if_t henv rfl (rfl) ?_
                          refine wp_seq ?_
                          refine region_seq ?_
                          revert a
                          refine sA (v := .pointer (some ⟨g51, 4, none⟩)) rfl (fun _ henv => rn_fieldAddr henv fd_anvil_api_Instr_4 (ty_int.size) (by decide) rfl) ?_
                          refine sA (v := .int .i64 cn) rfl (fun _ henv => rn_load1 henv ty_int rfl (hst.oat (k := 0) rfl) rfl) ?_
                          refine sA (v := .bool (decide (cn ≥ (1 : Int)))) rfl (fun _ henv => rn_bin henv rfl rfl rfl) ?_
                          refine mA rfl rfl ?_
                          intro a henv
                          rcases bool_em (decide (cn ≥ (1 : Int))) with hg112 | hg112
                          · rw [hg112] at henv
                            have hx113 := of_decide_eq_true hg112
                            revert a
                            refine gA (v := .pointer (some ⟨g51, 4, none⟩)) rfl rfl rfl rfl (fun _ henv => rn_fieldAddr henv fd_anvil_api_Instr_4 (ty_int.size) (by decide) rfl) ?_
                            refine gA (v := .int .i64 cn) rfl rfl rfl rfl (fun _ henv => rn_load1 henv ty_int rfl (hst.oat (k := 0) rfl) rfl) ?_
                            refine gA (v := .bool (decide (cn ≤ (64 : Int)))) rfl rfl rfl rfl (fun _ henv => rn_bin henv rfl rfl rfl) ?_
                            refine sA (v := .bool (decide (cn ≤ (64 : Int)))) rfl (fun _ henv => rn_pick henv rfl rfl) ?_
                            refine aA rfl rfl ?_
                            intro a henv
                            refine wpList_nil ?_
                            refine th_n ?_
                            refine wp_ret ?_
                            refine th_r ?_
                            refine leave henv (res1 Tryd.results35 (RV.tmp henv rfl)) ?_
                            exact ⟨congrArg (fun b => Ending.returned (Value.bool b)) (decide_eq_decide.2 (by unfold May at *; (try simp only at *); omega)), hst.below⟩
                          · rw [hg112] at henv
                            have hx114 := of_decide_eq_false hg112
                            revert a
                            refine kA rfl rfl rfl rfl rfl ?_
                            refine kA rfl rfl rfl rfl rfl ?_
                            refine kA rfl rfl rfl rfl rfl ?_
                            refine sA (v := .bool false) rfl (fun _ henv => rn_pick henv rfl rfl) ?_
                            refine aA rfl rfl ?_
                            intro a henv
                            refine wpList_nil ?_
                            refine th_n ?_
                            refine wp_ret ?_
                            refine th_r ?_
                            refine leave henv (res1 Tryd.results35 (RV.tmp henv rfl)) ?_
                            exact ⟨by rw [decide_eq_false (show ¬ (May (op, tr, ra, rb, cn) g) by unfold May at *; (try simp only at *); omega)], hst.below⟩
                        · rw [hg110] at henv
                          have hx115 := ne_of_beq_false hg110
                          revert a
                          refine gA (v := .pointer (some ⟨g51, 0, none⟩)) rfl rfl rfl rfl (fun _ henv => rn_fieldAddr henv fd_anvil_api_Instr_0 (ty_int.size) (by decide) rfl) ?_
                          refine gA (v := .int .i64 op) rfl rfl rfl rfl (fun _ henv => rn_load1 henv ty_int rfl (hst.oat (k := 0) rfl) rfl) ?_
                          refine gA (v := .bool (op == (8 : Int))) rfl rfl rfl rfl (fun _ henv => rn_bin henv rfl rfl rfl) ?_
                          refine sA (v := .bool (op == (8 : Int))) rfl (fun _ henv => rn_pick henv rfl rfl) ?_
                          intro a henv
                          refine wpList_nil ?_
                          refine th_n ?_
                          refine if_split henv rfl (fun hc116 => ?_) (fun hc116 => ?_)
                          · have hx117 := eq_of_beq hc116
                            refine wp_seq ?_
                            refine region_seq ?_
                            revert a
                            refine sA (v := .pointer (some ⟨g51, 4, none⟩)) rfl (fun _ henv => rn_fieldAddr henv fd_anvil_api_Instr_4 (ty_int.size) (by decide) rfl) ?_
                            refine sA (v := .int .i64 cn) rfl (fun _ henv => rn_load1 henv ty_int rfl (hst.oat (k := 0) rfl) rfl) ?_
                            refine sA (v := .bool (decide (cn ≥ (1 : Int)))) rfl (fun _ henv => rn_bin henv rfl rfl rfl) ?_
                            refine mA rfl rfl ?_
                            intro a henv
                            rcases bool_em (decide (cn ≥ (1 : Int))) with hg118 | hg118
                            · rw [hg118] at henv
                              have hx119 := of_decide_eq_true hg118
                              revert a
                              refine gA (v := .pointer (some ⟨g51, 4, none⟩)) rfl rfl rfl rfl (fun _ henv => rn_fieldAddr henv fd_anvil_api_Instr_4 (ty_int.size) (by decide) rfl) ?_
                              refine gA (v := .int .i64 cn) rfl rfl rfl rfl (fun _ henv => rn_load1 henv ty_int rfl (hst.oat (k := 0) rfl) rfl) ?_
                              refine gA (v := .bool (decide (cn ≤ (64 : Int)))) rfl rfl rfl rfl (fun _ henv => rn_bin henv rfl rfl rfl) ?_
                              refine sA (v := .bool (decide (cn ≤ (64 : Int)))) rfl (fun _ henv => rn_pick henv rfl rfl) ?_
                              refine aA rfl rfl ?_
                              intro a henv
                              refine wpList_nil ?_
                              refine th_n ?_
                              refine wp_ret ?_
                              refine th_r ?_
                              refine leave henv (res1 Tryd.results35 (RV.tmp henv rfl)) ?_
                              exact ⟨congrArg (fun b => Ending.returned (Value.bool b)) (decide_eq_decide.2 (by unfold May at *; (try simp only at *); omega)), hst.below⟩
                            · rw [hg118] at henv
                              have hx120 := of_decide_eq_false hg118
                              revert a
                              refine kA rfl rfl rfl rfl rfl ?_
                              refine kA rfl rfl rfl rfl rfl ?_
                              refine kA rfl rfl rfl rfl rfl ?_
                              refine sA (v := .bool false) rfl (fun _ henv => rn_pick henv rfl rfl) ?_
                              refine aA rfl rfl ?_
                              intro a henv
                              refine wpList_nil ?_
                              refine th_n ?_
                              refine wp_ret ?_
                              refine th_r ?_
                              refine leave henv (res1 Tryd.results35 (RV.tmp henv rfl)) ?_
                              exact ⟨by rw [decide_eq_false (show ¬ (May (op, tr, ra, rb, cn) g) by unfold May at *; (try simp only at *); omega)], hst.below⟩
                          · have hx121 := ne_of_beq_false hc116
                            refine wp_skip ?_
                            refine th_n ?_
                            refine wp_seq ?_
                            refine region_seq ?_
                            revert a
                            refine sA (v := .pointer (some ⟨g51, 4, none⟩)) rfl (fun _ henv => rn_fieldAddr henv fd_anvil_api_Instr_4 (ty_int.size) (by decide) rfl) ?_
                            refine sA (v := .int .i64 cn) rfl (fun _ henv => rn_load1 henv ty_int rfl (hst.oat (k := 0) rfl) rfl) ?_
                            refine sA (v := .bool (cn == (0 : Int))) rfl (fun _ henv => rn_bin henv rfl rfl rfl) ?_
                            refine aA rfl rfl ?_
                            intro a henv
                            refine wpList_nil ?_
                            refine th_n ?_
                            refine wp_ret ?_
                            refine leave henv (res1 Tryd.results35 (RV.tmp henv rfl)) ?_
                            exact ⟨congrArg (fun b => Ending.returned (Value.bool b)) (beq_dec (by unfold May at *; (try simp only at *); omega)), hst.below⟩
end Go.Proofs.YtbdngknpngcojaaDoor.W
