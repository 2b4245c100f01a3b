/- strings.Join at a blank; row.Text. Printed by pv/gen_rtx2.py. No condition. -/
import Derived.Test.YtbdngknpngcojaaDoorM45
import Derived.Test.YtbdngknpngcojaaDoorM15
import Derived.Test.YtbdngknpngcojaaDoorM46
import Derived.Test.YtbdngknpngcojaaDoorM31
import Derived.Test.YtbdngknpngcojaaDoorM6
import Derived.Test.YtbdngknpngcojaaDoorM36
import Derived.Test.YtbdngknpngcojaaDoorM12
import Derived.Test.YtbdngknpngcojaaDoorM16
import Derived.Test.YtbdngknpngcojaaDoorM40
import Derived.Test.YtbdngknpngcojaaDoorM34

namespace Go.Proofs.YtbdngknpngcojaaDoor.W
open Go.RowKit Anv Go.Lib
def jt (s : List UInt8) (r : List (List UInt8)) (k : Nat) : List UInt8 := s ++ (r.take k).flatMap fun t => 32 :: t
def textRow (zs : List Int) : List UInt8 := 91 :: (jn (zs.map textZ) ++ [93])
end Go.Proofs.YtbdngknpngcojaaDoor.W

/- row.Zero, Unit, IsZero; the laws' live; RowMakes. Printed by pv/gen_row2.py. No condition. -/
namespace Go.Proofs.YtbdngknpngcojaaDoor.W
open Go.RowKit Anv Go.Lib
def allz (es : List NE) : Bool := es.all fun e => decide (zz e = 0)
end Go.Proofs.YtbdngknpngcojaaDoor.W

/- The laws' long. Printed by pv/gen_row4.py. No condition. -/
namespace Go.Proofs.YtbdngknpngcojaaDoor.W
open Go.RowKit Anv Go.Lib
abbrev VE := Option Addr × Nat × Nat × List UE
def fV (v : VE) : List Value := [.slice v.1 v.2.1 v.2.2.1]
def FV (v : VE) : PF := pfRow fU FU 2 v.1 v.2.1 v.2.2.1 v.2.2.2
def tl (us : List UE) : Nat := (us.map fun e => e.2.2.1).sum
def tv (vs : List VE) : Nat := (vs.map fun v => v.2.1 + tl v.2.2.2).sum
def vz (e : UE) : Int := sg e.1 (val 4294967296 e.2.2.2.2)
end Go.Proofs.YtbdngknpngcojaaDoor.W

/- row.Cmp, Same; the reference's Cmp, Same, IsZero. Printed by pv/gen_row5.py. No condition. -/
namespace Go.Proofs.YtbdngknpngcojaaDoor.W
open Go.RowKit Anv Go.Lib
def lexc : List Int → List Int → Int
  | x :: xs, y :: ys => if (x - y).sign = 0 then lexc xs ys else (x - y).sign
  | _, _ => 0
def cmpR (xs ys : List Int) : Int := if xs.length < ys.length then -1 else if ys.length < xs.length then 1 else lexc xs ys
end Go.Proofs.YtbdngknpngcojaaDoor.W

/- row.Widest, anvilref04.Widest. Printed by pv/gen_row6.py. No condition. -/
namespace Go.Proofs.YtbdngknpngcojaaDoor.W
open Go.RowKit Anv Go.Lib
def wid (zs : List Int) : Int := zs.foldl (fun w z => if w < (z.natAbs : Int) then (z.natAbs : Int) else w) 0
end Go.Proofs.YtbdngknpngcojaaDoor.W

/- What the law RowHolds needs, with no program in sight but the shape of the memory. No condition. -/
namespace Go.Proofs.YtbdngknpngcojaaDoor.W
open Go.RowKit Anv Go.Lib
theorem tl_mem {us : List UE} {e : UE} (h : e ∈ us) : e.2.2.1 ≤ tl us := by
  induction us with
  | nil => cases h
  | cons x us ih =>
    unfold tl at *
    rw [List.map_cons, List.sum_cons]
    rcases List.mem_cons.1 h with rfl | h
    · omega
    · have := ih h; omega
end Go.Proofs.YtbdngknpngcojaaDoor.W

/- What the laws of rows need of the memory: rows of rows written out, numbers written out, sizes. No program but the shape of the memory. No condition. -/
namespace Go.Proofs.YtbdngknpngcojaaDoor.W
open Go.RowKit Anv Go.Lib
theorem zl_vze {w : World} {b : Bool} {A : Option Addr} {n c k : Nat} {xs : List Nat} (h : U32 w A n c xs) (hn : n ≤ k) : zl (sg b (val 4294967296 xs)) ≤ k := by
  have h2 := nl_val h
  have e : zl (sg b (val 4294967296 xs)) = nl (val 4294967296 xs) := by
    unfold sg zl
    split
    · rw [Int.natAbs_neg, Int.natAbs_natCast]
    · rw [Int.natAbs_natCast]
  omega
def Zk (k : Nat) (zs : List Int) : Prop := ∀ z ∈ zs, zl z ≤ k
theorem Zk.es {k : Nat} {es : List NE} {zs : List Int} (h : Zk k zs) (e : es.map zz = zs) : ZB k es := fun x hx => h (zz x) (e ▸ List.mem_map_of_mem hx)
theorem Zk.mono {k m : Nat} {zs : List Int} (h : Zk k zs) (hm : k ≤ m) : Zk m zs := fun z hz => Nat.le_trans (h z hz) hm
theorem Zk.map {k m : Nat} {zs : List Int} {f : Int → Int} (h : Zk k zs) (hf : ∀ z, zl z ≤ k → zl (f z) ≤ m) : Zk m (zs.map f) := fun x hx => by
  obtain ⟨z, hz, rfl⟩ := List.mem_map.1 hx
  exact hf z (h z hz)
theorem Zk.vz {es : List UE} {k : Nat} {w : World} (h : (pfEs FU es).P w) (ht : tl es ≤ k) : Zk k (es.map vz) := by
  intro z hz
  obtain ⟨e, he, rfl⟩ := List.mem_map.1 hz
  have h1 : U32 w e.2.1 e.2.2.1 e.2.2.2.1 e.2.2.2.2 := h e he
  exact zl_vze h1 (Nat.le_trans (tl_mem he) ht)
theorem Zk.prim {k : Nat} {zs : List Int} (h : Zk k zs) : Zk k (prim zs) := h.map fun _ hz => Nat.le_trans (zl_ediv _ _) hz
theorem Zk.take {k : Nat} {zs : List Int} (h : Zk k zs) (j : Nat) : Zk k (zs.take j) := fun z hz => h z (List.mem_of_mem_take hz)
end Go.Proofs.YtbdngknpngcojaaDoor.W

/- prog's may, Asks, Check; the reference's. Printed by pv/gen_g1.py. No condition. -/
namespace Go.Proofs.YtbdngknpngcojaaDoor.W
open Go.RowKit Anv Go.Lib
theorem bnot_t {b : Bool} (h : (!b) = true) : b = false := by cases b <;> simp_all
theorem bnot_f {b : Bool} (h : (!b) = false) : b = true := by cases b <;> simp_all
theorem bne_yes {x y : Int} (h : (x != y) = true) : x ≠ y := bne_iff_ne.1 h
theorem bne_no {x y : Int} (h : (x != y) = false) : x = y := by simpa using h
theorem beq_dec {x y : Int} {P : Prop} [Decidable P] (h : x = y ↔ P) : (x == y) = decide P := by
  by_cases hp : P
  · rw [decide_eq_true hp]; exact beq_iff_eq.2 (h.2 hp)
  · rw [decide_eq_false hp]; exact beq_eq_false_iff_ne.2 fun q => hp (h.1 q)
theorem bool_em (b : Bool) : b = true ∨ b = false := by cases b <;> simp
def CN (op cn : Int) : Prop := ((op = 5 ∨ op = 6) → cn ≠ 0 ∧ -512 ≤ cn ∧ cn ≤ 512) ∧ ((op = 7 ∨ op = 8) → 1 ≤ cn ∧ cn ≤ 64) ∧ (¬ (op = 5 ∨ op = 6 ∨ op = 7 ∨ op = 8) → cn = 0)
instance (op cn : Int) : Decidable (CN op cn) := by unfold CN; infer_instance
def May (e : IE) (g : Int) : Prop := 1 ≤ e.1 ∧ e.1 ≤ 8 ∧ 0 ≤ e.2.1 ∧ e.2.1 < g ∧ 0 ≤ e.2.2.1 ∧ e.2.2.1 < g ∧ ((e.1 = 3 ∨ e.1 = 4) → 0 ≤ e.2.2.2.1 ∧ e.2.2.2.1 < g ∧ e.2.2.2.2 = 0) ∧ (¬ (e.1 = 3 ∨ e.1 = 4) → e.2.2.2.1 = 0) ∧
  ((e.1 = 5 ∨ e.1 = 6) → e.2.2.2.2 ≠ 0 ∧ -512 ≤ e.2.2.2.2 ∧ e.2.2.2.2 ≤ 512) ∧ ((e.1 = 7 ∨ e.1 = 8) → 1 ≤ e.2.2.2.2 ∧ e.2.2.2.2 ≤ 64) ∧ ((e.1 = 1 ∨ e.1 = 2) → e.2.2.2.2 = 0)
instance (e : IE) (g : Int) : Decidable (May e g) := by unfold May; infer_instance
def asksL (op ra rb : Int) : List Int := if op = 3 ∨ op = 4 then [ra, rb] else if 1 ≤ op ∧ op ≤ 8 then [ra] else []
theorem asks_len (op ra rb : Int) : (asksL op ra rb).length ≤ 2 := by
  unfold asksL
  split
  · simp
  · split <;> simp
theorem asks_all {op ra rb g : Int} : (∀ x ∈ asksL op ra rb, 0 ≤ x ∧ x < g) ↔ ((op = 3 ∨ op = 4) → 0 ≤ rb ∧ rb < g) ∧ ((1 ≤ op ∧ op ≤ 8) → 0 ≤ ra ∧ ra < g) := by
  unfold asksL
  by_cases h1 : op = 3 ∨ op = 4
  · rw [if_pos h1]
    simp only [List.forall_mem_cons, List.not_mem_nil, false_implies, implies_true, and_true]
    omega
  · rw [if_neg h1]
    by_cases h2 : 1 ≤ op ∧ op ≤ 8
    · rw [if_pos h2]
      simp only [List.forall_mem_cons, List.not_mem_nil, false_implies, implies_true, and_true]
      omega
    · rw [if_neg h2]
      simp only [List.not_mem_nil, false_implies, implies_true, true_iff]
      omega
theorem all_snoc {P : Int → Prop} {l : List Int} {j : Nat} {x : Int} (h : ∀ y ∈ l.take j, P y) (hx : l[j]? = some x) (hp : P x) : ∀ y ∈ l.take (j + 1), P y := fun y hy => by
  rw [take_one hx] at hy
  rcases List.mem_append.1 hy with hy | hy
  · exact h y hy
  · rw [List.mem_singleton.1 hy]; exact hp
theorem all_full {P : Int → Prop} {l : List Int} {j : Nat} (h : ∀ y ∈ l.take j, P y) (hj : l.length ≤ j) : ∀ y ∈ l, P y := by
  rwa [List.take_of_length_le hj] at h
def IRow (B : Nat) (w : World) (v : Value) (zs : List Int) : Prop := ∃ A c, v = .slice A zs.length c ∧ (pfRow fI FI 1 A zs.length c zs).P w ∧ ∀ a, A = some a → B ≤ a.block
theorem irow_nil {B : Nat} {w : World} : IRow B w (.slice none 0 0) [] := ⟨none, 0, rfl, row_nil fI FI 1 w, fun a h => by cases h⟩
theorem fl_ints (zs : List Int) : fl fI zs = zs.map fun x => .int .i64 x := by
  induction zs with
  | nil => rfl
  | cons e es ih => rw [List.map_cons, ← ih]; rfl
theorem irow_new {B : Nat} {w : World} {g : Nat} {zs : List Int} {t : TypeId} (h : w.heap[g]? = some (.cells (zs.map fun x => Value.int .i64 x).toArray t (0, 0))) (hg : B ≤ g) (hm : zs.length ≤ 2 := by simp) : IRow B w (.slice (some ⟨g, 0, none⟩) zs.length zs.length) zs :=
  ⟨_, _, rfl, ⟨⟨by rw [fl_ints, List.length_map, Nat.mul_one], Nat.le_refl _, Nat.le_trans hm (by decide), fun _ => ⟨g, 0, rfl, lt_of_block h, fun i _ => by
    rw [Nat.zero_add, cell_of_row w g i _ t (0, 0) h, fl_ints]; simp⟩⟩, rfl, fun _ _ => trivial⟩, fun a ha => by cases ha; exact hg⟩
theorem St.freshI {w0 w w' : World} {own ps : List PF} {A : Option Addr} {n c : Nat} {zs : List Int} (h : St w0 w own ps) (hb : Below w.heap.size w w') (hr : (pfRow fI FI 1 A n c zs).P w') (hf : ∀ a, A = some a → w.heap.size ≤ a.block) : St w0 w' own (pfRow fI FI 1 A n c zs :: ps) :=
  (h.call hb).addP _ hr fun o ho b hfb hff => by
    rcases hff with ⟨_, off, rfl⟩ | ⟨e, _, hff⟩
    · have h2 : w.heap.size ≤ b := hf _ rfl
      have h3 := o.lt (h.mine o ho) hfb
      omega
    · cases hff
def HeadOk (i g : Int) (n m : Nat) : Prop := 1 ≤ i ∧ i ≤ g ∧ g ≤ 128 ∧ n ≤ 16384 ∧ 1 ≤ m ∧ m ≤ 128
instance (i g : Int) (n m : Nat) : Decidable (HeadOk i g n m) := by unfold HeadOk; infer_instance
def Right (i g : Int) (n m : Nat) (es : List IE) (os : List Int) : Prop := HeadOk i g n m ∧ (∀ x ∈ os, 0 ≤ x ∧ x < g) ∧ ∀ e ∈ es, May e g
def Wrong (i g : Int) (n m : Nat) (es : List IE) (os : List Int) (k : Int) : Prop :=
  (k = -1 ∧ ¬ HeadOk i g n m) ∨ (k = -1 ∧ HeadOk i g n m ∧ ¬ ∀ x ∈ os, 0 ≤ x ∧ x < g) ∨
  ∃ (q : Nat) (ek : IE), k = (q : Nat) ∧ HeadOk i g n m ∧ (∀ x ∈ os, 0 ≤ x ∧ x < g) ∧ es[q]? = some ek ∧ ¬ May ek g ∧ ∀ j e, j < q → es[j]? = some e → May e g
set_option maxRecDepth 100000 in
set_option maxHeartbeats 2000000 in
theorem g_two {op : Int} {w0 : World} :
    Calls Tryd.prog 57 #[.int .i64 op] w0 fun e w' => e = .returned (.bool (decide (op = 3 ∨ op = 4))) ∧ Below w0.heap.size w0 w' := by
  refine enter Tryd.func57 rfl Tryd.ntmps57 rfl ?_
  intro a henv hst
  refine wp_seq ?_
  refine region_seq ?_
  refine sv (v := .bool false) henv rfl (rn_assign henv rfl) ?_
  clear henv a; intro a henv
  refine wpList_nil ?_
  refine th_n ?_
  refine wp_seq ?_
  refine region_seq ?_
  revert a
  refine mA rfl rfl ?_
  refine sA (v := .bool (op == (3 : Int))) rfl (fun _ henv => rn_bin henv rfl rfl rfl) ?_
  refine mA rfl rfl ?_
  intro a henv
  rcases bool_em (op == (3 : Int)) with hg51 | hg51
  · rw [hg51] at henv
    have hx52 := eq_of_beq hg51
    revert a
    refine kA rfl rfl rfl rfl rfl ?_
    refine kA rfl rfl rfl rfl rfl ?_
    refine sA (v := .bool true) rfl (fun _ henv => rn_pick henv rfl rfl) ?_
    refine aA rfl rfl ?_
    intro a henv
    refine wpList_nil ?_
    refine th_n ?_
    refine wp_ret ?_
    refine leave henv (res1 Tryd.results57 (RV.tmp henv rfl)) ?_
    exact ⟨by rw [decide_eq_true (show (op = 3 ∨ op = 4) by omega)], hst.below⟩
  · rw [hg51] at henv
    have hx53 := ne_of_beq_false hg51
    revert a
    refine gA (v := .int .i64 op) rfl rfl rfl rfl (fun _ henv => rn_move henv rfl) ?_
    refine gA (v := .bool (op == (4 : Int))) rfl rfl rfl rfl (fun _ henv => rn_bin henv rfl rfl rfl) ?_
    refine sA (v := .bool (op == (4 : Int))) rfl (fun _ henv => rn_pick henv rfl rfl) ?_
    refine aA rfl rfl ?_
    intro a henv
    refine wpList_nil ?_
    refine th_n ?_
    refine wp_ret ?_
    refine leave henv (res1 Tryd.results57 (RV.tmp henv rfl)) ?_
    exact ⟨congrArg (fun b => Ending.returned (Value.bool b)) (beq_dec (by omega)), hst.below⟩
set_option maxRecDepth 100000 in
set_option maxHeartbeats 2000000 in
theorem g_constant {op tr ra rb cn : Int} {w0 : World} :
    Calls Tryd.prog 58 #[.agg #[.int .i64 op, .int .i64 tr, .int .i64 ra, .int .i64 rb, .int .i64 cn]] w0 fun e w' => e = .returned (.bool (decide (CN op cn))) ∧ Below w0.heap.size w0 w' := by
  refine enter Tryd.func58 rfl Tryd.ntmps58 rfl ?_
  intro a henv hst
  refine wp_seq ?_
  refine region_seq ?_
  refine seq_step rfl (op_box (c := #[.int .i64 op, .int .i64 tr, .int .i64 ra, .int .i64 rb, .int .i64 cn]) henv hst rfl rfl rfl ?_)
  clear henv hst a; intro a w52 g51 henv hst
  refine sv (v := .bool false) henv rfl (rn_assign henv rfl) ?_
  clear henv a; intro a henv
  refine wpList_nil ?_
  refine th_n ?_
  refine wp_seq ?_
  refine wp_seq ?_
  refine region_seq ?_
  revert a
  refine sA (v := .pointer (some ⟨g51, 0, none⟩)) rfl (fun _ henv => rn_fieldAddr henv fd_anvil_api_Instr_0 (ty_int.size) (by decide) rfl) ?_
  refine sA (v := .int .i64 op) rfl (fun _ henv => rn_load1 henv ty_int rfl (hst.oat (k := 0) rfl) rfl) ?_
  intro a henv
  refine wpList_nil ?_
  refine th_n ?_
  refine wp_block ?_
  refine wp_seq ?_
  refine wp_seq ?_
  refine region_seq ?_
  revert a
  refine sA (v := .bool (op == (5 : Int))) rfl (fun _ henv => rn_bin henv rfl rfl rfl) ?_
  refine aA rfl rfl ?_
  intro a henv
  refine wpList_nil ?_
  refine th_n ?_
  refine if_split henv rfl (fun hc53 => ?_) (fun hc53 => ?_)
  · have hx54 := eq_of_beq hc53
    refine wp_skip ?_
    refine th_n ?_
    refine if_split henv rfl (fun hc55 => ?_) (fun hc55 => ?_)
    · have hx56 := eq_of_beq hc55
      refine wp_seq ?_
      refine region_seq ?_
      revert a
      refine sA (v := .pointer (some ⟨g51, 4, none⟩)) rfl (fun _ henv => rn_fieldAddr henv fd_anvil_api_Instr_4 (ty_int.size) (by decide) rfl) ?_
      refine sA (v := .int .i64 cn) rfl (fun _ henv => rn_load1 henv ty_int rfl (hst.oat (k := 0) rfl) rfl) ?_
      refine sA (v := .bool (cn != (0 : Int))) rfl (fun _ henv => rn_bin henv rfl rfl rfl) ?_
      refine mA rfl rfl ?_
      intro a henv
      rcases bool_em (cn != (0 : Int)) with hg57 | hg57
      · rw [hg57] at henv
        have hx58 := bne_yes hg57
        revert a
        refine gA (v := .pointer (some ⟨g51, 4, none⟩)) rfl rfl rfl rfl (fun _ henv => rn_fieldAddr henv fd_anvil_api_Instr_4 (ty_int.size) (by decide) rfl) ?_
        refine gA (v := .int .i64 cn) rfl rfl rfl rfl (fun _ henv => rn_load1 henv ty_int rfl (hst.oat (k := 0) rfl) rfl) ?_
        refine gA (v := .bool (decide (cn ≥ (-512)))) rfl rfl rfl rfl (fun _ henv => rn_bin henv rfl rfl rfl) ?_
        refine sA (v := .bool (decide (cn ≥ (-512)))) rfl (fun _ henv => rn_pick henv rfl rfl) ?_
        refine mA rfl rfl ?_
        intro a henv
        rcases bool_em (decide (cn ≥ (-512))) with hg59 | hg59
        · rw [hg59] at henv
          have hx60 := of_decide_eq_true hg59
          revert a
          refine gA (v := .pointer (some ⟨g51, 4, none⟩)) rfl rfl rfl rfl (fun _ henv => rn_fieldAddr henv fd_anvil_api_Instr_4 (ty_int.size) (by decide) rfl) ?_
          refine gA (v := .int .i64 cn) rfl rfl rfl rfl (fun _ henv => rn_load1 henv ty_int rfl (hst.oat (k := 0) rfl) rfl) ?_
          refine gA (v := .bool (decide (cn ≤ (512 : Int)))) rfl rfl rfl rfl (fun _ henv => rn_bin henv rfl rfl rfl) ?_
          refine sA (v := .bool (decide (cn ≤ (512 : Int)))) rfl (fun _ henv => rn_pick henv rfl rfl) ?_
          refine aA rfl rfl ?_
          intro a henv
          refine wpList_nil ?_
          refine th_n ?_
          refine wp_ret ?_
          refine bl_r (th_r ?_)
          refine leave henv (res1 Tryd.results58 (RV.tmp henv rfl)) ?_
          exact ⟨congrArg (fun b => Ending.returned (Value.bool b)) (decide_eq_decide.2 (by unfold CN at *; (try simp only at *); omega)), hst.below⟩
        · rw [hg59] at henv
          have hx61 := of_decide_eq_false hg59
          revert a
          refine kA rfl rfl rfl rfl rfl ?_
          refine kA rfl rfl rfl rfl rfl ?_
          refine kA rfl rfl rfl rfl rfl ?_
          refine sA (v := .bool false) rfl (fun _ henv => rn_pick henv rfl rfl) ?_
          refine aA rfl rfl ?_
          intro a henv
          refine wpList_nil ?_
          refine th_n ?_
          refine wp_ret ?_
          refine bl_r (th_r ?_)
          refine leave henv (res1 Tryd.results58 (RV.tmp henv rfl)) ?_
          exact ⟨by rw [decide_eq_false (show ¬ (CN op cn) by unfold CN at *; (try simp only at *); omega)], hst.below⟩
      · rw [hg57] at henv
        have hx62 := bne_no hg57
        revert a
        refine kA rfl rfl rfl rfl rfl ?_
        refine kA rfl rfl rfl rfl rfl ?_
        refine kA rfl rfl rfl rfl rfl ?_
        refine sA (v := .bool false) rfl (fun _ henv => rn_pick henv rfl rfl) ?_
        refine mA rfl rfl ?_
        refine kA rfl rfl rfl rfl rfl ?_
        refine kA rfl rfl rfl rfl rfl ?_
        refine kA rfl rfl rfl rfl rfl ?_
        refine sA (v := .bool false) rfl (fun _ henv => rn_pick henv rfl rfl) ?_
        refine aA rfl rfl ?_
        intro a henv
        refine wpList_nil ?_
        refine th_n ?_
        refine wp_ret ?_
        refine bl_r (th_r ?_)
        refine leave henv (res1 Tryd.results58 (RV.tmp henv rfl)) ?_
        exact ⟨by rw [decide_eq_false (show ¬ (CN op cn) by unfold CN at *; (try simp only at *); omega)], hst.below⟩
    · have hx63 := ne_of_beq_false hc55
      refine wp_seq ?_
      refine wp_seq ?_
      refine region_seq ?_
      revert a
      refine sA (v := .bool (op == (7 : Int))) rfl (fun _ henv => rn_bin henv rfl rfl rfl) ?_
      refine aA rfl rfl ?_
      intro a henv
      refine wpList_nil ?_
      refine th_n ?_
      refine if_split henv rfl (fun hc64 => ?_) (fun hc64 => ?_)
      · have hx65 := eq_of_beq hc64
        refine wp_skip ?_
        refine th_n ?_
        refine if_split henv rfl (fun hc66 => ?_) (fun hc66 => ?_)
        · have hx67 := eq_of_beq hc66
          refine wp_seq ?_
          refine region_seq ?_
          revert a
          refine sA (v := .pointer (some ⟨g51, 4, none⟩)) rfl (fun _ henv => rn_fieldAddr henv fd_anvil_api_Instr_4 (ty_int.size) (by decide) rfl) ?_
          refine sA (v := .int .i64 cn) rfl (fun _ henv => rn_load1 henv ty_int rfl (hst.oat (k := 0) rfl) rfl) ?_
          refine sA (v := .bool (decide (cn ≥ (1 : Int)))) rfl (fun _ henv => rn_bin henv rfl rfl rfl) ?_
          refine mA rfl rfl ?_
          intro a henv
          rcases bool_em (decide (cn ≥ (1 : Int))) with hg68 | hg68
          · rw [hg68] at henv
            have hx69 := of_decide_eq_true hg68
            revert a
            refine gA (v := .pointer (some ⟨g51, 4, none⟩)) rfl rfl rfl rfl (fun _ henv => rn_fieldAddr henv fd_anvil_api_Instr_4 (ty_int.size) (by decide) rfl) ?_
            refine gA (v := .int .i64 cn) rfl rfl rfl rfl (fun _ henv => rn_load1 henv ty_int rfl (hst.oat (k := 0) rfl) rfl) ?_
            refine gA (v := .bool (decide (cn ≤ (64 : Int)))) rfl rfl rfl rfl (fun _ henv => rn_bin henv rfl rfl rfl) ?_
            refine sA (v := .bool (decide (cn ≤ (64 : Int)))) rfl (fun _ henv => rn_pick henv rfl rfl) ?_
            refine aA rfl rfl ?_
            intro a henv
            refine wpList_nil ?_
            refine th_n ?_
            refine wp_ret ?_
            refine bl_r (th_r ?_)
            refine leave henv (res1 Tryd.results58 (RV.tmp henv rfl)) ?_
            exact ⟨congrArg (fun b => Ending.returned (Value.bool b)) (decide_eq_decide.2 (by unfold CN at *; (try simp only at *); omega)), hst.below⟩
          · rw [hg68] at henv
            have hx70 := of_decide_eq_false hg68
            revert a
            refine kA rfl rfl rfl rfl rfl ?_
            refine kA rfl rfl rfl rfl rfl ?_
            refine kA rfl rfl rfl rfl rfl ?_
            refine sA (v := .bool false) rfl (fun _ henv => rn_pick henv rfl rfl) ?_
            refine aA rfl rfl ?_
            intro a henv
            refine wpList_nil ?_
            refine th_n ?_
            refine wp_ret ?_
            refine bl_r (th_r ?_)
            refine leave henv (res1 Tryd.results58 (RV.tmp henv rfl)) ?_
            exact ⟨by rw [decide_eq_false (show ¬ (CN op cn) by unfold CN at *; (try simp only at *); omega)], hst.below⟩
        · have hx71 := ne_of_beq_false hc66
          refine wp_skip ?_
          refine bl_n (th_n ?_)
          refine wp_seq ?_
          refine region_seq ?_
          revert a
          refine sA (v := .pointer (some ⟨g51, 4, none⟩)) rfl (fun _ henv => rn_fieldAddr henv fd_anvil_api_Instr_4 (ty_int.size) (by decide) rfl) ?_
          refine sA (v := .int .i64 cn) rfl (fun _ henv => rn_load1 henv ty_int rfl (hst.oat (k := 0) rfl) rfl) ?_
          refine sA (v := .bool (cn == (0 : Int))) rfl (fun _ henv => rn_bin henv rfl rfl rfl) ?_
          refine aA rfl rfl ?_
          intro a henv
          refine wpList_nil ?_
          refine th_n ?_
          refine wp_ret ?_
          refine leave henv (res1 Tryd.results58 (RV.tmp henv rfl)) ?_
          exact ⟨congrArg (fun b => Ending.returned (Value.bool b)) (beq_dec (by unfold CN at *; (try simp only at *); omega)), hst.below⟩
      · have hx72 := ne_of_beq_false hc64
        refine region_seq ?_
        revert a
        refine sA (v := .bool (op == (8 : Int))) rfl (fun _ henv => rn_bin henv rfl rfl rfl) ?_
        refine aA rfl rfl ?_
        intro a henv
        refine wpList_nil ?_
        refine th_n ?_
        refine if_split henv rfl (fun hc73 => ?_) (fun hc73 => ?_)
        · have hx74 := eq_of_beq hc73
          refine wp_seq ?_
          refine region_seq ?_
          revert a
          refine sA (v := .pointer (some ⟨g51, 4, none⟩)) rfl (fun _ henv => rn_fieldAddr henv fd_anvil_api_Instr_4 (ty_int.size) (by decide) rfl) ?_
          refine sA (v := .int .i64 cn) rfl (fun _ henv => rn_load1 henv ty_int rfl (hst.oat (k := 0) rfl) rfl) ?_
          refine sA (v := .bool (decide (cn ≥ (1 : Int)))) rfl (fun _ henv => rn_bin henv rfl rfl rfl) ?_
          refine mA rfl rfl ?_
          intro a henv
          rcases bool_em (decide (cn ≥ (1 : Int))) with hg75 | hg75
          · rw [hg75] at henv
            have hx76 := of_decide_eq_true hg75
            revert a
            refine gA (v := .pointer (some ⟨g51, 4, none⟩)) rfl rfl rfl rfl (fun _ henv => rn_fieldAddr henv fd_anvil_api_Instr_4 (ty_int.size) (by decide) rfl) ?_
            refine gA (v := .int .i64 cn) rfl rfl rfl rfl (fun _ henv => rn_load1 henv ty_int rfl (hst.oat (k := 0) rfl) rfl) ?_
            refine gA (v := .bool (decide (cn ≤ (64 : Int)))) rfl rfl rfl rfl (fun _ henv => rn_bin henv rfl rfl rfl) ?_
            refine sA (v := .bool (decide (cn ≤ (64 : Int)))) rfl (fun _ henv => rn_pick henv rfl rfl) ?_
            refine aA rfl rfl ?_
            intro a henv
            refine wpList_nil ?_
            refine th_n ?_
            refine wp_ret ?_
            refine bl_r (th_r ?_)
            refine leave henv (res1 Tryd.results58 (RV.tmp henv rfl)) ?_
            exact ⟨congrArg (fun b => Ending.returned (Value.bool b)) (decide_eq_decide.2 (by unfold CN at *; (try simp only at *); omega)), hst.below⟩
          · rw [hg75] at henv
            have hx77 := of_decide_eq_false hg75
            revert a
            refine kA rfl rfl rfl rfl rfl ?_
            refine kA rfl rfl rfl rfl rfl ?_
            refine kA rfl rfl rfl rfl rfl ?_
            refine sA (v := .bool false) rfl (fun _ henv => rn_pick henv rfl rfl) ?_
            refine aA rfl rfl ?_
            intro a henv
            refine wpList_nil ?_
            refine th_n ?_
            refine wp_ret ?_
            refine bl_r (th_r ?_)
            refine leave henv (res1 Tryd.results58 (RV.tmp henv rfl)) ?_
            exact ⟨by rw [decide_eq_false (show ¬ (CN op cn) by unfold CN at *; (try simp only at *); omega)], hst.below⟩
        · have hx78 := ne_of_beq_false hc73
          refine wp_skip ?_
          refine bl_n (th_n ?_)
          refine wp_seq ?_
          refine region_seq ?_
          revert a
          refine sA (v := .pointer (some ⟨g51, 4, none⟩)) rfl (fun _ henv => rn_fieldAddr henv fd_anvil_api_Instr_4 (ty_int.size) (by decide) rfl) ?_
          refine sA (v := .int .i64 cn) rfl (fun _ henv => rn_load1 henv ty_int rfl (hst.oat (k := 0) rfl) rfl) ?_
          refine sA (v := .bool (cn == (0 : Int))) rfl (fun _ henv => rn_bin henv rfl rfl rfl) ?_
          refine aA rfl rfl ?_
          intro a henv
          refine wpList_nil ?_
          refine th_n ?_
          refine wp_ret ?_
          refine leave henv (res1 Tryd.results58 (RV.tmp henv rfl)) ?_
          exact ⟨congrArg (fun b => Ending.returned (Value.bool b)) (beq_dec (by unfold CN at *; (try simp only at *); omega)), hst.below⟩
  · have hx79 := ne_of_beq_false hc53
    refine region_seq ?_
    revert a
    refine sA (v := .bool (op == (6 : Int))) rfl (fun _ henv => rn_bin henv rfl rfl rfl) ?_
    refine aA rfl rfl ?_
    intro a henv
    refine wpList_nil ?_
    refine th_n ?_
    refine if_split henv rfl (fun hc80 => ?_) (fun hc80 => ?_)
    · have hx81 := eq_of_beq hc80
      refine wp_seq ?_
      refine region_seq ?_
      revert a
      refine sA (v := .pointer (some ⟨g51, 4, none⟩)) rfl (fun _ henv => rn_fieldAddr henv fd_anvil_api_Instr_4 (ty_int.size) (by decide) rfl) ?_
      refine sA (v := .int .i64 cn) rfl (fun _ henv => rn_load1 henv ty_int rfl (hst.oat (k := 0) rfl) rfl) ?_
      refine sA (v := .bool (cn != (0 : Int))) rfl (fun _ henv => rn_bin henv rfl rfl rfl) ?_
      refine mA rfl rfl ?_
      intro a henv
      rcases bool_em (cn != (0 : Int)) with hg82 | hg82
      · rw [hg82] at henv
        have hx83 := bne_yes hg82
        revert a
        refine gA (v := .pointer (some ⟨g51, 4, none⟩)) rfl rfl rfl rfl (fun _ henv => rn_fieldAddr henv fd_anvil_api_Instr_4 (ty_int.size) (by decide) rfl) ?_
        refine gA (v := .int .i64 cn) rfl rfl rfl rfl (fun _ henv => rn_load1 henv ty_int rfl (hst.oat (k := 0) rfl) rfl) ?_
        refine gA (v := .bool (decide (cn ≥ (-512)))) rfl rfl rfl rfl (fun _ henv => rn_bin henv rfl rfl rfl) ?_
        refine sA (v := .bool (decide (cn ≥ (-512)))) rfl (fun _ henv => rn_pick henv rfl rfl) ?_
        refine mA rfl rfl ?_
        intro a henv
        rcases bool_em (decide (cn ≥ (-512))) with hg84 | hg84
        · rw [hg84] at henv
          have hx85 := of_decide_eq_true hg84
          revert a
          refine gA (v := .pointer (some ⟨g51, 4, none⟩)) rfl rfl rfl rfl (fun _ henv => rn_fieldAddr henv fd_anvil_api_Instr_4 (ty_int.size) (by decide) rfl) ?_
          refine gA (v := .int .i64 cn) rfl rfl rfl rfl (fun _ henv => rn_load1 henv ty_int rfl (hst.oat (k := 0) rfl) rfl) ?_
          refine gA (v := .bool (decide (cn ≤ (512 : Int)))) rfl rfl rfl rfl (fun _ henv => rn_bin henv rfl rfl rfl) ?_
          refine sA (v := .bool (decide (cn ≤ (512 : Int)))) rfl (fun _ henv => rn_pick henv rfl rfl) ?_
          refine aA rfl rfl ?_
          intro a henv
          refine wpList_nil ?_
          refine th_n ?_
          refine wp_ret ?_
          refine bl_r (th_r ?_)
          refine leave henv (res1 Tryd.results58 (RV.tmp henv rfl)) ?_
          exact ⟨congrArg (fun b => Ending.returned (Value.bool b)) (decide_eq_decide.2 (by unfold CN at *; (try simp only at *); omega)), hst.below⟩
        · rw [hg84] at henv
          have hx86 := of_decide_eq_false hg84
          revert a
          refine kA rfl rfl rfl rfl rfl ?_
          refine kA rfl rfl rfl rfl rfl ?_
          refine kA rfl rfl rfl rfl rfl ?_
          refine sA (v := .bool false) rfl (fun _ henv => rn_pick henv rfl rfl) ?_
          refine aA rfl rfl ?_
          intro a henv
          refine wpList_nil ?_
          refine th_n ?_
          refine wp_ret ?_
          refine bl_r (th_r ?_)
          refine leave henv (res1 Tryd.results58 (RV.tmp henv rfl)) ?_
          exact ⟨by rw [decide_eq_false (show ¬ (CN op cn) by unfold CN at *; (try simp only at *); omega)], hst.below⟩
      · rw [hg82] at henv
        have hx87 := bne_no hg82
        revert a
        refine kA rfl rfl rfl rfl rfl ?_
        refine kA rfl rfl rfl rfl rfl ?_
        refine kA rfl rfl rfl rfl rfl ?_
        refine sA (v := .bool false) rfl (fun _ henv => rn_pick henv rfl rfl) ?_
        refine mA rfl rfl ?_
        refine kA rfl rfl rfl rfl rfl ?_
        refine kA rfl rfl rfl rfl rfl ?_
        refine kA rfl rfl rfl rfl rfl ?_
        refine sA (v := .bool false) rfl (fun _ henv => rn_pick henv rfl rfl) ?_
        refine aA rfl rfl ?_
        intro a henv
        refine wpList_nil ?_
        refine th_n ?_
        refine wp_ret ?_
        refine bl_r (th_r ?_)
        refine leave henv (res1 Tryd.results58 (RV.tmp henv rfl)) ?_
        exact ⟨by rw [decide_eq_false (show ¬ (CN op cn) by unfold CN at *; (try simp only at *); omega)], hst.below⟩
    · have hx88 := ne_of_beq_false hc80
      refine wp_seq ?_
      refine wp_seq ?_
      refine region_seq ?_
      revert a
      refine sA (v := .bool (op == (7 : Int))) rfl (fun _ henv => rn_bin henv rfl rfl rfl) ?_
      refine aA rfl rfl ?_
      intro a henv
      refine wpList_nil ?_
      refine th_n ?_
      refine if_split henv rfl (fun hc89 => ?_) (fun hc89 => ?_)
      · have hx90 := eq_of_beq hc89
        refine wp_skip ?_
        refine th_n ?_
        refine if_split henv rfl (fun hc91 => ?_) (fun hc91 => ?_)
        · have hx92 := eq_of_beq hc91
          refine wp_seq ?_
          refine region_seq ?_
          revert a
          refine sA (v := .pointer (some ⟨g51, 4, none⟩)) rfl (fun _ henv => rn_fieldAddr henv fd_anvil_api_Instr_4 (ty_int.size) (by decide) rfl) ?_
          refine sA (v := .int .i64 cn) rfl (fun _ henv => rn_load1 henv ty_int rfl (hst.oat (k := 0) rfl) rfl) ?_
          refine sA (v := .bool (decide (cn ≥ (1 : Int)))) rfl (fun _ henv => rn_bin henv rfl rfl rfl) ?_
          refine mA rfl rfl ?_
          intro a henv
          rcases bool_em (decide (cn ≥ (1 : Int))) with hg93 | hg93
          · rw [hg93] at henv
            have hx94 := of_decide_eq_true hg93
            revert a
            refine gA (v := .pointer (some ⟨g51, 4, none⟩)) rfl rfl rfl rfl (fun _ henv => rn_fieldAddr henv fd_anvil_api_Instr_4 (ty_int.size) (by decide) rfl) ?_
            refine gA (v := .int .i64 cn) rfl rfl rfl rfl (fun _ henv => rn_load1 henv ty_int rfl (hst.oat (k := 0) rfl) rfl) ?_
            refine gA (v := .bool (decide (cn ≤ (64 : Int)))) rfl rfl rfl rfl (fun _ henv => rn_bin henv rfl rfl rfl) ?_
            refine sA (v := .bool (decide (cn ≤ (64 : Int)))) rfl (fun _ henv => rn_pick henv rfl rfl) ?_
            refine aA rfl rfl ?_
            intro a henv
            refine wpList_nil ?_
            refine th_n ?_
            refine wp_ret ?_
            refine bl_r (th_r ?_)
            refine leave henv (res1 Tryd.results58 (RV.tmp henv rfl)) ?_
            exact ⟨congrArg (fun b => Ending.returned (Value.bool b)) (decide_eq_decide.2 (by unfold CN at *; (try simp only at *); omega)), hst.below⟩
          · rw [hg93] at henv
            have hx95 := of_decide_eq_false hg93
            revert a
            refine kA rfl rfl rfl rfl rfl ?_
            refine kA rfl rfl rfl rfl rfl ?_
            refine kA rfl rfl rfl rfl rfl ?_
            refine sA (v := .bool false) rfl (fun _ henv => rn_pick henv rfl rfl) ?_
            refine aA rfl rfl ?_
            intro a henv
            refine wpList_nil ?_
            refine th_n ?_
            refine wp_ret ?_
            refine bl_r (th_r ?_)
            refine leave henv (res1 Tryd.results58 (RV.tmp henv rfl)) ?_
            exact ⟨by rw [decide_eq_false (show ¬ (CN op cn) by unfold CN at *; (try simp only at *); omega)], hst.below⟩
        · have hx96 := ne_of_beq_false hc91
          refine wp_skip ?_
          refine bl_n (th_n ?_)
          refine wp_seq ?_
          refine region_seq ?_
          revert a
          refine sA (v := .pointer (some ⟨g51, 4, none⟩)) rfl (fun _ henv => rn_fieldAddr henv fd_anvil_api_Instr_4 (ty_int.size) (by decide) rfl) ?_
          refine sA (v := .int .i64 cn) rfl (fun _ henv => rn_load1 henv ty_int rfl (hst.oat (k := 0) rfl) rfl) ?_
          refine sA (v := .bool (cn == (0 : Int))) rfl (fun _ henv => rn_bin henv rfl rfl rfl) ?_
          refine aA rfl rfl ?_
          intro a henv
          refine wpList_nil ?_
          refine th_n ?_
          refine wp_ret ?_
          refine leave henv (res1 Tryd.results58 (RV.tmp henv rfl)) ?_
          exact ⟨congrArg (fun b => Ending.returned (Value.bool b)) (beq_dec (by unfold CN at *; (try simp only at *); omega)), hst.below⟩
      · have hx97 := ne_of_beq_false hc89
        refine region_seq ?_
        revert a
        refine sA (v := .bool (op == (8 : Int))) rfl (fun _ henv => rn_bin henv rfl rfl rfl) ?_
        refine aA rfl rfl ?_
        intro a henv
        refine wpList_nil ?_
        refine th_n ?_
        refine if_split henv rfl (fun hc98 => ?_) (fun hc98 => ?_)
        · have hx99 := eq_of_beq hc98
          refine wp_seq ?_
          refine region_seq ?_
          revert a
          refine sA (v := .pointer (some ⟨g51, 4, none⟩)) rfl (fun _ henv => rn_fieldAddr henv fd_anvil_api_Instr_4 (ty_int.size) (by decide) rfl) ?_
          refine sA (v := .int .i64 cn) rfl (fun _ henv => rn_load1 henv ty_int rfl (hst.oat (k := 0) rfl) rfl) ?_
          refine sA (v := .bool (decide (cn ≥ (1 : Int)))) rfl (fun _ henv => rn_bin henv rfl rfl rfl) ?_
          refine mA rfl rfl ?_
          intro a henv
          rcases bool_em (decide (cn ≥ (1 : Int))) with hg100 | hg100
          · rw [hg100] at henv
            have hx101 := of_decide_eq_true hg100
            revert a
            refine gA (v := .pointer (some ⟨g51, 4, none⟩)) rfl rfl rfl rfl (fun _ henv => rn_fieldAddr henv fd_anvil_api_Instr_4 (ty_int.size) (by decide) rfl) ?_
            refine gA (v := .int .i64 cn) rfl rfl rfl rfl (fun _ henv => rn_load1 henv ty_int rfl (hst.oat (k := 0) rfl) rfl) ?_
            refine gA (v := .bool (decide (cn ≤ (64 : Int)))) rfl rfl rfl rfl (fun _ henv => rn_bin henv rfl rfl rfl) ?_
            refine sA (v := .bool (decide (cn ≤ (64 : Int)))) rfl (fun _ henv => rn_pick henv rfl rfl) ?_
            refine aA rfl rfl ?_
            intro a henv
            refine wpList_nil ?_
            refine th_n ?_
            refine wp_ret ?_
            refine bl_r (th_r ?_)
            refine leave henv (res1 Tryd.results58 (RV.tmp henv rfl)) ?_
            exact ⟨congrArg (fun b => Ending.returned (Value.bool b)) (decide_eq_decide.2 (by unfold CN at *; (try simp only at *); omega)), hst.below⟩
          · rw [hg100] at henv
            have hx102 := of_decide_eq_false hg100
            revert a
            refine kA rfl rfl rfl rfl rfl ?_
            refine kA rfl rfl rfl rfl rfl ?_
            refine kA rfl rfl rfl rfl rfl ?_
            refine sA (v := .bool false) rfl (fun _ henv => rn_pick henv rfl rfl) ?_
            refine aA rfl rfl ?_
            intro a henv
            refine wpList_nil ?_
            refine th_n ?_
            refine wp_ret ?_
            refine bl_r (th_r ?_)
            refine leave henv (res1 Tryd.results58 (RV.tmp henv rfl)) ?_
            exact ⟨by rw [decide_eq_false (show ¬ (CN op cn) by unfold CN at *; (try simp only at *); omega)], hst.below⟩
        · have hx103 := ne_of_beq_false hc98
          refine wp_skip ?_
          refine bl_n (th_n ?_)
          refine wp_seq ?_
          refine region_seq ?_
          revert a
          refine sA (v := .pointer (some ⟨g51, 4, none⟩)) rfl (fun _ henv => rn_fieldAddr henv fd_anvil_api_Instr_4 (ty_int.size) (by decide) rfl) ?_
          refine sA (v := .int .i64 cn) rfl (fun _ henv => rn_load1 henv ty_int rfl (hst.oat (k := 0) rfl) rfl) ?_
          refine sA (v := .bool (cn == (0 : Int))) rfl (fun _ henv => rn_bin henv rfl rfl rfl) ?_
          refine aA rfl rfl ?_
          intro a henv
          refine wpList_nil ?_
          refine th_n ?_
          refine wp_ret ?_
          refine leave henv (res1 Tryd.results58 (RV.tmp henv rfl)) ?_
          exact ⟨congrArg (fun b => Ending.returned (Value.bool b)) (beq_dec (by unfold CN at *; (try simp only at *); omega)), hst.below⟩
set_option maxRecDepth 100000 in
set_option maxHeartbeats 2000000 in
theorem g_asks {op tr ra rb cn : Int} {w0 : World} :
    Calls Tryd.prog 18 #[.agg #[.int .i64 op, .int .i64 tr, .int .i64 ra, .int .i64 rb, .int .i64 cn]] w0 fun e w' => ∃ v, e = .returned v ∧ IRow w0.heap.size w' v (asksL op ra rb) ∧ Below w0.heap.size w0 w' := by
  refine enter Tryd.func18 rfl Tryd.ntmps18 rfl ?_
  intro a henv hst
  refine wp_seq ?_
  refine region_seq ?_
  refine seq_step rfl (op_box (c := #[.int .i64 op, .int .i64 tr, .int .i64 ra, .int .i64 rb, .int .i64 cn]) henv hst rfl rfl rfl ?_)
  clear henv hst a; intro a w52 g51 henv hst
  refine sv (v := .slice none 0 0) henv rfl (rn_assign henv rfl) ?_
  clear henv a; intro a henv
  refine wpList_nil ?_
  refine th_n ?_
  refine wp_seq ?_
  refine wp_seq ?_
  refine region_seq ?_
  revert a
  refine sA (v := .pointer (some ⟨g51, 0, none⟩)) rfl (fun _ henv => rn_fieldAddr henv fd_anvil_api_Instr_0 (ty_int.size) (by decide) rfl) ?_
  refine sA (v := .int .i64 op) rfl (fun _ henv => rn_load1 henv ty_int rfl (hst.oat (k := 0) rfl) rfl) ?_
  intro a henv
  refine wpList_nil ?_
  refine th_n ?_
  refine wp_block ?_
  refine wp_seq ?_
  refine wp_seq ?_
  refine region_seq ?_
  revert a
  refine sA (v := .bool (op == (3 : Int))) rfl (fun _ henv => rn_bin henv rfl rfl rfl) ?_
  refine aA rfl rfl ?_
  intro a henv
  refine wpList_nil ?_
  refine th_n ?_
  refine if_split henv rfl (fun hc53 => ?_) (fun hc53 => ?_)
  · have hx54 := eq_of_beq hc53
    refine wp_skip ?_
    refine th_n ?_
    refine if_split henv rfl (fun hc55 => ?_) (fun hc55 => ?_)
    · have hx56 := eq_of_beq hc55
      refine wp_seq ?_
      refine region_seq ?_
      revert a
      refine sA (v := .pointer (some ⟨g51, 2, none⟩)) rfl (fun _ henv => rn_fieldAddr henv fd_anvil_api_Instr_2 (ty_int.size) (by decide) rfl) ?_
      refine sA (v := .int .i64 ra) rfl (fun _ henv => rn_load1 henv ty_int rfl (hst.oat (k := 0) rfl) rfl) ?_
      refine sA (v := .pointer (some ⟨g51, 3, none⟩)) rfl (fun _ henv => rn_fieldAddr henv fd_anvil_api_Instr_3 (ty_int.size) (by decide) rfl) ?_
      refine sA (v := .int .i64 rb) rfl (fun _ henv => rn_load1 henv ty_int rfl (hst.oat (k := 0) rfl) rfl) ?_
      intro a henv
      refine seq_step rfl (op_buildSlice (z := 1) (pv := #[(0, .int .i64 ra), (1, .int .i64 rb)]) (c := #[.int .i64 ra, .int .i64 rb]) henv hst rfl Tryd.underlying23 (ty_int.size) zero_int (by decide) (by decide) rfl (by kernel_rfl) ?_)
      clear henv hst a; intro a w58 g57 henv hst
      refine sv (v := .slice (some ⟨g57, 0, none⟩) 2 2) henv rfl (rn_assign henv rfl) ?_
      clear henv a; intro a henv
      refine wpList_nil ?_
      refine th_n ?_
      refine wp_ret ?_
      refine bl_r (th_r ?_)
      refine leave henv (res1 Tryd.results18 (RV.tmp henv rfl)) ?_
      exact ⟨_, rfl, by rw [show asksL op ra rb = [ra, rb] by unfold asksL; rw [if_pos (by omega)]]; exact irow_new (zs := [ra, rb]) (hst.oat (k := 0) rfl) (hst.new _ (List.mem_of_getElem? (i := 0) rfl) _ rfl), hst.below⟩
    · have hx59 := ne_of_beq_false hc55
      refine wp_seq ?_
      refine wp_seq ?_
      refine region_seq ?_
      revert a
      refine sA (v := .bool (op == (1 : Int))) rfl (fun _ henv => rn_bin henv rfl rfl rfl) ?_
      refine aA rfl rfl ?_
      intro a henv
      refine wpList_nil ?_
      refine th_n ?_
      refine if_split henv rfl (fun hc60 => ?_) (fun hc60 => ?_)
      · have hx61 := eq_of_beq hc60
        refine wp_skip ?_
        refine th_n ?_
        refine if_split henv rfl (fun hc62 => ?_) (fun hc62 => ?_)
        · have hx63 := eq_of_beq hc62
          refine wp_seq ?_
          refine region_seq ?_
          revert a
          refine sA (v := .pointer (some ⟨g51, 2, none⟩)) rfl (fun _ henv => rn_fieldAddr henv fd_anvil_api_Instr_2 (ty_int.size) (by decide) rfl) ?_
          refine sA (v := .int .i64 ra) rfl (fun _ henv => rn_load1 henv ty_int rfl (hst.oat (k := 0) rfl) rfl) ?_
          intro a henv
          refine seq_step rfl (op_buildSlice (z := 1) (pv := #[(0, .int .i64 ra)]) (c := #[.int .i64 ra]) henv hst rfl Tryd.underlying23 (ty_int.size) zero_int (by decide) (by decide) rfl (by kernel_rfl) ?_)
          clear henv hst a; intro a w65 g64 henv hst
          refine sv (v := .slice (some ⟨g64, 0, none⟩) 1 1) henv rfl (rn_assign henv rfl) ?_
          clear henv a; intro a henv
          refine wpList_nil ?_
          refine th_n ?_
          refine wp_ret ?_
          refine bl_r (th_r ?_)
          refine leave henv (res1 Tryd.results18 (RV.tmp henv rfl)) ?_
          exact ⟨_, rfl, by rw [show asksL op ra rb = [ra] by unfold asksL; rw [if_neg (by omega), if_pos (by omega)]]; exact irow_new (zs := [ra]) (hst.oat (k := 0) rfl) (hst.new _ (List.mem_of_getElem? (i := 0) rfl) _ rfl), hst.below⟩
        · have hx66 := ne_of_beq_false hc62
          refine wp_skip ?_
          refine bl_n (th_n ?_)
          refine wp_seq ?_
          refine region_seq ?_
          refine sv (v := .slice none 0 0) henv rfl (rn_assign henv rfl) ?_
          clear henv a; intro a henv
          refine wpList_nil ?_
          refine th_n ?_
          refine wp_ret ?_
          refine leave henv (res1 Tryd.results18 (RV.tmp henv rfl)) ?_
          exact ⟨_, rfl, by rw [show asksL op ra rb = [] by unfold asksL; rw [if_neg (by omega), if_neg (by omega)]]; exact irow_nil, hst.below⟩
      · have hx67 := ne_of_beq_false hc60
        refine wp_seq ?_
        refine region_seq ?_
        revert a
        refine sA (v := .bool (op == (2 : Int))) rfl (fun _ henv => rn_bin henv rfl rfl rfl) ?_
        refine aA rfl rfl ?_
        intro a henv
        refine wpList_nil ?_
        refine th_n ?_
        refine if_split henv rfl (fun hc68 => ?_) (fun hc68 => ?_)
        · have hx69 := eq_of_beq hc68
          refine wp_skip ?_
          refine th_n ?_
          refine if_split henv rfl (fun hc70 => ?_) (fun hc70 => ?_)
          · have hx71 := eq_of_beq hc70
            refine wp_seq ?_
            refine region_seq ?_
            revert a
            refine sA (v := .pointer (some ⟨g51, 2, none⟩)) rfl (fun _ henv => rn_fieldAddr henv fd_anvil_api_Instr_2 (ty_int.size) (by decide) rfl) ?_
            refine sA (v := .int .i64 ra) rfl (fun _ henv => rn_load1 henv ty_int rfl (hst.oat (k := 0) rfl) rfl) ?_
            intro a henv
            refine seq_step rfl (op_buildSlice (z := 1) (pv := #[(0, .int .i64 ra)]) (c := #[.int .i64 ra]) henv hst rfl Tryd.underlying23 (ty_int.size) zero_int (by decide) (by decide) rfl (by kernel_rfl) ?_)
            clear henv hst a; intro a w73 g72 henv hst
            refine sv (v := .slice (some ⟨g72, 0, none⟩) 1 1) henv rfl (rn_assign henv rfl) ?_
            clear henv a; intro a henv
            refine wpList_nil ?_
            refine th_n ?_
            refine wp_ret ?_
            refine bl_r (th_r ?_)
            refine leave henv (res1 Tryd.results18 (RV.tmp henv rfl)) ?_
            exact ⟨_, rfl, by rw [show asksL op ra rb = [ra] by unfold asksL; rw [if_neg (by omega), if_pos (by omega)]]; exact irow_new (zs := [ra]) (hst.oat (k := 0) rfl) (hst.new _ (List.mem_of_getElem? (i := 0) rfl) _ rfl), hst.below⟩
          · have hx74 := ne_of_beq_false hc70
            refine wp_skip ?_
            refine bl_n (th_n ?_)
            refine wp_seq ?_
            refine region_seq ?_
            refine sv (v := .slice none 0 0) henv rfl (rn_assign henv rfl) ?_
            clear henv a; intro a henv
            refine wpList_nil ?_
            refine th_n ?_
            refine wp_ret ?_
            refine leave henv (res1 Tryd.results18 (RV.tmp henv rfl)) ?_
            exact ⟨_, rfl, by rw [show asksL op ra rb = [] by unfold asksL; rw [if_neg (by omega), if_neg (by omega)]]; exact irow_nil, hst.below⟩
        · have hx75 := ne_of_beq_false hc68
          refine wp_seq ?_
          refine region_seq ?_
          revert a
          refine sA (v := .bool (op == (5 : Int))) rfl (fun _ henv => rn_bin henv rfl rfl rfl) ?_
          refine aA rfl rfl ?_
          intro a henv
          refine wpList_nil ?_
          refine th_n ?_
          refine if_split henv rfl (fun hc76 => ?_) (fun hc76 => ?_)
          · have hx77 := eq_of_beq hc76
            refine wp_skip ?_
            refine th_n ?_
            refine if_split henv rfl (fun hc78 => ?_) (fun hc78 => ?_)
            · have hx79 := eq_of_beq hc78
              refine wp_seq ?_
              refine region_seq ?_
              revert a
              refine sA (v := .pointer (some ⟨g51, 2, none⟩)) rfl (fun _ henv => rn_fieldAddr henv fd_anvil_api_Instr_2 (ty_int.size) (by decide) rfl) ?_
              refine sA (v := .int .i64 ra) rfl (fun _ henv => rn_load1 henv ty_int rfl (hst.oat (k := 0) rfl) rfl) ?_
              intro a henv
              refine seq_step rfl (op_buildSlice (z := 1) (pv := #[(0, .int .i64 ra)]) (c := #[.int .i64 ra]) henv hst rfl Tryd.underlying23 (ty_int.size) zero_int (by decide) (by decide) rfl (by kernel_rfl) ?_)
              clear henv hst a; intro a w81 g80 henv hst
              refine sv (v := .slice (some ⟨g80, 0, none⟩) 1 1) henv rfl (rn_assign henv rfl) ?_
              clear henv a; intro a henv
              refine wpList_nil ?_
              refine th_n ?_
              refine wp_ret ?_
              refine bl_r (th_r ?_)
              refine leave henv (res1 Tryd.results18 (RV.tmp henv rfl)) ?_
              exact ⟨_, rfl, by rw [show asksL op ra rb = [ra] by unfold asksL; rw [if_neg (by omega), if_pos (by omega)]]; exact irow_new (zs := [ra]) (hst.oat (k := 0) rfl) (hst.new _ (List.mem_of_getElem? (i := 0) rfl) _ rfl), hst.below⟩
            · have hx82 := ne_of_beq_false hc78
              refine wp_skip ?_
              refine bl_n (th_n ?_)
              refine wp_seq ?_
              refine region_seq ?_
              refine sv (v := .slice none 0 0) henv rfl (rn_assign henv rfl) ?_
              clear henv a; intro a henv
              refine wpList_nil ?_
              refine th_n ?_
              refine wp_ret ?_
              refine leave henv (res1 Tryd.results18 (RV.tmp henv rfl)) ?_
              exact ⟨_, rfl, by rw [show asksL op ra rb = [] by unfold asksL; rw [if_neg (by omega), if_neg (by omega)]]; exact irow_nil, hst.below⟩
          · have hx83 := ne_of_beq_false hc76
            refine wp_seq ?_
            refine region_seq ?_
            revert a
            refine sA (v := .bool (op == (6 : Int))) rfl (fun _ henv => rn_bin henv rfl rfl rfl) ?_
            refine aA rfl rfl ?_
            intro a henv
            refine wpList_nil ?_
            refine th_n ?_
            refine if_split henv rfl (fun hc84 => ?_) (fun hc84 => ?_)
            · have hx85 := eq_of_beq hc84
              refine wp_skip ?_
              refine th_n ?_
              refine if_split henv rfl (fun hc86 => ?_) (fun hc86 => ?_)
              · have hx87 := eq_of_beq hc86
                refine wp_seq ?_
                refine region_seq ?_
                revert a
                refine sA (v := .pointer (some ⟨g51, 2, none⟩)) rfl (fun _ henv => rn_fieldAddr henv fd_anvil_api_Instr_2 (ty_int.size) (by decide) rfl) ?_
                refine sA (v := .int .i64 ra) rfl (fun _ henv => rn_load1 henv ty_int rfl (hst.oat (k := 0) rfl) rfl) ?_
                intro a henv
                refine seq_step rfl (op_buildSlice (z := 1) (pv := #[(0, .int .i64 ra)]) (c := #[.int .i64 ra]) henv hst rfl Tryd.underlying23 (ty_int.size) zero_int (by decide) (by decide) rfl (by kernel_rfl) ?_)
                clear henv hst a; intro a w89 g88 henv hst
                refine sv (v := .slice (some ⟨g88, 0, none⟩) 1 1) henv rfl (rn_assign henv rfl) ?_
                clear henv a; intro a henv
                refine wpList_nil ?_
                refine th_n ?_
                refine wp_ret ?_
                refine bl_r (th_r ?_)
                refine leave henv (res1 Tryd.results18 (RV.tmp henv rfl)) ?_
                exact ⟨_, rfl, by rw [show asksL op ra rb = [ra] by unfold asksL; rw [if_neg (by omega), if_pos (by omega)]]; exact irow_new (zs := [ra]) (hst.oat (k := 0) rfl) (hst.new _ (List.mem_of_getElem? (i := 0) rfl) _ rfl), hst.below⟩
              · have hx90 := ne_of_beq_false hc86
                refine wp_skip ?_
                refine bl_n (th_n ?_)
                refine wp_seq ?_
                refine region_seq ?_
                refine sv (v := .slice none 0 0) henv rfl (rn_assign henv rfl) ?_
                clear henv a; intro a henv
                refine wpList_nil ?_
                refine th_n ?_
                refine wp_ret ?_
                refine leave henv (res1 Tryd.results18 (RV.tmp henv rfl)) ?_
                exact ⟨_, rfl, by rw [show asksL op ra rb = [] by unfold asksL; rw [if_neg (by omega), if_neg (by omega)]]; exact irow_nil, hst.below⟩
            · have hx91 := ne_of_beq_false hc84
              refine wp_seq ?_
              refine region_seq ?_
              revert a
              refine sA (v := .bool (op == (7 : Int))) rfl (fun _ henv => rn_bin henv rfl rfl rfl) ?_
              refine aA rfl rfl ?_
              intro a henv
              refine wpList_nil ?_
              refine th_n ?_
              refine if_split henv rfl (fun hc92 => ?_) (fun hc92 => ?_)
              · have hx93 := eq_of_beq hc92
                refine wp_skip ?_
                refine th_n ?_
                refine if_split henv rfl (fun hc94 => ?_) (fun hc94 => ?_)
                · have hx95 := eq_of_beq hc94
                  refine wp_seq ?_
                  refine region_seq ?_
                  revert a
                  refine sA (v := .pointer (some ⟨g51, 2, none⟩)) rfl (fun _ henv => rn_fieldAddr henv fd_anvil_api_Instr_2 (ty_int.size) (by decide) rfl) ?_
                  refine sA (v := .int .i64 ra) rfl (fun _ henv => rn_load1 henv ty_int rfl (hst.oat (k := 0) rfl) rfl) ?_
                  intro a henv
                  refine seq_step rfl (op_buildSlice (z := 1) (pv := #[(0, .int .i64 ra)]) (c := #[.int .i64 ra]) henv hst rfl Tryd.underlying23 (ty_int.size) zero_int (by decide) (by decide) rfl (by kernel_rfl) ?_)
                  clear henv hst a; intro a w97 g96 henv hst
                  refine sv (v := .slice (some ⟨g96, 0, none⟩) 1 1) henv rfl (rn_assign henv rfl) ?_
                  clear henv a; intro a henv
                  refine wpList_nil ?_
                  refine th_n ?_
                  refine wp_ret ?_
                  refine bl_r (th_r ?_)
                  refine leave henv (res1 Tryd.results18 (RV.tmp henv rfl)) ?_
                  exact ⟨_, rfl, by rw [show asksL op ra rb = [ra] by unfold asksL; rw [if_neg (by omega), if_pos (by omega)]]; exact irow_new (zs := [ra]) (hst.oat (k := 0) rfl) (hst.new _ (List.mem_of_getElem? (i := 0) rfl) _ rfl), hst.below⟩
                · have hx98 := ne_of_beq_false hc94
                  refine wp_skip ?_
                  refine bl_n (th_n ?_)
                  refine wp_seq ?_
                  refine region_seq ?_
                  refine sv (v := .slice none 0 0) henv rfl (rn_assign henv rfl) ?_
                  clear henv a; intro a henv
                  refine wpList_nil ?_
                  refine th_n ?_
                  refine wp_ret ?_
                  refine leave henv (res1 Tryd.results18 (RV.tmp henv rfl)) ?_
                  exact ⟨_, rfl, by rw [show asksL op ra rb = [] by unfold asksL; rw [if_neg (by omega), if_neg (by omega)]]; exact irow_nil, hst.below⟩
              · have hx99 := ne_of_beq_false hc92
                refine region_seq ?_
                revert a
                refine sA (v := .bool (op == (8 : Int))) rfl (fun _ henv => rn_bin henv rfl rfl rfl) ?_
                refine aA rfl rfl ?_
                intro a henv
                refine wpList_nil ?_
                refine th_n ?_
                refine if_split henv rfl (fun hc100 => ?_) (fun hc100 => ?_)
                · have hx101 := eq_of_beq hc100
                  refine wp_seq ?_
                  refine region_seq ?_
                  revert a
                  refine sA (v := .pointer (some ⟨g51, 2, none⟩)) rfl (fun _ henv => rn_fieldAddr henv fd_anvil_api_Instr_2 (ty_int.size) (by decide) rfl) ?_
                  refine sA (v := .int .i64 ra) rfl (fun _ henv => rn_load1 henv ty_int rfl (hst.oat (k := 0) rfl) rfl) ?_
                  intro a henv
                  refine seq_step rfl (op_buildSlice (z := 1) (pv := #[(0, .int .i64 ra)]) (c := #[.int .i64 ra]) henv hst rfl Tryd.underlying23 (ty_int.size) zero_int (by decide) (by decide) rfl (by kernel_rfl) ?_)
                  clear henv hst a; intro a w103 g102 henv hst
                  refine sv (v := .slice (some ⟨g102, 0, none⟩) 1 1) henv rfl (rn_assign henv rfl) ?_
                  clear henv a; intro a henv
                  refine wpList_nil ?_
                  refine th_n ?_
                  refine wp_ret ?_
                  refine bl_r (th_r ?_)
                  refine leave henv (res1 Tryd.results18 (RV.tmp henv rfl)) ?_
                  exact ⟨_, rfl, by rw [show asksL op ra rb = [ra] by unfold asksL; rw [if_neg (by omega), if_pos (by omega)]]; exact irow_new (zs := [ra]) (hst.oat (k := 0) rfl) (hst.new _ (List.mem_of_getElem? (i := 0) rfl) _ rfl), hst.below⟩
                · have hx104 := ne_of_beq_false hc100
                  refine wp_skip ?_
                  refine bl_n (th_n ?_)
                  refine wp_seq ?_
                  refine region_seq ?_
                  refine sv (v := .slice none 0 0) henv rfl (rn_assign henv rfl) ?_
                  clear henv a; intro a henv
                  refine wpList_nil ?_
                  refine th_n ?_
                  refine wp_ret ?_
                  refine leave henv (res1 Tryd.results18 (RV.tmp henv rfl)) ?_
                  exact ⟨_, rfl, by rw [show asksL op ra rb = [] by unfold asksL; rw [if_neg (by omega), if_neg (by omega)]]; exact irow_nil, hst.below⟩
  · have hx105 := ne_of_beq_false hc53
    refine region_seq ?_
    revert a
    refine sA (v := .bool (op == (4 : Int))) rfl (fun _ henv => rn_bin henv rfl rfl rfl) ?_
    refine aA rfl rfl ?_
    intro a henv
    refine wpList_nil ?_
    refine th_n ?_
    refine if_split henv rfl (fun hc106 => ?_) (fun hc106 => ?_)
    · have hx107 := eq_of_beq hc106
      refine wp_seq ?_
      refine region_seq ?_
      revert a
      refine sA (v := .pointer (some ⟨g51, 2, none⟩)) rfl (fun _ henv => rn_fieldAddr henv fd_anvil_api_Instr_2 (ty_int.size) (by decide) rfl) ?_
      refine sA (v := .int .i64 ra) rfl (fun _ henv => rn_load1 henv ty_int rfl (hst.oat (k := 0) rfl) rfl) ?_
      refine sA (v := .pointer (some ⟨g51, 3, none⟩)) rfl (fun _ henv => rn_fieldAddr henv fd_anvil_api_Instr_3 (ty_int.size) (by decide) rfl) ?_
      refine sA (v := .int .i64 rb) rfl (fun _ henv => rn_load1 henv ty_int rfl (hst.oat (k := 0) rfl) rfl) ?_
      intro a henv
      refine seq_step rfl (op_buildSlice (z := 1) (pv := #[(0, .int .i64 ra), (1, .int .i64 rb)]) (c := #[.int .i64 ra, .int .i64 rb]) henv hst rfl Tryd.underlying23 (ty_int.size) zero_int (by decide) (by decide) rfl (by kernel_rfl) ?_)
      clear henv hst a; intro a w109 g108 henv hst
      refine sv (v := .slice (some ⟨g108, 0, none⟩) 2 2) henv rfl (rn_assign henv rfl) ?_
      clear henv a; intro a henv
      refine wpList_nil ?_
      refine th_n ?_
      refine wp_ret ?_
      refine bl_r (th_r ?_)
      refine leave henv (res1 Tryd.results18 (RV.tmp henv rfl)) ?_
      exact ⟨_, rfl, by rw [show asksL op ra rb = [ra, rb] by unfold asksL; rw [if_pos (by omega)]]; exact irow_new (zs := [ra, rb]) (hst.oat (k := 0) rfl) (hst.new _ (List.mem_of_getElem? (i := 0) rfl) _ rfl), hst.below⟩
    · have hx110 := ne_of_beq_false hc106
      refine wp_seq ?_
      refine wp_seq ?_
      refine region_seq ?_
      revert a
      refine sA (v := .bool (op == (1 : Int))) rfl (fun _ henv => rn_bin henv rfl rfl rfl) ?_
      refine aA rfl rfl ?_
      intro a henv
      refine wpList_nil ?_
      refine th_n ?_
      refine if_split henv rfl (fun hc111 => ?_) (fun hc111 => ?_)
      · have hx112 := eq_of_beq hc111
        refine wp_skip ?_
        refine th_n ?_
        refine if_split henv rfl (fun hc113 => ?_) (fun hc113 => ?_)
        · have hx114 := eq_of_beq hc113
          refine wp_seq ?_
          refine region_seq ?_
          revert a
          refine sA (v := .pointer (some ⟨g51, 2, none⟩)) rfl (fun _ henv => rn_fieldAddr henv fd_anvil_api_Instr_2 (ty_int.size) (by decide) rfl) ?_
          refine sA (v := .int .i64 ra) rfl (fun _ henv => rn_load1 henv ty_int rfl (hst.oat (k := 0) rfl) rfl) ?_
          intro a henv
          refine seq_step rfl (op_buildSlice (z := 1) (pv := #[(0, .int .i64 ra)]) (c := #[.int .i64 ra]) henv hst rfl Tryd.underlying23 (ty_int.size) zero_int (by decide) (by decide) rfl (by kernel_rfl) ?_)
          clear henv hst a; intro a w116 g115 henv hst
          refine sv (v := .slice (some ⟨g115, 0, none⟩) 1 1) henv rfl (rn_assign henv rfl) ?_
          clear henv a; intro a henv
          refine wpList_nil ?_
          refine th_n ?_
          refine wp_ret ?_
          refine bl_r (th_r ?_)
          refine leave henv (res1 Tryd.results18 (RV.tmp henv rfl)) ?_
          exact ⟨_, rfl, by rw [show asksL op ra rb = [ra] by unfold asksL; rw [if_neg (by omega), if_pos (by omega)]]; exact irow_new (zs := [ra]) (hst.oat (k := 0) rfl) (hst.new _ (List.mem_of_getElem? (i := 0) rfl) _ rfl), hst.below⟩
        · have hx117 := ne_of_beq_false hc113
          refine wp_skip ?_
          refine bl_n (th_n ?_)
          refine wp_seq ?_
          refine region_seq ?_
          refine sv (v := .slice none 0 0) henv rfl (rn_assign henv rfl) ?_
          clear henv a; intro a henv
          refine wpList_nil ?_
          refine th_n ?_
          refine wp_ret ?_
          refine leave henv (res1 Tryd.results18 (RV.tmp henv rfl)) ?_
          exact ⟨_, rfl, by rw [show asksL op ra rb = [] by unfold asksL; rw [if_neg (by omega), if_neg (by omega)]]; exact irow_nil, hst.below⟩
      · have hx118 := ne_of_beq_false hc111
        refine wp_seq ?_
        refine region_seq ?_
        revert a
        refine sA (v := .bool (op == (2 : Int))) rfl (fun _ henv => rn_bin henv rfl rfl rfl) ?_
        refine aA rfl rfl ?_
        intro a henv
        refine wpList_nil ?_
        refine th_n ?_
        refine if_split henv rfl (fun hc119 => ?_) (fun hc119 => ?_)
        · have hx120 := eq_of_beq hc119
          refine wp_skip ?_
          refine th_n ?_
          refine if_split henv rfl (fun hc121 => ?_) (fun hc121 => ?_)
          · have hx122 := eq_of_beq hc121
            refine wp_seq ?_
            refine region_seq ?_
            revert a
            refine sA (v := .pointer (some ⟨g51, 2, none⟩)) rfl (fun _ henv => rn_fieldAddr henv fd_anvil_api_Instr_2 (ty_int.size) (by decide) rfl) ?_
            refine sA (v := .int .i64 ra) rfl (fun _ henv => rn_load1 henv ty_int rfl (hst.oat (k := 0) rfl) rfl) ?_
            intro a henv
            refine seq_step rfl (op_buildSlice (z := 1) (pv := #[(0, .int .i64 ra)]) (c := #[.int .i64 ra]) henv hst rfl Tryd.underlying23 (ty_int.size) zero_int (by decide) (by decide) rfl (by kernel_rfl) ?_)
            clear henv hst a; intro a w124 g123 henv hst
            refine sv (v := .slice (some ⟨g123, 0, none⟩) 1 1) henv rfl (rn_assign henv rfl) ?_
            clear henv a; intro a henv
            refine wpList_nil ?_
            refine th_n ?_
            refine wp_ret ?_
            refine bl_r (th_r ?_)
            refine leave henv (res1 Tryd.results18 (RV.tmp henv rfl)) ?_
            exact ⟨_, rfl, by rw [show asksL op ra rb = [ra] by unfold asksL; rw [if_neg (by omega), if_pos (by omega)]]; exact irow_new (zs := [ra]) (hst.oat (k := 0) rfl) (hst.new _ (List.mem_of_getElem? (i := 0) rfl) _ rfl), hst.below⟩
          · have hx125 := ne_of_beq_false hc121
            refine wp_skip ?_
            refine bl_n (th_n ?_)
            refine wp_seq ?_
            refine region_seq ?_
            refine sv (v := .slice none 0 0) henv rfl (rn_assign henv rfl) ?_
            clear henv a; intro a henv
            refine wpList_nil ?_
            refine th_n ?_
            refine wp_ret ?_
            refine leave henv (res1 Tryd.results18 (RV.tmp henv rfl)) ?_
            exact ⟨_, rfl, by rw [show asksL op ra rb = [] by unfold asksL; rw [if_neg (by omega), if_neg (by omega)]]; exact irow_nil, hst.below⟩
        · have hx126 := ne_of_beq_false hc119
          refine wp_seq ?_
          refine region_seq ?_
          revert a
          refine sA (v := .bool (op == (5 : Int))) rfl (fun _ henv => rn_bin henv rfl rfl rfl) ?_
          refine aA rfl rfl ?_
          intro a henv
          refine wpList_nil ?_
          refine th_n ?_
          refine if_split henv rfl (fun hc127 => ?_) (fun hc127 => ?_)
          · have hx128 := eq_of_beq hc127
            refine wp_skip ?_
            refine th_n ?_
            refine if_split henv rfl (fun hc129 => ?_) (fun hc129 => ?_)
            · have hx130 := eq_of_beq hc129
              refine wp_seq ?_
              refine region_seq ?_
              revert a
              refine sA (v := .pointer (some ⟨g51, 2, none⟩)) rfl (fun _ henv => rn_fieldAddr henv fd_anvil_api_Instr_2 (ty_int.size) (by decide) rfl) ?_
              refine sA (v := .int .i64 ra) rfl (fun _ henv => rn_load1 henv ty_int rfl (hst.oat (k := 0) rfl) rfl) ?_
              intro a henv
              refine seq_step rfl (op_buildSlice (z := 1) (pv := #[(0, .int .i64 ra)]) (c := #[.int .i64 ra]) henv hst rfl Tryd.underlying23 (ty_int.size) zero_int (by decide) (by decide) rfl (by kernel_rfl) ?_)
              clear henv hst a; intro a w132 g131 henv hst
              refine sv (v := .slice (some ⟨g131, 0, none⟩) 1 1) henv rfl (rn_assign henv rfl) ?_
              clear henv a; intro a henv
              refine wpList_nil ?_
              refine th_n ?_
              refine wp_ret ?_
              refine bl_r (th_r ?_)
              refine leave henv (res1 Tryd.results18 (RV.tmp henv rfl)) ?_
              exact ⟨_, rfl, by rw [show asksL op ra rb = [ra] by unfold asksL; rw [if_neg (by omega), if_pos (by omega)]]; exact irow_new (zs := [ra]) (hst.oat (k := 0) rfl) (hst.new _ (List.mem_of_getElem? (i := 0) rfl) _ rfl), hst.below⟩
            · have hx133 := ne_of_beq_false hc129
              refine wp_skip ?_
              refine bl_n (th_n ?_)
              refine wp_seq ?_
              refine region_seq ?_
              refine sv (v := .slice none 0 0) henv rfl (rn_assign henv rfl) ?_
              clear henv a; intro a henv
              refine wpList_nil ?_
              refine th_n ?_
              refine wp_ret ?_
              refine leave henv (res1 Tryd.results18 (RV.tmp henv rfl)) ?_
              exact ⟨_, rfl, by rw [show asksL op ra rb = [] by unfold asksL; rw [if_neg (by omega), if_neg (by omega)]]; exact irow_nil, hst.below⟩
          · have hx134 := ne_of_beq_false hc127
            refine wp_seq ?_
            refine region_seq ?_
            revert a
            refine sA (v := .bool (op == (6 : Int))) rfl (fun _ henv => rn_bin henv rfl rfl rfl) ?_
            refine aA rfl rfl ?_
            intro a henv
            refine wpList_nil ?_
            refine th_n ?_
            refine if_split henv rfl (fun hc135 => ?_) (fun hc135 => ?_)
            · have hx136 := eq_of_beq hc135
              refine wp_skip ?_
              refine th_n ?_
              refine if_split henv rfl (fun hc137 => ?_) (fun hc137 => ?_)
              · have hx138 := eq_of_beq hc137
                refine wp_seq ?_
                refine region_seq ?_
                revert a
                refine sA (v := .pointer (some ⟨g51, 2, none⟩)) rfl (fun _ henv => rn_fieldAddr henv fd_anvil_api_Instr_2 (ty_int.size) (by decide) rfl) ?_
                refine sA (v := .int .i64 ra) rfl (fun _ henv => rn_load1 henv ty_int rfl (hst.oat (k := 0) rfl) rfl) ?_
                intro a henv
                refine seq_step rfl (op_buildSlice (z := 1) (pv := #[(0, .int .i64 ra)]) (c := #[.int .i64 ra]) henv hst rfl Tryd.underlying23 (ty_int.size) zero_int (by decide) (by decide) rfl (by kernel_rfl) ?_)
                clear henv hst a; intro a w140 g139 henv hst
                refine sv (v := .slice (some ⟨g139, 0, none⟩) 1 1) henv rfl (rn_assign henv rfl) ?_
                clear henv a; intro a henv
                refine wpList_nil ?_
                refine th_n ?_
                refine wp_ret ?_
                refine bl_r (th_r ?_)
                refine leave henv (res1 Tryd.results18 (RV.tmp henv rfl)) ?_
                exact ⟨_, rfl, by rw [show asksL op ra rb = [ra] by unfold asksL; rw [if_neg (by omega), if_pos (by omega)]]; exact irow_new (zs := [ra]) (hst.oat (k := 0) rfl) (hst.new _ (List.mem_of_getElem? (i := 0) rfl) _ rfl), hst.below⟩
              · have hx141 := ne_of_beq_false hc137
                refine wp_skip ?_
                refine bl_n (th_n ?_)
                refine wp_seq ?_
                refine region_seq ?_
                refine sv (v := .slice none 0 0) henv rfl (rn_assign henv rfl) ?_
                clear henv a; intro a henv
                refine wpList_nil ?_
                refine th_n ?_
                refine wp_ret ?_
                refine leave henv (res1 Tryd.results18 (RV.tmp henv rfl)) ?_
                exact ⟨_, rfl, by rw [show asksL op ra rb = [] by unfold asksL; rw [if_neg (by omega), if_neg (by omega)]]; exact irow_nil, hst.below⟩
            · have hx142 := ne_of_beq_false hc135
              refine wp_seq ?_
              refine region_seq ?_
              revert a
              refine sA (v := .bool (op == (7 : Int))) rfl (fun _ henv => rn_bin henv rfl rfl rfl) ?_
              refine aA rfl rfl ?_
              intro a henv
              refine wpList_nil ?_
              refine th_n ?_
              refine if_split henv rfl (fun hc143 => ?_) (fun hc143 => ?_)
              · have hx144 := eq_of_beq hc143
                refine wp_skip ?_
                refine th_n ?_
                refine if_split henv rfl (fun hc145 => ?_) (fun hc145 => ?_)
                · have hx146 := eq_of_beq hc145
                  refine wp_seq ?_
                  refine region_seq ?_
                  revert a
                  refine sA (v := .pointer (some ⟨g51, 2, none⟩)) rfl (fun _ henv => rn_fieldAddr henv fd_anvil_api_Instr_2 (ty_int.size) (by decide) rfl) ?_
                  refine sA (v := .int .i64 ra) rfl (fun _ henv => rn_load1 henv ty_int rfl (hst.oat (k := 0) rfl) rfl) ?_
                  intro a henv
                  refine seq_step rfl (op_buildSlice (z := 1) (pv := #[(0, .int .i64 ra)]) (c := #[.int .i64 ra]) henv hst rfl Tryd.underlying23 (ty_int.size) zero_int (by decide) (by decide) rfl (by kernel_rfl) ?_)
                  clear henv hst a; intro a w148 g147 henv hst
                  refine sv (v := .slice (some ⟨g147, 0, none⟩) 1 1) henv rfl (rn_assign henv rfl) ?_
                  clear henv a; intro a henv
                  refine wpList_nil ?_
                  refine th_n ?_
                  refine wp_ret ?_
                  refine bl_r (th_r ?_)
                  refine leave henv (res1 Tryd.results18 (RV.tmp henv rfl)) ?_
                  exact ⟨_, rfl, by rw [show asksL op ra rb = [ra] by unfold asksL; rw [if_neg (by omega), if_pos (by omega)]]; exact irow_new (zs := [ra]) (hst.oat (k := 0) rfl) (hst.new _ (List.mem_of_getElem? (i := 0) rfl) _ rfl), hst.below⟩
                · have hx149 := ne_of_beq_false hc145
                  refine wp_skip ?_
                  refine bl_n (th_n ?_)
                  refine wp_seq ?_
                  refine region_seq ?_
                  refine sv (v := .slice none 0 0) henv rfl (rn_assign henv rfl) ?_
                  clear henv a; intro a henv
                  refine wpList_nil ?_
                  refine th_n ?_
                  refine wp_ret ?_
                  refine leave henv (res1 Tryd.results18 (RV.tmp henv rfl)) ?_
                  exact ⟨_, rfl, by rw [show asksL op ra rb = [] by unfold asksL; rw [if_neg (by omega), if_neg (by omega)]]; exact irow_nil, hst.below⟩
              · have hx150 := ne_of_beq_false hc143
                refine region_seq ?_
                revert a
                refine sA (v := .bool (op == (8 : Int))) rfl (fun _ henv => rn_bin henv rfl rfl rfl) ?_
                refine aA rfl rfl ?_
                intro a henv
                refine wpList_nil ?_
                refine th_n ?_
                refine if_split henv rfl (fun hc151 => ?_) (fun hc151 => ?_)
                · have hx152 := eq_of_beq hc151
                  refine wp_seq ?_
                  refine region_seq ?_
                  revert a
                  refine sA (v := .pointer (some ⟨g51, 2, none⟩)) rfl (fun _ henv => rn_fieldAddr henv fd_anvil_api_Instr_2 (ty_int.size) (by decide) rfl) ?_
                  refine sA (v := .int .i64 ra) rfl (fun _ henv => rn_load1 henv ty_int rfl (hst.oat (k := 0) rfl) rfl) ?_
                  intro a henv
                  refine seq_step rfl (op_buildSlice (z := 1) (pv := #[(0, .int .i64 ra)]) (c := #[.int .i64 ra]) henv hst rfl Tryd.underlying23 (ty_int.size) zero_int (by decide) (by decide) rfl (by kernel_rfl) ?_)
                  clear henv hst a; intro a w154 g153 henv hst
                  refine sv (v := .slice (some ⟨g153, 0, none⟩) 1 1) henv rfl (rn_assign henv rfl) ?_
                  clear henv a; intro a henv
                  refine wpList_nil ?_
                  refine th_n ?_
                  refine wp_ret ?_
                  refine bl_r (th_r ?_)
                  refine leave henv (res1 Tryd.results18 (RV.tmp henv rfl)) ?_
                  exact ⟨_, rfl, by rw [show asksL op ra rb = [ra] by unfold asksL; rw [if_neg (by omega), if_pos (by omega)]]; exact irow_new (zs := [ra]) (hst.oat (k := 0) rfl) (hst.new _ (List.mem_of_getElem? (i := 0) rfl) _ rfl), hst.below⟩
                · have hx155 := ne_of_beq_false hc151
                  refine wp_skip ?_
                  refine bl_n (th_n ?_)
                  refine wp_seq ?_
                  refine region_seq ?_
                  refine sv (v := .slice none 0 0) henv rfl (rn_assign henv rfl) ?_
                  clear henv a; intro a henv
                  refine wpList_nil ?_
                  refine th_n ?_
                  refine wp_ret ?_
                  refine leave henv (res1 Tryd.results18 (RV.tmp henv rfl)) ?_
                  exact ⟨_, rfl, by rw [show asksL op ra rb = [] by unfold asksL; rw [if_neg (by omega), if_neg (by omega)]]; exact irow_nil, hst.below⟩
set_option maxRecDepth 100000 in
set_option maxHeartbeats 4000000 in
theorem g_may {op tr ra rb cn : Int} {g : Int} {w0 : World} :
    Calls Tryd.prog 34 #[.agg #[.int .i64 op, .int .i64 tr, .int .i64 ra, .int .i64 rb, .int .i64 cn], .int .i64 g] w0 fun e w' => e = .returned (.bool (decide (May (op, tr, ra, rb, cn) g))) ∧ Below w0.heap.size w0 w' := by
  have hal := asks_len op ra rb
  refine enter Tryd.func34 rfl Tryd.ntmps34 rfl ?_
  intro a henv hst
  refine wp_seq ?_
  refine region_seq ?_
  refine seq_step rfl (op_box (c := #[.int .i64 op, .int .i64 tr, .int .i64 ra, .int .i64 rb, .int .i64 cn]) henv hst rfl rfl rfl ?_)
  clear henv hst a; intro a w52 g51 henv hst
  refine sv (v := .bool false) henv rfl (rn_assign henv rfl) ?_
  clear henv a; intro a henv
  refine wpList_nil ?_
  refine th_n ?_
  refine wp_seq ?_
  refine wp_seq ?_
  refine region_seq ?_
  revert a
  refine sA (v := .pointer (some ⟨g51, 0, none⟩)) rfl (fun _ henv => rn_fieldAddr henv fd_anvil_api_Instr_0 (ty_int.size) (by decide) rfl) ?_
  refine sA (v := .int .i64 op) rfl (fun _ henv => rn_load1 henv ty_int rfl (hst.oat (k := 0) rfl) rfl) ?_
  refine sA (v := .bool (decide (op < (1 : Int)))) rfl (fun _ henv => rn_bin henv rfl rfl rfl) ?_
  refine mA rfl rfl ?_
  intro a henv
  rcases bool_em (decide (op < (1 : Int))) with hg53 | hg53
  · rw [hg53] at henv
    have hx54 := of_decide_eq_true hg53
    revert a
    refine kA rfl rfl rfl rfl rfl ?_
    refine kA rfl rfl rfl rfl rfl ?_
    refine kA rfl rfl rfl rfl rfl ?_
    refine sA (v := .bool true) rfl (fun _ henv => rn_pick henv rfl rfl) ?_
    refine mA rfl rfl ?_
    refine kA rfl rfl rfl rfl rfl ?_
    refine kA rfl rfl rfl rfl rfl ?_
    refine kA rfl rfl rfl rfl rfl ?_
    refine sA (v := .bool true) rfl (fun _ henv => rn_pick henv rfl rfl) ?_
    refine mA rfl rfl ?_
    refine kA rfl rfl rfl rfl rfl ?_
    refine kA rfl rfl rfl rfl rfl ?_
    refine kA rfl rfl rfl rfl rfl ?_
    refine kA rfl rfl rfl rfl rfl ?_
    refine sA (v := .bool true) rfl (fun _ henv => rn_pick henv rfl rfl) ?_
    refine mA rfl rfl ?_
    refine kA rfl rfl rfl rfl rfl ?_
    refine kA rfl rfl rfl rfl rfl ?_
    refine kA rfl rfl rfl rfl rfl ?_
    refine kA rfl rfl rfl rfl rfl ?_
    refine kA rfl rfl rfl rfl rfl ?_
    refine kA rfl rfl rfl rfl rfl ?_
    refine kA rfl rfl rfl rfl rfl ?_
    refine kA rfl rfl rfl rfl rfl ?_
    refine kA rfl rfl rfl rfl rfl ?_
    refine sA (v := .bool true) rfl (fun _ henv => rn_pick henv rfl rfl) ?_
    refine mA rfl rfl ?_
    refine kA rfl rfl rfl rfl rfl ?_
    refine kA rfl rfl rfl rfl rfl ?_
    refine kA rfl rfl rfl rfl rfl ?_
    refine sA (v := .bool true) rfl (fun _ henv => rn_pick henv rfl rfl) ?_
    intro a henv
    refine wpList_nil ?_
    refine th_n ?_
    refine if_t henv rfl (rfl) ?_
    refine wp_seq ?_
    refine region_seq ?_
    refine sv (v := .bool false) henv rfl (rn_assign henv rfl) ?_
    clear henv a; intro a henv
    refine wpList_nil ?_
    refine th_n ?_
    refine wp_ret ?_
    refine th_r ?_
    refine leave henv (res1 Tryd.results34 (RV.tmp henv rfl)) ?_
    exact ⟨by rw [decide_eq_false (show ¬ May (op, tr, ra, rb, cn) g by unfold May; (try unfold CN at *); (try simp only at *); omega)], hst.below⟩
  · rw [hg53] at henv
    have hx55 := of_decide_eq_false hg53
    revert a
    refine gA (v := .pointer (some ⟨g51, 0, none⟩)) rfl rfl rfl rfl (fun _ henv => rn_fieldAddr henv fd_anvil_api_Instr_0 (ty_int.size) (by decide) rfl) ?_
    refine gA (v := .int .i64 op) rfl rfl rfl rfl (fun _ henv => rn_load1 henv ty_int rfl (hst.oat (k := 0) rfl) rfl) ?_
    refine gA (v := .bool (decide (op > (8 : Int)))) rfl rfl rfl rfl (fun _ henv => rn_bin henv rfl rfl rfl) ?_
    refine sA (v := .bool (decide (op > (8 : Int)))) rfl (fun _ henv => rn_pick henv rfl rfl) ?_
    refine mA rfl rfl ?_
    intro a henv
    rcases bool_em (decide (op > (8 : Int))) with hg56 | hg56
    · rw [hg56] at henv
      have hx57 := of_decide_eq_true hg56
      revert a
      refine kA rfl rfl rfl rfl rfl ?_
      refine kA rfl rfl rfl rfl rfl ?_
      refine kA rfl rfl rfl rfl rfl ?_
      refine sA (v := .bool true) rfl (fun _ henv => rn_pick henv rfl rfl) ?_
      refine mA rfl rfl ?_
      refine kA rfl rfl rfl rfl rfl ?_
      refine kA rfl rfl rfl rfl rfl ?_
      refine kA rfl rfl rfl rfl rfl ?_
      refine kA rfl rfl rfl rfl rfl ?_
      refine sA (v := .bool true) rfl (fun _ henv => rn_pick henv rfl rfl) ?_
      refine mA rfl rfl ?_
      refine kA rfl rfl rfl rfl rfl ?_
      refine kA rfl rfl rfl rfl rfl ?_
      refine kA rfl rfl rfl rfl rfl ?_
      refine kA rfl rfl rfl rfl rfl ?_
      refine kA rfl rfl rfl rfl rfl ?_
      refine kA rfl rfl rfl rfl rfl ?_
      refine kA rfl rfl rfl rfl rfl ?_
      refine kA rfl rfl rfl rfl rfl ?_
      refine kA rfl rfl rfl rfl rfl ?_
      refine sA (v := .bool true) rfl (fun _ henv => rn_pick henv rfl rfl) ?_
      refine mA rfl rfl ?_
      refine kA rfl rfl rfl rfl rfl ?_
      refine kA rfl rfl rfl rfl rfl ?_
      refine kA rfl rfl rfl rfl rfl ?_
      refine sA (v := .bool true) rfl (fun _ henv => rn_pick henv rfl rfl) ?_
      intro a henv
      refine wpList_nil ?_
      refine th_n ?_
      refine if_t henv rfl (rfl) ?_
      refine wp_seq ?_
      refine region_seq ?_
      refine sv (v := .bool false) henv rfl (rn_assign henv rfl) ?_
      clear henv a; intro a henv
      refine wpList_nil ?_
      refine th_n ?_
      refine wp_ret ?_
      refine th_r ?_
      refine leave henv (res1 Tryd.results34 (RV.tmp henv rfl)) ?_
      exact ⟨by rw [decide_eq_false (show ¬ May (op, tr, ra, rb, cn) g by unfold May; (try unfold CN at *); (try simp only at *); omega)], hst.below⟩
    · rw [hg56] at henv
      have hx58 := of_decide_eq_false hg56
      revert a
      refine gA (v := .pointer (some ⟨g51, 1, none⟩)) rfl rfl rfl rfl (fun _ henv => rn_fieldAddr henv fd_anvil_api_Instr_1 (ty_int.size) (by decide) rfl) ?_
      refine gA (v := .int .i64 tr) rfl rfl rfl rfl (fun _ henv => rn_load1 henv ty_int rfl (hst.oat (k := 0) rfl) rfl) ?_
      refine gA (v := .bool (decide (tr < (0 : Int)))) rfl rfl rfl rfl (fun _ henv => rn_bin henv rfl rfl rfl) ?_
      refine sA (v := .bool (decide (tr < (0 : Int)))) rfl (fun _ henv => rn_pick henv rfl rfl) ?_
      refine mA rfl rfl ?_
      intro a henv
      rcases bool_em (decide (tr < (0 : Int))) with hg59 | hg59
      · rw [hg59] at henv
        have hx60 := of_decide_eq_true hg59
        revert a
        refine kA rfl rfl rfl rfl rfl ?_
        refine kA rfl rfl rfl rfl rfl ?_
        refine kA rfl rfl rfl rfl rfl ?_
        refine kA rfl rfl rfl rfl rfl ?_
        refine sA (v := .bool true) rfl (fun _ henv => rn_pick henv rfl rfl) ?_
        refine mA rfl rfl ?_
        refine kA rfl rfl rfl rfl rfl ?_
        refine kA rfl rfl rfl rfl rfl ?_
        refine kA rfl rfl rfl rfl rfl ?_
        refine kA rfl rfl rfl rfl rfl ?_
        refine kA rfl rfl rfl rfl rfl ?_
        refine kA rfl rfl rfl rfl rfl ?_
        refine kA rfl rfl rfl rfl rfl ?_
        refine kA rfl rfl rfl rfl rfl ?_
        refine kA rfl rfl rfl rfl rfl ?_
        refine sA (v := .bool true) rfl (fun _ henv => rn_pick henv rfl rfl) ?_
        refine mA rfl rfl ?_
        refine kA rfl rfl rfl rfl rfl ?_
        refine kA rfl rfl rfl rfl rfl ?_
        refine kA rfl rfl rfl rfl rfl ?_
        refine sA (v := .bool true) rfl (fun _ henv => rn_pick henv rfl rfl) ?_
        intro a henv
        refine wpList_nil ?_
        refine th_n ?_
        refine if_t henv rfl (rfl) ?_
        refine wp_seq ?_
        refine region_seq ?_
        refine sv (v := .bool false) henv rfl (rn_assign henv rfl) ?_
        clear henv a; intro a henv
        refine wpList_nil ?_
        refine th_n ?_
        refine wp_ret ?_
        refine th_r ?_
        refine leave henv (res1 Tryd.results34 (RV.tmp henv rfl)) ?_
        exact ⟨by rw [decide_eq_false (show ¬ May (op, tr, ra, rb, cn) g by unfold May; (try unfold CN at *); (try simp only at *); omega)], hst.below⟩
      · rw [hg59] at henv
        have hx61 := of_decide_eq_false hg59
        revert a
        refine gA (v := .pointer (some ⟨g51, 1, none⟩)) rfl rfl rfl rfl (fun _ henv => rn_fieldAddr henv fd_anvil_api_Instr_1 (ty_int.size) (by decide) rfl) ?_
        refine gA (v := .int .i64 tr) rfl rfl rfl rfl (fun _ henv => rn_load1 henv ty_int rfl (hst.oat (k := 0) rfl) rfl) ?_
        refine gA (v := .int .i64 g) rfl rfl rfl rfl (fun _ henv => rn_move henv rfl) ?_
        refine gA (v := .bool (decide (tr ≥ g))) rfl rfl rfl rfl (fun _ henv => rn_bin henv rfl rfl rfl) ?_
        refine sA (v := .bool (decide (tr ≥ g))) rfl (fun _ henv => rn_pick henv rfl rfl) ?_
        refine mA rfl rfl ?_
        intro a henv
        rcases bool_em (decide (tr ≥ g)) with hg62 | hg62
        · rw [hg62] at henv
          have hx63 := of_decide_eq_true hg62
          revert a
          refine kA rfl rfl rfl rfl rfl ?_
          refine kA rfl rfl rfl rfl rfl ?_
          refine kA rfl rfl rfl rfl rfl ?_
          refine kA rfl rfl rfl rfl rfl ?_
          refine kA rfl rfl rfl rfl rfl ?_
          refine kA rfl rfl rfl rfl rfl ?_
          refine kA rfl rfl rfl rfl rfl ?_
          refine kA rfl rfl rfl rfl rfl ?_
          refine kA rfl rfl rfl rfl rfl ?_
          refine sA (v := .bool true) rfl (fun _ henv => rn_pick henv rfl rfl) ?_
          refine mA rfl rfl ?_
          refine kA rfl rfl rfl rfl rfl ?_
          refine kA rfl rfl rfl rfl rfl ?_
          refine kA rfl rfl rfl rfl rfl ?_
          refine sA (v := .bool true) rfl (fun _ henv => rn_pick henv rfl rfl) ?_
          intro a henv
          refine wpList_nil ?_
          refine th_n ?_
          refine if_t henv rfl (rfl) ?_
          refine wp_seq ?_
          refine region_seq ?_
          refine sv (v := .bool false) henv rfl (rn_assign henv rfl) ?_
          clear henv a; intro a henv
          refine wpList_nil ?_
          refine th_n ?_
          refine wp_ret ?_
          refine th_r ?_
          refine leave henv (res1 Tryd.results34 (RV.tmp henv rfl)) ?_
          exact ⟨by rw [decide_eq_false (show ¬ May (op, tr, ra, rb, cn) g by unfold May; (try unfold CN at *); (try simp only at *); omega)], hst.below⟩
        · rw [hg62] at henv
          have hx64 := of_decide_eq_false hg62
          revert a
          refine gA (v := .pointer (some ⟨g51, 0, none⟩)) rfl rfl rfl rfl (fun _ henv => rn_fieldAddr henv fd_anvil_api_Instr_0 (ty_int.size) (by decide) rfl) ?_
          refine gA (v := .int .i64 op) rfl rfl rfl rfl (fun _ henv => rn_load1 henv ty_int rfl (hst.oat (k := 0) rfl) rfl) ?_
          intro a henv
          refine seq_g rfl henv rfl rfl (op_call henv rfl Tryd.call57 rfl (g_two (op := op)) ?_)
          rintro e w65 ⟨rfl, hb⟩
          refine ⟨_, rfl, ?_⟩
          clear henv a; intro a henv
          replace hst := hst.call hb
          clear hb
          revert a
          refine gA (v := .bool (!(decide (op = 3 ∨ op = 4)))) rfl rfl rfl rfl (fun _ henv => rn_un henv rfl rfl) ?_
          refine gA (v := .bool (!(decide (op = 3 ∨ op = 4)))) rfl rfl rfl rfl (fun _ henv => rn_move henv rfl) ?_
          intro a henv
          rcases bool_em (!(decide (op = 3 ∨ op = 4))) with hg66 | hg66
          · rw [hg66] at henv
            have hx67 := of_decide_eq_false (bnot_t hg66)
            revert a
            refine gA (v := .pointer (some ⟨g51, 3, none⟩)) rfl rfl rfl rfl (fun _ henv => rn_fieldAddr henv fd_anvil_api_Instr_3 (ty_int.size) (by decide) rfl) ?_
            refine gA (v := .int .i64 rb) rfl rfl rfl rfl (fun _ henv => rn_load1 henv ty_int rfl (hst.oat (k := 0) rfl) rfl) ?_
            refine gA (v := .bool (rb != (0 : Int))) rfl rfl rfl rfl (fun _ henv => rn_bin henv rfl rfl rfl) ?_
            refine gA (v := .bool (rb != (0 : Int))) rfl rfl rfl rfl (fun _ henv => rn_pick henv rfl rfl) ?_
            refine sA (v := .bool (rb != (0 : Int))) rfl (fun _ henv => rn_pick henv rfl rfl) ?_
            refine mA rfl rfl ?_
            intro a henv
            rcases bool_em (rb != (0 : Int)) with hg68 | hg68
            · rw [hg68] at henv
              have hx69 := bne_yes hg68
              revert a
              refine kA rfl rfl rfl rfl rfl ?_
              refine kA rfl rfl rfl rfl rfl ?_
              refine kA rfl rfl rfl rfl rfl ?_
              refine sA (v := .bool true) rfl (fun _ henv => rn_pick henv rfl rfl) ?_
              intro a henv
              refine wpList_nil ?_
              refine th_n ?_
              refine if_t henv rfl (rfl) ?_
              refine wp_seq ?_
              refine region_seq ?_
              refine sv (v := .bool false) henv rfl (rn_assign henv rfl) ?_
              clear henv a; intro a henv
              refine wpList_nil ?_
              refine th_n ?_
              refine wp_ret ?_
              refine th_r ?_
              refine leave henv (res1 Tryd.results34 (RV.tmp henv rfl)) ?_
              exact ⟨by rw [decide_eq_false (show ¬ May (op, tr, ra, rb, cn) g by unfold May; (try unfold CN at *); (try simp only at *); omega)], hst.below⟩
            · rw [hg68] at henv
              have hx70 := bne_no hg68
              refine seq_g rfl henv rfl rfl (op_val (v := .agg #[.int .i64 op, .int .i64 tr, .int .i64 ra, .int .i64 rb, .int .i64 cn]) henv rfl (rn_load0 henv ty_anvil_api_Instr rfl (hst.oat (k := 0) rfl) rfl) ?_)
              clear henv a; intro a henv
              refine seq_g rfl henv rfl rfl (op_call henv rfl Tryd.call58 rfl (g_constant (op := op) (tr := tr) (ra := ra) (rb := rb) (cn := cn)) ?_)
              rintro e w71 ⟨rfl, hb⟩
              refine ⟨_, rfl, ?_⟩
              clear henv a; intro a henv
              replace hst := hst.call hb
              clear hb
              revert a
              refine gA (v := .bool (!(decide (CN op cn)))) rfl rfl rfl rfl (fun _ henv => rn_un henv rfl rfl) ?_
              refine sA (v := .bool (!(decide (CN op cn)))) rfl (fun _ henv => rn_pick henv rfl rfl) ?_
              intro a henv
              refine wpList_nil ?_
              refine th_n ?_
              refine if_split henv rfl (fun hc72 => ?_) (fun hc72 => ?_)
              · have hx73 := of_decide_eq_false (bnot_t hc72)
                refine wp_seq ?_
                refine region_seq ?_
                refine sv (v := .bool false) henv rfl (rn_assign henv rfl) ?_
                clear henv a; intro a henv
                refine wpList_nil ?_
                refine th_n ?_
                refine wp_ret ?_
                refine th_r ?_
                refine leave henv (res1 Tryd.results34 (RV.tmp henv rfl)) ?_
                exact ⟨by rw [decide_eq_false (show ¬ May (op, tr, ra, rb, cn) g by unfold May; (try unfold CN at *); (try simp only at *); omega)], hst.below⟩
              · have hx74 := of_decide_eq_true (bnot_f hc72)
                refine wp_skip ?_
                refine th_n ?_
                refine wp_seq ?_
                refine wp_seq ?_
                refine region_seq ?_
                refine sv (v := .agg #[.int .i64 op, .int .i64 tr, .int .i64 ra, .int .i64 rb, .int .i64 cn]) henv rfl (rn_load0 henv ty_anvil_api_Instr rfl (hst.oat (k := 0) rfl) rfl) ?_
                clear henv a; intro a henv
                refine seq_step rfl (op_call henv rfl Tryd.call18 rfl (g_asks (op := op) (tr := tr) (ra := ra) (rb := rb) (cn := cn)) ?_)
                rintro e w77 ⟨_, rfl, ⟨A75, c76, rfl, hr, hfr⟩, hb⟩
                refine ⟨_, rfl, ?_⟩
                clear henv a; intro a henv
                replace hst := hst.freshI hb hr hfr
                clear hr
                clear hb
                revert a
                refine sA (v := .int .i64 ((asksL op ra rb).length : Nat)) rfl (fun _ henv => rn_len henv Tryd.underlying23 rfl) ?_
                refine mA rfl rfl ?_
                intro a henv
                refine wpList_nil ?_
                refine th_n ?_
                refine wp_block ?_
                refine wp_loop_ghost (fun mz a w => ∃ j : Nat, (asksL op ra rb).length - j = mz ∧ Env 57 a [(1, .int .i64 g), (43, .slice A75 ((asksL op ra rb).length) c76), (44, .int .i64 ((asksL op ra rb).length : Nat)), (45, .int .i64 (j : Nat))] ∧ St w0 w [] [pfRow fI FI 1 A75 ((asksL op ra rb).length) c76 (asksL op ra rb)] ∧ j ≤ (asksL op ra rb).length ∧ (∀ x ∈ (asksL op ra rb).take j, 0 ≤ x ∧ x < g)) _ ⟨0, rfl, henv.sub ⟨rfl, rfl, rfl, rfl, trivial⟩, hst.pick [] [0] (by decide), (Nat.zero_le _), (fun _ h => by cases h)⟩ ?_
                clear henv hst a
                rintro mz a w78 ⟨j, rfl, henv, hst, hj, hall⟩
                refine wp_seq ?_
                refine region_seq ?_
                refine sv (v := .bool (decide (((j : Nat) : Int) < (((asksL op ra rb).length : Nat) : Int)))) henv rfl (rn_bin henv rfl rfl rfl) ?_
                clear henv a; intro a henv
                refine wpList_nil ?_
                refine th_n ?_
                refine wp_seq ?_
                refine if_split henv rfl (fun hc79 => ?_) (fun hc79 => ?_)
                · have hlt : j < (asksL op ra rb).length := by have := of_decide_eq_true hc79; omega
                  obtain ⟨x, he0⟩ : ∃ x, (asksL op ra rb)[j]? = some x := ⟨_, List.getElem?_eq_getElem hlt⟩
                  refine wp_skip ?_
                  refine th_n ?_
                  refine wp_seq ?_
                  refine wp_block ?_
                  refine wp_seq ?_
                  refine region_seq ?_
                  revert a
                  refine sA (v := .pointer (some ⟨ab A75, ao A75 + j * 1, none⟩)) rfl (fun _ henv => rn_idxR (i := j) henv Tryd.underlying23 (ty_int.size) rfl rfl (by omega) rfl (show (pfRow fI FI 1 A75 ((asksL op ra rb).length) c76 (asksL op ra rb)).P _ from (hst.pat (k := 0) rfl)).1) ?_
                  refine sA (v := .int .i64 x) rfl (fun _ henv => rn_loadE1 (i := j) (j := 0) (e := x) henv ty_int rfl rfl fI_len (by decide) (show (pfRow fI FI 1 A75 ((asksL op ra rb).length) c76 (asksL op ra rb)).P _ from (hst.pat (k := 0) rfl)).1 (by omega) he0 rfl) ?_
                  refine aA rfl rfl ?_
                  intro a henv
                  refine wpList_nil ?_
                  refine th_n ?_
                  refine wp_seq ?_
                  refine region_seq ?_
                  revert a
                  refine mA rfl rfl ?_
                  refine sA (v := .bool (decide (x < (0 : Int)))) rfl (fun _ henv => rn_bin henv rfl rfl rfl) ?_
                  refine mA rfl rfl ?_
                  intro a henv
                  rcases bool_em (decide (x < (0 : Int))) with hg80 | hg80
                  · rw [hg80] at henv
                    have hx81 := of_decide_eq_true hg80
                    revert a
                    refine kA rfl rfl rfl rfl rfl ?_
                    refine kA rfl rfl rfl rfl rfl ?_
                    refine kA rfl rfl rfl rfl rfl ?_
                    refine sA (v := .bool true) rfl (fun _ henv => rn_pick henv rfl rfl) ?_
                    intro a henv
                    refine wpList_nil ?_
                    refine th_n ?_
                    refine if_t henv rfl (rfl) ?_
                    refine wp_seq ?_
                    refine region_seq ?_
                    refine sv (v := .bool false) henv rfl (rn_assign henv rfl) ?_
                    clear henv a; intro a henv
                    refine wpList_nil ?_
                    refine th_n ?_
                    refine wp_ret ?_
                    refine bl_r (th_r (th_r (bl_r (th_r ?_))))
                    refine leave henv (res1 Tryd.results34 (RV.tmp henv rfl)) ?_
                    have hno : ¬ ∀ y ∈ (asksL op ra rb), 0 ≤ y ∧ y < g := fun q => by have := q x (List.mem_of_getElem? he0); omega
                    rw [asks_all] at hno
                    exact ⟨by rw [decide_eq_false (show ¬ May (op, tr, ra, rb, cn) g by unfold May; (try simp only at *); omega)], hst.below⟩
                  · rw [hg80] at henv
                    have hx82 := of_decide_eq_false hg80
                    revert a
                    refine gA (v := .int .i64 x) rfl rfl rfl rfl (fun _ henv => rn_move henv rfl) ?_
                    refine gA (v := .int .i64 g) rfl rfl rfl rfl (fun _ henv => rn_move henv rfl) ?_
                    refine gA (v := .bool (decide (x ≥ g))) rfl rfl rfl rfl (fun _ henv => rn_bin henv rfl rfl rfl) ?_
                    refine sA (v := .bool (decide (x ≥ g))) rfl (fun _ henv => rn_pick henv rfl rfl) ?_
                    intro a henv
                    refine wpList_nil ?_
                    refine th_n ?_
                    refine if_split henv rfl (fun hc83 => ?_) (fun hc83 => ?_)
                    · have hx84 := of_decide_eq_true hc83
                      refine wp_seq ?_
                      refine region_seq ?_
                      refine sv (v := .bool false) henv rfl (rn_assign henv rfl) ?_
                      clear henv a; intro a henv
                      refine wpList_nil ?_
                      refine th_n ?_
                      refine wp_ret ?_
                      refine bl_r (th_r (th_r (bl_r (th_r ?_))))
                      refine leave henv (res1 Tryd.results34 (RV.tmp henv rfl)) ?_
                      have hno : ¬ ∀ y ∈ (asksL op ra rb), 0 ≤ y ∧ y < g := fun q => by have := q x (List.mem_of_getElem? he0); omega
                      rw [asks_all] at hno
                      exact ⟨by rw [decide_eq_false (show ¬ May (op, tr, ra, rb, cn) g by unfold May; (try simp only at *); omega)], hst.below⟩
                    · have hx85 := of_decide_eq_false hc83
                      refine wp_skip ?_
                      refine bl_n (th_n ?_)
                      refine region_seq ?_
                      revert a
                      refine sA (v := .int .i64 (j + 1 : Nat)) rfl (fun _ henv => rn_add henv rfl rfl (by rw [IntWalk.i64_in _ (by omega)]; omega)) ?_
                      refine mA rfl rfl ?_
                      intro a henv
                      refine wpList_nil ?_
                      exact th_n ⟨_, (by omega), ⟨j + 1, rfl, henv.sub ⟨rfl, rfl, rfl, rfl, trivial⟩, hst.pick [] [0] (by decide), (by omega), (all_snoc hall he0 (by omega))⟩⟩
                · have hfull := all_full hall (show (asksL op ra rb).length ≤ j by have := of_decide_eq_false hc79; omega)
                  rw [asks_all] at hfull
                  refine wp_exit ?_
                  refine th_x (th_x (bl_x (th_n ?_)))
                  refine wp_seq ?_
                  refine region_seq ?_
                  refine sv (v := .bool true) henv rfl (rn_assign henv rfl) ?_
                  clear henv a; intro a henv
                  refine wpList_nil ?_
                  refine th_n ?_
                  refine wp_ret ?_
                  refine leave henv (res1 Tryd.results34 (RV.tmp henv rfl)) ?_
                  exact ⟨by rw [decide_eq_true (show May (op, tr, ra, rb, cn) g by unfold May; (try unfold CN at *); (try simp only at *); omega)], hst.below⟩
          · rw [hg66] at henv
            have hx86 := of_decide_eq_true (bnot_f hg66)
            revert a
            refine kA rfl rfl rfl rfl rfl ?_
            refine kA rfl rfl rfl rfl rfl ?_
            refine kA rfl rfl rfl rfl rfl ?_
            refine gA (v := .bool false) rfl rfl rfl rfl (fun _ henv => rn_pick henv rfl rfl) ?_
            refine sA (v := .bool false) rfl (fun _ henv => rn_pick henv rfl rfl) ?_
            refine mA rfl rfl ?_
            refine gA (v := .agg #[.int .i64 op, .int .i64 tr, .int .i64 ra, .int .i64 rb, .int .i64 cn]) rfl rfl rfl rfl (fun _ henv => rn_load0 henv ty_anvil_api_Instr rfl (hst.oat (k := 0) rfl) rfl) ?_
            intro a henv
            refine seq_g rfl henv rfl rfl (op_call henv rfl Tryd.call58 rfl (g_constant (op := op) (tr := tr) (ra := ra) (rb := rb) (cn := cn)) ?_)
            rintro e w87 ⟨rfl, hb⟩
            refine ⟨_, rfl, ?_⟩
            clear henv a; intro a henv
            replace hst := hst.call hb
            clear hb
            revert a
            refine gA (v := .bool (!(decide (CN op cn)))) rfl rfl rfl rfl (fun _ henv => rn_un henv rfl rfl) ?_
            refine sA (v := .bool (!(decide (CN op cn)))) rfl (fun _ henv => rn_pick henv rfl rfl) ?_
            intro a henv
            refine wpList_nil ?_
            refine th_n ?_
            refine if_split henv rfl (fun hc88 => ?_) (fun hc88 => ?_)
            · have hx89 := of_decide_eq_false (bnot_t hc88)
              refine wp_seq ?_
              refine region_seq ?_
              refine sv (v := .bool false) henv rfl (rn_assign henv rfl) ?_
              clear henv a; intro a henv
              refine wpList_nil ?_
              refine th_n ?_
              refine wp_ret ?_
              refine th_r ?_
              refine leave henv (res1 Tryd.results34 (RV.tmp henv rfl)) ?_
              exact ⟨by rw [decide_eq_false (show ¬ May (op, tr, ra, rb, cn) g by unfold May; (try unfold CN at *); (try simp only at *); omega)], hst.below⟩
            · have hx90 := of_decide_eq_true (bnot_f hc88)
              refine wp_skip ?_
              refine th_n ?_
              refine wp_seq ?_
              refine wp_seq ?_
              refine region_seq ?_
              refine sv (v := .agg #[.int .i64 op, .int .i64 tr, .int .i64 ra, .int .i64 rb, .int .i64 cn]) henv rfl (rn_load0 henv ty_anvil_api_Instr rfl (hst.oat (k := 0) rfl) rfl) ?_
              clear henv a; intro a henv
              refine seq_step rfl (op_call henv rfl Tryd.call18 rfl (g_asks (op := op) (tr := tr) (ra := ra) (rb := rb) (cn := cn)) ?_)
              rintro e w93 ⟨_, rfl, ⟨A91, c92, rfl, hr, hfr⟩, hb⟩
              refine ⟨_, rfl, ?_⟩
              clear henv a; intro a henv
              replace hst := hst.freshI hb hr hfr
              clear hr
              clear hb
              revert a
              refine sA (v := .int .i64 ((asksL op ra rb).length : Nat)) rfl (fun _ henv => rn_len henv Tryd.underlying23 rfl) ?_
              refine mA rfl rfl ?_
              intro a henv
              refine wpList_nil ?_
              refine th_n ?_
              refine wp_block ?_
              refine wp_loop_ghost (fun mz a w => ∃ j : Nat, (asksL op ra rb).length - j = mz ∧ Env 57 a [(1, .int .i64 g), (43, .slice A91 ((asksL op ra rb).length) c92), (44, .int .i64 ((asksL op ra rb).length : Nat)), (45, .int .i64 (j : Nat))] ∧ St w0 w [] [pfRow fI FI 1 A91 ((asksL op ra rb).length) c92 (asksL op ra rb)] ∧ j ≤ (asksL op ra rb).length ∧ (∀ x ∈ (asksL op ra rb).take j, 0 ≤ x ∧ x < g)) _ ⟨0, rfl, henv.sub ⟨rfl, rfl, rfl, rfl, trivial⟩, hst.pick [] [0] (by decide), (Nat.zero_le _), (fun _ h => by cases h)⟩ ?_
              clear henv hst a
              rintro mz a w94 ⟨j, rfl, henv, hst, hj, hall⟩
              refine wp_seq ?_
              refine region_seq ?_
              refine sv (v := .bool (decide (((j : Nat) : Int) < (((asksL op ra rb).length : Nat) : Int)))) henv rfl (rn_bin henv rfl rfl rfl) ?_
              clear henv a; intro a henv
              refine wpList_nil ?_
              refine th_n ?_
              refine wp_seq ?_
              refine if_split henv rfl (fun hc95 => ?_) (fun hc95 => ?_)
              · have hlt : j < (asksL op ra rb).length := by have := of_decide_eq_true hc95; omega
                obtain ⟨x, he0⟩ : ∃ x, (asksL op ra rb)[j]? = some x := ⟨_, List.getElem?_eq_getElem hlt⟩
                refine wp_skip ?_
                refine th_n ?_
                refine wp_seq ?_
                refine wp_block ?_
                refine wp_seq ?_
                refine region_seq ?_
                revert a
                refine sA (v := .pointer (some ⟨ab A91, ao A91 + j * 1, none⟩)) rfl (fun _ henv => rn_idxR (i := j) henv Tryd.underlying23 (ty_int.size) rfl rfl (by omega) rfl (show (pfRow fI FI 1 A91 ((asksL op ra rb).length) c92 (asksL op ra rb)).P _ from (hst.pat (k := 0) rfl)).1) ?_
                refine sA (v := .int .i64 x) rfl (fun _ henv => rn_loadE1 (i := j) (j := 0) (e := x) henv ty_int rfl rfl fI_len (by decide) (show (pfRow fI FI 1 A91 ((asksL op ra rb).length) c92 (asksL op ra rb)).P _ from (hst.pat (k := 0) rfl)).1 (by omega) he0 rfl) ?_
                refine aA rfl rfl ?_
                intro a henv
                refine wpList_nil ?_
                refine th_n ?_
                refine wp_seq ?_
                refine region_seq ?_
                revert a
                refine mA rfl rfl ?_
                refine sA (v := .bool (decide (x < (0 : Int)))) rfl (fun _ henv => rn_bin henv rfl rfl rfl) ?_
                refine mA rfl rfl ?_
                intro a henv
                rcases bool_em (decide (x < (0 : Int))) with hg96 | hg96
                · rw [hg96] at henv
                  have hx97 := of_decide_eq_true hg96
                  revert a
                  refine kA rfl rfl rfl rfl rfl ?_
                  refine kA rfl rfl rfl rfl rfl ?_
                  refine kA rfl rfl rfl rfl rfl ?_
                  refine sA (v := .bool true) rfl (fun _ henv => rn_pick henv rfl rfl) ?_
                  intro a henv
                  refine wpList_nil ?_
                  refine th_n ?_
                  refine if_t henv rfl (rfl) ?_
                  refine wp_seq ?_
                  refine region_seq ?_
                  refine sv (v := .bool false) henv rfl (rn_assign henv rfl) ?_
                  clear henv a; intro a henv
                  refine wpList_nil ?_
                  refine th_n ?_
                  refine wp_ret ?_
                  refine bl_r (th_r (th_r (bl_r (th_r ?_))))
                  refine leave henv (res1 Tryd.results34 (RV.tmp henv rfl)) ?_
                  have hno : ¬ ∀ y ∈ (asksL op ra rb), 0 ≤ y ∧ y < g := fun q => by have := q x (List.mem_of_getElem? he0); omega
                  rw [asks_all] at hno
                  exact ⟨by rw [decide_eq_false (show ¬ May (op, tr, ra, rb, cn) g by unfold May; (try simp only at *); omega)], hst.below⟩
                · rw [hg96] at henv
                  have hx98 := of_decide_eq_false hg96
                  revert a
                  refine gA (v := .int .i64 x) rfl rfl rfl rfl (fun _ henv => rn_move henv rfl) ?_
                  refine gA (v := .int .i64 g) rfl rfl rfl rfl (fun _ henv => rn_move henv rfl) ?_
                  refine gA (v := .bool (decide (x ≥ g))) rfl rfl rfl rfl (fun _ henv => rn_bin henv rfl rfl rfl) ?_
                  refine sA (v := .bool (decide (x ≥ g))) rfl (fun _ henv => rn_pick henv rfl rfl) ?_
                  intro a henv
                  refine wpList_nil ?_
                  refine th_n ?_
                  refine if_split henv rfl (fun hc99 => ?_) (fun hc99 => ?_)
                  · have hx100 := of_decide_eq_true hc99
                    refine wp_seq ?_
                    refine region_seq ?_
                    refine sv (v := .bool false) henv rfl (rn_assign henv rfl) ?_
                    clear henv a; intro a henv
                    refine wpList_nil ?_
                    refine th_n ?_
                    refine wp_ret ?_
                    refine bl_r (th_r (th_r (bl_r (th_r ?_))))
                    refine leave henv (res1 Tryd.results34 (RV.tmp henv rfl)) ?_
                    have hno : ¬ ∀ y ∈ (asksL op ra rb), 0 ≤ y ∧ y < g := fun q => by have := q x (List.mem_of_getElem? he0); omega
                    rw [asks_all] at hno
                    exact ⟨by rw [decide_eq_false (show ¬ May (op, tr, ra, rb, cn) g by unfold May; (try simp only at *); omega)], hst.below⟩
                  · have hx101 := of_decide_eq_false hc99
                    refine wp_skip ?_
                    refine bl_n (th_n ?_)
                    refine region_seq ?_
                    revert a
                    refine sA (v := .int .i64 (j + 1 : Nat)) rfl (fun _ henv => rn_add henv rfl rfl (by rw [IntWalk.i64_in _ (by omega)]; omega)) ?_
                    refine mA rfl rfl ?_
                    intro a henv
                    refine wpList_nil ?_
                    exact th_n ⟨_, (by omega), ⟨j + 1, rfl, henv.sub ⟨rfl, rfl, rfl, rfl, trivial⟩, hst.pick [] [0] (by decide), (by omega), (all_snoc hall he0 (by omega))⟩⟩
              · have hfull := all_full hall (show (asksL op ra rb).length ≤ j by have := of_decide_eq_false hc95; omega)
                rw [asks_all] at hfull
                refine wp_exit ?_
                refine th_x (th_x (bl_x (th_n ?_)))
                refine wp_seq ?_
                refine region_seq ?_
                refine sv (v := .bool true) henv rfl (rn_assign henv rfl) ?_
                clear henv a; intro a henv
                refine wpList_nil ?_
                refine th_n ?_
                refine wp_ret ?_
                refine leave henv (res1 Tryd.results34 (RV.tmp henv rfl)) ?_
                exact ⟨by rw [decide_eq_true (show May (op, tr, ra, rb, cn) g by unfold May; (try unfold CN at *); (try simp only at *); omega)], hst.below⟩
set_option maxRecDepth 100000 in
set_option maxHeartbeats 4000000 in
theorem g_check_ok {i g : Int} {A0 A1 : Option Addr} {n0 c0 n1 c1 : Nat} {es0 : List IE} {es1 : List Int} {w0 : World} (h0 : (pfRow fJ FJ 5 A0 n0 c0 es0).P w0) (h1 : (pfRow fI FI 1 A1 n1 c1 es1).P w0) (hH : HeadOk i g n0 n1) (hO : ∀ x ∈ es1, 0 ≤ x ∧ x < g) (hM : ∀ e ∈ es0, May e g) :
    Calls Tryd.prog 11 #[.agg #[.int .i64 i, .int .i64 g, .slice A0 n0 c0, .slice A1 n1 c1]] w0 fun e w' => e = .returned (.tuple #[.int .i64 0, .int .i64 0]) ∧ Below w0.heap.size w0 w' := by
  obtain ⟨hh1, hh2, hh3, hh4, hh5, hh6⟩ := hH
  refine enter Tryd.func11 rfl Tryd.ntmps11 rfl ?_
  intro a henv hst
  have hlen0 := h0.2.1
  have hbig0 := Nat.le_trans h0.1.cap h0.1.big
  unfold maxLen at hbig0
  have hlen1 := h1.2.1
  have hbig1 := Nat.le_trans h1.1.cap h1.1.big
  unfold maxLen at hbig1
  replace hst := (hst.argRow h1).argRow h0
  clear h0 h1
  refine wp_seq ?_
  refine region_seq ?_
  refine seq_step rfl (op_box (c := #[.int .i64 i, .int .i64 g, .slice A0 n0 c0, .slice A1 n1 c1]) henv hst rfl rfl rfl ?_)
  clear henv hst a; intro a w52 g51 henv hst
  revert a
  refine aA rfl rfl ?_
  refine aA rfl rfl ?_
  intro a henv
  refine wpList_nil ?_
  refine th_n ?_
  refine wp_seq ?_
  refine wp_seq ?_
  refine region_seq ?_
  revert a
  refine sA (v := .pointer (some ⟨g51, 0, none⟩)) rfl (fun _ henv => rn_fieldAddr henv fd_anvil_api_Prog_0 (ty_int.size) (by decide) rfl) ?_
  refine sA (v := .int .i64 i) rfl (fun _ henv => rn_load1 henv ty_int rfl (hst.oat (k := 0) rfl) rfl) ?_
  refine sA (v := .bool (decide (i < (1 : Int)))) rfl (fun _ henv => rn_bin henv rfl rfl rfl) ?_
  intro a henv
  rw [show (decide (i < (1 : Int))) = false from (decide_eq_false (by omega))] at henv
  revert a
  refine mA rfl rfl ?_
  refine gA (v := .pointer (some ⟨g51, 0, none⟩)) rfl rfl rfl rfl (fun _ henv => rn_fieldAddr henv fd_anvil_api_Prog_0 (ty_int.size) (by decide) rfl) ?_
  refine gA (v := .int .i64 i) rfl rfl rfl rfl (fun _ henv => rn_load1 henv ty_int rfl (hst.oat (k := 0) rfl) rfl) ?_
  refine gA (v := .pointer (some ⟨g51, 1, none⟩)) rfl rfl rfl rfl (fun _ henv => rn_fieldAddr henv fd_anvil_api_Prog_1 (ty_int.size) (by decide) rfl) ?_
  refine gA (v := .int .i64 g) rfl rfl rfl rfl (fun _ henv => rn_load1 henv ty_int rfl (hst.oat (k := 0) rfl) rfl) ?_
  refine gA (v := .bool (decide (i > g))) rfl rfl rfl rfl (fun _ henv => rn_bin henv rfl rfl rfl) ?_
  intro a henv
  rw [show (decide (i > g)) = false from (decide_eq_false (by omega))] at henv
  revert a
  refine sA (v := .bool false) rfl (fun _ henv => rn_pick henv rfl rfl) ?_
  refine mA rfl rfl ?_
  refine gA (v := .pointer (some ⟨g51, 1, none⟩)) rfl rfl rfl rfl (fun _ henv => rn_fieldAddr henv fd_anvil_api_Prog_1 (ty_int.size) (by decide) rfl) ?_
  refine gA (v := .int .i64 g) rfl rfl rfl rfl (fun _ henv => rn_load1 henv ty_int rfl (hst.oat (k := 0) rfl) rfl) ?_
  refine gA (v := .bool (decide (g > (128 : Int)))) rfl rfl rfl rfl (fun _ henv => rn_bin henv rfl rfl rfl) ?_
  intro a henv
  rw [show (decide (g > (128 : Int))) = false from (decide_eq_false (by omega))] at henv
  revert a
  refine sA (v := .bool false) rfl (fun _ henv => rn_pick henv rfl rfl) ?_
  refine mA rfl rfl ?_
  refine gA (v := .pointer (some ⟨g51, 2, none⟩)) rfl rfl rfl rfl (fun _ henv => rn_fieldAddr henv fd_anvil_api_Prog_2 (ty__api_Instr.size) (by decide) rfl) ?_
  refine gA (v := .slice A0 n0 c0) rfl rfl rfl rfl (fun _ henv => rn_load1 henv ty__api_Instr rfl (hst.oat (k := 0) rfl) rfl) ?_
  refine gA (v := .int .i64 (n0 : Nat)) rfl rfl rfl rfl (fun _ henv => rn_len henv Tryd.underlying22 rfl) ?_
  refine gA (v := .bool (decide (((n0 : Nat) : Int) > (16384 : Int)))) rfl rfl rfl rfl (fun _ henv => rn_bin henv rfl rfl rfl) ?_
  intro a henv
  rw [show (decide (((n0 : Nat) : Int) > (16384 : Int))) = false from (decide_eq_false (by omega))] at henv
  revert a
  refine sA (v := .bool false) rfl (fun _ henv => rn_pick henv rfl rfl) ?_
  refine mA rfl rfl ?_
  refine gA (v := .pointer (some ⟨g51, 3, none⟩)) rfl rfl rfl rfl (fun _ henv => rn_fieldAddr henv fd_anvil_api_Prog_3 (ty__int.size) (by decide) rfl) ?_
  refine gA (v := .slice A1 n1 c1) rfl rfl rfl rfl (fun _ henv => rn_load1 henv ty__int rfl (hst.oat (k := 0) rfl) rfl) ?_
  refine gA (v := .int .i64 (n1 : Nat)) rfl rfl rfl rfl (fun _ henv => rn_len henv Tryd.underlying23 rfl) ?_
  refine gA (v := .bool (decide (((n1 : Nat) : Int) < (1 : Int)))) rfl rfl rfl rfl (fun _ henv => rn_bin henv rfl rfl rfl) ?_
  intro a henv
  rw [show (decide (((n1 : Nat) : Int) < (1 : Int))) = false from (decide_eq_false (by omega))] at henv
  revert a
  refine sA (v := .bool false) rfl (fun _ henv => rn_pick henv rfl rfl) ?_
  refine mA rfl rfl ?_
  refine gA (v := .pointer (some ⟨g51, 3, none⟩)) rfl rfl rfl rfl (fun _ henv => rn_fieldAddr henv fd_anvil_api_Prog_3 (ty__int.size) (by decide) rfl) ?_
  refine gA (v := .slice A1 n1 c1) rfl rfl rfl rfl (fun _ henv => rn_load1 henv ty__int rfl (hst.oat (k := 0) rfl) rfl) ?_
  refine gA (v := .int .i64 (n1 : Nat)) rfl rfl rfl rfl (fun _ henv => rn_len henv Tryd.underlying23 rfl) ?_
  refine gA (v := .bool (decide (((n1 : Nat) : Int) > (128 : Int)))) rfl rfl rfl rfl (fun _ henv => rn_bin henv rfl rfl rfl) ?_
  intro a henv
  rw [show (decide (((n1 : Nat) : Int) > (128 : Int))) = false from (decide_eq_false (by omega))] at henv
  refine sv (v := .bool false) henv rfl (rn_pick henv rfl rfl) ?_
  clear henv a; intro a henv
  refine wpList_nil ?_
  refine th_n ?_
  refine if_f henv rfl (rfl) ?_
  refine wp_skip ?_
  refine th_n ?_
  refine wp_seq ?_
  refine wp_seq ?_
  refine region_seq ?_
  revert a
  refine sA (v := .pointer (some ⟨g51, 3, none⟩)) rfl (fun _ henv => rn_fieldAddr henv fd_anvil_api_Prog_3 (ty__int.size) (by decide) rfl) ?_
  refine sA (v := .slice A1 n1 c1) rfl (fun _ henv => rn_load1 henv ty__int rfl (hst.oat (k := 0) rfl) rfl) ?_
  refine sA (v := .int .i64 (n1 : Nat)) rfl (fun _ henv => rn_len henv Tryd.underlying23 rfl) ?_
  refine mA rfl rfl ?_
  intro a henv
  refine wpList_nil ?_
  refine th_n ?_
  refine wp_block ?_
  refine wp_loop_ghost (fun mz a w => ∃ j : Nat, n1 - j = mz ∧ Env 72 a [(1, .pointer (some ⟨g51, 0, none⟩)), (2, .int .i64 0), (3, .int .i64 0), (42, .slice A1 n1 c1), (43, .int .i64 (n1 : Nat)), (44, .int .i64 (j : Nat))] ∧ St w0 w [bk g51 #[.int .i64 i, .int .i64 g, .slice A0 n0 c0, .slice A1 n1 c1] 25] [pfRow fJ FJ 5 A0 n0 c0 es0, pfRow fI FI 1 A1 n1 c1 es1] ∧ j ≤ n1) _ ⟨0, rfl, henv.sub ⟨rfl, rfl, rfl, rfl, rfl, rfl, trivial⟩, hst.pick [0] [0, 1] (by decide), (Nat.zero_le _)⟩ ?_
  clear henv hst a
  rintro mz a w53 ⟨j, rfl, henv, hst, hj⟩
  refine wp_seq ?_
  refine region_seq ?_
  refine sv (v := .bool (decide (((j : Nat) : Int) < ((n1 : Nat) : Int)))) henv rfl (rn_bin henv rfl rfl rfl) ?_
  clear henv a; intro a henv
  refine wpList_nil ?_
  refine th_n ?_
  refine wp_seq ?_
  refine if_split henv rfl (fun hc54 => ?_) (fun hc54 => ?_)
  · have hlt : j < n1 := by have := of_decide_eq_true hc54; omega
    obtain ⟨x, he1⟩ : ∃ x, es1[j]? = some x := ⟨_, List.getElem?_eq_getElem (by omega)⟩
    have hxo := hO x (List.mem_of_getElem? he1)
    refine wp_skip ?_
    refine th_n ?_
    refine wp_seq ?_
    refine wp_block ?_
    refine wp_seq ?_
    refine region_seq ?_
    revert a
    refine sA (v := .pointer (some ⟨ab A1, ao A1 + j * 1, none⟩)) rfl (fun _ henv => rn_idxR (i := j) henv Tryd.underlying23 (ty_int.size) rfl rfl (by omega) rfl (show (pfRow fI FI 1 A1 n1 c1 es1).P _ from (hst.pat (k := 1) rfl)).1) ?_
    refine sA (v := .int .i64 x) rfl (fun _ henv => rn_loadE1 (i := j) (j := 0) (e := x) henv ty_int rfl rfl fI_len (by decide) (show (pfRow fI FI 1 A1 n1 c1 es1).P _ from (hst.pat (k := 1) rfl)).1 (by omega) he1 rfl) ?_
    refine aA rfl rfl ?_
    intro a henv
    refine wpList_nil ?_
    refine th_n ?_
    refine wp_seq ?_
    refine region_seq ?_
    revert a
    refine mA rfl rfl ?_
    refine sA (v := .bool (decide (x < (0 : Int)))) rfl (fun _ henv => rn_bin henv rfl rfl rfl) ?_
    intro a henv
    rw [show (decide (x < (0 : Int))) = false from (decide_eq_false (by omega))] at henv
    revert a
    refine mA rfl rfl ?_
    refine gA (v := .int .i64 x) rfl rfl rfl rfl (fun _ henv => rn_move henv rfl) ?_
    refine gA (v := .pointer (some ⟨g51, 1, none⟩)) rfl rfl rfl rfl (fun _ henv => rn_fieldAddr henv fd_anvil_api_Prog_1 (ty_int.size) (by decide) rfl) ?_
    refine gA (v := .int .i64 g) rfl rfl rfl rfl (fun _ henv => rn_load1 henv ty_int rfl (hst.oat (k := 0) rfl) rfl) ?_
    refine gA (v := .bool (decide (x ≥ g))) rfl rfl rfl rfl (fun _ henv => rn_bin henv rfl rfl rfl) ?_
    intro a henv
    rw [show (decide (x ≥ g)) = false from (decide_eq_false (by omega))] at henv
    refine sv (v := .bool false) henv rfl (rn_pick henv rfl rfl) ?_
    clear henv a; intro a henv
    refine wpList_nil ?_
    refine th_n ?_
    refine if_f henv rfl (rfl) ?_
    refine wp_skip ?_
    refine bl_n (th_n ?_)
    refine region_seq ?_
    revert a
    refine sA (v := .int .i64 (j + 1 : Nat)) rfl (fun _ henv => rn_add henv rfl rfl (by rw [IntWalk.i64_in _ (by omega)]; omega)) ?_
    refine mA rfl rfl ?_
    intro a henv
    refine wpList_nil ?_
    exact th_n ⟨_, (by omega), ⟨j + 1, rfl, henv.sub ⟨rfl, rfl, rfl, rfl, rfl, rfl, trivial⟩, hst.pick [0] [0, 1] (by decide), (by omega)⟩⟩
  · have hje : j = n1 := by have := of_decide_eq_false hc54; omega
    refine wp_exit ?_
    refine th_x (th_x (bl_x (th_n ?_)))
    refine wp_seq ?_
    refine wp_seq ?_
    refine region_seq ?_
    revert a
    refine sA (v := .pointer (some ⟨g51, 2, none⟩)) rfl (fun _ henv => rn_fieldAddr henv fd_anvil_api_Prog_2 (ty__api_Instr.size) (by decide) rfl) ?_
    refine sA (v := .slice A0 n0 c0) rfl (fun _ henv => rn_load1 henv ty__api_Instr rfl (hst.oat (k := 0) rfl) rfl) ?_
    refine sA (v := .int .i64 (n0 : Nat)) rfl (fun _ henv => rn_len henv Tryd.underlying22 rfl) ?_
    refine mA rfl rfl ?_
    intro a henv
    refine wpList_nil ?_
    refine th_n ?_
    refine wp_block ?_
    refine wp_loop_ghost (fun mz a w => ∃ j : Nat, n0 - j = mz ∧ Env 72 a [(1, .pointer (some ⟨g51, 0, none⟩)), (2, .int .i64 0), (3, .int .i64 0), (58, .slice A0 n0 c0), (59, .int .i64 (n0 : Nat)), (60, .int .i64 (j : Nat))] ∧ St w0 w [bk g51 #[.int .i64 i, .int .i64 g, .slice A0 n0 c0, .slice A1 n1 c1] 25] [pfRow fJ FJ 5 A0 n0 c0 es0, pfRow fI FI 1 A1 n1 c1 es1] ∧ j ≤ n0) _ ⟨0, rfl, henv.sub ⟨rfl, rfl, rfl, rfl, rfl, rfl, trivial⟩, hst.pick [0] [0, 1] (by decide), (Nat.zero_le _)⟩ ?_
    clear henv hst a
    rintro mz a w55 ⟨j, rfl, henv, hst, hj⟩
    refine wp_seq ?_
    refine region_seq ?_
    refine sv (v := .bool (decide (((j : Nat) : Int) < ((n0 : Nat) : Int)))) henv rfl (rn_bin henv rfl rfl rfl) ?_
    clear henv a; intro a henv
    refine wpList_nil ?_
    refine th_n ?_
    refine wp_seq ?_
    refine if_split henv rfl (fun hc56 => ?_) (fun hc56 => ?_)
    · have hlt : j < n0 := by have := of_decide_eq_true hc56; omega
      obtain ⟨⟨op, tr, ra, rb, cn⟩, he0⟩ : ∃ e, es0[j]? = some e := ⟨_, List.getElem?_eq_getElem (by omega)⟩
      have hmy : May (op, tr, ra, rb, cn) g := hM _ (List.mem_of_getElem? he0)
      refine wp_skip ?_
      refine th_n ?_
      refine wp_seq ?_
      refine wp_block ?_
      refine wp_seq ?_
      refine region_seq ?_
      revert a
      refine mA rfl rfl ?_
      refine sA (v := .pointer (some ⟨ab A0, ao A0 + j * 5, none⟩)) rfl (fun _ henv => rn_idxR (i := j) henv Tryd.underlying22 (ty_anvil_api_Instr.size) rfl rfl (by omega) rfl (show (pfRow fJ FJ 5 A0 n0 c0 es0).P _ from (hst.pat (k := 0) rfl)).1) ?_
      refine sA (v := .agg #[.int .i64 op, .int .i64 tr, .int .i64 ra, .int .i64 rb, .int .i64 cn]) rfl (fun _ henv => rn_loadE (i := j) (e := (op, tr, ra, rb, cn)) henv ty_anvil_api_Instr rfl rfl fJ_len (show (pfRow fJ FJ 5 A0 n0 c0 es0).P _ from (hst.pat (k := 0) rfl)).1 (by omega) he0 rfl) ?_
      intro a henv
      refine seq_step rfl (op_alloc (c := #[.int .i64 0, .int .i64 0, .int .i64 0, .int .i64 0, .int .i64 0]) henv hst rfl zero_anvil_api_Instr rfl ?_)
      clear henv hst a; intro a w58 g57 henv hst
      refine sv (v := .int .i64 (j : Nat)) henv rfl (rn_assign henv rfl) ?_
      clear henv a; intro a henv
      refine seq_step rfl (op_store (k := 0) (c' := #[.int .i64 op, .int .i64 tr, .int .i64 ra, .int .i64 rb, .int .i64 cn]) henv hst (ty_anvil_api_Instr.size) rfl rfl rfl rfl (by simp) rfl rfl ?_)
      clear henv hst a; intro a w59 henv hst
      refine wpList_nil ?_
      refine th_n ?_
      refine wp_seq ?_
      refine region_seq ?_
      revert a
      refine sA (v := .agg #[.int .i64 op, .int .i64 tr, .int .i64 ra, .int .i64 rb, .int .i64 cn]) rfl (fun _ henv => rn_load0 henv ty_anvil_api_Instr rfl (hst.oat (k := 0) rfl) rfl) ?_
      refine sA (v := .pointer (some ⟨g51, 1, none⟩)) rfl (fun _ henv => rn_fieldAddr henv fd_anvil_api_Prog_1 (ty_int.size) (by decide) rfl) ?_
      refine sA (v := .int .i64 g) rfl (fun _ henv => rn_load1 henv ty_int rfl (hst.oat (k := 1) rfl) rfl) ?_
      intro a henv
      refine seq_step rfl (op_call henv rfl Tryd.call34 rfl (g_may (op := op) (tr := tr) (ra := ra) (rb := rb) (cn := cn) (g := g)) ?_)
      rintro e w60 ⟨rfl, hb⟩
      refine ⟨_, rfl, ?_⟩
      clear henv a; intro a henv
      replace hst := hst.call hb
      clear hb
      rw [show (decide (May (op, tr, ra, rb, cn) g)) = true from (decide_eq_true hmy)] at henv
      refine sv (v := .bool false) henv rfl (rn_un henv rfl rfl) ?_
      clear henv a; intro a henv
      refine wpList_nil ?_
      refine th_n ?_
      refine if_f henv rfl (rfl) ?_
      refine wp_skip ?_
      refine bl_n (th_n ?_)
      refine region_seq ?_
      revert a
      refine sA (v := .int .i64 (j + 1 : Nat)) rfl (fun _ henv => rn_add henv rfl rfl (by rw [IntWalk.i64_in _ (by omega)]; omega)) ?_
      refine mA rfl rfl ?_
      intro a henv
      refine wpList_nil ?_
      exact th_n ⟨_, (by omega), ⟨j + 1, rfl, henv.sub ⟨rfl, rfl, rfl, rfl, rfl, rfl, trivial⟩, hst.pick [1] [0, 1] (by decide), (by omega)⟩⟩
    · have hje : j = n0 := by have := of_decide_eq_false hc56; omega
      refine wp_exit ?_
      refine th_x (th_x (bl_x (th_n ?_)))
      refine wp_seq ?_
      refine region_seq ?_
      revert a
      refine aA rfl rfl ?_
      refine aA rfl rfl ?_
      intro a henv
      refine wpList_nil ?_
      refine th_n ?_
      refine wp_ret ?_
      refine leave henv (res2 Tryd.results11 (RV.tmp henv rfl) (RV.tmp henv rfl)) ?_
      exact ⟨rfl, hst.below⟩
set_option maxRecDepth 100000 in
set_option maxHeartbeats 4000000 in
theorem g_check_head {i g : Int} {A0 A1 : Option Addr} {n0 c0 n1 c1 : Nat} {es0 : List IE} {es1 : List Int} {w0 : World} (h0 : (pfRow fJ FJ 5 A0 n0 c0 es0).P w0) (h1 : (pfRow fI FI 1 A1 n1 c1 es1).P w0) (hH : ¬ HeadOk i g n0 n1) :
    Calls Tryd.prog 11 #[.agg #[.int .i64 i, .int .i64 g, .slice A0 n0 c0, .slice A1 n1 c1]] w0 fun e w' => e = .returned (.tuple #[.int .i64 (-1), .int .i64 80]) ∧ Below w0.heap.size w0 w' := by
  refine enter Tryd.func11 rfl Tryd.ntmps11 rfl ?_
  intro a henv hst
  have hlen0 := h0.2.1
  have hbig0 := Nat.le_trans h0.1.cap h0.1.big
  unfold maxLen at hbig0
  have hlen1 := h1.2.1
  have hbig1 := Nat.le_trans h1.1.cap h1.1.big
  unfold maxLen at hbig1
  replace hst := (hst.argRow h1).argRow h0
  clear h0 h1
  refine wp_seq ?_
  refine region_seq ?_
  refine seq_step rfl (op_box (c := #[.int .i64 i, .int .i64 g, .slice A0 n0 c0, .slice A1 n1 c1]) henv hst rfl rfl rfl ?_)
  clear henv hst a; intro a w52 g51 henv hst
  revert a
  refine aA rfl rfl ?_
  refine aA rfl rfl ?_
  intro a henv
  refine wpList_nil ?_
  refine th_n ?_
  refine wp_seq ?_
  refine wp_seq ?_
  refine region_seq ?_
  revert a
  refine sA (v := .pointer (some ⟨g51, 0, none⟩)) rfl (fun _ henv => rn_fieldAddr henv fd_anvil_api_Prog_0 (ty_int.size) (by decide) rfl) ?_
  refine sA (v := .int .i64 i) rfl (fun _ henv => rn_load1 henv ty_int rfl (hst.oat (k := 0) rfl) rfl) ?_
  refine sA (v := .bool (decide (i < (1 : Int)))) rfl (fun _ henv => rn_bin henv rfl rfl rfl) ?_
  refine mA rfl rfl ?_
  intro a henv
  rcases bool_em (decide (i < (1 : Int))) with hg53 | hg53
  · rw [hg53] at henv
    have hx54 := of_decide_eq_true hg53
    revert a
    refine kA rfl rfl rfl rfl rfl ?_
    refine kA rfl rfl rfl rfl rfl ?_
    refine kA rfl rfl rfl rfl rfl ?_
    refine kA rfl rfl rfl rfl rfl ?_
    refine kA rfl rfl rfl rfl rfl ?_
    refine sA (v := .bool true) rfl (fun _ henv => rn_pick henv rfl rfl) ?_
    refine mA rfl rfl ?_
    refine kA rfl rfl rfl rfl rfl ?_
    refine kA rfl rfl rfl rfl rfl ?_
    refine kA rfl rfl rfl rfl rfl ?_
    refine sA (v := .bool true) rfl (fun _ henv => rn_pick henv rfl rfl) ?_
    refine mA rfl rfl ?_
    refine kA rfl rfl rfl rfl rfl ?_
    refine kA rfl rfl rfl rfl rfl ?_
    refine kA rfl rfl rfl rfl rfl ?_
    refine kA rfl rfl rfl rfl rfl ?_
    refine sA (v := .bool true) rfl (fun _ henv => rn_pick henv rfl rfl) ?_
    refine mA rfl rfl ?_
    refine kA rfl rfl rfl rfl rfl ?_
    refine kA rfl rfl rfl rfl rfl ?_
    refine kA rfl rfl rfl rfl rfl ?_
    refine kA rfl rfl rfl rfl rfl ?_
    refine sA (v := .bool true) rfl (fun _ henv => rn_pick henv rfl rfl) ?_
    refine mA rfl rfl ?_
    refine kA rfl rfl rfl rfl rfl ?_
    refine kA rfl rfl rfl rfl rfl ?_
    refine kA rfl rfl rfl rfl rfl ?_
    refine kA rfl rfl rfl rfl rfl ?_
    refine sA (v := .bool true) rfl (fun _ henv => rn_pick henv rfl rfl) ?_
    intro a henv
    refine wpList_nil ?_
    refine th_n ?_
    refine if_t henv rfl (rfl) ?_
    refine wp_seq ?_
    refine region_seq ?_
    revert a
    refine aA rfl rfl ?_
    refine aA rfl rfl ?_
    intro a henv
    refine wpList_nil ?_
    refine th_n ?_
    refine wp_ret ?_
    refine th_r ?_
    refine leave henv (res2 Tryd.results11 (RV.tmp henv rfl) (RV.tmp henv rfl)) ?_
    exact ⟨rfl, hst.below⟩
  · rw [hg53] at henv
    have hx55 := of_decide_eq_false hg53
    revert a
    refine gA (v := .pointer (some ⟨g51, 0, none⟩)) rfl rfl rfl rfl (fun _ henv => rn_fieldAddr henv fd_anvil_api_Prog_0 (ty_int.size) (by decide) rfl) ?_
    refine gA (v := .int .i64 i) rfl rfl rfl rfl (fun _ henv => rn_load1 henv ty_int rfl (hst.oat (k := 0) rfl) rfl) ?_
    refine gA (v := .pointer (some ⟨g51, 1, none⟩)) rfl rfl rfl rfl (fun _ henv => rn_fieldAddr henv fd_anvil_api_Prog_1 (ty_int.size) (by decide) rfl) ?_
    refine gA (v := .int .i64 g) rfl rfl rfl rfl (fun _ henv => rn_load1 henv ty_int rfl (hst.oat (k := 0) rfl) rfl) ?_
    refine gA (v := .bool (decide (i > g))) rfl rfl rfl rfl (fun _ henv => rn_bin henv rfl rfl rfl) ?_
    refine sA (v := .bool (decide (i > g))) rfl (fun _ henv => rn_pick henv rfl rfl) ?_
    refine mA rfl rfl ?_
    intro a henv
    rcases bool_em (decide (i > g)) with hg56 | hg56
    · rw [hg56] at henv
      have hx57 := of_decide_eq_true hg56
      revert a
      refine kA rfl rfl rfl rfl rfl ?_
      refine kA rfl rfl rfl rfl rfl ?_
      refine kA rfl rfl rfl rfl rfl ?_
      refine sA (v := .bool true) rfl (fun _ henv => rn_pick henv rfl rfl) ?_
      refine mA rfl rfl ?_
      refine kA rfl rfl rfl rfl rfl ?_
      refine kA rfl rfl rfl rfl rfl ?_
      refine kA rfl rfl rfl rfl rfl ?_
      refine kA rfl rfl rfl rfl rfl ?_
      refine sA (v := .bool true) rfl (fun _ henv => rn_pick henv rfl rfl) ?_
      refine mA rfl rfl ?_
      refine kA rfl rfl rfl rfl rfl ?_
      refine kA rfl rfl rfl rfl rfl ?_
      refine kA rfl rfl rfl rfl rfl ?_
      refine kA rfl rfl rfl rfl rfl ?_
      refine sA (v := .bool true) rfl (fun _ henv => rn_pick henv rfl rfl) ?_
      refine mA rfl rfl ?_
      refine kA rfl rfl rfl rfl rfl ?_
      refine kA rfl rfl rfl rfl rfl ?_
      refine kA rfl rfl rfl rfl rfl ?_
      refine kA rfl rfl rfl rfl rfl ?_
      refine sA (v := .bool true) rfl (fun _ henv => rn_pick henv rfl rfl) ?_
      intro a henv
      refine wpList_nil ?_
      refine th_n ?_
      refine if_t henv rfl (rfl) ?_
      refine wp_seq ?_
      refine region_seq ?_
      revert a
      refine aA rfl rfl ?_
      refine aA rfl rfl ?_
      intro a henv
      refine wpList_nil ?_
      refine th_n ?_
      refine wp_ret ?_
      refine th_r ?_
      refine leave henv (res2 Tryd.results11 (RV.tmp henv rfl) (RV.tmp henv rfl)) ?_
      exact ⟨rfl, hst.below⟩
    · rw [hg56] at henv
      have hx58 := of_decide_eq_false hg56
      revert a
      refine gA (v := .pointer (some ⟨g51, 1, none⟩)) rfl rfl rfl rfl (fun _ henv => rn_fieldAddr henv fd_anvil_api_Prog_1 (ty_int.size) (by decide) rfl) ?_
      refine gA (v := .int .i64 g) rfl rfl rfl rfl (fun _ henv => rn_load1 henv ty_int rfl (hst.oat (k := 0) rfl) rfl) ?_
      refine gA (v := .bool (decide (g > (128 : Int)))) rfl rfl rfl rfl (fun _ henv => rn_bin henv rfl rfl rfl) ?_
      refine sA (v := .bool (decide (g > (128 : Int)))) rfl (fun _ henv => rn_pick henv rfl rfl) ?_
      refine mA rfl rfl ?_
      intro a henv
      rcases bool_em (decide (g > (128 : Int))) with hg59 | hg59
      · rw [hg59] at henv
        have hx60 := of_decide_eq_true hg59
        revert a
        refine kA rfl rfl rfl rfl rfl ?_
        refine kA rfl rfl rfl rfl rfl ?_
        refine kA rfl rfl rfl rfl rfl ?_
        refine kA rfl rfl rfl rfl rfl ?_
        refine sA (v := .bool true) rfl (fun _ henv => rn_pick henv rfl rfl) ?_
        refine mA rfl rfl ?_
        refine kA rfl rfl rfl rfl rfl ?_
        refine kA rfl rfl rfl rfl rfl ?_
        refine kA rfl rfl rfl rfl rfl ?_
        refine kA rfl rfl rfl rfl rfl ?_
        refine sA (v := .bool true) rfl (fun _ henv => rn_pick henv rfl rfl) ?_
        refine mA rfl rfl ?_
        refine kA rfl rfl rfl rfl rfl ?_
        refine kA rfl rfl rfl rfl rfl ?_
        refine kA rfl rfl rfl rfl rfl ?_
        refine kA rfl rfl rfl rfl rfl ?_
        refine sA (v := .bool true) rfl (fun _ henv => rn_pick henv rfl rfl) ?_
        intro a henv
        refine wpList_nil ?_
        refine th_n ?_
        refine if_t henv rfl (rfl) ?_
        refine wp_seq ?_
        refine region_seq ?_
        revert a
        refine aA rfl rfl ?_
        refine aA rfl rfl ?_
        intro a henv
        refine wpList_nil ?_
        refine th_n ?_
        refine wp_ret ?_
        refine th_r ?_
        refine leave henv (res2 Tryd.results11 (RV.tmp henv rfl) (RV.tmp henv rfl)) ?_
        exact ⟨rfl, hst.below⟩
      · rw [hg59] at henv
        have hx61 := of_decide_eq_false hg59
        revert a
        refine gA (v := .pointer (some ⟨g51, 2, none⟩)) rfl rfl rfl rfl (fun _ henv => rn_fieldAddr henv fd_anvil_api_Prog_2 (ty__api_Instr.size) (by decide) rfl) ?_
        refine gA (v := .slice A0 n0 c0) rfl rfl rfl rfl (fun _ henv => rn_load1 henv ty__api_Instr rfl (hst.oat (k := 0) rfl) rfl) ?_
        refine gA (v := .int .i64 (n0 : Nat)) rfl rfl rfl rfl (fun _ henv => rn_len henv Tryd.underlying22 rfl) ?_
        refine gA (v := .bool (decide (((n0 : Nat) : Int) > (16384 : Int)))) rfl rfl rfl rfl (fun _ henv => rn_bin henv rfl rfl rfl) ?_
        refine sA (v := .bool (decide (((n0 : Nat) : Int) > (16384 : Int)))) rfl (fun _ henv => rn_pick henv rfl rfl) ?_
        refine mA rfl rfl ?_
        intro a henv
        rcases bool_em (decide (((n0 : Nat) : Int) > (16384 : Int))) with hg62 | hg62
        · rw [hg62] at henv
          have hx63 := of_decide_eq_true hg62
          revert a
          refine kA rfl rfl rfl rfl rfl ?_
          refine kA rfl rfl rfl rfl rfl ?_
          refine kA rfl rfl rfl rfl rfl ?_
          refine kA rfl rfl rfl rfl rfl ?_
          refine sA (v := .bool true) rfl (fun _ henv => rn_pick henv rfl rfl) ?_
          refine mA rfl rfl ?_
          refine kA rfl rfl rfl rfl rfl ?_
          refine kA rfl rfl rfl rfl rfl ?_
          refine kA rfl rfl rfl rfl rfl ?_
          refine kA rfl rfl rfl rfl rfl ?_
          refine sA (v := .bool true) rfl (fun _ henv => rn_pick henv rfl rfl) ?_
          intro a henv
          refine wpList_nil ?_
          refine th_n ?_
          refine if_t henv rfl (rfl) ?_
          refine wp_seq ?_
          refine region_seq ?_
          revert a
          refine aA rfl rfl ?_
          refine aA rfl rfl ?_
          intro a henv
          refine wpList_nil ?_
          refine th_n ?_
          refine wp_ret ?_
          refine th_r ?_
          refine leave henv (res2 Tryd.results11 (RV.tmp henv rfl) (RV.tmp henv rfl)) ?_
          exact ⟨rfl, hst.below⟩
        · rw [hg62] at henv
          have hx64 := of_decide_eq_false hg62
          revert a
          refine gA (v := .pointer (some ⟨g51, 3, none⟩)) rfl rfl rfl rfl (fun _ henv => rn_fieldAddr henv fd_anvil_api_Prog_3 (ty__int.size) (by decide) rfl) ?_
          refine gA (v := .slice A1 n1 c1) rfl rfl rfl rfl (fun _ henv => rn_load1 henv ty__int rfl (hst.oat (k := 0) rfl) rfl) ?_
          refine gA (v := .int .i64 (n1 : Nat)) rfl rfl rfl rfl (fun _ henv => rn_len henv Tryd.underlying23 rfl) ?_
          refine gA (v := .bool (decide (((n1 : Nat) : Int) < (1 : Int)))) rfl rfl rfl rfl (fun _ henv => rn_bin henv rfl rfl rfl) ?_
          refine sA (v := .bool (decide (((n1 : Nat) : Int) < (1 : Int)))) rfl (fun _ henv => rn_pick henv rfl rfl) ?_
          refine mA rfl rfl ?_
          intro a henv
          rcases bool_em (decide (((n1 : Nat) : Int) < (1 : Int))) with hg65 | hg65
          · rw [hg65] at henv
            have hx66 := of_decide_eq_true hg65
            revert a
            refine kA rfl rfl rfl rfl rfl ?_
            refine kA rfl rfl rfl rfl rfl ?_
            refine kA rfl rfl rfl rfl rfl ?_
            refine kA rfl rfl rfl rfl rfl ?_
            refine sA (v := .bool true) rfl (fun _ henv => rn_pick henv rfl rfl) ?_
            intro a henv
            refine wpList_nil ?_
            refine th_n ?_
            refine if_t henv rfl (rfl) ?_
            refine wp_seq ?_
            refine region_seq ?_
            revert a
            refine aA rfl rfl ?_
            refine aA rfl rfl ?_
            intro a henv
            refine wpList_nil ?_
            refine th_n ?_
            refine wp_ret ?_
            refine th_r ?_
            refine leave henv (res2 Tryd.results11 (RV.tmp henv rfl) (RV.tmp henv rfl)) ?_
            exact ⟨rfl, hst.below⟩
          · rw [hg65] at henv
            have hx67 := of_decide_eq_false hg65
            revert a
            refine gA (v := .pointer (some ⟨g51, 3, none⟩)) rfl rfl rfl rfl (fun _ henv => rn_fieldAddr henv fd_anvil_api_Prog_3 (ty__int.size) (by decide) rfl) ?_
            refine gA (v := .slice A1 n1 c1) rfl rfl rfl rfl (fun _ henv => rn_load1 henv ty__int rfl (hst.oat (k := 0) rfl) rfl) ?_
            refine gA (v := .int .i64 (n1 : Nat)) rfl rfl rfl rfl (fun _ henv => rn_len henv Tryd.underlying23 rfl) ?_
            refine gA (v := .bool (decide (((n1 : Nat) : Int) > (128 : Int)))) rfl rfl rfl rfl (fun _ henv => rn_bin henv rfl rfl rfl) ?_
            refine sA (v := .bool (decide (((n1 : Nat) : Int) > (128 : Int)))) rfl (fun _ henv => rn_pick henv rfl rfl) ?_
            intro a henv
            refine wpList_nil ?_
            refine th_n ?_
            refine if_split henv rfl (fun hc68 => ?_) (fun hc68 => ?_)
            · have hx69 := of_decide_eq_true hc68
              refine wp_seq ?_
              refine region_seq ?_
              revert a
              refine aA rfl rfl ?_
              refine aA rfl rfl ?_
              intro a henv
              refine wpList_nil ?_
              refine th_n ?_
              refine wp_ret ?_
              refine th_r ?_
              refine leave henv (res2 Tryd.results11 (RV.tmp henv rfl) (RV.tmp henv rfl)) ?_
              exact ⟨rfl, hst.below⟩
            · have hx70 := of_decide_eq_false hc68
              exfalso; unfold HeadOk at hH; omega
theorem g_check_ok_ {i g : Int} {A0 A1 : Option Addr} {n0 c0 n1 c1 : Nat} {es0 : List IE} {es1 : List Int} {w0 : World} (h0 : (pfRow fJ FJ 5 A0 n0 c0 es0).P w0) (h1 : (pfRow fI FI 1 A1 n1 c1 es1).P w0) (hR : Right i g n0 n1 es0 es1) :
    Calls Tryd.prog 11 #[.agg #[.int .i64 i, .int .i64 g, .slice A0 n0 c0, .slice A1 n1 c1]] w0 fun e w' => e = .returned (.tuple #[.int .i64 0, .int .i64 0]) ∧ Below w0.heap.size w0 w' := g_check_ok h0 h1 hR.1 hR.2.1 hR.2.2
set_option maxRecDepth 100000 in
set_option maxHeartbeats 2000000 in
theorem g_right_ok {i g : Int} {A0 A1 : Option Addr} {n0 c0 n1 c1 : Nat} {es0 : List IE} {es1 : List Int} {w0 : World} (h0 : (pfRow fJ FJ 5 A0 n0 c0 es0).P w0) (h1 : (pfRow fI FI 1 A1 n1 c1 es1).P w0) (hR : Right i g n0 n1 es0 es1) :
    Calls Tryd.prog 37 #[.agg #[.int .i64 i, .int .i64 g, .slice A0 n0 c0, .slice A1 n1 c1]] w0 fun e w' => e = .returned (.bool true) ∧ Below w0.heap.size w0 w' := by
  refine enter Tryd.func37 rfl Tryd.ntmps37 rfl ?_
  intro a henv hst
  have hlen0 := h0.2.1
  have hbig0 := Nat.le_trans h0.1.cap h0.1.big
  unfold maxLen at hbig0
  have hlen1 := h1.2.1
  have hbig1 := Nat.le_trans h1.1.cap h1.1.big
  unfold maxLen at hbig1
  replace hst := (hst.argRow h1).argRow h0
  clear h0 h1
  refine wp_seq ?_
  refine region_seq ?_
  refine seq_step rfl (op_box (c := #[.int .i64 i, .int .i64 g, .slice A0 n0 c0, .slice A1 n1 c1]) henv hst rfl rfl rfl ?_)
  clear henv hst a; intro a w52 g51 henv hst
  refine sv (v := .bool false) henv rfl (rn_assign henv rfl) ?_
  clear henv a; intro a henv
  refine wpList_nil ?_
  refine th_n ?_
  refine wp_seq ?_
  refine region_seq ?_
  refine sv (v := .agg #[.int .i64 i, .int .i64 g, .slice A0 n0 c0, .slice A1 n1 c1]) henv rfl (rn_load0 henv ty_anvil_api_Prog rfl (hst.oat (k := 0) rfl) rfl) ?_
  clear henv a; intro a henv
  refine seq_step rfl (op_call henv rfl Tryd.call11 rfl (g_check_ok_ (hst.pat (k := 0) rfl) (hst.pat (k := 1) rfl) hR) ?_)
  rintro e w53 ⟨rfl, hb⟩
  refine ⟨_, rfl, ?_⟩
  clear henv a; intro a henv
  replace hst := hst.call hb
  clear hb
  revert a
  refine mA rfl rfl ?_
  refine sA (v := .int .i64 0) rfl (fun _ henv => rn_extract henv rfl rfl) ?_
  refine sA (v := .int .i64 0) rfl (fun _ henv => rn_extract henv rfl rfl) ?_
  refine aA rfl rfl ?_
  refine aA rfl rfl ?_
  intro a henv
  refine wpList_nil ?_
  refine th_n ?_
  refine wp_seq ?_
  refine region_seq ?_
  revert a
  refine mA rfl rfl ?_
  refine sA (v := .bool true) rfl (fun _ henv => rn_bin henv rfl rfl rfl) ?_
  refine aA rfl rfl ?_
  intro a henv
  refine wpList_nil ?_
  refine th_n ?_
  refine wp_ret ?_
  refine leave henv (res1 Tryd.results37 (RV.tmp henv rfl)) ?_
  exact ⟨rfl, hst.below⟩
end Go.Proofs.YtbdngknpngcojaaDoor.W

/- strconv.Itoa of one digit, live; ProgChecks. Printed by pv/gen_g2.py. No condition. -/
namespace Go.Proofs.YtbdngknpngcojaaDoor.W
open Go.RowKit Anv Go.Lib
theorem small_text {n : Nat} (h : n < 10) : (([48, 49, 50, 51, 52, 53, 54, 55, 56, 57, 97, 98, 99, 100, 101, 102, 103, 104, 105, 106, 107, 108, 109, 110, 111, 112, 113, 114, 115, 116, 117, 118, 119, 120, 121, 122] : List UInt8).drop n).take (n + 1 - n) = textZ (n : Nat) := by
  have : ∀ m : Fin 10, (([48, 49, 50, 51, 52, 53, 54, 55, 56, 57, 97, 98, 99, 100, 101, 102, 103, 104, 105, 106, 107, 108, 109, 110, 111, 112, 113, 114, 115, 116, 117, 118, 119, 120, 121, 122] : List UInt8).drop m.1).take (m.1 + 1 - m.1) = textZ (m.1 : Nat) := by decide +kernel
  exact this ⟨n, h⟩
theorem tz1 : textZ 1 = [49] := by decide +kernel
theorem tz0 : textZ 0 = [48] := by decide +kernel
def outT (r : Int) : List UInt8 := 32 :: 114 :: textZ r
theorem one_out : ((([0] : List Int).take 0).flatMap outT) = [] := rfl
theorem one_outs : (([0] : List Int).take 1).flatMap outT = [32, 114, 48] := by simp [outT, tz0]
theorem out_step {X : List UInt8} {es : List Int} {j : Nat} (h : es[j]? = some 0) : (X ++ (es.take j).flatMap outT) ++ ([32] ++ [114, 48]) = X ++ (es.take (j + 1)).flatMap outT := by
  rw [take_one h, List.flatMap_append, List.append_assoc, show ([0] : List Int).flatMap outT = [32] ++ [114, 48] by simp [outT, tz0]]
theorem right_one : Right 1 1 0 1 [] [0] := ⟨by unfold HeadOk; omega, fun x hx => by rw [List.mem_singleton.1 hx]; omega, fun e h => by cases h⟩
section
variable {N : Nat} {dq : List Deferred} {a : Act} {l : List (Nat × Value)} {w : World} {d : Nat} {ty : TypeId} {pos : String} {af : Array Edge} {gd : Option (Nat × Bool)}
theorem rn_prog013 {x0 x1 x3 : Operand} {v0 : Int} {v1 : Int} {A3 : Option Addr} {n3 c3 : Nat} (h : EnvD dq N a l) (h0 : evl l x0 = some (.int .i64 v0)) (h1 : evl l x1 = some (.int .i64 v1)) (h3 : evl l x3 = some (.slice A3 n3 c3)) :
    (execOp a.eval ⟨some d, .build 25 #[(0, x0), (1, x1), (3, x3)], ty, pos, af, gd⟩).run Tryd.prog w = .ok (.value (.agg #[.int .i64 v0, .int .i64 v1, .slice none 0 0, .slice A3 n3 c3])) w := by
  have hz : (zeroValue 25).run Tryd.prog w = .ok (.agg #[.int .i64 0, .int .i64 0, .slice none 0 0, .slice none 0 0]) w := by obtain ⟨i, hi, hv⟩ := zero_anvil_api_Prog; simp [zeroValue, typeInfo, hi, hv]
  simp [execOp, h.ev h0, h.ev h1, h.ev h3, Instr.build, hz, run_underlying Tryd.underlying25, Sem.run_bind, run_sizeOf ty_int.size, run_sizeOf ty__api_Instr.size, run_sizeOf ty__int.size, Instr.fill, Value.cells]
end
set_option maxRecDepth 100000 in
set_option maxHeartbeats 2000000 in
theorem g_small {n : Nat} {w0 : World} (hn : n < 10) :
    Calls Tryd.prog 78 #[.int .i64 (n : Nat)] w0 fun e w' => e = .returned (.string ⟨(textZ (n : Nat)).toArray⟩) ∧ Below w0.heap.size w0 w' := by
  refine enter Tryd.func78 rfl Tryd.ntmps78 rfl ?_
  intro a henv hst
  refine wp_seq ?_
  refine region_seq ?_
  refine sv (v := .string ⟨#[]⟩) henv rfl (rn_assign henv rfl) ?_
  clear henv a; intro a henv
  refine wpList_nil ?_
  refine th_n ?_
  refine wp_seq ?_
  refine wp_seq ?_
  refine region_seq ?_
  revert a
  refine mA rfl rfl ?_
  refine sA (v := .bool (decide (((n : Nat) : Int) < (10 : Int)))) rfl (fun _ henv => rn_bin henv rfl rfl rfl) ?_
  intro a henv
  rw [show (decide (((n : Nat) : Int) < (10 : Int))) = true from (decide_eq_true (by omega))] at henv
  refine wpList_nil ?_
  refine th_n ?_
  refine if_t henv rfl (rfl) ?_
  refine wp_seq ?_
  refine region_seq ?_
  revert a
  refine mA rfl rfl ?_
  refine mA rfl rfl ?_
  refine sA (v := .int .i64 (n + 1 : Nat)) rfl (fun _ henv => rn_add henv rfl rfl (by rw [IntWalk.i64_in _ (by omega)]; omega)) ?_
  refine sA (v := .string ⟨((([48, 49, 50, 51, 52, 53, 54, 55, 56, 57, 97, 98, 99, 100, 101, 102, 103, 104, 105, 106, 107, 108, 109, 110, 111, 112, 113, 114, 115, 116, 117, 118, 119, 120, 121, 122]).drop n).take ((n + 1) - n)).toArray⟩) rfl (fun _ henv => rn_cutS (n := n) (m := n + 1) henv Tryd.underlying9 rfl rfl rfl (by (try simp only [List.length_append, List.length_cons, List.length_nil, tz1, tz0]); omega) (by (try simp only [List.length_append, List.length_cons, List.length_nil, tz1, tz0]); omega)) ?_
  refine aA rfl rfl ?_
  intro a henv
  refine wpList_nil ?_
  refine th_n ?_
  refine wp_ret ?_
  refine th_r ?_
  refine leave henv (res1 Tryd.results78 (RV.tmp henv rfl)) ?_
  exact ⟨by rw [small_text hn], hst.below⟩
set_option maxRecDepth 100000 in
set_option maxHeartbeats 2000000 in
theorem g_format {n : Nat} {w0 : World} (hn : n < 10) :
    Calls Tryd.prog 71 #[.int .i64 (n : Nat), .int .i64 10] w0 fun e w' => e = .returned (.string ⟨(textZ (n : Nat)).toArray⟩) ∧ Below w0.heap.size w0 w' := by
  refine enter Tryd.func71 rfl Tryd.ntmps71 rfl ?_
  intro a henv hst
  refine wp_seq ?_
  refine region_seq ?_
  refine sv (v := .string ⟨#[]⟩) henv rfl (rn_assign henv rfl) ?_
  clear henv a; intro a henv
  refine wpList_nil ?_
  refine th_n ?_
  refine wp_seq ?_
  refine wp_seq ?_
  refine region_seq ?_
  revert a
  refine mA rfl rfl ?_
  refine sA (v := .bool true) rfl (fun _ henv => rn_bin henv rfl rfl rfl) ?_
  intro a henv
  refine wpList_nil ?_
  refine th_n ?_
  refine if_t henv rfl (rfl) ?_
  refine wp_seq ?_
  refine wp_seq ?_
  refine region_seq ?_
  revert a
  refine mA rfl rfl ?_
  refine sA (v := .bool (decide ((0 : Int) ≤ ((n : Nat) : Int)))) rfl (fun _ henv => rn_bin henv rfl rfl rfl) ?_
  intro a henv
  rw [show (decide ((0 : Int) ≤ ((n : Nat) : Int))) = true from (decide_eq_true (by omega))] at henv
  revert a
  refine mA rfl rfl ?_
  refine gA (v := .int .i64 (n : Nat)) rfl rfl rfl rfl (fun _ henv => rn_move henv rfl) ?_
  refine gA (v := .bool (decide (((n : Nat) : Int) < (100 : Int)))) rfl rfl rfl rfl (fun _ henv => rn_bin henv rfl rfl rfl) ?_
  intro a henv
  rw [show (decide (((n : Nat) : Int) < (100 : Int))) = true from (decide_eq_true (by omega))] at henv
  refine sv (v := .bool true) henv rfl (rn_pick henv rfl rfl) ?_
  clear henv a; intro a henv
  refine wpList_nil ?_
  refine th_n ?_
  refine if_t henv rfl (rfl) ?_
  refine wp_seq ?_
  refine region_seq ?_
  refine sv (v := .int .i64 (n : Nat)) henv rfl (rn_move henv rfl) ?_
  clear henv a; intro a henv
  refine seq_step rfl (op_call henv rfl Tryd.call78 rfl (g_small hn) ?_)
  rintro e w51 ⟨rfl, hb⟩
  refine ⟨_, rfl, ?_⟩
  clear henv a; intro a henv
  replace hst := hst.call hb
  clear hb
  refine sv (v := .string ⟨(textZ (n : Nat)).toArray⟩) henv rfl (rn_assign henv rfl) ?_
  clear henv a; intro a henv
  refine wpList_nil ?_
  refine th_n ?_
  refine wp_ret ?_
  refine th_r (th_r ?_)
  refine leave henv (res1 Tryd.results71 (RV.tmp henv rfl)) ?_
  exact ⟨rfl, hst.below⟩
set_option maxRecDepth 100000 in
set_option maxHeartbeats 2000000 in
theorem g_itoa0 {n : Nat} {w0 : World} (hn : n < 10) :
    Calls Tryd.prog 61 #[.int .i64 (n : Nat)] w0 fun e w' => e = .returned (.string ⟨(textZ (n : Nat)).toArray⟩) ∧ Below w0.heap.size w0 w' := by
  refine enter Tryd.func61 rfl Tryd.ntmps61 rfl ?_
  intro a henv hst
  refine wp_seq ?_
  refine region_seq ?_
  refine sv (v := .string ⟨#[]⟩) henv rfl (rn_assign henv rfl) ?_
  clear henv a; intro a henv
  refine wpList_nil ?_
  refine th_n ?_
  refine wp_seq ?_
  refine region_seq ?_
  refine sv (v := .int .i64 (n : Nat)) henv rfl (rn_move henv rfl) ?_
  clear henv a; intro a henv
  refine seq_step rfl (op_call henv rfl Tryd.call71 rfl (g_format hn) ?_)
  rintro e w51 ⟨rfl, hb⟩
  refine ⟨_, rfl, ?_⟩
  clear henv a; intro a henv
  replace hst := hst.call hb
  clear hb
  refine sv (v := .string ⟨(textZ (n : Nat)).toArray⟩) henv rfl (rn_assign henv rfl) ?_
  clear henv a; intro a henv
  refine wpList_nil ?_
  refine th_n ?_
  refine wp_ret ?_
  refine leave henv (res1 Tryd.results61 (RV.tmp henv rfl)) ?_
  exact ⟨rfl, hst.below⟩
set_option maxRecDepth 100000 in
set_option maxHeartbeats 2000000 in
theorem g_itoa {n : Nat} {w0 : World} (hn : n < 10) :
    Calls Tryd.prog 45 #[.int .i64 (n : Nat)] w0 fun e w' => e = .returned (.string ⟨(textZ (n : Nat)).toArray⟩) ∧ Below w0.heap.size w0 w' := by
  refine enter Tryd.func45 rfl Tryd.ntmps45 rfl ?_
  intro a henv hst
  refine wp_seq ?_
  refine region_seq ?_
  refine sv (v := .string ⟨#[]⟩) henv rfl (rn_assign henv rfl) ?_
  clear henv a; intro a henv
  refine wpList_nil ?_
  refine th_n ?_
  refine wp_seq ?_
  refine region_seq ?_
  refine sv (v := .int .i64 (n : Nat)) henv rfl (rn_move henv rfl) ?_
  clear henv a; intro a henv
  refine seq_step rfl (op_call henv rfl Tryd.call61 rfl (g_itoa0 hn) ?_)
  rintro e w51 ⟨rfl, hb⟩
  refine ⟨_, rfl, ?_⟩
  clear henv a; intro a henv
  replace hst := hst.call hb
  clear hb
  refine sv (v := .string ⟨(textZ (n : Nat)).toArray⟩) henv rfl (rn_assign henv rfl) ?_
  clear henv a; intro a henv
  refine wpList_nil ?_
  refine th_n ?_
  refine wp_ret ?_
  refine leave henv (res1 Tryd.results45 (RV.tmp henv rfl)) ?_
  exact ⟨rfl, hst.below⟩
set_option maxRecDepth 100000 in
set_option maxHeartbeats 2000000 in
theorem g_reg0 {w0 : World} :
    Calls Tryd.prog 47 #[.int .i64 0] w0 fun e w' => e = .returned (.string ⟨[114, 48].toArray⟩) ∧ Below w0.heap.size w0 w' := by
  refine enter Tryd.func47 rfl Tryd.ntmps47 rfl ?_
  intro a henv hst
  refine wp_seq ?_
  refine region_seq ?_
  refine sv (v := .string ⟨#[]⟩) henv rfl (rn_assign henv rfl) ?_
  clear henv a; intro a henv
  refine wpList_nil ?_
  refine th_n ?_
  refine wp_seq ?_
  refine region_seq ?_
  refine sv (v := .int .i64 0) henv rfl (rn_move henv rfl) ?_
  clear henv a; intro a henv
  refine seq_step rfl (op_call henv rfl Tryd.call45 rfl (g_itoa (n := 0) (by decide)) ?_)
  rintro e w51 ⟨rfl, hb⟩
  refine ⟨_, rfl, ?_⟩
  clear henv a; intro a henv
  replace hst := hst.call hb
  clear hb
  revert a
  refine sA (v := .string ⟨(([114]) ++ (textZ (0 : Int))).toArray⟩) rfl (fun _ henv => rn_catS (s := [114]) (t := (textZ (0 : Int))) henv rfl rfl (by (try simp only [List.length_append, List.length_cons, List.length_nil, tz1, tz0]); omega)) ?_
  refine aA rfl rfl ?_
  intro a henv
  refine wpList_nil ?_
  refine th_n ?_
  refine wp_ret ?_
  refine leave henv (res1 Tryd.results47 (RV.tmp henv rfl)) ?_
  exact ⟨by rw [show textZ 0 = [48] by decide +kernel]; rfl, hst.below⟩
set_option maxRecDepth 100000 in
set_option maxHeartbeats 4000000 in
theorem g_text1 {A1 : Option Addr} {c1 : Nat} {w0 : World} (h1 : (pfRow fI FI 1 A1 1 c1 ([0])).P w0) :
    Calls Tryd.prog 31 #[.agg #[.int .i64 1, .int .i64 1, .slice none 0 0, .slice A1 1 c1]] w0 fun e w' => e = .returned (.tuple #[.string ⟨[105, 110, 32, 49, 32, 114, 101, 103, 115, 32, 49, 10, 111, 117, 116, 32, 114, 48, 10].toArray⟩, .int .i64 0]) ∧ Below w0.heap.size w0 w' := by
  refine enter Tryd.func31 rfl Tryd.ntmps31 rfl ?_
  intro a henv hst
  replace hst := hst.argRow h1
  refine wp_seq ?_
  refine region_seq ?_
  refine seq_step rfl (op_box (c := #[.int .i64 1, .int .i64 1, .slice none 0 0, .slice A1 1 c1]) henv hst rfl rfl rfl ?_)
  clear henv hst a; intro a w52 g51 henv hst
  revert a
  refine aA rfl rfl ?_
  refine aA rfl rfl ?_
  intro a henv
  refine wpList_nil ?_
  refine th_n ?_
  refine wp_seq ?_
  refine wp_seq ?_
  refine region_seq ?_
  refine sv (v := .agg #[.int .i64 1, .int .i64 1, .slice none 0 0, .slice A1 1 c1]) henv rfl (rn_load0 henv ty_anvil_api_Prog rfl (hst.oat (k := 0) rfl) rfl) ?_
  clear henv a; intro a henv
  refine seq_step rfl (op_call henv rfl Tryd.call37 rfl (g_right_ok (es0 := []) (es1 := [0]) (row_nil fJ FJ 5 _) (hst.pat (k := 0) rfl) right_one) ?_)
  rintro e w53 ⟨rfl, hb⟩
  refine ⟨_, rfl, ?_⟩
  clear henv a; intro a henv
  replace hst := hst.call hb
  clear hb
  refine sv (v := .bool false) henv rfl (rn_un henv rfl rfl) ?_
  clear henv a; intro a henv
  refine wpList_nil ?_
  refine th_n ?_
  refine if_f henv rfl (rfl) ?_
  refine wp_skip ?_
  refine th_n ?_
  refine wp_seq ?_
  refine region_seq ?_
  refine seq_step rfl (op_alloc (c := #[.pointer none, .slice none 0 0]) henv hst rfl zero_strings_Builder rfl ?_)
  clear henv hst a; intro a w55 g54 henv hst
  refine wpList_nil ?_
  replace hst := hst.bld (k := 0) rfl
  replace hst : St w0 _ [bldF g54 (.slice none 0 0) ([] : List UInt8).length (byteCells ([] : List UInt8)), bk g51 #[.int .i64 1, .int .i64 1, .slice none 0 0, .slice A1 1 c1] 25] [pfRow fI FI 1 A1 1 c1 ([0])] := hst
  refine th_n ?_
  refine wp_seq ?_
  refine region_any (n := 11) (Sk [bk g51 #[.int .i64 1, .int .i64 1, .slice none 0 0, .slice A1 1 c1] 25] [pfRow fI FI 1 A1 1 c1 ([0])] [] []) mixed rfl henv hst ?_
  clear henv hst; intro w56 henv hst
  refine tA (i := 0) [1, 2, 3, 4, 7, 8, 9, 10] (v := .pointer (some ⟨g51, 0, none⟩)) rfl (by kernel_rfl) (fun _ _ _ h => h) henv rfl (fun _ => rn_fieldAddr henv fd_anvil_api_Prog_0 (ty_int.size) (by decide) rfl) ?_
  clear henv a; intro a henv
  refine sAny_take (i := 1) [2, 3, 4, 7, 8, 9, 10] (fun w' => w'.heap[g51]? = some (.cells #[.int .i64 1, .int .i64 1, .slice none 0 0, .slice A1 1 c1] 25 (0, 0))) (v := .int .i64 1) rfl (by kernel_rfl) (fun _ _ _ h => h) (fun _ _ _ hS => hS.1.oat (k := 0) rfl) henv rfl (hst.oat (k := 1) rfl) (fun w' hg => rn_load1 henv ty_int rfl hg rfl) ?_
  clear henv a; intro a henv
  refine tA (i := 5) (rg 6 5) (v := .pointer (some ⟨g51, 1, none⟩)) rfl (by kernel_rfl) (fun _ _ _ h => h) henv rfl (fun _ => rn_fieldAddr henv fd_anvil_api_Prog_1 (ty_int.size) (by decide) rfl) ?_
  clear henv a; intro a henv
  refine sAny_take (i := 6) [7, 8, 9, 10] (fun w' => w'.heap[g51]? = some (.cells #[.int .i64 1, .int .i64 1, .slice none 0 0, .slice A1 1 c1] 25 (0, 0))) (v := .int .i64 1) rfl (by kernel_rfl) (fun _ _ _ h => h) (fun _ _ _ hS => hS.1.oat (k := 0) rfl) henv rfl (hst.oat (k := 1) rfl) (fun w' hg => rn_load1 henv ty_int rfl hg rfl) ?_
  clear henv a; intro a henv
  refine sAny_one (i := 2) (by kernel_rfl) rfl rfl (op_call henv rfl Tryd.call45 rfl (g_itoa (n := 1) (by decide)) ?_)
  rintro e w57 ⟨rfl, hb⟩
  refine ⟨_, rfl, ?_⟩
  clear henv a; intro a henv
  replace hst := hst.call hb
  clear hb
  refine ⟨.inr ⟨hst.kn.pick [1] [0], .inr (hst.kn.pick [] [])⟩, ?_⟩
  refine tA (i := 3) [4, 8, 9, 10] (v := .string ⟨(([105, 110, 32]) ++ (textZ (1 : Int))).toArray⟩) rfl (by kernel_rfl) (fun _ _ _ h => h) henv rfl (fun _ => rn_catS (s := [105, 110, 32]) (t := (textZ (1 : Int))) henv rfl rfl (by (try simp only [List.length_append, List.length_cons, List.length_nil, tz1, tz0]); omega)) ?_
  clear henv a; intro a henv
  refine tA (i := 4) [8, 9, 10] (v := .string ⟨((([105, 110, 32]) ++ (textZ (1 : Int))) ++ ([32, 114, 101, 103, 115, 32])).toArray⟩) rfl (by kernel_rfl) (fun _ _ _ h => h) henv rfl (fun _ => rn_catS (s := (([105, 110, 32]) ++ (textZ (1 : Int)))) (t := [32, 114, 101, 103, 115, 32]) henv rfl rfl (by (try simp only [List.length_append, List.length_cons, List.length_nil, tz1, tz0]); omega)) ?_
  clear henv a; intro a henv
  refine sAny_one (i := 7) (by kernel_rfl) rfl rfl (op_call henv rfl Tryd.call45 rfl (g_itoa (n := 1) (by decide)) ?_)
  rintro e w58 ⟨rfl, hb⟩
  refine ⟨_, rfl, ?_⟩
  clear henv a; intro a henv
  replace hst := hst.call hb
  clear hb
  refine ⟨.inr ⟨hst.kn.pick [1] [0], .inr (hst.kn.pick [] [])⟩, ?_⟩
  refine tA (i := 8) [9, 10] (v := .string ⟨(((([105, 110, 32]) ++ (textZ (1 : Int))) ++ ([32, 114, 101, 103, 115, 32])) ++ (textZ (1 : Int))).toArray⟩) rfl (by kernel_rfl) (fun _ _ _ h => h) henv rfl (fun _ => rn_catS (s := ((([105, 110, 32]) ++ (textZ (1 : Int))) ++ ([32, 114, 101, 103, 115, 32]))) (t := (textZ (1 : Int))) henv rfl rfl (by (try simp only [List.length_append, List.length_cons, List.length_nil, tz1, tz0]); omega)) ?_
  clear henv a; intro a henv
  refine tA (i := 9) [10] (v := .string ⟨((((([105, 110, 32]) ++ (textZ (1 : Int))) ++ ([32, 114, 101, 103, 115, 32])) ++ (textZ (1 : Int))) ++ ([10])).toArray⟩) rfl (by kernel_rfl) (fun _ _ _ h => h) henv rfl (fun _ => rn_catS (s := (((([105, 110, 32]) ++ (textZ (1 : Int))) ++ ([32, 114, 101, 103, 115, 32])) ++ (textZ (1 : Int)))) (t := [10]) henv rfl rfl (by (try simp only [List.length_append, List.length_cons, List.length_nil, tz1, tz0]); omega)) ?_
  clear henv a; intro a henv
  refine sAny_one (i := 10) (by kernel_rfl) rfl rfl (op_write (s := ⟨(((((([105, 110, 32]) ++ (textZ (1 : Int))) ++ ([32, 114, 101, 103, 115, 32])) ++ (textZ (1 : Int))) ++ ([10])) : List UInt8).toArray⟩) (k := 0) henv hst rfl rfl rfl rfl (by rw [ba_size]; simp only [List.length_append, List.length_cons, List.length_nil, tz1, tz0, one_out, one_outs]; omega) ?_)
  clear henv hst a; intro a w59 v60 henv hst
  rw [ba_size, byteCells_app, ← List.length_append] at hst
  rw [List.nil_append] at hst
  refine ⟨.inr ⟨hst.kn.pick [1] [0], .inr (hst.kn.pick [] [])⟩, ?_⟩
  refine sAny_done (by kernel_rfl) ?_ _
  refine th_n ?_
  refine wp_seq ?_
  refine wp_seq ?_
  refine region_seq ?_
  revert a
  refine sA (v := .pointer (some ⟨g51, 2, none⟩)) rfl (fun _ henv => rn_fieldAddr henv fd_anvil_api_Prog_2 (ty__api_Instr.size) (by decide) rfl) ?_
  refine sA (v := .slice none 0 0) rfl (fun _ henv => rn_load1 henv ty__api_Instr rfl (hst.oat (k := 1) rfl) rfl) ?_
  refine sA (v := .int .i64 0) rfl (fun _ henv => rn_len henv Tryd.underlying22 rfl) ?_
  refine mA rfl rfl ?_
  intro a henv
  refine wpList_nil ?_
  refine th_n ?_
  refine wp_block ?_
  refine wp_loop_ghost (fun mz a w => 0 = mz ∧ Env 50 a [(4, .pointer (some ⟨g54, 0, none⟩)), (1, .pointer (some ⟨g51, 0, none⟩)), (24, .slice none 0 0), (25, .int .i64 0), (26, .int .i64 0)] ∧ St w0 w [bldF g54 v60 ((((((([105, 110, 32]) ++ (textZ (1 : Int))) ++ ([32, 114, 101, 103, 115, 32])) ++ (textZ (1 : Int))) ++ ([10]))) : List UInt8).length (byteCells ((((((([105, 110, 32]) ++ (textZ (1 : Int))) ++ ([32, 114, 101, 103, 115, 32])) ++ (textZ (1 : Int))) ++ ([10]))) : List UInt8)), bk g51 #[.int .i64 1, .int .i64 1, .slice none 0 0, .slice A1 1 c1] 25] [pfRow fI FI 1 A1 1 c1 ([0])]) _ ⟨rfl, henv.sub ⟨rfl, rfl, rfl, rfl, rfl, trivial⟩, hst.pick [0, 1] [0] (by decide)⟩ ?_
  clear henv hst a
  rintro mz a w61 ⟨rfl, henv, hst⟩
  refine wp_seq ?_
  refine region_seq ?_
  refine sv (v := .bool false) henv rfl (rn_bin henv rfl rfl rfl) ?_
  clear henv a; intro a henv
  refine wpList_nil ?_
  refine th_n ?_
  refine wp_seq ?_
  refine if_f henv rfl (rfl) ?_
  refine wp_exit ?_
  refine th_x (th_x (bl_x (th_n ?_)))
  refine wp_seq ?_
  refine region_seq ?_
  refine seq_step rfl (op_write (s := ⟨([111, 117, 116] : List UInt8).toArray⟩) (k := 0) henv hst rfl rfl rfl rfl (by rw [ba_size]; simp only [List.length_append, List.length_cons, List.length_nil, tz1, tz0, one_out, one_outs]; omega) ?_)
  clear henv hst a; intro a w62 v63 henv hst
  rw [ba_size, byteCells_app, ← List.length_append] at hst
  refine wpList_nil ?_
  refine th_n ?_
  refine wp_seq ?_
  refine wp_seq ?_
  refine region_seq ?_
  revert a
  refine sA (v := .pointer (some ⟨g51, 3, none⟩)) rfl (fun _ henv => rn_fieldAddr henv fd_anvil_api_Prog_3 (ty__int.size) (by decide) rfl) ?_
  refine sA (v := .slice A1 1 c1) rfl (fun _ henv => rn_load1 henv ty__int rfl (hst.oat (k := 1) rfl) rfl) ?_
  refine sA (v := .int .i64 1) rfl (fun _ henv => rn_len henv Tryd.underlying23 rfl) ?_
  refine mA rfl rfl ?_
  intro a henv
  refine wpList_nil ?_
  refine th_n ?_
  refine wp_block ?_
  replace hst : St w0 w62 [bldF g54 v63 ((((((((([105, 110, 32]) ++ (textZ (1 : Int))) ++ ([32, 114, 101, 103, 115, 32])) ++ (textZ (1 : Int))) ++ ([10]))) ++ ([111, 117, 116])) ++ (([0] : List Int).take 0).flatMap outT) : List UInt8).length (byteCells ((((((((([105, 110, 32]) ++ (textZ (1 : Int))) ++ ([32, 114, 101, 103, 115, 32])) ++ (textZ (1 : Int))) ++ ([10]))) ++ ([111, 117, 116])) ++ (([0] : List Int).take 0).flatMap outT) : List UInt8))] [pfRow fI FI 1 A1 1 c1 ([0])] := by rw [show ((((((([105, 110, 32]) ++ (textZ (1 : Int))) ++ ([32, 114, 101, 103, 115, 32])) ++ (textZ (1 : Int))) ++ ([10]))) ++ ([111, 117, 116])) ++ (([0] : List Int).take 0).flatMap outT = ((((((([105, 110, 32]) ++ (textZ (1 : Int))) ++ ([32, 114, 101, 103, 115, 32])) ++ (textZ (1 : Int))) ++ ([10]))) ++ ([111, 117, 116])) by simp]; exact hst.pick [0] [0] (by decide)
  refine wp_loop_ghost (fun mz a w => ∃ j : Nat, ∃ vb : Value, 1 - j = mz ∧ Env 50 a [(4, .pointer (some ⟨g54, 0, none⟩)), (37, .slice A1 1 c1), (38, .int .i64 1), (39, .int .i64 (j : Nat))] ∧ St w0 w [bldF g54 vb ((((((((([105, 110, 32]) ++ (textZ (1 : Int))) ++ ([32, 114, 101, 103, 115, 32])) ++ (textZ (1 : Int))) ++ ([10]))) ++ ([111, 117, 116])) ++ ([0].take j).flatMap outT) : List UInt8).length (byteCells ((((((((([105, 110, 32]) ++ (textZ (1 : Int))) ++ ([32, 114, 101, 103, 115, 32])) ++ (textZ (1 : Int))) ++ ([10]))) ++ ([111, 117, 116])) ++ ([0].take j).flatMap outT) : List UInt8))] [pfRow fI FI 1 A1 1 c1 ([0])] ∧ j ≤ 1) _ ⟨0, v63, rfl, henv.sub ⟨rfl, rfl, rfl, rfl, trivial⟩, hst.pick [0] [0] (by decide), (Nat.zero_le _)⟩ ?_
  clear henv hst a
  rintro mz a w64 ⟨j, vb, rfl, henv, hst, hj⟩
  refine wp_seq ?_
  refine region_seq ?_
  refine sv (v := .bool (decide (((j : Nat) : Int) < (1 : Int)))) henv rfl (rn_bin henv rfl rfl rfl) ?_
  clear henv a; intro a henv
  refine wpList_nil ?_
  refine th_n ?_
  refine wp_seq ?_
  refine if_split henv rfl (fun hc65 => ?_) (fun hc65 => ?_)
  · have hlt : j < 1 := by have := of_decide_eq_true hc65; omega
    obtain rfl : j = 0 := by omega
    have hz : ([0] : List Int)[0]? = some 0 := rfl
    refine wp_skip ?_
    refine th_n ?_
    refine wp_seq ?_
    refine wp_block ?_
    refine wp_seq ?_
    refine region_seq ?_
    revert a
    refine sA (v := .pointer (some ⟨ab A1, ao A1 + 0 * 1, none⟩)) rfl (fun _ henv => rn_idxR (i := 0) henv Tryd.underlying23 (ty_int.size) rfl rfl (by omega) rfl (show (pfRow fI FI 1 A1 1 c1 ([0])).P _ from (hst.pat (k := 0) rfl)).1) ?_
    refine sA (v := .int .i64 0) rfl (fun _ henv => rn_loadE1 (i := 0) (j := 0) (e := 0) henv ty_int rfl rfl fI_len (by decide) (show (pfRow fI FI 1 A1 1 c1 ([0])).P _ from (hst.pat (k := 0) rfl)).1 (by omega) hz rfl) ?_
    refine aA rfl rfl ?_
    intro a henv
    refine wpList_nil ?_
    refine th_n ?_
    refine region_seq ?_
    refine sv (v := .int .i64 0) henv rfl (rn_move henv rfl) ?_
    clear henv a; intro a henv
    refine seq_step rfl (op_call henv rfl Tryd.call47 rfl g_reg0 ?_)
    rintro e w66 ⟨rfl, hb⟩
    refine ⟨_, rfl, ?_⟩
    clear henv a; intro a henv
    replace hst := hst.call hb
    clear hb
    refine sv (v := .string ⟨(([32]) ++ ([114, 48] : List UInt8)).toArray⟩) henv rfl (rn_catS (s := [32]) (t := ([114, 48] : List UInt8)) henv rfl rfl (by (try simp only [List.length_append, List.length_cons, List.length_nil, tz1, tz0]); omega)) ?_
    clear henv a; intro a henv
    refine seq_step rfl (op_write (s := ⟨((([32]) ++ ([114, 48] : List UInt8)) : List UInt8).toArray⟩) (k := 0) henv hst rfl rfl rfl rfl (by rw [ba_size]; simp only [List.length_append, List.length_cons, List.length_nil, tz1, tz0, one_out, one_outs]; omega) ?_)
    clear henv hst a; intro a w67 v68 henv hst
    rw [ba_size, byteCells_app, ← List.length_append] at hst
    refine wpList_nil ?_
    refine bl_n (th_n ?_)
    refine region_seq ?_
    revert a
    refine sA (v := .int .i64 (0 + 1 : Nat)) rfl (fun _ henv => rn_add henv rfl rfl (by rw [IntWalk.i64_in _ (by omega)]; omega)) ?_
    refine mA rfl rfl ?_
    intro a henv
    refine wpList_nil ?_
    rw [show ((((((((([105, 110, 32]) ++ (textZ (1 : Int))) ++ ([32, 114, 101, 103, 115, 32])) ++ (textZ (1 : Int))) ++ ([10]))) ++ ([111, 117, 116])) ++ ([0].take 0).flatMap outT) ++ (([32]) ++ ([114, 48] : List UInt8))) = ((((((([105, 110, 32]) ++ (textZ (1 : Int))) ++ ([32, 114, 101, 103, 115, 32])) ++ (textZ (1 : Int))) ++ ([10]))) ++ ([111, 117, 116])) ++ (([0] : List Int).take (0 + 1)).flatMap outT from out_step hz] at hst
    exact th_n ⟨_, (by omega), ⟨1, v68, rfl, henv.sub ⟨rfl, rfl, rfl, rfl, trivial⟩, hst.pick [0] [0] (by decide), (by omega)⟩⟩
  · obtain rfl : j = 1 := by have := of_decide_eq_false hc65; omega
    refine wp_exit ?_
    refine th_x (th_x (bl_x (th_n ?_)))
    refine wp_seq ?_
    refine region_seq ?_
    refine seq_step rfl (op_write (s := ⟨([10] : List UInt8).toArray⟩) (k := 0) henv hst rfl rfl rfl rfl (by rw [ba_size]; simp only [List.length_append, List.length_cons, List.length_nil, tz1, tz0, one_out, one_outs]; omega) ?_)
    clear henv hst a; intro a w69 v70 henv hst
    rw [ba_size, byteCells_app, ← List.length_append] at hst
    refine wpList_nil ?_
    refine th_n ?_
    refine wp_seq ?_
    refine region_seq ?_
    refine seq_step rfl (op_bstr (k := 0) henv hst rfl rfl rfl ?_)
    clear henv hst a; intro a w71 henv hst
    revert a
    refine aA rfl rfl ?_
    refine aA rfl rfl ?_
    intro a henv
    refine wpList_nil ?_
    refine th_n ?_
    refine wp_ret ?_
    refine leave henv (res2 Tryd.results31 (RV.tmp henv rfl) (RV.tmp henv rfl)) ?_
    exact ⟨by rw [show ((((((((([105, 110, 32]) ++ (textZ (1 : Int))) ++ ([32, 114, 101, 103, 115, 32])) ++ (textZ (1 : Int))) ++ ([10]))) ++ ([111, 117, 116])) ++ ([0].take 1).flatMap outT) ++ ([10])) = [105, 110, 32, 49, 32, 114, 101, 103, 115, 32, 49, 10, 111, 117, 116, 32, 114, 48, 10] by decide +kernel], hst.below⟩
set_option maxRecDepth 100000 in
set_option maxHeartbeats 2000000 in
theorem g_live {w0 : World} :
    Calls Tryd.prog 10 #[] w0 fun e w' => e = .returned (.bool true) ∧ Below w0.heap.size w0 w' := by
  refine enter Tryd.func10 rfl Tryd.ntmps10 rfl ?_
  intro a henv hst
  refine wp_seq ?_
  refine region_seq ?_
  refine sv (v := .bool false) henv rfl (rn_assign henv rfl) ?_
  clear henv a; intro a henv
  refine wpList_nil ?_
  refine th_n ?_
  refine wp_seq ?_
  refine region_seq ?_
  refine seq_step rfl (op_buildSlice (z := 1) (pv := #[(0, .int .i64 0)]) (c := #[.int .i64 0]) henv hst rfl Tryd.underlying23 (ty_int.size) zero_int (by decide) (by decide) rfl (by kernel_rfl) ?_)
  clear henv hst a; intro a w52 g51 henv hst
  refine sv (v := .agg #[.int .i64 1, .int .i64 1, .slice none 0 0, .slice (some ⟨g51, 0, none⟩) 1 1]) henv rfl (rn_prog013 henv rfl rfl rfl) ?_
  clear henv a; intro a henv
  replace hst := hst.giveBk (f := fI) (F := FI) (k := 0) (n := 1) (es := [0]) rfl rfl fI_len rfl (by decide) (esT_P (fun _ => rfl) _ _) (fun _ _ _ _ => esT_foot (fun _ => rfl))
  refine seq_step rfl (op_call henv rfl Tryd.call31 rfl (g_text1 (hst.pat (k := 0) rfl)) ?_)
  rintro e w53 ⟨rfl, hb⟩
  refine ⟨_, rfl, ?_⟩
  clear henv a; intro a henv
  replace hst := hst.call hb
  clear hb
  revert a
  refine mA rfl rfl ?_
  refine sA (v := .string ⟨([105, 110, 32, 49, 32, 114, 101, 103, 115, 32, 49, 10, 111, 117, 116, 32, 114, 48, 10] : List UInt8).toArray⟩) rfl (fun _ henv => rn_extract henv rfl rfl) ?_
  refine sA (v := .int .i64 0) rfl (fun _ henv => rn_extract henv rfl rfl) ?_
  refine aA rfl rfl ?_
  refine aA rfl rfl ?_
  intro a henv
  refine wpList_nil ?_
  refine th_n ?_
  refine wp_seq ?_
  refine region_seq ?_
  revert a
  refine mA rfl rfl ?_
  refine sA (v := .bool (decide (([105, 110, 32, 49, 32, 114, 101, 103, 115, 32, 49, 10, 111, 117, 116, 32, 114, 48, 10] : List UInt8) = [105, 110, 32, 49, 32, 114, 101, 103, 115, 32, 49, 10, 111, 117, 116, 32, 114, 48, 10]))) rfl (fun _ henv => rn_eqls (s := ([105, 110, 32, 49, 32, 114, 101, 103, 115, 32, 49, 10, 111, 117, 116, 32, 114, 48, 10] : List UInt8)) (t := [105, 110, 32, 49, 32, 114, 101, 103, 115, 32, 49, 10, 111, 117, 116, 32, 114, 48, 10]) henv rfl rfl) ?_
  intro a henv
  rw [show (decide (([105, 110, 32, 49, 32, 114, 101, 103, 115, 32, 49, 10, 111, 117, 116, 32, 114, 48, 10] : List UInt8) = [105, 110, 32, 49, 32, 114, 101, 103, 115, 32, 49, 10, 111, 117, 116, 32, 114, 48, 10])) = true from (by decide)] at henv
  revert a
  refine mA rfl rfl ?_
  refine gA (v := .int .i64 0) rfl rfl rfl rfl (fun _ henv => rn_move henv rfl) ?_
  refine gA (v := .bool true) rfl rfl rfl rfl (fun _ henv => rn_bin henv rfl rfl rfl) ?_
  refine sA (v := .bool true) rfl (fun _ henv => rn_pick henv rfl rfl) ?_
  refine aA rfl rfl ?_
  intro a henv
  refine wpList_nil ?_
  refine th_n ?_
  refine wp_ret ?_
  refine leave henv (res1 Tryd.results10 (RV.tmp henv rfl)) ?_
  exact ⟨rfl, hst.below⟩
end Go.Proofs.YtbdngknpngcojaaDoor.W

/- Programs held against each other, copied. Printed by pv/gen_g3.py. No condition. -/
namespace Go.Proofs.YtbdngknpngcojaaDoor.W
open Go.RowKit Anv Go.Lib
end Go.Proofs.YtbdngknpngcojaaDoor.W

/- Copy; ProgCopies. Printed by pv/gen_g4.py. No condition. -/
namespace Go.Proofs.YtbdngknpngcojaaDoor.W
open Go.RowKit Anv Go.Lib
section
variable {N : Nat} {dq : List Deferred} {a : Act} {l : List (Nat × Value)} {w : World} {d : Nat} {ty : TypeId} {pos : String} {af : Array Edge} {gd : Option (Nat × Bool)}
theorem rn_prog01 {x0 x1 : Operand} {v0 : Int} {v1 : Int} (h : EnvD dq N a l) (h0 : evl l x0 = some (.int .i64 v0)) (h1 : evl l x1 = some (.int .i64 v1)) :
    (execOp a.eval ⟨some d, .build 25 #[(0, x0), (1, x1)], ty, pos, af, gd⟩).run Tryd.prog w = .ok (.value (.agg #[.int .i64 v0, .int .i64 v1, .slice none 0 0, .slice none 0 0])) w := by
  have hz : (zeroValue 25).run Tryd.prog w = .ok (.agg #[.int .i64 0, .int .i64 0, .slice none 0 0, .slice none 0 0]) w := by obtain ⟨i, hi, hv⟩ := zero_anvil_api_Prog; simp [zeroValue, typeInfo, hi, hv]
  simp [execOp, h.ev h0, h.ev h1, Instr.build, hz, run_underlying Tryd.underlying25, Sem.run_bind, run_sizeOf ty_int.size, run_sizeOf ty__api_Instr.size, run_sizeOf ty__int.size, Instr.fill, Value.cells]
end
def TwoR (b0 : Nat) (w : World) (A : Option Addr) (n c : Nat) (es : List IE) (B : Option Addr) (m d : Nat) (os : List Int) : Prop :=
  NewRow notU 37 5 fJ FJ b0 w A n c es ∧ NewRow notU 3 1 fI FI b0 w B m d os ∧ ∀ a b, A = some a → B = some b → a.block ≠ b.block
abbrev V5 := Value × Value × Value × Value × Value
def fV5 (p : V5) : List Value := [p.1, p.2.1, p.2.2.1, p.2.2.2.1, p.2.2.2.2]
def fV1 (v : Value) : List Value := [v]
end Go.Proofs.YtbdngknpngcojaaDoor.W

/- prog.moved, Depth. Printed by pv/gen_g5.py. No condition. -/
namespace Go.Proofs.YtbdngknpngcojaaDoor.W
open Go.RowKit Anv Go.Lib
section
variable {N : Nat} {dq : List Deferred} {a : Act} {l : List (Nat × Value)} {w : World} {d : Nat} {ty : TypeId} {pos : String} {af : Array Edge} {gd : Option (Nat × Bool)}
end
def mvB (op rb g : Int) : Int := if op = 3 ∨ op = 4 then rb + g else rb
def mvI (g : Int) (e : IE) : IE := (e.1, e.2.1 + g, e.2.2.1 + g, mvB e.1 e.2.2.2.1 g, e.2.2.2.2)
def mxL (d : List Int) (l : List Int) : Int := l.foldl (fun m r => max m (d.getD r.toNat 0)) 0
def dstep (d : List Int) (e : IE) : List Int := d.set e.2.1.toNat (mxL d (asksL e.1 e.2.2.1 e.2.2.2.1) + 1)
def dpt (g : Nat) (es : List IE) (os : List Int) : Int := mxL (es.foldl dstep (List.replicate g 0)) os
set_option maxRecDepth 100000 in
set_option maxHeartbeats 2000000 in
theorem g_empty {w0 : World} :
    Calls Tryd.prog 23 #[.agg #[.int .i64 0, .int .i64 0, .slice none 0 0, .slice none 0 0]] w0 fun e w' => e = .returned (.bool true) ∧ Below w0.heap.size w0 w' := by
  refine enter Tryd.func23 rfl Tryd.ntmps23 rfl ?_
  intro a henv hst
  refine wp_seq ?_
  refine region_seq ?_
  refine seq_step rfl (op_box (c := #[.int .i64 0, .int .i64 0, .slice none 0 0, .slice none 0 0]) henv hst rfl rfl rfl ?_)
  clear henv hst a; intro a w52 g51 henv hst
  refine sv (v := .bool false) henv rfl (rn_assign henv rfl) ?_
  clear henv a; intro a henv
  refine wpList_nil ?_
  refine th_n ?_
  refine wp_seq ?_
  refine region_seq ?_
  revert a
  refine sA (v := .pointer (some ⟨g51, 0, none⟩)) rfl (fun _ henv => rn_fieldAddr henv fd_anvil_api_Prog_0 (ty_int.size) (by decide) rfl) ?_
  refine sA (v := .int .i64 0) rfl (fun _ henv => rn_load1 henv ty_int rfl (hst.oat (k := 0) rfl) rfl) ?_
  refine sA (v := .bool true) rfl (fun _ henv => rn_bin henv rfl rfl rfl) ?_
  refine mA rfl rfl ?_
  refine gA (v := .pointer (some ⟨g51, 1, none⟩)) rfl rfl rfl rfl (fun _ henv => rn_fieldAddr henv fd_anvil_api_Prog_1 (ty_int.size) (by decide) rfl) ?_
  refine gA (v := .int .i64 0) rfl rfl rfl rfl (fun _ henv => rn_load1 henv ty_int rfl (hst.oat (k := 0) rfl) rfl) ?_
  refine gA (v := .bool true) rfl rfl rfl rfl (fun _ henv => rn_bin henv rfl rfl rfl) ?_
  refine sA (v := .bool true) rfl (fun _ henv => rn_pick henv rfl rfl) ?_
  refine mA rfl rfl ?_
  refine gA (v := .pointer (some ⟨g51, 2, none⟩)) rfl rfl rfl rfl (fun _ henv => rn_fieldAddr henv fd_anvil_api_Prog_2 (ty__api_Instr.size) (by decide) rfl) ?_
  refine gA (v := .slice none 0 0) rfl rfl rfl rfl (fun _ henv => rn_load1 henv ty__api_Instr rfl (hst.oat (k := 0) rfl) rfl) ?_
  refine gA (v := .int .i64 0) rfl rfl rfl rfl (fun _ henv => rn_len henv Tryd.underlying22 rfl) ?_
  refine gA (v := .bool true) rfl rfl rfl rfl (fun _ henv => rn_bin henv rfl rfl rfl) ?_
  refine sA (v := .bool true) rfl (fun _ henv => rn_pick henv rfl rfl) ?_
  refine mA rfl rfl ?_
  refine gA (v := .pointer (some ⟨g51, 3, none⟩)) rfl rfl rfl rfl (fun _ henv => rn_fieldAddr henv fd_anvil_api_Prog_3 (ty__int.size) (by decide) rfl) ?_
  refine gA (v := .slice none 0 0) rfl rfl rfl rfl (fun _ henv => rn_load1 henv ty__int rfl (hst.oat (k := 0) rfl) rfl) ?_
  refine gA (v := .int .i64 0) rfl rfl rfl rfl (fun _ henv => rn_len henv Tryd.underlying23 rfl) ?_
  refine gA (v := .bool true) rfl rfl rfl rfl (fun _ henv => rn_bin henv rfl rfl rfl) ?_
  refine sA (v := .bool true) rfl (fun _ henv => rn_pick henv rfl rfl) ?_
  refine aA rfl rfl ?_
  intro a henv
  refine wpList_nil ?_
  refine th_n ?_
  refine wp_ret ?_
  refine leave henv (res1 Tryd.results23 (RV.tmp henv rfl)) ?_
  exact ⟨rfl, hst.below⟩
end Go.Proofs.YtbdngknpngcojaaDoor.W

/- Plain laws of programs joined: they may be, and how deep they are. No program. No condition. -/
namespace Go.Proofs.YtbdngknpngcojaaDoor.W
open Go.RowKit Anv Go.Lib
def moveI (g : Int) (os : List Int) (k : Nat) : IE := (1, g + (k : Nat), os.getD k 0, 0, 0)
def jnC (g : Int) (es : List IE) (os : List Int) (es2 : List IE) : List IE := (es ++ (List.range os.length).map (moveI g os)) ++ es2.map (mvI g)
def jnO (g : Int) (os : List Int) : List Int := os.map (· + g)
end Go.Proofs.YtbdngknpngcojaaDoor.W

/- Join; ProgJoins. Printed by pv/gen_g6.py. No condition. -/
namespace Go.Proofs.YtbdngknpngcojaaDoor.W
open Go.RowKit Anv Go.Lib
section
variable {N : Nat} {dq : List Deferred} {a : Act} {l : List (Nat × Value)} {w : World} {d : Nat} {ty : TypeId} {pos : String} {af : Array Edge} {gd : Option (Nat × Bool)}
theorem rn_prog (_h : EnvD dq N a l)  :
    (execOp a.eval ⟨some d, .build 25 #[], ty, pos, af, gd⟩).run Tryd.prog w = .ok (.value (.agg #[.int .i64 0, .int .i64 0, .slice none 0 0, .slice none 0 0])) w := by
  have hz : (zeroValue 25).run Tryd.prog w = .ok (.agg #[.int .i64 0, .int .i64 0, .slice none 0 0, .slice none 0 0]) w := by obtain ⟨i, hi, hv⟩ := zero_anvil_api_Prog; simp [zeroValue, typeInfo, hi, hv]
  simp [execOp, Instr.build, hz, run_underlying Tryd.underlying25, Sem.run_bind, run_sizeOf ty_int.size, run_sizeOf ty__api_Instr.size, run_sizeOf ty__int.size, Instr.fill, Value.cells]
end
end Go.Proofs.YtbdngknpngcojaaDoor.W

/- ProgNames. Printed by pv/gen_gE.py. No condition. -/
namespace Go.Proofs.YtbdngknpngcojaaDoor.W
open Go.RowKit Anv Go.Lib
def fY (b : UInt8) : List Value := [.int .u8 (b.toNat : Nat)]
def FY (_ : UInt8) : PF := pfT0
theorem flY_bytes (bs : List UInt8) : fl fY bs = byteCells bs := by
  induction bs with
  | nil => rfl
  | cons b bs ih => rw [fl, ih]; rfl
theorem rowY_str {E n c : Nat} {A : Option Addr} {bs : List UInt8} {w : World} (h : (rowS notU E 1 A n c (fl fY bs)).P w) : w.ownsRow 0 E 1 (.slice A n c) n (byteCells bs) := by
  have h1 : w.ownsRow 0 E 1 (.slice A n c) n (fl fY bs) := h.1
  rwa [flY_bytes] at h1
theorem all_app {α : Type} {P : α → Prop} {l : List α} {x : α} (h : ∀ e ∈ l, P e) (hx : P x) : ∀ e ∈ l ++ [x], P e := fun e he => (List.mem_append.1 he).elim (h e) fun q => List.mem_singleton.1 q ▸ hx
section
variable {N : Nat} {dq : List Deferred} {a : Act} {l : List (Nat × Value)} {w : World} {d : Nat} {ty : TypeId} {pos : String} {af : Array Edge} {gd : Option (Nat × Bool)}
theorem rn_spotG {x y : Operand} {v u : Int} (h : EnvD dq N a l) (hx : evl l x = some (.int .i64 v)) (hy : evl l y = some (.int .i64 u)) :
    (execOp a.eval ⟨some d, .build 59 #[(0, x), (1, y)], ty, pos, af, gd⟩).run Tryd.prog w = .ok (.value (.agg #[.int .i64 v, .int .i64 u])) w := by
  have hz : (zeroValue 59).run Tryd.prog w = .ok (.agg #[.int .i64 0, .int .i64 0]) w := by obtain ⟨i, hi, hv⟩ := zero_anvil_api_Spot; simp [zeroValue, typeInfo, hi, hv]
  simp [execOp, h.ev hx, h.ev hy, Instr.build, hz, run_underlying Tryd.underlying59, Sem.run_bind, run_sizeOf ty_anvil_api_Errno.size, run_sizeOf ty_int.size, Instr.fill, Value.cells]
theorem rn_instr0124 {x0 x1 x2 x4 : Operand} {v0 v1 v2 v4 : Int} (h : EnvD dq N a l) (h0 : evl l x0 = some (.int .i64 v0)) (h1 : evl l x1 = some (.int .i64 v1)) (h2 : evl l x2 = some (.int .i64 v2)) (h4 : evl l x4 = some (.int .i64 v4)) :
    (execOp a.eval ⟨some d, .build 37 #[(0, x0), (1, x1), (2, x2), (4, x4)], ty, pos, af, gd⟩).run Tryd.prog w = .ok (.value (.agg #[.int .i64 v0, .int .i64 v1, .int .i64 v2, .int .i64 0, .int .i64 v4])) w := by
  have hz : (zeroValue 37).run Tryd.prog w = .ok (.agg #[.int .i64 0, .int .i64 0, .int .i64 0, .int .i64 0, .int .i64 0]) w := by obtain ⟨i, hi, hv⟩ := zero_anvil_api_Instr; simp [zeroValue, typeInfo, hi, hv]
  simp [execOp, h.ev h0, h.ev h1, h.ev h2, h.ev h4, Instr.build, hz, run_underlying Tryd.underlying37, Sem.run_bind, run_sizeOf ty_int.size, Instr.fill, Value.cells]
theorem rn_instr04 {x0 x4 : Operand} {v0 v4 : Int} (h : EnvD dq N a l) (h0 : evl l x0 = some (.int .i64 v0)) (h4 : evl l x4 = some (.int .i64 v4)) :
    (execOp a.eval ⟨some d, .build 37 #[(0, x0), (4, x4)], ty, pos, af, gd⟩).run Tryd.prog w = .ok (.value (.agg #[.int .i64 v0, .int .i64 0, .int .i64 0, .int .i64 0, .int .i64 v4])) w := by
  have hz : (zeroValue 37).run Tryd.prog w = .ok (.agg #[.int .i64 0, .int .i64 0, .int .i64 0, .int .i64 0, .int .i64 0]) w := by obtain ⟨i, hi, hv⟩ := zero_anvil_api_Instr; simp [zeroValue, typeInfo, hi, hv]
  simp [execOp, h.ev h0, h.ev h4, Instr.build, hz, run_underlying Tryd.underlying37, Sem.run_bind, run_sizeOf ty_int.size, Instr.fill, Value.cells]
end
set_option maxRecDepth 100000 in
set_option maxHeartbeats 2000000 in
theorem g_read_long {s : List UInt8} {w0 : World} (hs : 65536 < s.length) (hm : s.length ≤ maxLen) :
    Calls Tryd.prog 33 #[.string ⟨s.toArray⟩] w0 fun e w' => e = .returned (.tuple #[.agg #[.int .i64 0, .int .i64 0, .slice none 0 0, .slice none 0 0], .agg #[.int .i64 3, .int .i64 65536]]) ∧ Below w0.heap.size w0 w' := by
  refine enter Tryd.func33 rfl Tryd.ntmps33 rfl ?_
  intro a henv hst
  unfold maxLen at hm
  refine wp_seq ?_
  refine region_seq ?_
  refine seq_step rfl (op_alloc (c := #[.int .i64 0, .int .i64 0, .slice none 0 0, .slice none 0 0]) henv hst rfl zero_anvil_api_Prog rfl ?_)
  clear henv hst a; intro a w52 g51 henv hst
  refine seq_step rfl (op_alloc (c := #[.int .i64 0, .int .i64 0]) henv hst rfl zero_anvil_api_Spot rfl ?_)
  clear henv hst a; intro a w54 g53 henv hst
  refine wpList_nil ?_
  refine th_n ?_
  refine wp_scope_straight ?_
  refine wp_seq ?_
  refine wp_seq ?_
  refine region_seq ?_
  revert a
  refine mA rfl rfl ?_
  refine sA (v := .int .i64 (s.length : Nat)) rfl (fun _ henv => rn_lenS henv Tryd.underlying9 rfl) ?_
  refine sA (v := .bool (decide (((s.length : Nat) : Int) > (65536 : Int)))) rfl (fun _ henv => rn_bin henv rfl rfl rfl) ?_
  intro a henv
  rw [show (decide (((s.length : Nat) : Int) > (65536 : Int))) = true from (decide_eq_true (by omega))] at henv
  refine wpList_nil ?_
  refine th_n ?_
  refine if_t henv rfl (rfl) ?_
  refine wp_seq ?_
  refine region_seq ?_
  revert a
  refine sA (v := .agg #[.int .i64 0, .int .i64 0, .slice none 0 0, .slice none 0 0]) rfl (fun _ henv => rn_prog henv) ?_
  refine sA (v := .agg #[.int .i64 3, .int .i64 65536]) rfl (fun _ henv => rn_spotG henv rfl rfl) ?_
  intro a henv
  refine seq_step rfl (op_store (k := 1) (c' := #[.int .i64 0, .int .i64 0, .slice none 0 0, .slice none 0 0]) henv hst (ty_anvil_api_Prog.size) rfl rfl rfl rfl (by simp) rfl rfl ?_)
  clear henv hst a; intro a w55 henv hst
  refine seq_step rfl (op_store (k := 0) (c' := #[.int .i64 3, .int .i64 65536]) henv hst (ty_anvil_api_Spot.size) rfl rfl rfl rfl (by simp) rfl rfl ?_)
  clear henv hst a; intro a w56 henv hst
  refine wpList_nil ?_
  refine th_n ?_
  refine wp_ret ?_
  refine th_r (sc_r ?_)
  refine leave henv (res2 Tryd.results33 (RV.cell henv ty_anvil_api_Prog rfl (hst.oat (k := 1) rfl) rfl) (RV.cell henv ty_anvil_api_Spot rfl (hst.oat (k := 0) rfl) rfl)) ?_
  exact ⟨rfl, hst.below⟩
set_option maxRecDepth 100000 in
set_option maxHeartbeats 8000000 in
theorem gnames_law {w0 : World} :
    Calls Tryd.prog 9 #[] w0 fun e w' => e = .returned (.bool true) ∧ Below w0.heap.size w0 w' := by
  refine enter Tryd.func9 rfl Tryd.ntmps9 rfl ?_
  intro a henv hst
  refine wp_seq ?_
  refine region_seq ?_
  refine sv (v := .bool false) henv rfl (rn_assign henv rfl) ?_
  clear henv a; intro a henv
  refine wpList_nil ?_
  refine th_n ?_
  refine wp_seq ?_
  refine wp_seq ?_
  refine region_seq ?_
  refine seq_step rfl (op_call henv rfl Tryd.call10 rfl g_live ?_)
  rintro e w51 ⟨rfl, hb⟩
  refine ⟨_, rfl, ?_⟩
  clear henv a; intro a henv
  replace hst := hst.call hb
  clear hb
  refine sv (v := .bool false) henv rfl (rn_un henv rfl rfl) ?_
  clear henv a; intro a henv
  refine wpList_nil ?_
  refine th_n ?_
  refine if_f henv rfl (rfl) ?_
  refine wp_skip ?_
  refine th_n ?_
  refine wp_seq ?_
  refine region_seq ?_
  refine sv (v := .agg #[.int .i64 128, .int .i64 128, .slice none 0 0, .slice none 0 0]) henv rfl (rn_prog01 henv rfl rfl) ?_
  clear henv a; intro a henv
  refine seq_step rfl (op_alloc (c := #[.int .i64 0, .int .i64 0, .slice none 0 0, .slice none 0 0]) henv hst rfl zero_anvil_api_Prog rfl ?_)
  clear henv hst a; intro a w53 g52 henv hst
  refine seq_step rfl (op_store (k := 0) (c' := #[.int .i64 128, .int .i64 128, .slice none 0 0, .slice none 0 0]) henv hst (ty_anvil_api_Prog.size) rfl rfl rfl rfl (by simp) rfl rfl ?_)
  clear henv hst a; intro a w54 henv hst
  refine wpList_nil ?_
  refine th_n ?_
  refine wp_seq ?_
  refine wp_seq ?_
  replace hst := (hst.addRowS notU 3 1)
  replace hst : St w0 _ [rowS notU 3 1 none 0 0 (fl fI ([])), bk g52 #[.int .i64 128, .int .i64 128, .slice none 0 0, .slice none 0 0] 25] [] := hst
  refine region_seq ?_
  refine sv (v := .int .i64 0) henv rfl (rn_assign henv rfl) ?_
  clear henv a; intro a henv
  refine wpList_nil ?_
  refine th_n ?_
  refine wp_block ?_
  refine wp_loop_ghost (fun mz a w => ∃ j : Nat, ∃ Bo : Option Addr, ∃ do_ : Nat, ∃ os : List Int, 128 - j = mz ∧ Env 86 a [(1, .pointer (some ⟨g52, 0, none⟩)), (2, .int .i64 (j : Nat))] ∧ St w0 w [rowS notU 3 1 Bo j do_ (fl fI os), bk g52 #[.int .i64 128, .int .i64 128, .slice none 0 0, .slice Bo j do_] 25] [] ∧ j ≤ 128 ∧ os.length = j ∧ (∀ e ∈ os, 0 ≤ e ∧ e < 128)) _ ⟨0, none, 0, [], rfl, henv.sub ⟨rfl, rfl, trivial⟩, hst.pick [0, 1] [] (by decide), (Nat.zero_le _), rfl, (fun _ h => by cases h)⟩ ?_
  clear henv hst a
  rintro mz a w55 ⟨j, Bo, do_, os, rfl, henv, hst, hj, hlos, haos⟩
  refine wp_seq ?_
  refine wp_seq ?_
  refine region_seq ?_
  revert a
  refine mA rfl rfl ?_
  refine sA (v := .bool (decide (((j : Nat) : Int) < (128 : Int)))) rfl (fun _ henv => rn_bin henv rfl rfl rfl) ?_
  intro a henv
  refine wpList_nil ?_
  refine th_n ?_
  refine if_split henv rfl (fun hc56 => ?_) (fun hc56 => ?_)
  · have hltj : j < 128 := by have := of_decide_eq_true hc56; omega
    refine wp_skip ?_
    refine th_n ?_
    refine wp_seq ?_
    refine wp_block ?_
    refine region_seq ?_
    revert a
    refine sA (v := .pointer (some ⟨g52, 3, none⟩)) rfl (fun _ henv => rn_fieldAddr henv fd_anvil_api_Prog_3 (ty__int.size) (by decide) rfl) ?_
    refine sA (v := .slice Bo j do_) rfl (fun _ henv => rn_load1 henv ty__int rfl (hst.oat (k := 1) rfl) rfl) ?_
    refine mA rfl rfl ?_
    intro a henv
    refine seq_step rfl (op_buildSlice (z := 1) (pv := #[(0, .int .i64 (j : Nat))]) (c := #[.int .i64 (j : Nat)]) henv hst rfl Tryd.underlying23 (ty_int.size) zero_int (by decide) (by decide) rfl (by kernel_rfl) ?_)
    clear henv hst a; intro a w58 g57 henv hst
    refine seq_step rfl (op_appendS (k := 1) (j := 0) henv hst rfl Tryd.underlying23 inf_int rfl rfl rfl rfl rfl rfl rfl rfl rfl rfl rfl (by unfold maxLen; omega) (by omega) ?_)
    clear henv hst a; intro a w61 g59 c60 henv hst
    rw [show fl fI os ++ (#[.int .i64 (j : Nat)] : Array Value).toList = fl fI (os ++ [((j : Nat) : Int)]) from fl_snoc (f := fI) os ((j : Nat) : Int)] at hst
    refine sv (v := .pointer (some ⟨g52, 3, none⟩)) henv rfl (rn_fieldAddr henv fd_anvil_api_Prog_3 (ty__int.size) (by decide) rfl) ?_
    clear henv a; intro a henv
    refine seq_step rfl (op_store1 (k := 2) (c' := #[.int .i64 128, .int .i64 128, .slice none 0 0, .slice (some ⟨g59, 0, none⟩) (j + 1) c60]) henv hst (ty__int.size) rfl rfl rfl (by simp) rfl rfl ?_)
    clear henv hst a; intro a w62 henv hst
    refine wpList_nil ?_
    refine bl_n (th_n ?_)
    refine region_seq ?_
    revert a
    refine mA rfl rfl ?_
    refine sA (v := .int .i64 (j + 1 : Nat)) rfl (fun _ henv => rn_add henv rfl rfl (by rw [IntWalk.i64_in _ (by omega)]; omega)) ?_
    refine aA rfl rfl ?_
    intro a henv
    refine wpList_nil ?_
    exact th_n ⟨_, (by omega), ⟨j + 1, (some ⟨g59, 0, none⟩), c60, (os ++ [((j : Nat) : Int)]), rfl, henv.sub ⟨rfl, rfl, trivial⟩, hst.pick [1, 2] [] (by decide), (by omega), (by rw [List.length_append, hlos]; rfl), (all_app haos (by omega))⟩⟩
  · obtain rfl : j = 128 := by have := of_decide_eq_false hc56; omega
    refine wp_exit ?_
    refine th_x (th_x (bl_x (th_n ?_)))
    refine wp_seq ?_
    refine wp_seq ?_
    replace hst := (hst.addRowS notU 37 5)
    replace hst : St w0 _ [rowS notU 37 5 none 0 0 (fl fJ ([])), rowS notU 3 1 Bo 128 do_ (fl fI os), bk g52 #[.int .i64 128, .int .i64 128, .slice none 0 0, .slice Bo 128 do_] 25] [] := hst
    refine region_seq ?_
    refine sv (v := .int .i64 0) henv rfl (rn_assign henv rfl) ?_
    clear henv a; intro a henv
    refine wpList_nil ?_
    refine th_n ?_
    refine wp_block ?_
    refine wp_loop_ghost (fun mz a w => ∃ m : Nat, ∃ Bc : Option Addr, ∃ dc : Nat, ∃ cs : List IE, 16384 - m = mz ∧ Env 86 a [(1, .pointer (some ⟨g52, 0, none⟩)), (3, .int .i64 (m : Nat))] ∧ St w0 w [rowS notU 37 5 Bc m dc (fl fJ cs), rowS notU 3 1 Bo 128 do_ (fl fI os), bk g52 #[.int .i64 128, .int .i64 128, .slice Bc m dc, .slice Bo 128 do_] 25] [] ∧ m ≤ 16384 ∧ cs.length = m ∧ (∀ e ∈ cs, May e 128)) _ ⟨0, none, 0, [], rfl, henv.sub ⟨rfl, rfl, trivial⟩, hst.pick [0, 1, 2] [] (by decide), (Nat.zero_le _), rfl, (fun _ h => by cases h)⟩ ?_
    clear henv hst a
    rintro mz a w63 ⟨m, Bc, dc, cs, rfl, henv, hst, hm, hlcs, hacs⟩
    refine wp_seq ?_
    refine wp_seq ?_
    refine region_seq ?_
    revert a
    refine mA rfl rfl ?_
    refine sA (v := .bool (decide (((m : Nat) : Int) < (16384 : Int)))) rfl (fun _ henv => rn_bin henv rfl rfl rfl) ?_
    intro a henv
    refine wpList_nil ?_
    refine th_n ?_
    refine if_split henv rfl (fun hc64 => ?_) (fun hc64 => ?_)
    · have hltm : m < 16384 := by have := of_decide_eq_true hc64; omega
      refine wp_skip ?_
      refine th_n ?_
      refine wp_seq ?_
      refine wp_block ?_
      refine region_seq ?_
      revert a
      refine sA (v := .pointer (some ⟨g52, 2, none⟩)) rfl (fun _ henv => rn_fieldAddr henv fd_anvil_api_Prog_2 (ty__api_Instr.size) (by decide) rfl) ?_
      refine sA (v := .slice Bc m dc) rfl (fun _ henv => rn_load1 henv ty__api_Instr rfl (hst.oat (k := 2) rfl) rfl) ?_
      refine mA rfl rfl ?_
      refine sA (v := .int .i64 (m % 128 : Nat)) rfl (fun _ henv => rn_rem henv rfl rfl (by decide) (tmod_nat m 128)) ?_
      refine sA (v := .agg #[.int .i64 5, .int .i64 (m % 128 : Nat), .int .i64 127, .int .i64 0, .int .i64 (-512)]) rfl (fun _ henv => rn_instr0124 henv rfl rfl rfl rfl) ?_
      intro a henv
      refine seq_step rfl (op_buildSlice (z := 5) (pv := #[(0, .agg #[.int .i64 5, .int .i64 (m % 128 : Nat), .int .i64 127, .int .i64 0, .int .i64 (-512)])]) (c := #[.int .i64 5, .int .i64 (m % 128 : Nat), .int .i64 127, .int .i64 0, .int .i64 (-512)]) henv hst rfl Tryd.underlying22 (ty_anvil_api_Instr.size) zero_anvil_api_Instr (by decide) (by decide) rfl (by kernel_rfl) ?_)
      clear henv hst a; intro a w66 g65 henv hst
      refine seq_step rfl (op_appendS (k := 1) (j := 0) henv hst rfl Tryd.underlying22 inf_anvil_api_Instr rfl rfl rfl rfl rfl rfl rfl rfl rfl rfl rfl (by unfold maxLen; omega) (by omega) ?_)
      clear henv hst a; intro a w69 g67 c68 henv hst
      rw [show fl fJ cs ++ (#[.int .i64 5, .int .i64 (m % 128 : Nat), .int .i64 127, .int .i64 0, .int .i64 (-512)] : Array Value).toList = fl fJ (cs ++ [((5, (m % 128 : Nat), 127, 0, (-512)) : IE)]) from fl_snoc (f := fJ) cs ((5, (m % 128 : Nat), 127, 0, (-512)) : IE)] at hst
      refine sv (v := .pointer (some ⟨g52, 2, none⟩)) henv rfl (rn_fieldAddr henv fd_anvil_api_Prog_2 (ty__api_Instr.size) (by decide) rfl) ?_
      clear henv a; intro a henv
      refine seq_step rfl (op_store1 (k := 3) (c' := #[.int .i64 128, .int .i64 128, .slice (some ⟨g67, 0, none⟩) (m + 1) c68, .slice Bo 128 do_]) henv hst (ty__api_Instr.size) rfl rfl rfl (by simp) rfl rfl ?_)
      clear henv hst a; intro a w70 henv hst
      refine wpList_nil ?_
      refine bl_n (th_n ?_)
      refine region_seq ?_
      revert a
      refine mA rfl rfl ?_
      refine sA (v := .int .i64 (m + 1 : Nat)) rfl (fun _ henv => rn_add henv rfl rfl (by rw [IntWalk.i64_in _ (by omega)]; omega)) ?_
      refine aA rfl rfl ?_
      intro a henv
      refine wpList_nil ?_
      exact th_n ⟨_, (by omega), ⟨m + 1, (some ⟨g67, 0, none⟩), c68, (cs ++ [((5, (m % 128 : Nat), 127, 0, (-512)) : IE)]), rfl, henv.sub ⟨rfl, rfl, trivial⟩, hst.pick [1, 2, 3] [] (by decide), (by omega), (by rw [List.length_append, hlcs]; rfl), (all_app hacs (by unfold May; dsimp only; omega))⟩⟩
    · obtain rfl : m = 16384 := by have := of_decide_eq_false hc64; omega
      refine wp_exit ?_
      refine th_x (th_x (bl_x (th_n ?_)))
      refine wp_seq ?_
      refine region_seq ?_
      refine sv (v := .agg #[.int .i64 128, .int .i64 128, .slice Bc 16384 dc, .slice Bo 128 do_]) henv rfl (rn_load0 henv ty_anvil_api_Prog rfl (hst.oat (k := 2) rfl) rfl) ?_
      clear henv a; intro a henv
      refine seq_step rfl (op_call henv rfl Tryd.call11 rfl (g_check_ok_ (i := 128) (g := 128) ⟨rowS_rd (hst.owns (k := 0) rfl), hlcs, fun _ _ => trivial⟩ ⟨rowS_rd (hst.owns (k := 1) rfl), hlos, fun _ _ => trivial⟩ ⟨by unfold HeadOk; omega, haos, hacs⟩) ?_)
      rintro e w71 ⟨rfl, hb⟩
      refine ⟨_, rfl, ?_⟩
      clear henv a; intro a henv
      replace hst := hst.call hb
      clear hb
      revert a
      refine mA rfl rfl ?_
      refine sA (v := .int .i64 0) rfl (fun _ henv => rn_extract henv rfl rfl) ?_
      refine sA (v := .int .i64 0) rfl (fun _ henv => rn_extract henv rfl rfl) ?_
      refine aA rfl rfl ?_
      refine aA rfl rfl ?_
      intro a henv
      refine wpList_nil ?_
      refine th_n ?_
      refine wp_seq ?_
      refine region_seq ?_
      revert a
      refine sA (v := .pointer (some ⟨g52, 2, none⟩)) rfl (fun _ henv => rn_fieldAddr henv fd_anvil_api_Prog_2 (ty__api_Instr.size) (by decide) rfl) ?_
      refine sA (v := .slice Bc 16384 dc) rfl (fun _ henv => rn_load1 henv ty__api_Instr rfl (hst.oat (k := 2) rfl) rfl) ?_
      refine sA (v := .agg #[.int .i64 7, .int .i64 0, .int .i64 0, .int .i64 0, .int .i64 64]) rfl (fun _ henv => rn_instr04 henv rfl rfl) ?_
      intro a henv
      refine seq_step rfl (op_buildSlice (z := 5) (pv := #[(0, .agg #[.int .i64 7, .int .i64 0, .int .i64 0, .int .i64 0, .int .i64 64])]) (c := #[.int .i64 7, .int .i64 0, .int .i64 0, .int .i64 0, .int .i64 64]) henv hst rfl Tryd.underlying22 (ty_anvil_api_Instr.size) zero_anvil_api_Instr (by decide) (by decide) rfl (by kernel_rfl) ?_)
      clear henv hst a; intro a w73 g72 henv hst
      refine seq_step rfl (op_appendS (k := 1) (j := 0) henv hst rfl Tryd.underlying22 inf_anvil_api_Instr rfl rfl rfl rfl rfl rfl rfl rfl rfl rfl rfl (by unfold maxLen; omega) (by omega) ?_)
      clear henv hst a; intro a w76 g74 c75 henv hst
      rw [show fl fJ cs ++ (#[.int .i64 7, .int .i64 0, .int .i64 0, .int .i64 0, .int .i64 64] : Array Value).toList = fl fJ (cs ++ [((7, 0, 0, 0, 64) : IE)]) from fl_snoc (f := fJ) cs ((7, 0, 0, 0, 64) : IE)] at hst
      refine sv (v := .pointer (some ⟨g52, 2, none⟩)) henv rfl (rn_fieldAddr henv fd_anvil_api_Prog_2 (ty__api_Instr.size) (by decide) rfl) ?_
      clear henv a; intro a henv
      refine seq_step rfl (op_store1 (k := 3) (c' := #[.int .i64 128, .int .i64 128, .slice (some ⟨g74, 0, none⟩) (16384 + 1) c75, .slice Bo 128 do_]) henv hst (ty__api_Instr.size) rfl rfl rfl (by simp) rfl rfl ?_)
      clear henv hst a; intro a w77 henv hst
      refine wpList_nil ?_
      refine th_n ?_
      refine wp_seq ?_
      refine region_seq ?_
      refine sv (v := .agg #[.int .i64 128, .int .i64 128, .slice (some ⟨g74, 0, none⟩) (16384 + 1) c75, .slice Bo 128 do_]) henv rfl (rn_load0 henv ty_anvil_api_Prog rfl (hst.oat (k := 3) rfl) rfl) ?_
      clear henv a; intro a henv
      refine seq_step rfl (op_call henv rfl Tryd.call11 rfl (g_check_head (i := 128) (g := 128) ⟨rowS_rd (hst.owns (k := 1) rfl), (by rw [List.length_append, hlcs]; rfl), fun _ _ => trivial⟩ ⟨rowS_rd (hst.owns (k := 2) rfl), hlos, fun _ _ => trivial⟩ (by unfold HeadOk; omega)) ?_)
      rintro e w78 ⟨rfl, hb⟩
      refine ⟨_, rfl, ?_⟩
      clear henv a; intro a henv
      replace hst := hst.call hb
      clear hb
      revert a
      refine mA rfl rfl ?_
      refine sA (v := .int .i64 (-1)) rfl (fun _ henv => rn_extract henv rfl rfl) ?_
      refine sA (v := .int .i64 80) rfl (fun _ henv => rn_extract henv rfl rfl) ?_
      refine aA rfl rfl ?_
      refine aA rfl rfl ?_
      intro a henv
      refine wpList_nil ?_
      refine th_n ?_
      refine wp_seq ?_
      refine region_seq ?_
      refine seq_step rfl (op_makeS (f := fY) (e0 := 0) (q := notU) (n := 65537) henv hst rfl Tryd.underlying62 inf_u8 rfl rfl rfl rfl rfl rfl (by decide) (by decide) ?_)
      clear henv hst a; intro a w80 g79 henv hst
      obtain ⟨ns, hns⟩ : ∃ l : List UInt8, l = List.replicate 65537 0 := ⟨_, rfl⟩
      rw [← hns] at hst
      have hnl : ns.length = 65537 := by rw [hns, List.length_replicate]
      clear hns
      have hnn : ns ≠ [] := fun e => by rw [e] at hnl; cases hnl
      refine sv (v := .string ⟨ns.toArray⟩) henv rfl (rn_rowStr henv Tryd.underlying62 Tryd.underlying5 Tryd.underlying9 rfl (rowY_str (hst.owns (k := 0) rfl)) hnn) ?_
      clear henv a; intro a henv
      refine seq_step rfl (op_call henv rfl Tryd.call33 rfl (g_read_long (s := ns) (by omega) (by unfold maxLen; omega)) ?_)
      rintro e w81 ⟨rfl, hb⟩
      refine ⟨_, rfl, ?_⟩
      clear henv a; intro a henv
      replace hst := hst.call hb
      clear hb
      revert a
      refine mA rfl rfl ?_
      refine sA (v := .agg #[.int .i64 0, .int .i64 0, .slice none 0 0, .slice none 0 0]) rfl (fun _ henv => rn_extract henv rfl rfl) ?_
      refine sA (v := .agg #[.int .i64 3, .int .i64 65536]) rfl (fun _ henv => rn_extract henv rfl rfl) ?_
      intro a henv
      refine seq_step rfl (op_alloc (c := #[.int .i64 0, .int .i64 0, .slice none 0 0, .slice none 0 0]) henv hst rfl zero_anvil_api_Prog rfl ?_)
      clear henv hst a; intro a w83 g82 henv hst
      refine seq_step rfl (op_alloc (c := #[.int .i64 0, .int .i64 0]) henv hst rfl zero_anvil_api_Spot rfl ?_)
      clear henv hst a; intro a w85 g84 henv hst
      refine seq_step rfl (op_store (k := 1) (c' := #[.int .i64 0, .int .i64 0, .slice none 0 0, .slice none 0 0]) henv hst (ty_anvil_api_Prog.size) rfl rfl rfl rfl (by simp) rfl rfl ?_)
      clear henv hst a; intro a w86 henv hst
      refine seq_step rfl (op_store (k := 0) (c' := #[.int .i64 3, .int .i64 65536]) henv hst (ty_anvil_api_Spot.size) rfl rfl rfl rfl (by simp) rfl rfl ?_)
      clear henv hst a; intro a w87 henv hst
      refine wpList_nil ?_
      refine th_n ?_
      refine wp_seq ?_
      refine region_seq ?_
      revert a
      refine mA rfl rfl ?_
      refine gA (v := .int .i64 0) rfl rfl rfl rfl (fun _ henv => rn_move henv rfl) ?_
      refine gA (v := .bool true) rfl rfl rfl rfl (fun _ henv => rn_bin henv rfl rfl rfl) ?_
      refine sA (v := .bool true) rfl (fun _ henv => rn_pick henv rfl rfl) ?_
      refine mA rfl rfl ?_
      refine gA (v := .int .i64 (-1)) rfl rfl rfl rfl (fun _ henv => rn_move henv rfl) ?_
      refine gA (v := .bool true) rfl rfl rfl rfl (fun _ henv => rn_bin henv rfl rfl rfl) ?_
      refine sA (v := .bool true) rfl (fun _ henv => rn_pick henv rfl rfl) ?_
      refine mA rfl rfl ?_
      refine gA (v := .int .i64 80) rfl rfl rfl rfl (fun _ henv => rn_move henv rfl) ?_
      refine gA (v := .bool true) rfl rfl rfl rfl (fun _ henv => rn_bin henv rfl rfl rfl) ?_
      refine sA (v := .bool true) rfl (fun _ henv => rn_pick henv rfl rfl) ?_
      refine mA rfl rfl ?_
      refine gA (v := .agg #[.int .i64 0, .int .i64 0, .slice none 0 0, .slice none 0 0]) rfl rfl rfl rfl (fun _ henv => rn_load0 henv ty_anvil_api_Prog rfl (hst.oat (k := 1) rfl) rfl) ?_
      intro a henv
      refine seq_g rfl henv rfl rfl (op_call henv rfl Tryd.call23 rfl g_empty ?_)
      rintro e w88 ⟨rfl, hb⟩
      refine ⟨_, rfl, ?_⟩
      clear henv a; intro a henv
      replace hst := hst.call hb
      clear hb
      revert a
      refine sA (v := .bool true) rfl (fun _ henv => rn_pick henv rfl rfl) ?_
      refine mA rfl rfl ?_
      refine gA (v := .pointer (some ⟨g84, 0, none⟩)) rfl rfl rfl rfl (fun _ henv => rn_fieldAddr henv fd_anvil_api_Spot_0 (ty_anvil_api_Errno.size) (by decide) rfl) ?_
      refine gA (v := .int .i64 3) rfl rfl rfl rfl (fun _ henv => rn_load1 henv ty_anvil_api_Errno rfl (hst.oat (k := 0) rfl) rfl) ?_
      refine gA (v := .bool true) rfl rfl rfl rfl (fun _ henv => rn_bin henv rfl rfl rfl) ?_
      refine sA (v := .bool true) rfl (fun _ henv => rn_pick henv rfl rfl) ?_
      refine mA rfl rfl ?_
      refine gA (v := .pointer (some ⟨g84, 1, none⟩)) rfl rfl rfl rfl (fun _ henv => rn_fieldAddr henv fd_anvil_api_Spot_1 (ty_int.size) (by decide) rfl) ?_
      refine gA (v := .int .i64 65536) rfl rfl rfl rfl (fun _ henv => rn_load1 henv ty_int rfl (hst.oat (k := 0) rfl) rfl) ?_
      refine gA (v := .bool true) rfl rfl rfl rfl (fun _ henv => rn_bin henv rfl rfl rfl) ?_
      refine sA (v := .bool true) rfl (fun _ henv => rn_pick henv rfl rfl) ?_
      refine mA rfl rfl ?_
      intro a henv
      refine seq_g rfl henv rfl rfl (op_call henv rfl Tryd.call10 rfl g_live ?_)
      rintro e w89 ⟨rfl, hb⟩
      refine ⟨_, rfl, ?_⟩
      clear henv a; intro a henv
      replace hst := hst.call hb
      clear hb
      revert a
      refine sA (v := .bool true) rfl (fun _ henv => rn_pick henv rfl rfl) ?_
      refine aA rfl rfl ?_
      intro a henv
      refine wpList_nil ?_
      refine th_n ?_
      refine wp_ret ?_
      refine leave henv (res1 Tryd.results9 (RV.tmp henv rfl)) ?_
      exact ⟨rfl, hst.below⟩
end Go.Proofs.YtbdngknpngcojaaDoor.W
