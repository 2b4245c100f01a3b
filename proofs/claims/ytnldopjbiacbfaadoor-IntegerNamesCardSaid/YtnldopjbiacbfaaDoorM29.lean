/- The reference's product. Printed by pv/gen_ref01b.py. No condition. -/
import Derived.Test.YtnldopjbiacbfaaDoorM28
import Derived.Test.YtnldopjbiacbfaaDoorM26
import Derived.Test.YtnldopjbiacbfaaDoorM13

namespace Go.Proofs.YtnldopjbiacbfaaDoor.W
open Go.RowKit Anv

theorem lt_cons0 {xs : List Nat} (h : AllLt 4294967296 xs) : AllLt 4294967296 ([0] ++ xs) := by
  intro x hx
  rcases List.mem_append.1 hx with hx | hx
  · have : x = 0 := by simpa using hx
    omega
  · exact h x hx
theorem nl_drop {w : World} {A : Option Addr} {n c : Nat} {xs : List Nat} (h : U32 w A n c xs) (i : Nat) : nl (val 4294967296 (xs.drop i)) ≤ n := by
  have h1 := val_lt (b := 4294967296) (xs := xs.drop i) fun x hx => h.lt x (List.mem_of_mem_drop hx)
  have h2 := nl_le_of_lt h1
  rw [List.length_drop, h.len] at h2
  omega

set_option maxRecDepth 100000 in
set_option maxHeartbeats 4000000 in
theorem r_mul {A B : Option Addr} {n c m d : Nat} {xs ys : List Nat} {w0 : World} (h : U32 w0 A n c xs) (k : U32 w0 B m d ys) (hn : n ≤ 100000) (hm : m ≤ 100000) :
    Calls Tryd.prog 53 #[.slice A n c, .slice B m d] w0 fun e w' => ∃ v, e = .returned v ∧ NumAt w0.heap.size w' v (val 4294967296 xs * val 4294967296 ys) ∧ Below w0.heap.size w0 w' := by
  refine enter Tryd.func53 rfl Tryd.ntmps53 rfl ?_
  intro a henv hst
  replace hst := (hst.addU h trivial).addU k trivial
  refine wp_seq ?_
  refine region_seq ?_
  refine seq_step rfl (op_val (v := .slice none 0 0) henv rfl (rn_assign henv rfl) ?_)
  clear henv a; intro a henv
  refine wpList_nil ?_
  refine th_n ?_
  refine wp_seq ?_
  refine region_seq ?_
  refine seq_step rfl (op_val (v := .slice none 0 0) henv rfl (rn_assign henv rfl) ?_)
  clear henv a; intro a henv
  refine wpList_nil ?_
  refine th_n ?_
  refine wp_seq ?_
  refine wp_seq ?_
  refine region_seq ?_
  refine seq_step rfl (op_val (v := .slice B m d) henv rfl (rn_move henv rfl) ?_)
  clear henv a; intro a henv
  refine seq_step rfl (op_val (v := .int .i64 (m : Nat)) henv rfl (rn_len henv Tryd.underlying22 rfl) ?_)
  clear henv a; intro a henv
  refine seq_step rfl (op_val (v := .int .i64 (((m : Nat) : Int) - (1 : Int))) henv rfl (rn_sub henv rfl rfl (IntWalk.i64_in _ (by omega))) ?_)
  clear henv a; intro a henv
  refine seq_step rfl (op_val (v := .int .i64 (((m : Nat) : Int) - (1 : Int))) henv rfl (rn_assign henv rfl) ?_)
  clear henv a; intro a henv
  refine wpList_nil ?_
  refine th_n ?_
  refine wp_block ?_
  replace hst := hst.addU (u32_nil _) trivial
  refine wp_loop_ghost (fun mz a w => ∃ i : Nat, ∃ A1 : Option Addr, ∃ c1 : Nat, ∃ N : Nat, i = mz ∧ Env 26 a [(0, .slice A n c), (1, .slice B m d), (5, .slice A1 (nl N) c1), (6, .int .i64 (((i : Nat) : Int) - 1))] ∧ St w0 w [] [pfU A n c xs, pfU B m d ys, pfU A1 (nl N) c1 (L N)] ∧ i ≤ m ∧ N = val 4294967296 xs * val 4294967296 (ys.drop i) ∧ (∀ a, A1 = some a → w0.heap.size ≤ a.block)) _ ⟨m, none, 0, 0, rfl, henv.sub ⟨rfl, rfl, (by rw [nl_zero]; rfl), rfl, trivial⟩, hst.pick [] [2, 1, 0] (by decide), (Nat.le_refl _), (by rw [List.drop_of_length_le (by rw [k.len]; exact Nat.le_refl _)]; simp [val]), (fun a h => by cases h)⟩ ?_
  clear henv hst a
  rintro mz a w1 ⟨i, A1, c1, N, rfl, henv, hst, him, hN, hF⟩
  have hNl : nl N ≤ n + m := by rw [hN]; have h1 := nl_mul (val 4294967296 xs) (val 4294967296 (ys.drop i)); have h2 := nl_val h; have h3 := nl_drop k i; omega
  refine wp_seq ?_
  refine wp_seq ?_
  refine region_seq ?_
  refine seq_step rfl (op_val (v := .int .i64 (((i : Nat) : Int) - 1)) henv rfl (rn_move henv rfl) ?_)
  clear henv a; intro a henv
  refine seq_step rfl (op_val (v := .bool (decide (((i : Nat) : Int) - 1 ≥ (0 : Int)))) henv rfl (rn_bin henv rfl rfl rfl) ?_)
  clear henv a; intro a henv
  refine wpList_nil ?_
  refine th_n ?_
  refine if_split henv rfl (fun hc2 => ?_) (fun hc2 => ?_)
  · obtain ⟨j, hj⟩ : ∃ j : Nat, ((i : Nat) : Int) - 1 = (j : Nat) := ⟨i - 1, by have := of_decide_eq_true hc2; omega⟩
    rw [hj] at henv
    obtain rfl : i = j + 1 := by omega
    clear hj
    have hyb := u32_get k j
    refine wp_skip ?_
    refine th_n ?_
    refine wp_seq ?_
    refine wp_block ?_
    refine wp_seq ?_
    refine region_seq ?_
    refine seq_step rfl (op_buildSlice (z := 1) (pv := #[(0, .int .u32 0)]) (c := #[.int .u32 0]) henv hst rfl Tryd.underlying22 (ty_uint32.size) zero_uint32 (by decide) (by decide) rfl (by kernel_rfl) ?_)
    clear henv hst a; intro a w4 g3 henv hst
    refine seq_step rfl (op_val (v := .slice A1 (nl N) c1) henv rfl (rn_move henv rfl) ?_)
    clear henv a; intro a henv
    replace hst := hst.rowOf (k := 0) (z := 1) rfl rfl (by decide)
    refine seq_step rfl (op_appendU (k := 0) (os := [0]) henv hst rfl Tryd.underlying22 info_u32 rfl rfl rfl (show U32 _ A1 (nl N) c1 (L N) from hst.pat (k := 2) rfl) (by unfold maxLen; omega) (by omega) ?_)
    clear henv hst a; intro a w6 v5 henv hst
    refine seq_step rfl (op_val (v := v5) henv rfl (rn_assign henv rfl) ?_)
    clear henv a; intro a henv
    refine wpList_nil ?_
    obtain ⟨A7, c8, rfl, hst⟩ := hst.rowGive (k := 0) rfl (lt_cons0 (L_lt N))
    refine th_n ?_
    refine region_seq ?_
    refine seq_step rfl (op_val (v := .slice A7 (1 + (nl N)) c8) henv rfl (rn_move henv rfl) ?_)
    clear henv a; intro a henv
    refine seq_step rfl (op_val (v := .slice A n c) henv rfl (rn_move henv rfl) ?_)
    clear henv a; intro a henv
    refine seq_step rfl (op_val (v := .slice B m d) henv rfl (rn_move henv rfl) ?_)
    clear henv a; intro a henv
    refine seq_step rfl (op_val (v := .int .i64 (j : Nat)) henv rfl (rn_move henv rfl) ?_)
    clear henv a; intro a henv
    refine seq_step rfl (op_val (v := .pointer (some ⟨ab B, ao B + j, none⟩)) henv rfl (rn_idxU (i := j) henv Tryd.underlying22 (ty_uint32.size) rfl rfl (by omega) (show U32 _ B m d ys from (hst.pat (k := 2) rfl))) ?_)
    clear henv a; intro a henv
    refine seq_step rfl (op_val (v := .int .u32 (ys.getD j 0 : Nat)) henv rfl (rn_loadU henv ty_uint32 rfl (by omega) (show U32 _ B m d ys from (hst.pat (k := 2) rfl))) ?_)
    clear henv a; intro a henv
    have hsm := nl_mul (val 4294967296 xs) (ys.getD j 0)
    have hs1 : nl (ys.getD j 0) ≤ 1 := nl_le_of_lt (by omega)
    have hs2 := nl_val h
    refine seq_step rfl (op_call henv rfl Tryd.call54 rfl (r_muls (q := ys.getD j 0) (show U32 _ A n c xs from hst.pat (k := 1) rfl) (by omega) hyb) ?_)
    rintro e w11 ⟨_, rfl, ⟨A9, c10, rfl, hU, hA⟩, hb⟩
    refine ⟨_, rfl, ?_⟩
    clear henv a; intro a henv
    replace hst := hst.freshU hb hU hA
    clear hU
    clear hA
    clear hb
    have hst0 := hst
    refine seq_step rfl (op_call henv rfl Tryd.call98 rfl (r_add_to (show U32 _ A7 (1 + (nl N)) c8 ([0] ++ L N) from hst.pat (k := 1) rfl) (show U32 _ A9 (nl (val 4294967296 xs * (ys.getD j 0))) c10 (L (val 4294967296 xs * (ys.getD j 0))) from hst.pat (k := 0) rfl) (by omega) (by omega) (mul_next hN)) ?_)
    rintro e w14 ⟨_, rfl, ⟨A12, c13, rfl, hU, hA⟩, hb⟩
    refine ⟨_, rfl, ?_⟩
    clear henv a; intro a henv
    replace hst := hst.freshU hb hU hA
    clear hU
    have hF2 : ∀ a, A12 = some a → w0.heap.size ≤ a.block := fun a ha => Nat.le_trans hst0.below.size (hA a ha)
    clear hA hst0
    clear hb
    refine seq_step rfl (op_val (v := .slice A12 (nl (val 4294967296 xs * val 4294967296 (ys.drop j))) c13) henv rfl (rn_assign henv rfl) ?_)
    clear henv a; intro a henv
    refine wpList_nil ?_
    refine bl_n (th_n ?_)
    refine region_seq ?_
    refine seq_step rfl (op_val (v := .int .i64 (j : Nat)) henv rfl (rn_move henv rfl) ?_)
    clear henv a; intro a henv
    refine seq_step rfl (op_val (v := .int .i64 (((j : Nat) : Int) - (1 : Int))) henv rfl (rn_sub henv rfl rfl (IntWalk.i64_in _ (by omega))) ?_)
    clear henv a; intro a henv
    refine seq_step rfl (op_val (v := .int .i64 (((j : Nat) : Int) - (1 : Int))) henv rfl (rn_assign henv rfl) ?_)
    clear henv a; intro a henv
    refine wpList_nil ?_
    exact th_n ⟨_, (by omega), ⟨j, A12, c13, val 4294967296 xs * val 4294967296 (ys.drop j), rfl, henv.sub ⟨rfl, rfl, rfl, rfl, trivial⟩, hst.pick [] [3, 4, 0] (by decide), (by omega), rfl, hF2⟩⟩
  · obtain rfl : i = 0 := by have := of_decide_eq_false hc2; omega
    rw [List.drop_zero] at hN
    refine wp_exit ?_
    refine th_x (th_x (bl_x (th_n ?_)))
    refine wp_seq ?_
    refine region_seq ?_
    refine seq_step rfl (op_val (v := .slice A1 (nl N) c1) henv rfl (rn_move henv rfl) ?_)
    clear henv a; intro a henv
    refine seq_step rfl (op_val (v := .slice A1 (nl N) c1) henv rfl (rn_assign henv rfl) ?_)
    clear henv a; intro a henv
    refine wpList_nil ?_
    refine th_n ?_
    refine wp_ret ?_
    refine leave henv (res1 Tryd.results53 (RV.tmp henv rfl)) ?_
    subst hN
    exact ⟨_, rfl, ⟨_, _, rfl, hst.pat (k := 2) rfl, hF⟩, hst.below⟩

end Go.Proofs.YtnldopjbiacbfaaDoor.W

/- Rows with room behind their end; slices of rows; a call of a function's value. No condition. -/
namespace Go.Proofs.YtnldopjbiacbfaaDoor.W
open Go.RowKit Anv

theorem U32.pre {w : World} {A : Option Addr} {n m c : Nat} {xs ys : List Nat} (h : U32 w A (n + m) c (xs ++ ys)) (hx : xs.length = n) : U32 w A n c xs :=
  ⟨hx, Nat.le_trans (Nat.le_add_right _ _) h.cap, h.big, fun x hm => h.lt x (List.mem_append_left _ hm), fun hp => by
    obtain ⟨b, off, hA, hb, hc⟩ := h.cells (by omega)
    refine ⟨b, off, hA, hb, fun i hi => ?_⟩
    rw [hc i (by omega)]
    simp [List.getD, List.getElem?_append_left (show i < xs.length by omega)]⟩
theorem U32.suf {w : World} {b off n m c : Nat} {xs ys : List Nat} (h : U32 w (some ⟨b, off, none⟩) (n + m) c (xs ++ ys)) (hx : xs.length = n) (hy : ys.length = m) (hm : 0 < m) : U32 w (some ⟨b, off + n, none⟩) m (c - n) ys :=
  ⟨hy, by have := h.cap; omega, Nat.le_trans (Nat.sub_le _ _) h.big, fun x hm => h.lt x (List.mem_append_right _ hm), fun hp => by
    obtain ⟨b', off', hA, hb, hc⟩ := h.cells (by omega)
    cases hA
    refine ⟨b, off + n, rfl, hb, fun i hi => ?_⟩
    rw [Nat.add_assoc, hc (n + i) (by omega)]
    simp [List.getD, List.getElem?_append_right (show xs.length ≤ n + i by omega), hx]⟩

section
variable {P : Program} {K : Act → World → Prop} {Q : Exit → Act → World → Prop} {N : Nat} {dq : List Deferred} {a : Act} {l : List (Nat × Value)} {w w0 : World} {own ps : List PF}
variable {d : Nat} {ty : TypeId} {pos : String} {af : Array Edge} {gd : Option (Nat × Bool)}
theorem rn_sliceTo {x y : Operand} {T E n m c z : Nat} {k : IntKind} {A : Option Addr} (h : EnvD dq N a l) (hT : P.underlying T = some (.slice E)) (hE : ∃ j, P.info? E = some j ∧ j.size = z) (hx : evl l x = some (.slice A n c)) (hy : evl l y = some (.int k (m : Nat))) (hm : m ≤ c) :
    (execOp a.eval ⟨some d, .slice T x none (some y) none, ty, pos, af, gd⟩).run P w = .ok (.value (.slice A m c)) w := by
  have hv := h.ev hx
  have hv' := h.ev hy
  have he : P.elem T = E := by simp [Program.elem, hT]
  have hr := run_slice_h (P := P) w T A n c (by rw [he]; exact hT) k (m : Int) (by omega) (by omega)
  rw [he, run_sizeOf hE] at hr
  simp only [execOp, Option.map_none, Option.map_some, hv, hv']
  rw [Sem.run_bind, run_sliceAt_slice _ _ _ _ _ _ (by rw [he]; exact hT), hr]
  have e : Option.map (fun x : Addr => x.add 0) A = A := by
    cases A with
    | none => rfl
    | some ad => simp [Addr.add]
  simp [sliced, Result.andThen, e]
theorem rn_sliceFrom {x y : Operand} {T E n m c b o : Nat} {k : IntKind} (h : EnvD dq N a l) (hT : P.underlying T = some (.slice E)) (hE : ∃ j, P.info? E = some j ∧ j.size = 1) (hx : evl l x = some (.slice (some ⟨b, o, none⟩) n c)) (hy : evl l y = some (.int k (m : Nat))) (hm : m ≤ n) (hc : m < c) :
    (execOp a.eval ⟨some d, .slice T x (some y) none none, ty, pos, af, gd⟩).run P w = .ok (.value (.slice (some ⟨b, o + m, none⟩) (n - m) (c - m))) w := by
  have hv := h.ev hx
  have hv' := h.ev hy
  have he : P.elem T = E := by simp [Program.elem, hT]
  have hr := run_slice_l (P := P) w T (some ⟨b, o, none⟩) n c (by rw [he]; exact hT) k (m : Int) (by omega) (by omega)
  rw [he, run_sizeOf hE] at hr
  simp only [execOp, Option.map_none, Option.map_some, hv, hv']
  rw [Sem.run_bind, run_sliceAt_slice _ _ _ _ _ _ (by rw [he]; exact hT), hr]
  have hne : ¬ (c = m) := by omega
  simp [sliced, Result.andThen, hne, Addr.add_mid]
/-- An empty row, written out. -/
theorem op_build0 {T E z : Nat} (h : EnvD dq N a l) (hs : St w0 w own ps) (hd : Nat.blt d N = true) (hT : P.underlying T = some (.slice E)) (hE : ∃ i, P.info? E = some i ∧ i.size = z)
    (hK : ∀ a' w' g, EnvD dq N a' ((d, .slice (some ⟨g, 0, none⟩) 0 0) :: l) → St w0 w' (bk g #[] E :: own) ps → K a' w') :
    Oper.wp P ⟨some d, .buildSlice T 0 #[], ty, pos, af, gd⟩ a w K Q := by
  have hr : (execOp a.eval ⟨some d, .buildSlice T 0 #[], ty, pos, af, gd⟩).run P w = .ok (.value (.slice (some ⟨w.heap.size, 0, none⟩) 0 0)) (w.alloc (.cells #[] E)) := by
    have e0 : ∀ f : Nat → Value, Array.map f (Array.range 0) = #[] := fun f => by apply Array.ext <;> simp
    simp [execOp, Instr.buildSlice, Sem.run_bind, run_underlying hT, run_sizeOf hE, Instr.fill, newRow, newObj, Sem.run, e0]
  unfold Oper.wp
  rw [hr]
  exact hK _ _ _ (h.put hd _) (hs.push _ _)
theorem rn_nilS {x : Operand} {T E yt n c : Nat} {A : Option Addr} (h : EnvD dq N a l) (hT : P.underlying T = some (.slice E)) (hx : evl l x = some (.slice A n c)) :
    (execOp a.eval ⟨some d, .binOp .eql T x (.const (.slice none 0 0)) yt, ty, pos, af, gd⟩).run P w = .ok (.value (.bool A.isNone)) w := by
  refine rn_bin h hx (by rfl) ?_
  have := Lib.run_eql_slice_nil (P := P) w T E A n c 0 0 hT
  simp [eqGuard, this]
end
end Go.Proofs.YtnldopjbiacbfaaDoor.W

/- Rows with room behind their end: Clone, room, kept. Printed by pv/gen_room.py. No condition. -/
namespace Go.Proofs.YtnldopjbiacbfaaDoor.W
open Go.RowKit Anv

theorem u32_none0 {w : World} {n c : Nat} {xs : List Nat} (h : U32 w none n c xs) : n = 0 ∧ xs = [] := by
  have hm : n = 0 := by
    rcases Nat.eq_zero_or_pos n with h0 | h0
    · exact h0
    · obtain ⟨_, _, e, _⟩ := h.cells h0
      cases e
  subst hm
  exact ⟨rfl, List.length_eq_zero_iff.1 h.len⟩
theorem lt_room {xs : List Nat} (h : AllLt 4294967296 xs) : AllLt 4294967296 (xs ++ [77, 78]) := by
  intro x hx
  rcases List.mem_append.1 hx with hx | hx
  · exact h x hx
  · simp at hx; omega
theorem rowF_foot {E n c : Nat} {A : Option Addr} (xs : List Nat) (vs : List Value) : ∀ b, (pfU A n c xs).foot b → (rowF E 1 (.slice A n c) n vs).foot b := by
  intro b hb
  obtain ⟨_, off, rfl⟩ := hb
  rfl

set_option maxRecDepth 100000 in
set_option maxHeartbeats 4000000 in
theorem clone_any {A : Option Addr} {n c : Nat} {xs : List Nat} {w0 : World} (h : U32 w0 A n c xs) (hn : n ≤ 1000000) :
    Calls Tryd.prog 92 #[.slice A n c] w0 fun e w' => ∃ v, e = .returned v ∧ w'.ownsRow 0 45 1 v n (vals xs) ∧ (∀ b, v.ownBlock = some b → w0.heap.size ≤ b) ∧ Below w0.heap.size w0 w' := by
  refine enter Tryd.func92 rfl Tryd.ntmps92 rfl ?_
  intro a henv hst
  replace hst := hst.addU h trivial
  refine wp_seq ?_
  refine region_seq ?_
  refine seq_step rfl (op_val (v := .slice none 0 0) henv rfl (rn_assign henv rfl) ?_)
  clear henv a; intro a henv
  refine wpList_nil ?_
  refine th_n ?_
  refine wp_seq ?_
  refine wp_seq ?_
  refine region_seq ?_
  refine seq_step rfl (op_val (v := .slice A n c) henv rfl (rn_move henv rfl) ?_)
  clear henv a; intro a henv
  refine seq_step rfl (op_val (v := .bool A.isNone) henv rfl (rn_nilS henv Tryd.underlying22 rfl) ?_)
  clear henv a; intro a henv
  refine wpList_nil ?_
  refine th_n ?_
  refine if_split henv rfl (fun hc1 => ?_) (fun hc1 => ?_)
  · obtain rfl : A = none := by cases A; rfl; cases hc1
    obtain ⟨rfl, rfl⟩ := u32_none0 h
    refine wp_seq ?_
    refine region_seq ?_
    refine seq_step rfl (op_val (v := .slice none 0 0) henv rfl (rn_assign henv rfl) ?_)
    clear henv a; intro a henv
    refine wpList_nil ?_
    refine th_n ?_
    refine wp_ret ?_
    refine th_r ?_
    refine leave henv (res1 Tryd.results92 (RV.tmp henv rfl)) ?_
    exact ⟨_, rfl, World.ownsRow_nil _ _ _ _, fun b hb => by simp [Value.ownBlock] at hb, hst.below⟩
  · refine wp_skip ?_
    refine th_n ?_
    refine wp_seq ?_
    refine region_seq ?_
    refine seq_step rfl (op_build0 henv hst rfl Tryd.underlying22 (ty_uint32.size) ?_)
    clear henv hst a; intro a w3 g2 henv hst
    refine seq_step rfl (op_val (v := .slice A n c) henv rfl (rn_move henv rfl) ?_)
    clear henv a; intro a henv
    replace hst := hst.rowOf (k := 0) (n := 0) (z := 1) rfl rfl (by decide)
    refine seq_step rfl (op_appendU (k := 0) (os := []) henv hst rfl Tryd.underlying22 info_u32 rfl rfl rfl (show U32 _ A n c xs from hst.pat (k := 0) rfl) (by unfold maxLen; omega) (by omega) ?_)
    clear henv hst a; intro a w5 v4 henv hst
    refine seq_step rfl (op_val (v := v4) henv rfl (rn_assign henv rfl) ?_)
    clear henv a; intro a henv
    refine wpList_nil ?_
    refine th_n ?_
    refine wp_ret ?_
    refine leave henv (res1 Tryd.results92 (RV.tmp henv rfl)) ?_
    have ho := hst.owns (k := 0) rfl
    have hf := hst.new _ (List.mem_of_getElem? (i := 0) rfl)
    refine ⟨_, rfl, ?_, hf, hst.below⟩
    have e1 : 0 + n = n := Nat.zero_add n
    rw [e1] at ho
    exact ho

set_option maxRecDepth 100000 in
set_option maxHeartbeats 4000000 in
theorem room_any {A : Option Addr} {n c : Nat} {xs : List Nat} {w0 : World} (h : U32 w0 A n c xs) (hn : n ≤ 900000) :
    Calls Tryd.prog 46 #[.slice A n c] w0 fun e w' => ∃ A' c', e = .returned (.slice A' n c') ∧ U32 w' A' (n + 2) c' (xs ++ [77, 78]) ∧ (∀ a, A' = some a → w0.heap.size ≤ a.block) ∧ Below w0.heap.size w0 w' := by
  have hltr : AllLt 4294967296 (xs ++ [77, 78]) := lt_room h.lt
  refine enter Tryd.func46 rfl Tryd.ntmps46 rfl ?_
  intro a henv hst
  replace hst := hst.addU h trivial
  refine wp_seq ?_
  refine region_seq ?_
  refine seq_step rfl (op_val (v := .slice none 0 0) henv rfl (rn_assign henv rfl) ?_)
  clear henv a; intro a henv
  refine wpList_nil ?_
  refine th_n ?_
  refine wp_seq ?_
  refine region_seq ?_
  refine seq_step rfl (op_val (v := .slice A n c) henv rfl (rn_move henv rfl) ?_)
  clear henv a; intro a henv
  refine seq_step rfl (op_call henv rfl Tryd.call92 rfl (clone_any (show U32 _ A n c xs from hst.pat (k := 0) rfl) (by omega)) ?_)
  rintro e w2 ⟨v1, rfl, ho, hf, hb⟩
  refine ⟨_, rfl, ?_⟩
  clear henv a; intro a henv
  replace hst := hst.add hb (rowF 45 1 v1 n (vals xs)) ho hf
  clear ho hf hb
  refine seq_step rfl (op_buildSlice (z := 1) (pv := #[(0, .int .u32 77), (1, .int .u32 78)]) (c := #[.int .u32 77, .int .u32 78]) henv hst rfl Tryd.underlying22 (ty_uint32.size) zero_uint32 (by decide) (by decide) rfl (by kernel_rfl) ?_)
  clear henv hst a; intro a w4 g3 henv hst
  replace hst := hst.giveU (k := 0) (n := 2) (xs := [77, 78]) rfl (by intro x hx; simp at hx; omega) rfl (by decide)
  refine seq_step rfl (op_appendU (k := 0) (os := xs) henv hst rfl Tryd.underlying22 info_u32 rfl rfl rfl (show U32 _ (some ⟨g3, 0, none⟩) 2 2 ([77, 78]) from hst.pat (k := 0) rfl) (by unfold maxLen; omega) (by omega) ?_)
  clear henv hst a; intro a w6 v5 henv hst
  obtain ⟨A7, c8, rfl, hU2, hF⟩ := hst.rowOut (k := 0) rfl hltr
  replace hst := hst.give (k := 0) rfl (pfU A7 (n + 2) c8 (xs ++ [77, 78])) hU2 (rowF_foot _ _)
  have hcap := hU2.cap
  clear hU2
  refine seq_step rfl (op_val (v := .slice A n c) henv rfl (rn_move henv rfl) ?_)
  clear henv a; intro a henv
  refine seq_step rfl (op_val (v := .int .i64 (n : Nat)) henv rfl (rn_len henv Tryd.underlying22 rfl) ?_)
  clear henv a; intro a henv
  refine seq_step rfl (op_val (v := .slice A7 n c8) henv rfl (rn_sliceTo (m := n) henv Tryd.underlying22 (ty_uint32.size) rfl rfl (by omega)) ?_)
  clear henv a; intro a henv
  refine seq_step rfl (op_val (v := .slice A7 n c8) henv rfl (rn_assign henv rfl) ?_)
  clear henv a; intro a henv
  refine wpList_nil ?_
  refine th_n ?_
  refine wp_ret ?_
  refine leave henv (res1 Tryd.results46 (RV.tmp henv rfl)) ?_
  exact ⟨_, _, rfl, hst.pat (k := 0) rfl, hF, hst.below⟩

set_option maxRecDepth 100000 in
set_option maxHeartbeats 4000000 in
theorem kept_true {A A' : Option Addr} {n c c' : Nat} {xs : List Nat} {w0 : World} (h : U32 w0 A' (n + 2) c' (xs ++ [77, 78])) (k : U32 w0 A n c xs) (hn : n ≤ 900000) :
    Calls Tryd.prog 48 #[.slice A' n c', .slice A n c] w0 fun e w' => e = .returned (.bool true) ∧ Below w0.heap.size w0 w' := by
  refine enter Tryd.func48 rfl Tryd.ntmps48 rfl ?_
  intro a henv hst
  obtain ⟨b, off, rfl, _, _⟩ := h.cells (by omega)
  have hcap := h.cap
  have h2 := U32.pre h k.len
  have h3 := U32.suf h k.len rfl (by omega)
  replace hst := ((hst.addU h2 trivial).addU h3 trivial).addU k trivial
  clear h h2 h3 k
  refine wp_seq ?_
  refine region_seq ?_
  refine seq_step rfl (op_val (v := .bool false) henv rfl (rn_assign henv rfl) ?_)
  clear henv a; intro a henv
  refine wpList_nil ?_
  refine th_n ?_
  refine wp_seq ?_
  refine region_seq ?_
  refine seq_step rfl (op_val (v := .slice (some ⟨b, off, none⟩) n c') henv rfl (rn_move henv rfl) ?_)
  clear henv a; intro a henv
  refine seq_step rfl (op_val (v := .slice A n c) henv rfl (rn_move henv rfl) ?_)
  clear henv a; intro a henv
  refine seq_step rfl (op_call henv rfl Tryd.call36 rfl (equal_u (show U32 _ (some ⟨b, off, none⟩) n c' xs from hst.pat (k := 2) rfl) (show U32 _ A n c xs from hst.pat (k := 0) rfl)) ?_)
  rintro e w1 ⟨rfl, hb⟩
  refine ⟨_, rfl, ?_⟩
  clear henv a; intro a henv
  replace hst := hst.call hb
  clear hb
  rw [show (decide (xs = xs)) = true from decide_eq_true rfl] at henv
  refine seq_step rfl (op_val (v := .bool true) henv rfl (rn_move henv rfl) ?_)
  clear henv a; intro a henv
  refine seq_g rfl henv rfl rfl (op_val (v := .slice (some ⟨b, off, none⟩) n c') henv rfl (rn_move henv rfl) ?_)
  clear henv a; intro a henv
  refine seq_g rfl henv rfl rfl (op_val (v := .slice A n c) henv rfl (rn_move henv rfl) ?_)
  clear henv a; intro a henv
  refine seq_g rfl henv rfl rfl (op_val (v := .int .i64 (n : Nat)) henv rfl (rn_len henv Tryd.underlying22 rfl) ?_)
  clear henv a; intro a henv
  refine seq_g rfl henv rfl rfl (op_val (v := .int .i64 (n + 2 : Nat)) henv rfl (rn_add henv rfl rfl (by rw [IntWalk.i64_in _ (by omega)]; omega)) ?_)
  clear henv a; intro a henv
  refine seq_g rfl henv rfl rfl (op_val (v := .slice (some ⟨b, off, none⟩) (n + 2) c') henv rfl (rn_sliceTo (m := n + 2) henv Tryd.underlying22 (ty_uint32.size) rfl rfl (by omega)) ?_)
  clear henv a; intro a henv
  refine seq_g rfl henv rfl rfl (op_val (v := .slice A n c) henv rfl (rn_move henv rfl) ?_)
  clear henv a; intro a henv
  refine seq_g rfl henv rfl rfl (op_val (v := .int .i64 (n : Nat)) henv rfl (rn_len henv Tryd.underlying22 rfl) ?_)
  clear henv a; intro a henv
  refine seq_g rfl henv rfl rfl (op_val (v := .slice (some ⟨b, off + n, none⟩) (n + 2 - n) (c' - n)) henv rfl (rn_sliceFrom (m := n) henv Tryd.underlying22 (ty_uint32.size) rfl rfl (by omega) (by omega)) ?_)
  clear henv a; intro a henv
  rw [show n + 2 - n = 2 by omega] at henv
  refine seq_g rfl henv rfl rfl (op_buildSlice (z := 1) (pv := #[(0, .int .u32 77), (1, .int .u32 78)]) (c := #[.int .u32 77, .int .u32 78]) henv hst rfl Tryd.underlying22 (ty_uint32.size) zero_uint32 (by decide) (by decide) rfl (by kernel_rfl) ?_)
  clear henv hst a; intro a w3 g2 henv hst
  replace hst := hst.giveU (k := 0) (n := 2) (xs := [77, 78]) rfl (by intro x hx; simp at hx; omega) rfl (by decide)
  refine seq_g rfl henv rfl rfl (op_call henv rfl Tryd.call36 rfl (equal_u (show U32 _ (some ⟨b, off + n, none⟩) 2 (c' - n) ([77, 78]) from hst.pat (k := 2) rfl) (show U32 _ (some ⟨g2, 0, none⟩) 2 2 ([77, 78]) from hst.pat (k := 0) rfl)) ?_)
  rintro e w4 ⟨rfl, hb⟩
  refine ⟨_, rfl, ?_⟩
  clear henv a; intro a henv
  replace hst := hst.call hb
  clear hb
  rw [show (decide ([77, 78] = [77, 78])) = true from decide_eq_true rfl] at henv
  refine seq_step rfl (op_val (v := .bool true) henv rfl (rn_pick henv rfl rfl) ?_)
  clear henv a; intro a henv
  refine seq_step rfl (op_val (v := .bool true) henv rfl (rn_assign henv rfl) ?_)
  clear henv a; intro a henv
  refine wpList_nil ?_
  refine th_n ?_
  refine wp_ret ?_
  refine leave henv (res1 Tryd.results48 (RV.tmp henv rfl)) ?_
  exact ⟨rfl, hst.below⟩

end Go.Proofs.YtnldopjbiacbfaaDoor.W

/- anvillaw01.long. Printed by pv/gen_long.py. No condition. -/
namespace Go.Proofs.YtnldopjbiacbfaaDoor.W
open Go.RowKit Anv

def sls (ls : List (Option Addr × Nat × Nat)) : Array Value := (ls.map fun p => Value.slice p.1 p.2.1 p.2.2).toArray
theorem sls_at (ls : List (Option Addr × Nat × Nat)) {j : Nat} (h : j < ls.length) : (sls ls)[j]? = some (.slice (ls.getD j (none, 0, 0)).1 (ls.getD j (none, 0, 0)).2.1 (ls.getD j (none, 0, 0)).2.2) := by
  simp [sls, List.getD, h]
theorem gt_iff (r : Int) : (decide (r ≥ (0 : Int)) = true) = (0 ≤ r) := by simp
theorem St.addP0 {w0 w : World} {ps : List PF} (h : St w0 w [] ps) (p : PF) (hp : p.P w) : St w0 w [] (p :: ps) := h.addP p hp fun e he => by simp at he
section
variable {P : Program} {K : Act → World → Prop} {Q : Exit → Act → World → Prop} {N : Nat} {dq : List Deferred} {a : Act} {l : List (Nat × Value)} {w : World}
variable {d : Nat} {ty : TypeId} {pos : String} {af : Array Edge} {gd : Option (Nat × Bool)}
/-- A call of a function's value. -/
theorem op_callv {f : FuncId} {y : Operand} {xs : Array Operand} {Ts : Array TypeId} {vs : Array Value} {R : Ending → World → Prop} (h : EnvD dq N a l) (hd : Nat.blt d N = true)
    (hb : ∀ args w, (callFunc f args).run P w = .ok (.enter f args) w) (hy : evl l y = some (.func (.func f) #[] #[])) (hx : xs.toList.map (evl l) = vs.toList.map some) (hc : Calls P f vs w R)
    (hK : ∀ e w', R e w' → ∃ v, e = .returned v ∧ ∀ a', EnvD dq N a' ((d, v) :: l) → K a' w') :
    Oper.wp P ⟨some d, .call ⟨.value y, xs, Ts⟩, ty, pos, af, gd⟩ a w K Q := by
  have := op_call (K := K) (Q := Q) (ty := ty) (pos := pos) (af := af) (gd := gd) (Ts := Ts) h hd hb hx hc hK
  unfold Oper.wp at this ⊢
  have e : (execOp a.eval ⟨some d, .call ⟨.value y, xs, Ts⟩, ty, pos, af, gd⟩).run P w = (execOp a.eval ⟨some d, .call ⟨.value (.func f), xs, Ts⟩, ty, pos, af, gd⟩).run P w := by
    have h1 := h.ev hy
    have h2 : a.eval (.func f) = .func (.func f) #[] #[] := rfl
    simp only [execOp, resolve, h1, h2]
  rw [e]
  exact this
end

set_option maxRecDepth 100000 in
theorem long_one {A : Option Addr} {n c : Nat} {w0 : World} :
    Calls Tryd.prog 94 #[.slice A n c] w0 fun e w' => e = .returned (.bool (decide (((n : Nat) : Int) > (160 : Int)))) ∧ Below w0.heap.size w0 w' := by
  refine enter Tryd.func94 rfl Tryd.ntmps94 rfl ?_
  intro a henv hst
  refine wp_seq ?_
  refine region_seq ?_
  refine seq_step rfl (op_val (v := .bool false) henv rfl (rn_assign henv rfl) ?_)
  clear henv a; intro a henv
  refine wpList_nil ?_
  refine th_n ?_
  refine wp_seq ?_
  refine region_seq ?_
  refine seq_step rfl (op_val (v := .slice A n c) henv rfl (rn_move henv rfl) ?_)
  clear henv a; intro a henv
  refine seq_step rfl (op_val (v := .int .i64 (n : Nat)) henv rfl (rn_len henv Tryd.underlying22 rfl) ?_)
  clear henv a; intro a henv
  refine seq_step rfl (op_val (v := .bool (decide (((n : Nat) : Int) > (160 : Int)))) henv rfl (rn_bin henv rfl rfl rfl) ?_)
  clear henv a; intro a henv
  refine seq_step rfl (op_val (v := .bool (decide (((n : Nat) : Int) > (160 : Int)))) henv rfl (rn_assign henv rfl) ?_)
  clear henv a; intro a henv
  refine wpList_nil ?_
  refine th_n ?_
  refine wp_ret ?_
  refine leave henv (res1 Tryd.results94 (RV.tmp henv rfl)) ?_
  exact ⟨rfl, hst.below⟩

set_option maxRecDepth 100000 in
set_option maxHeartbeats 4000000 in
theorem long_index {g q : Nat} {ls : List (Option Addr × Nat × Nat)} {w0 : World} (hg : w0.heap[g]? = some (.cells (sls ls) 22 (0, 0))) (hq : ls.length = q) (hqm : q ≤ 1000) :
    Calls Tryd.prog 117 #[.slice (some ⟨g, 0, none⟩) q q, .func (.func 94) #[] #[]] w0 fun e w' => ∃ r : Int, e = .returned (.int .i64 r) ∧ (0 ≤ r ↔ ∃ i, i < q ∧ 160 < (ls.getD i (none, 0, 0)).2.1) ∧ Below w0.heap.size w0 w' := by
  refine enter Tryd.func117 rfl Tryd.ntmps117 rfl ?_
  intro a henv hst
  replace hst := hst.addP0 (bk g (sls ls) 22) hg
  refine wp_seq ?_
  refine region_seq ?_
  refine seq_step rfl (op_val (v := .int .i64 0) henv rfl (rn_assign henv rfl) ?_)
  clear henv a; intro a henv
  refine wpList_nil ?_
  refine th_n ?_
  refine wp_seq ?_
  refine wp_seq ?_
  refine region_seq ?_
  refine seq_step rfl (op_val (v := .slice (some ⟨g, 0, none⟩) q q) henv rfl (rn_move henv rfl) ?_)
  clear henv a; intro a henv
  refine seq_step rfl (op_val (v := .int .i64 (q : Nat)) henv rfl (rn_len henv Tryd.underlying107 rfl) ?_)
  clear henv a; intro a henv
  refine seq_step rfl (op_val (v := .int .i64 0) henv rfl (rn_move henv rfl) ?_)
  clear henv a; intro a henv
  refine wpList_nil ?_
  refine th_n ?_
  refine wp_block ?_
  refine wp_loop_ghost (fun mz a w => ∃ j : Nat, q - j = mz ∧ Env 19 a [(0, .slice (some ⟨g, 0, none⟩) q q), (1, .func (.func 94) #[] #[]), (7, .int .i64 (q : Nat)), (8, .int .i64 (j : Nat))] ∧ St w0 w [] [bk g (sls ls) 22] ∧ j ≤ q ∧ (∀ i, i < j → ¬ 160 < (ls.getD i (none, 0, 0)).2.1)) _ ⟨0, rfl, henv.sub ⟨rfl, rfl, rfl, rfl, trivial⟩, hst.pick [] [0] (by decide), (Nat.zero_le _), (fun i hi => absurd hi (Nat.not_lt_zero _))⟩ ?_
  clear henv hst a
  rintro mz a w1 ⟨j, rfl, henv, hst, hj, hz⟩
  refine wp_seq ?_
  refine region_seq ?_
  refine seq_step rfl (op_val (v := .bool (decide (((j : Nat) : Int) < ((q : Nat) : Int)))) henv rfl (rn_bin henv rfl rfl rfl) ?_)
  clear henv a; intro a henv
  refine wpList_nil ?_
  refine th_n ?_
  refine wp_seq ?_
  refine if_split henv rfl (fun hc2 => ?_) (fun hc2 => ?_)
  · have hlt : j < q := by have := of_decide_eq_true hc2; omega
    refine wp_skip ?_
    refine th_n ?_
    refine wp_seq ?_
    refine wp_block ?_
    refine wp_seq ?_
    refine region_seq ?_
    refine seq_step rfl (op_val (v := .int .i64 (j : Nat)) henv rfl (rn_move henv rfl) ?_)
    clear henv a; intro a henv
    refine seq_step rfl (op_val (v := .int .i64 (j : Nat)) henv rfl (rn_assign henv rfl) ?_)
    clear henv a; intro a henv
    refine wpList_nil ?_
    refine th_n ?_
    refine wp_seq ?_
    refine region_seq ?_
    refine seq_step rfl (op_val (v := .func (.func 94) #[] #[]) henv rfl (rn_move henv rfl) ?_)
    clear henv a; intro a henv
    refine seq_step rfl (op_val (v := .slice (some ⟨g, 0, none⟩) q q) henv rfl (rn_move henv rfl) ?_)
    clear henv a; intro a henv
    refine seq_step rfl (op_val (v := .int .i64 (j : Nat)) henv rfl (rn_move henv rfl) ?_)
    clear henv a; intro a henv
    refine seq_step rfl (op_val (v := .pointer (some ⟨g, j, none⟩)) henv rfl (rn_idxO (i := j) henv Tryd.underlying107 (ty__uint32.size) rfl rfl hlt (by omega)) ?_)
    clear henv a; intro a henv
    refine seq_step rfl (op_val (v := .slice ((ls.getD j (none, 0, 0)).1) ((ls.getD j (none, 0, 0)).2.1) ((ls.getD j (none, 0, 0)).2.2)) henv rfl (rn_load1 henv ty__uint32 rfl (show _ = _ from (hst.pat (k := 0) rfl : (bk g (sls ls) 22).P _)) (sls_at ls (by omega))) ?_)
    clear henv a; intro a henv
    refine seq_step rfl (op_callv henv rfl Tryd.call94 rfl rfl long_one ?_)
    rintro e w3 ⟨rfl, hb⟩
    refine ⟨_, rfl, ?_⟩
    clear henv a; intro a henv
    replace hst := hst.call hb
    clear hb
    refine wpList_nil ?_
    refine th_n ?_
    refine if_split henv rfl (fun hc4 => ?_) (fun hc4 => ?_)
    · have hyes : 160 < (ls.getD j (none, 0, 0)).2.1 := by have := of_decide_eq_true hc4; omega
      refine wp_seq ?_
      refine region_seq ?_
      refine seq_step rfl (op_val (v := .int .i64 (j : Nat)) henv rfl (rn_move henv rfl) ?_)
      clear henv a; intro a henv
      refine seq_step rfl (op_val (v := .int .i64 (j : Nat)) henv rfl (rn_assign henv rfl) ?_)
      clear henv a; intro a henv
      refine wpList_nil ?_
      refine th_n ?_
      refine wp_ret ?_
      refine bl_r (th_r (th_r (bl_r (th_r ?_))))
      refine leave henv (res1 Tryd.results117 (RV.tmp henv rfl)) ?_
      exact ⟨_, rfl, ⟨fun _ => ⟨j, by omega, hyes⟩, fun _ => by omega⟩, hst.below⟩
    · have hno : ¬ 160 < (ls.getD j (none, 0, 0)).2.1 := by have := of_decide_eq_false hc4; omega
      refine wp_skip ?_
      refine bl_n (th_n ?_)
      refine region_seq ?_
      refine seq_step rfl (op_val (v := .int .i64 (j + 1 : Nat)) henv rfl (rn_add henv rfl rfl (by rw [IntWalk.i64_in _ (by omega)]; omega)) ?_)
      clear henv a; intro a henv
      refine seq_step rfl (op_val (v := .int .i64 (j + 1 : Nat)) henv rfl (rn_move henv rfl) ?_)
      clear henv a; intro a henv
      refine wpList_nil ?_
      exact th_n ⟨_, (by omega), ⟨j + 1, rfl, henv.sub ⟨rfl, rfl, rfl, rfl, trivial⟩, hst.pick [] [0] (by decide), (by omega), (fun i hi => by rcases Nat.lt_or_ge i j with h1 | h1; exact hz i h1; rw [show i = j by omega]; exact hno)⟩⟩
  · obtain rfl : j = q := by have := of_decide_eq_false hc2; omega
    refine wp_exit ?_
    refine th_x (th_x (bl_x (th_n ?_)))
    refine wp_seq ?_
    refine region_seq ?_
    refine seq_step rfl (op_val (v := .int .i64 (-1)) henv rfl (rn_assign henv rfl) ?_)
    clear henv a; intro a henv
    refine wpList_nil ?_
    refine th_n ?_
    refine wp_ret ?_
    refine leave henv (res1 Tryd.results117 (RV.tmp henv rfl)) ?_
    exact ⟨_, rfl, ⟨fun h => by omega, fun ⟨i, hi, h1⟩ => absurd h1 (hz i (by omega))⟩, hst.below⟩

set_option maxRecDepth 100000 in
theorem long_contains {g q : Nat} {ls : List (Option Addr × Nat × Nat)} {w0 : World} (hg : w0.heap[g]? = some (.cells (sls ls) 22 (0, 0))) (hq : ls.length = q) (hqm : q ≤ 1000) :
    Calls Tryd.prog 93 #[.slice (some ⟨g, 0, none⟩) q q, .func (.func 94) #[] #[]] w0 fun e w' => ∃ b : Bool, e = .returned (.bool b) ∧ (b = true ↔ ∃ i, i < q ∧ 160 < (ls.getD i (none, 0, 0)).2.1) ∧ Below w0.heap.size w0 w' := by
  refine enter Tryd.func93 rfl Tryd.ntmps93 rfl ?_
  intro a henv hst
  refine wp_seq ?_
  refine region_seq ?_
  refine seq_step rfl (op_val (v := .bool false) henv rfl (rn_assign henv rfl) ?_)
  clear henv a; intro a henv
  refine wpList_nil ?_
  refine th_n ?_
  refine wp_seq ?_
  refine region_seq ?_
  refine seq_step rfl (op_val (v := .slice (some ⟨g, 0, none⟩) q q) henv rfl (rn_move henv rfl) ?_)
  clear henv a; intro a henv
  refine seq_step rfl (op_val (v := .func (.func 94) #[] #[]) henv rfl (rn_move henv rfl) ?_)
  clear henv a; intro a henv
  refine seq_step rfl (op_call henv rfl Tryd.call117 rfl (long_index hg hq hqm) ?_)
  rintro e w1 ⟨r, rfl, hr, hb⟩
  refine ⟨_, rfl, ?_⟩
  clear henv a; intro a henv
  replace hst := hst.call hb
  clear hb
  refine seq_step rfl (op_val (v := .bool (decide (r ≥ (0 : Int)))) henv rfl (rn_bin henv rfl rfl rfl) ?_)
  clear henv a; intro a henv
  refine seq_step rfl (op_val (v := .bool (decide (r ≥ (0 : Int)))) henv rfl (rn_assign henv rfl) ?_)
  clear henv a; intro a henv
  refine wpList_nil ?_
  refine th_n ?_
  refine wp_ret ?_
  refine leave henv (res1 Tryd.results93 (RV.tmp henv rfl)) ?_
  exact ⟨_, rfl, (by rw [gt_iff r]; exact hr), hst.below⟩

set_option maxRecDepth 100000 in
theorem long_u {g q : Nat} {ls : List (Option Addr × Nat × Nat)} {w0 : World} (hg : w0.heap[g]? = some (.cells (sls ls) 22 (0, 0))) (hq : ls.length = q) (hqm : q ≤ 1000) :
    Calls Tryd.prog 50 #[.slice (some ⟨g, 0, none⟩) q q] w0 fun e w' => ∃ b : Bool, e = .returned (.bool b) ∧ (b = true ↔ ∃ i, i < q ∧ 160 < (ls.getD i (none, 0, 0)).2.1) ∧ Below w0.heap.size w0 w' := by
  refine enter Tryd.func50 rfl Tryd.ntmps50 rfl ?_
  intro a henv hst
  refine wp_seq ?_
  refine region_seq ?_
  refine seq_step rfl (op_val (v := .bool false) henv rfl (rn_assign henv rfl) ?_)
  clear henv a; intro a henv
  refine wpList_nil ?_
  refine th_n ?_
  refine wp_seq ?_
  refine region_seq ?_
  refine seq_step rfl (op_val (v := .slice (some ⟨g, 0, none⟩) q q) henv rfl (rn_move henv rfl) ?_)
  clear henv a; intro a henv
  refine seq_step rfl (op_call henv rfl Tryd.call93 rfl (long_contains hg hq hqm) ?_)
  rintro e w1 ⟨b, rfl, hr, hb⟩
  refine ⟨_, rfl, ?_⟩
  clear henv a; intro a henv
  replace hst := hst.call hb
  clear hb
  refine seq_step rfl (op_val (v := .bool b) henv rfl (rn_assign henv rfl) ?_)
  clear henv a; intro a henv
  refine wpList_nil ?_
  refine th_n ?_
  refine wp_ret ?_
  refine leave henv (res1 Tryd.results50 (RV.tmp henv rfl)) ?_
  exact ⟨_, rfl, hr, hst.below⟩

end Go.Proofs.YtnldopjbiacbfaaDoor.W

/- What the laws of limb ask of the reference, in the walks' form. No condition. -/
namespace Go.Proofs.YtnldopjbiacbfaaDoor.W
open Go.RowKit Anv

theorem long_sh {g q : Nat} {ls : List (Option Addr × Nat × Nat)} {w : World} (hg : w.heap[g]? = some (.cells (sls ls) 22 (0, 0))) (hq : ls.length = q) (hqm : q ≤ 1000) (h : ∀ p ∈ ls, p.2.1 ≤ 160) :
    Calls Tryd.prog 50 #[.slice (some ⟨g, 0, none⟩) q q] w fun e w' => e = .returned (.bool false) ∧ Below w.heap.size w w' := by
  refine (long_u hg hq hqm).mono ?_
  rintro e w' ⟨b, rfl, hb, hB⟩
  have : b = false := by
    cases b with
    | false => rfl
    | true =>
      obtain ⟨i, hi, h1⟩ := hb.1 rfl
      have h2 := h (ls.getD i (none, 0, 0)) (by simp [List.getD, hq, hi])
      omega
  subst this
  exact ⟨rfl, hB⟩
theorem long_lg {g q : Nat} {ls : List (Option Addr × Nat × Nat)} {w : World} (hg : w.heap[g]? = some (.cells (sls ls) 22 (0, 0))) (hq : ls.length = q) (hqm : q ≤ 1000) (h : ∃ i, i < q ∧ 160 < (ls.getD i (none, 0, 0)).2.1) :
    Calls Tryd.prog 50 #[.slice (some ⟨g, 0, none⟩) q q] w fun e w' => e = .returned (.bool true) ∧ Below w.heap.size w w' := by
  refine (long_u hg hq hqm).mono ?_
  rintro e w' ⟨b, rfl, hb, hB⟩
  obtain rfl : b = true := hb.2 h
  exact ⟨rfl, hB⟩
theorem r_mul_to {A B : Option Addr} {n c m d R : Nat} {xs ys : List Nat} {w : World} (h : U32 w A n c xs) (k : U32 w B m d ys) (hn : n ≤ 100000) (hm : m ≤ 100000) (hR : val 4294967296 xs * val 4294967296 ys = R) :
    Calls Tryd.prog 53 #[.slice A n c, .slice B m d] w fun e w' => ∃ v, e = .returned v ∧ NumAt w.heap.size w' v R ∧ Below w.heap.size w w' := by subst hR; exact r_mul h k hn hm
theorem r_muls_to {A : Option Addr} {n c q R : Nat} {xs : List Nat} {w : World} (h : U32 w A n c xs) (hn : n ≤ 900000) (hq : q < 4294967296) (hR : val 4294967296 xs * q = R) :
    Calls Tryd.prog 54 #[.slice A n c, .int .u32 (q : Nat)] w fun e w' => ∃ v, e = .returned v ∧ NumAt w.heap.size w' v R ∧ Below w.heap.size w w' := by subst hR; exact r_muls h hn hq
end Go.Proofs.YtnldopjbiacbfaaDoor.W

/- Two rows held against each other from the top: plain laws. No condition. -/
namespace Go.Proofs.YtnldopjbiacbfaaDoor.W
open Go.RowKit Anv

theorem val_drop_same : ∀ (k i : Nat) (xs ys : List Nat), xs.length + ys.length ≤ i + k → (∀ j, i ≤ j → xs.getD j 0 = ys.getD j 0) → val 4294967296 (xs.drop i) = val 4294967296 (ys.drop i)
  | 0, i, xs, ys, hk, _ => by rw [List.drop_of_length_le (by omega), List.drop_of_length_le (by omega)]
  | k + 1, i, xs, ys, hk, h => by
    rw [drop_val 4294967296 xs i, drop_val 4294967296 ys i, h i (Nat.le_refl _), val_drop_same k (i + 1) xs ys (by omega) fun j hj => h j (by omega)]
theorem val_split (xs : List Nat) (j : Nat) : val 4294967296 xs = val 4294967296 (xs.take j) + 4294967296 ^ j * val 4294967296 (xs.drop j) := by
  rcases Nat.lt_or_ge j xs.length with h | h
  · conv => lhs; rw [← List.take_append_drop j xs]
    rw [val_append, List.length_take, Nat.min_eq_left (by omega)]
  · rw [List.take_of_length_le h, List.drop_of_length_le h]; simp [val]
theorem cmp_lt1 {xs ys : List Nat} {j : Nat} (hx : AllLt 4294967296 xs) (hz : ∀ i, j + 1 ≤ i → xs.getD i 0 = ys.getD i 0) (h : xs.getD j 0 < ys.getD j 0) : val 4294967296 xs < val 4294967296 ys := by
  have h1 := val_drop_same (xs.length + ys.length) (j + 1) xs ys (by omega) hz
  rw [val_split xs j, val_split ys j, drop_val 4294967296 xs j, drop_val 4294967296 ys j, h1]
  have h2 : val 4294967296 (xs.take j) < 4294967296 ^ j := by
    have h3 := val_lt (b := 4294967296) (xs := xs.take j) fun x hm => hx x (List.mem_of_mem_take hm)
    exact Nat.lt_of_lt_of_le h3 (Nat.pow_le_pow_right (by decide) (by rw [List.length_take]; omega))
  have h4 : 4294967296 ^ j * (xs.getD j 0 + 4294967296 * val 4294967296 (ys.drop (j + 1))) + 4294967296 ^ j ≤ 4294967296 ^ j * (ys.getD j 0 + 4294967296 * val 4294967296 (ys.drop (j + 1))) := by
    rw [← Nat.mul_succ]
    exact Nat.mul_le_mul_left _ (by omega)
  omega
end Go.Proofs.YtnldopjbiacbfaaDoor.W

/- The reference's Cmp. Printed by pv/gen_ref01c.py. No condition. -/
namespace Go.Proofs.YtnldopjbiacbfaaDoor.W
open Go.RowKit Anv

theorem cmp_lt0 {w : World} {A B : Option Addr} {n c m d j : Nat} {xs ys : List Nat} (h : U32 w A n c xs) (_k : U32 w B m d ys) (hz : ∀ i, j + 1 ≤ i → xs.getD i 0 = ys.getD i 0) (hlt : xs.getD j 0 < ys.getD j 0) : cmpI (val 4294967296 xs) (val 4294967296 ys) = -1 := cmpI_lt (cmp_lt1 h.lt hz hlt)
theorem cmp_gt0 {w : World} {A B : Option Addr} {n c m d j : Nat} {xs ys : List Nat} (_h : U32 w A n c xs) (k : U32 w B m d ys) (hz : ∀ i, j + 1 ≤ i → xs.getD i 0 = ys.getD i 0) (hgt : ys.getD j 0 < xs.getD j 0) : cmpI (val 4294967296 xs) (val 4294967296 ys) = 1 := cmpI_gt (cmp_lt1 k.lt (fun i hi => (hz i hi).symm) hgt)
theorem cmp_eq0 {xs ys : List Nat} (hz : ∀ i, xs.getD i 0 = ys.getD i 0) : cmpI (val 4294967296 xs) (val 4294967296 ys) = 0 := by
  have h1 := val_drop_same (xs.length + ys.length) 0 xs ys (by omega) fun j _ => hz j
  rw [List.drop_zero, List.drop_zero] at h1
  rw [h1, cmpI_eq]
section
variable {P : Program} {N : Nat} {dq : List Deferred} {a : Act} {l : List (Nat × Value)} {w : World} {d : Nat} {ty : TypeId} {pos : String} {af : Array Edge} {gd : Option (Nat × Bool)}
theorem rn_max {x y : Operand} {T T' : Nat} {m n : Nat} (h : EnvD dq N a l) (hx : evl l x = some (.int .i64 (m : Nat))) (hy : evl l y = some (.int .i64 (n : Nat))) :
    (execOp a.eval ⟨some d, .call ⟨.builtin .max, #[x, y], #[T, T']⟩, ty, pos, af, gd⟩).run P w = .ok (.value (.int .i64 (max m n : Nat))) w := by
  have hv := h.ev hx
  have hv' := h.ev hy
  have e : ((max m n : Nat) : Int) = if (m : Int) < (n : Int) then (n : Int) else (m : Int) := by
    split
    · rw [Nat.max_eq_right (by omega)]
    · rw [Nat.max_eq_left (by omega)]
  rw [e]
  generalize a.eval = ρ at hv hv' ⊢
  simp [hv, hv', go_sem]
  split <;> omega
end

set_option maxRecDepth 100000 in
set_option maxHeartbeats 4000000 in
theorem r_cmp {A B : Option Addr} {n c m d : Nat} {xs ys : List Nat} {w0 : World} (h : U32 w0 A n c xs) (k : U32 w0 B m d ys) (hn : n ≤ 1000000) (hm : m ≤ 1000000) :
    Calls Tryd.prog 96 #[.slice A n c, .slice B m d] w0 fun e w' => e = .returned (.int .i64 (cmpI (val 4294967296 xs) (val 4294967296 ys))) ∧ Below w0.heap.size w0 w' := by
  have hmx : n ≤ 1000000 ∧ m ≤ 1000000 := ⟨hn, hm⟩
  refine enter Tryd.func96 rfl Tryd.ntmps96 rfl ?_
  intro a henv hst
  replace hst := (hst.addU h trivial).addU k trivial
  refine wp_seq ?_
  refine region_seq ?_
  refine seq_step rfl (op_val (v := .int .i64 0) henv rfl (rn_assign henv rfl) ?_)
  clear henv a; intro a henv
  refine wpList_nil ?_
  refine th_n ?_
  refine wp_seq ?_
  refine wp_seq ?_
  refine region_seq ?_
  refine seq_step rfl (op_val (v := .slice A n c) henv rfl (rn_move henv rfl) ?_)
  clear henv a; intro a henv
  refine seq_step rfl (op_val (v := .int .i64 (n : Nat)) henv rfl (rn_len henv Tryd.underlying22 rfl) ?_)
  clear henv a; intro a henv
  refine seq_step rfl (op_val (v := .slice B m d) henv rfl (rn_move henv rfl) ?_)
  clear henv a; intro a henv
  refine seq_step rfl (op_val (v := .int .i64 (m : Nat)) henv rfl (rn_len henv Tryd.underlying22 rfl) ?_)
  clear henv a; intro a henv
  refine seq_step rfl (op_val (v := .int .i64 (max n m : Nat)) henv rfl (rn_max henv rfl rfl) ?_)
  clear henv a; intro a henv
  refine seq_step rfl (op_val (v := .int .i64 (((max n m : Nat) : Int) - (1 : Int))) henv rfl (rn_sub henv rfl rfl (IntWalk.i64_in _ (by omega))) ?_)
  clear henv a; intro a henv
  refine seq_step rfl (op_val (v := .int .i64 (((max n m : Nat) : Int) - (1 : Int))) henv rfl (rn_assign henv rfl) ?_)
  clear henv a; intro a henv
  refine wpList_nil ?_
  refine th_n ?_
  refine wp_block ?_
  refine wp_loop_ghost (fun mz a w => ∃ i : Nat, i = mz ∧ Env 30 a [(0, .slice A n c), (1, .slice B m d), (5, .int .i64 (((i : Nat) : Int) - 1))] ∧ St w0 w [] [pfU A n c xs, pfU B m d ys] ∧ i ≤ max n m ∧ (∀ j, i ≤ j → xs.getD j 0 = ys.getD j 0)) _ ⟨max n m, rfl, henv.sub ⟨rfl, rfl, rfl, trivial⟩, hst.pick [] [1, 0] (by decide), (Nat.le_refl _), (fun j hj => by rw [getD_ge h.len (by omega), getD_ge k.len (by omega)])⟩ ?_
  clear henv hst a
  rintro mz a w1 ⟨i, rfl, henv, hst, hi, hz⟩
  refine wp_seq ?_
  refine wp_seq ?_
  refine region_seq ?_
  refine seq_step rfl (op_val (v := .int .i64 (((i : Nat) : Int) - 1)) henv rfl (rn_move henv rfl) ?_)
  clear henv a; intro a henv
  refine seq_step rfl (op_val (v := .bool (decide (((i : Nat) : Int) - 1 ≥ (0 : Int)))) henv rfl (rn_bin henv rfl rfl rfl) ?_)
  clear henv a; intro a henv
  refine wpList_nil ?_
  refine th_n ?_
  refine if_split henv rfl (fun hc2 => ?_) (fun hc2 => ?_)
  · obtain ⟨j, hj⟩ : ∃ j : Nat, ((i : Nat) : Int) - 1 = (j : Nat) := ⟨i - 1, by have := of_decide_eq_true hc2; omega⟩
    rw [hj] at henv
    obtain rfl : i = j + 1 := by omega
    clear hj
    refine wp_skip ?_
    refine th_n ?_
    refine wp_seq ?_
    refine wp_block ?_
    refine wp_seq ?_
    refine region_seq ?_
    refine seq_step rfl (op_val (v := .slice A n c) henv rfl (rn_move henv rfl) ?_)
    clear henv a; intro a henv
    refine seq_step rfl (op_val (v := .int .i64 (j : Nat)) henv rfl (rn_move henv rfl) ?_)
    clear henv a; intro a henv
    refine seq_step rfl (op_call henv rfl Tryd.call99 rfl (r_at (i := j) (show U32 _ A n c xs from hst.pat (k := 0) rfl)) ?_)
    rintro e w3 ⟨rfl, hb⟩
    refine ⟨_, rfl, ?_⟩
    clear henv a; intro a henv
    replace hst := hst.call hb
    clear hb
    refine seq_step rfl (op_val (v := .slice B m d) henv rfl (rn_move henv rfl) ?_)
    clear henv a; intro a henv
    refine seq_step rfl (op_val (v := .int .i64 (j : Nat)) henv rfl (rn_move henv rfl) ?_)
    clear henv a; intro a henv
    refine seq_step rfl (op_call henv rfl Tryd.call99 rfl (r_at (i := j) (show U32 _ B m d ys from hst.pat (k := 1) rfl)) ?_)
    rintro e w4 ⟨rfl, hb⟩
    refine ⟨_, rfl, ?_⟩
    clear henv a; intro a henv
    replace hst := hst.call hb
    clear hb
    refine seq_step rfl (op_val (v := .int .u32 (xs.getD j 0 : Nat)) henv rfl (rn_assign henv rfl) ?_)
    clear henv a; intro a henv
    refine seq_step rfl (op_val (v := .int .u32 (ys.getD j 0 : Nat)) henv rfl (rn_assign henv rfl) ?_)
    clear henv a; intro a henv
    refine wpList_nil ?_
    refine th_n ?_
    refine wp_seq ?_
    refine wp_seq ?_
    refine region_seq ?_
    refine seq_step rfl (op_val (v := .int .u32 (xs.getD j 0 : Nat)) henv rfl (rn_move henv rfl) ?_)
    clear henv a; intro a henv
    refine seq_step rfl (op_val (v := .int .u32 (ys.getD j 0 : Nat)) henv rfl (rn_move henv rfl) ?_)
    clear henv a; intro a henv
    refine seq_step rfl (op_val (v := .bool (decide (((xs.getD j 0 : Nat) : Int) < ((ys.getD j 0 : Nat) : Int)))) henv rfl (rn_bin henv rfl rfl rfl) ?_)
    clear henv a; intro a henv
    refine wpList_nil ?_
    refine th_n ?_
    refine if_split henv rfl (fun hc5 => ?_) (fun hc5 => ?_)
    · have hlt : xs.getD j 0 < ys.getD j 0 := by have := of_decide_eq_true hc5; omega
      refine wp_seq ?_
      refine region_seq ?_
      refine seq_step rfl (op_val (v := .int .i64 (-1)) henv rfl (rn_assign henv rfl) ?_)
      clear henv a; intro a henv
      refine wpList_nil ?_
      refine th_n ?_
      refine wp_ret ?_
      refine th_r (bl_r (th_r (th_r (bl_r (th_r ?_)))))
      refine leave henv (res1 Tryd.results96 (RV.tmp henv rfl)) ?_
      rw [cmp_lt0 h k hz hlt]
      exact ⟨rfl, hst.below⟩
    · have hge : ys.getD j 0 ≤ xs.getD j 0 := by have := of_decide_eq_false hc5; omega
      refine wp_skip ?_
      refine th_n ?_
      refine wp_seq ?_
      refine region_seq ?_
      refine seq_step rfl (op_val (v := .int .u32 (xs.getD j 0 : Nat)) henv rfl (rn_move henv rfl) ?_)
      clear henv a; intro a henv
      refine seq_step rfl (op_val (v := .int .u32 (ys.getD j 0 : Nat)) henv rfl (rn_move henv rfl) ?_)
      clear henv a; intro a henv
      refine seq_step rfl (op_val (v := .bool (decide (((xs.getD j 0 : Nat) : Int) > ((ys.getD j 0 : Nat) : Int)))) henv rfl (rn_bin henv rfl rfl rfl) ?_)
      clear henv a; intro a henv
      refine wpList_nil ?_
      refine th_n ?_
      refine if_split henv rfl (fun hc6 => ?_) (fun hc6 => ?_)
      · have hgt : ys.getD j 0 < xs.getD j 0 := by have := of_decide_eq_true hc6; omega
        refine wp_seq ?_
        refine region_seq ?_
        refine seq_step rfl (op_val (v := .int .i64 1) henv rfl (rn_assign henv rfl) ?_)
        clear henv a; intro a henv
        refine wpList_nil ?_
        refine th_n ?_
        refine wp_ret ?_
        refine bl_r (th_r (th_r (bl_r (th_r ?_))))
        refine leave henv (res1 Tryd.results96 (RV.tmp henv rfl)) ?_
        rw [cmp_gt0 h k hz hgt]
        exact ⟨rfl, hst.below⟩
      · have hle : xs.getD j 0 ≤ ys.getD j 0 := by have := of_decide_eq_false hc6; omega
        refine wp_skip ?_
        refine bl_n (th_n ?_)
        refine region_seq ?_
        refine seq_step rfl (op_val (v := .int .i64 (j : Nat)) henv rfl (rn_move henv rfl) ?_)
        clear henv a; intro a henv
        refine seq_step rfl (op_val (v := .int .i64 (((j : Nat) : Int) - (1 : Int))) henv rfl (rn_sub henv rfl rfl (IntWalk.i64_in _ (by omega))) ?_)
        clear henv a; intro a henv
        refine seq_step rfl (op_val (v := .int .i64 (((j : Nat) : Int) - (1 : Int))) henv rfl (rn_assign henv rfl) ?_)
        clear henv a; intro a henv
        refine wpList_nil ?_
        exact th_n ⟨_, (by omega), ⟨j, rfl, henv.sub ⟨rfl, rfl, rfl, trivial⟩, hst.pick [] [0, 1] (by decide), (by omega), (fun t ht => by rcases Nat.lt_or_ge j t with h1 | h1; exact hz t (by omega); rw [show t = j by omega]; omega)⟩⟩
  · obtain rfl : i = 0 := by have := of_decide_eq_false hc2; omega
    refine wp_exit ?_
    refine th_x (th_x (bl_x (th_n ?_)))
    refine wp_seq ?_
    refine region_seq ?_
    refine seq_step rfl (op_val (v := .int .i64 0) henv rfl (rn_assign henv rfl) ?_)
    clear henv a; intro a henv
    refine wpList_nil ?_
    refine th_n ?_
    refine wp_ret ?_
    refine leave henv (res1 Tryd.results96 (RV.tmp henv rfl)) ?_
    rw [cmp_eq0 (fun j => hz j (Nat.zero_le _))]
    exact ⟨rfl, hst.below⟩

end Go.Proofs.YtnldopjbiacbfaaDoor.W
