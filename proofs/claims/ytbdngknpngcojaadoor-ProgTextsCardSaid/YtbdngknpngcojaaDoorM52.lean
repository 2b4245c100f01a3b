/- IndexByte, Index, Count, Split at a blank. Printed by pv/gen_h4.py. No condition. -/
import Derived.Test.YtbdngknpngcojaaDoorM51
import Derived.Test.YtbdngknpngcojaaDoorM15
import Derived.Lib.Bytealg
import Derived.Test.YtbdngknpngcojaaDoorM49

namespace Go.Proofs.YtbdngknpngcojaaDoor.W
open Go.RowKit Anv Go.Lib
section
variable {P : Program} {K : Act → World → Prop} {Q : Exit → Act → World → Prop} {N : Nat} {dq : List Deferred} {a : Act} {l : List (Nat × Value)} {w w0 : World} {own ps : List PF}
variable {d : Nat} {ty : TypeId} {pos : String} {af : Array Edge} {gd : Option (Nat × Bool)}
theorem op_ext {f : FuncId} {xs : Array Operand} {Ts : Array TypeId} {vs : Array Value} {v : Value} (h : EnvD dq N a l) (hd : Nat.blt d N = true) (hx : xs.toList.map (evl l) = vs.toList.map some) (hr : (callFunc f vs).run P w = .ok (.value v) w)
    (hK : ∀ a', EnvD dq N a' ((d, v) :: l) → K a' w) :
    Oper.wp P ⟨some d, .call ⟨.value (.func f), xs, Ts⟩, ty, pos, af, gd⟩ a w K Q := by
  have he : xs.map a.eval = vs := Array.ext' (by rw [Array.toList_map]; exact ev_all h hx)
  have hr2 : (execOp a.eval ⟨some d, .call ⟨.value (.func f), xs, Ts⟩, ty, pos, af, gd⟩).run P w = .ok (.value v) w := by
    have h2 : a.eval (.func f) = .func (.func f) #[] #[] := rfl
    simp only [execOp, resolve, he, h2, Sem.run_bind]
    simp [Deferred.ofValue, invoke, hr]
  unfold Oper.wp
  rw [hr2]
  exact hK _ (h.put hd _)
theorem rn_takeE {x y : Operand} {T n : Nat} {k : IntKind} {s t : List UInt8} (h : EnvD dq N a l) (hT : P.underlying T = some .string) (hx : evl l x = some (.string ⟨s.toArray⟩)) (hy : evl l y = some (.int k (n : Nat))) (ht : s.take n = t ∧ n ≤ s.length) :
    (execOp a.eval ⟨some d, .slice T x none (some y) none, ty, pos, af, gd⟩).run P w = .ok (.value (.string ⟨t.toArray⟩)) w := by
  rw [← ht.1]; exact rn_takeS h hT hx hy ht.2
theorem rn_dropE {x y : Operand} {T n : Nat} {k : IntKind} {s t : List UInt8} (h : EnvD dq N a l) (hT : P.underlying T = some .string) (hx : evl l x = some (.string ⟨s.toArray⟩)) (hy : evl l y = some (.int k (n : Nat))) (ht : s.drop n = t ∧ n ≤ s.length) :
    (execOp a.eval ⟨some d, .slice T x (some y) none none, ty, pos, af, gd⟩).run P w = .ok (.value (.string ⟨t.toArray⟩)) w := by
  rw [← ht.1]; exact rn_dropS h hT hx hy ht.2
theorem rn_idx32 {x y : Operand} {T : Nat} {k : IntKind} (h : EnvD dq N a l) (hT : P.underlying T = some .string) (hx : evl l x = some (.string ⟨#[32]⟩)) (hy : evl l y = some (.int k 0)) :
    (execOp a.eval ⟨some d, .index T x y, ty, pos, af, gd⟩).run P w = .ok (.value (.int .u8 32)) w :=
  rn_idxS (i := 0) (s := [32]) h hT hx hy (by decide)
theorem rn_minl {x y : Operand} {T T' : Nat} {m n : Nat} (h : EnvD dq N a l) (hx : evl l x = some (.int .i64 (m : Nat))) (hy : evl l y = some (.int .i64 (n : Nat))) (hm : m ≤ n) :
    (execOp a.eval ⟨some d, .call ⟨.builtin .min, #[x, y], #[T, T']⟩, ty, pos, af, gd⟩).run P w = .ok (.value (.int .i64 (m : Nat))) w := by
  have := rn_min (P := P) (d := d) (ty := ty) (pos := pos) (af := af) (gd := gd) (w := w) (T := T) (T' := T') h hx hy
  rwa [Nat.min_eq_left hm] at this
end
theorem ext_index {s : List UInt8} {c : Nat} {w : World} : (callFunc 74 #[.string ⟨s.toArray⟩, .int .u8 (c : Nat)]).run Tryd.prog w = .ok (.value (.int .i64 (indexByte s c.toUInt8))) w := by
  rw [run_callFunc_extern Tryd.func74 (by kernel_rfl) rfl (by kernel_rfl) (e := Extern.BytealgIndexByte.indexByte) (by kernel_rfl), run_indexByteString]
  simp [Result.andThen]
theorem index_no {s : List UInt8} {c : UInt8} (h : c ∉ s) : indexByte s c = -1 := by
  induction s with
  | nil => rfl
  | cons b s ih =>
    have h1 : c ≠ b := fun e => h (e ▸ List.mem_cons_self ..)
    have h2 := ih fun hm => h (List.mem_cons_of_mem _ hm)
    rw [indexByte, h2, if_neg (by simpa using fun e => h1 e.symm)]
    rfl
theorem index_yes {a b : List UInt8} {c : UInt8} (h : c ∉ a) : indexByte (a ++ c :: b) c = (a.length : Nat) := by
  induction a with
  | nil => rw [List.nil_append, indexByte, if_pos (by simp)]; rfl
  | cons x a ih =>
    have h1 : c ≠ x := fun e => h (e ▸ List.mem_cons_self ..)
    have h2 := ih fun hm => h (List.mem_cons_of_mem _ hm)
    rw [List.cons_append, indexByte, h2, if_neg (by simpa using fun e => h1 e.symm), if_neg (by simp <;> omega), List.length_cons]
    omega
theorem jn_cons2 (t u : List UInt8) (l : List (List UInt8)) : jn (t :: u :: l) = t ++ 32 :: jn (u :: l) := by simp [jn]
theorem ext_count {s : List UInt8} {c : Nat} {w : World} : (callFunc 99 #[.string ⟨s.toArray⟩, .int .u8 (c : Nat)]).run Tryd.prog w = .ok (.value (.int .i64 (countByte s c.toUInt8))) w := by
  rw [run_callFunc_extern Tryd.func99 (by kernel_rfl) rfl (by kernel_rfl) (e := Extern.BytealgCount.count) (by kernel_rfl), run_countString]
  simp [Result.andThen]
theorem one_cut32 {a b : List UInt8} (h : [32] = a ++ 32 :: b) : a = [] := by
  have := congrArg List.length h
  rw [List.length_append, List.length_cons] at this
  simp at this
  exact List.eq_nil_of_length_eq_zero (by omega)
theorem jn_count {ps : List (List UInt8)} {n : Nat} (hl : ps.length = n) (h1 : 1 ≤ n) (hno : ∀ p ∈ ps, (32 : UInt8) ∉ p) : (jn ps).count 32 = n - 1 := by
  induction ps generalizing n with
  | nil => simp at hl; omega
  | cons p ps ih =>
    cases ps with
    | nil => simp [jn] at *; subst hl; exact List.count_eq_zero.2 hno
    | cons q ps =>
      rw [jn_cons2, List.count_append, List.count_cons, List.count_eq_zero.2 (hno p (List.mem_cons_self ..)), ih rfl (by simp) fun x hx => hno x (List.mem_cons_of_mem _ hx)]
      simp at hl ⊢; omega
theorem jn_many {ps : List (List UInt8)} {n : Nat} {s : List UInt8} (hl : ps.length = n) (h1 : 1 ≤ n) (hs : s = jn ps) : n ≤ s.length + 1 := by
  subst hs
  induction ps generalizing n with
  | nil => simp at hl; omega
  | cons p ps ih =>
    cases ps with
    | nil => simp at hl; omega
    | cons q ps =>
      have := ih rfl (by simp)
      rw [jn_cons2, List.length_append, List.length_cons]
      simp at hl this ⊢; omega
theorem drop_two {α : Type} {ps : List α} {j : Nat} {p : α} (h : ps[j]? = some p) : ps.drop j = p :: ps.drop (j + 1) := by
  obtain ⟨hj, rfl⟩ := List.getElem?_eq_some_iff.1 h
  exact List.drop_eq_getElem_cons hj
theorem jn_cut {ps : List (List UInt8)} {j : Nat} {p : List UInt8} (h : ps[j]? = some p) (hj : j + 1 < ps.length) : jn (ps.drop j) = p ++ 32 :: jn (ps.drop (j + 1)) := by
  obtain ⟨q, hq⟩ : ∃ q, ps[j + 1]? = some q := ⟨_, List.getElem?_eq_getElem hj⟩
  rw [drop_two h, drop_two hq, jn_cons2]
theorem sp_step {ps vs : List (List UInt8)} {n j : Nat} {p : List UInt8} (hl : ps.length = n) (hj : j < n) (hp : ps[j]? = some p) (hv : vs = ps.take j ++ List.replicate (n - j) []) : vs.set j p = ps.take (j + 1) ++ List.replicate (n - (j + 1)) [] := by
  have hlj : (ps.take j).length = j := by rw [List.length_take]; omega
  rw [hv, List.set_append, if_neg (by omega), hlj, Nat.sub_self, take_one hp, show n - j = (n - (j + 1)) + 1 by omega, List.replicate_succ]
  simp
theorem sp_last {ps vs : List (List UInt8)} {n j : Nat} {u : List UInt8} (hl : ps.length = n) (h1 : 1 ≤ n) (hj : j = n - 1) (hv : vs = ps.take j ++ List.replicate (n - j) []) (hu : u = jn (ps.drop j)) : vs.set j u = ps := by
  obtain ⟨p, hp⟩ : ∃ p, ps[j]? = some p := ⟨_, List.getElem?_eq_getElem (by omega)⟩
  have hd : ps.drop (j + 1) = [] := List.drop_eq_nil_of_le (by omega)
  rw [drop_two hp, hd, show jn [p] = p by simp [jn]] at hu
  rw [hu, sp_step hl (by omega) hp hv, show n - (j + 1) = 0 by omega, List.replicate_zero, List.append_nil, List.take_of_length_le (by omega)]
set_option maxRecDepth 100000 in
set_option maxHeartbeats 2000000 in
theorem h_ixb32_yes {la lb : List UInt8} {w0 : World} (h : (32 : UInt8) ∉ la) :
    Calls Tryd.prog 65 #[.string ⟨(la ++ 32 :: lb).toArray⟩, .int .u8 32] w0 fun e w' => e = .returned (.int .i64 (la.length : Nat)) ∧ Below w0.heap.size w0 w' := by
  refine enter Tryd.func65 rfl Tryd.ntmps65 rfl ?_
  intro a henv hst
  refine wp_seq ?_
  refine region_seq ?_
  refine sv (v := .int .i64 0) henv rfl (rn_assign henv rfl) ?_
  clear henv a; intro a henv
  refine wpList_nil ?_
  refine th_n ?_
  refine wp_seq ?_
  refine region_seq ?_
  revert a
  refine mA rfl rfl ?_
  refine mA rfl rfl ?_
  intro a henv
  refine seq_step rfl (op_ext (vs := #[.string ⟨(la ++ 32 :: lb).toArray⟩, .int .u8 32]) henv rfl rfl (ext_index (s := (la ++ 32 :: lb)) (c := 32)) ?_)
  clear henv a; intro a henv
  refine sv (v := .int .i64 (indexByte (la ++ 32 :: lb) (32 : Nat).toUInt8)) henv rfl (rn_assign henv rfl) ?_
  clear henv a; intro a henv
  refine wpList_nil ?_
  refine th_n ?_
  refine wp_ret ?_
  refine leave henv (res1 Tryd.results65 (RV.tmp henv rfl)) ?_
  exact ⟨congrArg (fun k => Ending.returned (Value.int .i64 k)) (index_yes h), hst.below⟩
set_option maxRecDepth 100000 in
set_option maxHeartbeats 2000000 in
theorem h_ixb10_no {s : List UInt8} {w0 : World} (h : (10 : UInt8) ∉ s) :
    Calls Tryd.prog 65 #[.string ⟨s.toArray⟩, .int .u8 10] w0 fun e w' => e = .returned (.int .i64 (-1)) ∧ Below w0.heap.size w0 w' := by
  refine enter Tryd.func65 rfl Tryd.ntmps65 rfl ?_
  intro a henv hst
  refine wp_seq ?_
  refine region_seq ?_
  refine sv (v := .int .i64 0) henv rfl (rn_assign henv rfl) ?_
  clear henv a; intro a henv
  refine wpList_nil ?_
  refine th_n ?_
  refine wp_seq ?_
  refine region_seq ?_
  revert a
  refine mA rfl rfl ?_
  refine mA rfl rfl ?_
  intro a henv
  refine seq_step rfl (op_ext (vs := #[.string ⟨s.toArray⟩, .int .u8 10]) henv rfl rfl (ext_index (s := s) (c := 10)) ?_)
  clear henv a; intro a henv
  refine sv (v := .int .i64 (indexByte s (10 : Nat).toUInt8)) henv rfl (rn_assign henv rfl) ?_
  clear henv a; intro a henv
  refine wpList_nil ?_
  refine th_n ?_
  refine wp_ret ?_
  refine leave henv (res1 Tryd.results65 (RV.tmp henv rfl)) ?_
  exact ⟨congrArg (fun k => Ending.returned (Value.int .i64 k)) (index_no h), hst.below⟩
set_option maxRecDepth 100000 in
set_option maxHeartbeats 2000000 in
theorem h_nl_no {s : List UInt8} {w0 : World} (h : (10 : UInt8) ∉ s) :
    Calls Tryd.prog 52 #[.string ⟨s.toArray⟩, .int .u8 10] w0 fun e w' => e = .returned (.int .i64 (-1)) ∧ Below w0.heap.size w0 w' := by
  refine enter Tryd.func52 rfl Tryd.ntmps52 rfl ?_
  intro a henv hst
  refine wp_seq ?_
  refine region_seq ?_
  refine sv (v := .int .i64 0) henv rfl (rn_assign henv rfl) ?_
  clear henv a; intro a henv
  refine wpList_nil ?_
  refine th_n ?_
  refine wp_seq ?_
  refine region_seq ?_
  revert a
  refine mA rfl rfl ?_
  refine mA rfl rfl ?_
  intro a henv
  refine seq_step rfl (op_call henv rfl Tryd.call65 rfl (h_ixb10_no h) ?_)
  rintro e w51 ⟨rfl, hb⟩
  refine ⟨_, rfl, ?_⟩
  clear henv a; intro a henv
  replace hst := hst.call hb
  clear hb
  refine sv (v := .int .i64 (-1)) henv rfl (rn_assign henv rfl) ?_
  clear henv a; intro a henv
  refine wpList_nil ?_
  refine th_n ?_
  refine wp_ret ?_
  refine leave henv (res1 Tryd.results52 (RV.tmp henv rfl)) ?_
  exact ⟨rfl, hst.below⟩
set_option maxRecDepth 100000 in
set_option maxHeartbeats 2000000 in
theorem h_ixb10_yes {la lb : List UInt8} {w0 : World} (h : (10 : UInt8) ∉ la) :
    Calls Tryd.prog 65 #[.string ⟨(la ++ 10 :: lb).toArray⟩, .int .u8 10] w0 fun e w' => e = .returned (.int .i64 (la.length : Nat)) ∧ Below w0.heap.size w0 w' := by
  refine enter Tryd.func65 rfl Tryd.ntmps65 rfl ?_
  intro a henv hst
  refine wp_seq ?_
  refine region_seq ?_
  refine sv (v := .int .i64 0) henv rfl (rn_assign henv rfl) ?_
  clear henv a; intro a henv
  refine wpList_nil ?_
  refine th_n ?_
  refine wp_seq ?_
  refine region_seq ?_
  revert a
  refine mA rfl rfl ?_
  refine mA rfl rfl ?_
  intro a henv
  refine seq_step rfl (op_ext (vs := #[.string ⟨(la ++ 10 :: lb).toArray⟩, .int .u8 10]) henv rfl rfl (ext_index (s := (la ++ 10 :: lb)) (c := 10)) ?_)
  clear henv a; intro a henv
  refine sv (v := .int .i64 (indexByte (la ++ 10 :: lb) (10 : Nat).toUInt8)) henv rfl (rn_assign henv rfl) ?_
  clear henv a; intro a henv
  refine wpList_nil ?_
  refine th_n ?_
  refine wp_ret ?_
  refine leave henv (res1 Tryd.results65 (RV.tmp henv rfl)) ?_
  exact ⟨congrArg (fun k => Ending.returned (Value.int .i64 k)) (index_yes h), hst.below⟩
set_option maxRecDepth 100000 in
set_option maxHeartbeats 2000000 in
theorem h_nl_yes {la lb : List UInt8} {w0 : World} (h : (10 : UInt8) ∉ la) :
    Calls Tryd.prog 52 #[.string ⟨(la ++ 10 :: lb).toArray⟩, .int .u8 10] w0 fun e w' => e = .returned (.int .i64 (la.length : Nat)) ∧ Below w0.heap.size w0 w' := by
  refine enter Tryd.func52 rfl Tryd.ntmps52 rfl ?_
  intro a henv hst
  refine wp_seq ?_
  refine region_seq ?_
  refine sv (v := .int .i64 0) henv rfl (rn_assign henv rfl) ?_
  clear henv a; intro a henv
  refine wpList_nil ?_
  refine th_n ?_
  refine wp_seq ?_
  refine region_seq ?_
  revert a
  refine mA rfl rfl ?_
  refine mA rfl rfl ?_
  intro a henv
  refine seq_step rfl (op_call henv rfl Tryd.call65 rfl (h_ixb10_yes h) ?_)
  rintro e w51 ⟨rfl, hb⟩
  refine ⟨_, rfl, ?_⟩
  clear henv a; intro a henv
  replace hst := hst.call hb
  clear hb
  refine sv (v := .int .i64 (la.length : Nat)) henv rfl (rn_assign henv rfl) ?_
  clear henv a; intro a henv
  refine wpList_nil ?_
  refine th_n ?_
  refine wp_ret ?_
  refine leave henv (res1 Tryd.results52 (RV.tmp henv rfl)) ?_
  exact ⟨rfl, hst.below⟩
set_option maxRecDepth 100000 in
set_option maxHeartbeats 2000000 in
theorem h_idx0 {la lb : List UInt8} {w0 : World} (h : (32 : UInt8) ∉ la) :
    Calls Tryd.prog 100 #[.string ⟨(la ++ 32 :: lb).toArray⟩, .string ⟨#[32]⟩] w0 fun e w' => e = .returned (.int .i64 (la.length : Nat)) ∧ Below w0.heap.size w0 w' := by
  refine enter Tryd.func100 rfl Tryd.ntmps100 rfl ?_
  intro a henv hst
  refine wp_seq ?_
  refine region_seq ?_
  refine sv (v := .int .i64 0) henv rfl (rn_assign henv rfl) ?_
  clear henv a; intro a henv
  refine wpList_nil ?_
  refine th_n ?_
  refine wp_seq ?_
  refine region_seq ?_
  revert a
  refine mA rfl rfl ?_
  refine sA (v := .int .i64 1) rfl (fun _ henv => rn_slen (s := ⟨#[32]⟩) henv Tryd.underlying9 rfl) ?_
  refine aA rfl rfl ?_
  intro a henv
  refine wpList_nil ?_
  refine th_n ?_
  refine wp_seq ?_
  refine wp_block ?_
  refine wp_seq ?_
  refine region_seq ?_
  revert a
  refine mA rfl rfl ?_
  refine sA (v := .bool false) rfl (fun _ henv => rn_bin henv rfl rfl rfl) ?_
  refine mA rfl rfl ?_
  refine gA (v := .string ⟨#[32]⟩) rfl rfl rfl rfl (fun _ henv => rn_move henv rfl) ?_
  refine gA (v := .string ⟨(la ++ 32 :: lb).toArray⟩) rfl rfl rfl rfl (fun _ henv => rn_move henv rfl) ?_
  refine gA (v := .bool (decide ([32] = (la ++ 32 :: lb)))) rfl rfl rfl rfl (fun _ henv => rn_eqls (s := [32]) (t := (la ++ 32 :: lb)) henv rfl rfl) ?_
  refine sA (v := .bool (decide ([32] = (la ++ 32 :: lb)))) rfl (fun _ henv => rn_pick henv rfl rfl) ?_
  refine aA rfl rfl ?_
  intro a henv
  refine wpList_nil ?_
  refine th_n ?_
  refine if_split henv rfl (fun hc51 => ?_) (fun hc51 => ?_)
  · have he1 := of_decide_eq_true hc51
    have he2 := one_cut32 he1
    refine wp_seq ?_
    refine region_seq ?_
    refine sv (v := .int .i64 0) henv rfl (rn_assign henv rfl) ?_
    clear henv a; intro a henv
    refine wpList_nil ?_
    refine th_n ?_
    refine wp_ret ?_
    refine bl_r (th_r ?_)
    refine leave henv (res1 Tryd.results100 (RV.tmp henv rfl)) ?_
    exact ⟨by rw [he2]; rfl, hst.below⟩
  · have he1 := of_decide_eq_false hc51
    refine wp_seq ?_
    refine region_seq ?_
    revert a
    refine mA rfl rfl ?_
    refine sA (v := .bool true) rfl (fun _ henv => rn_bin henv rfl rfl rfl) ?_
    refine aA rfl rfl ?_
    intro a henv
    refine wpList_nil ?_
    refine th_n ?_
    refine if_t henv rfl (rfl) ?_
    refine wp_seq ?_
    refine region_seq ?_
    revert a
    refine mA rfl rfl ?_
    refine mA rfl rfl ?_
    refine sA (v := .int .u8 32) rfl (fun _ henv => rn_idx32 henv Tryd.underlying9 rfl rfl) ?_
    intro a henv
    refine seq_step rfl (op_call henv rfl Tryd.call65 rfl (h_ixb32_yes h) ?_)
    rintro e w52 ⟨rfl, hb⟩
    refine ⟨_, rfl, ?_⟩
    clear henv a; intro a henv
    replace hst := hst.call hb
    clear hb
    refine sv (v := .int .i64 (la.length : Nat)) henv rfl (rn_assign henv rfl) ?_
    clear henv a; intro a henv
    refine wpList_nil ?_
    refine th_n ?_
    refine wp_ret ?_
    refine bl_r (th_r ?_)
    refine leave henv (res1 Tryd.results100 (RV.tmp henv rfl)) ?_
    exact ⟨rfl, hst.below⟩
set_option maxRecDepth 100000 in
set_option maxHeartbeats 2000000 in
theorem h_idx {la lb : List UInt8} {w0 : World} (h : (32 : UInt8) ∉ la) :
    Calls Tryd.prog 88 #[.string ⟨(la ++ 32 :: lb).toArray⟩, .string ⟨#[32]⟩] w0 fun e w' => e = .returned (.int .i64 (la.length : Nat)) ∧ Below w0.heap.size w0 w' := by
  refine enter Tryd.func88 rfl Tryd.ntmps88 rfl ?_
  intro a henv hst
  refine wp_seq ?_
  refine region_seq ?_
  refine sv (v := .int .i64 0) henv rfl (rn_assign henv rfl) ?_
  clear henv a; intro a henv
  refine wpList_nil ?_
  refine th_n ?_
  refine wp_seq ?_
  refine region_seq ?_
  revert a
  refine mA rfl rfl ?_
  refine mA rfl rfl ?_
  intro a henv
  refine seq_step rfl (op_call henv rfl Tryd.call100 rfl (h_idx0 h) ?_)
  rintro e w51 ⟨rfl, hb⟩
  refine ⟨_, rfl, ?_⟩
  clear henv a; intro a henv
  replace hst := hst.call hb
  clear hb
  refine sv (v := .int .i64 (la.length : Nat)) henv rfl (rn_assign henv rfl) ?_
  clear henv a; intro a henv
  refine wpList_nil ?_
  refine th_n ?_
  refine wp_ret ?_
  refine leave henv (res1 Tryd.results88 (RV.tmp henv rfl)) ?_
  exact ⟨rfl, hst.below⟩
set_option maxRecDepth 100000 in
set_option maxHeartbeats 2000000 in
theorem h_count {s : List UInt8} {n : Nat} {w0 : World} (hn : s.count 32 = n) :
    Calls Tryd.prog 87 #[.string ⟨s.toArray⟩, .string ⟨#[32]⟩] w0 fun e w' => e = .returned (.int .i64 (n : Nat)) ∧ Below w0.heap.size w0 w' := by
  refine enter Tryd.func87 rfl Tryd.ntmps87 rfl ?_
  intro a henv hst
  refine wp_seq ?_
  refine region_seq ?_
  refine sv (v := .int .i64 0) henv rfl (rn_assign henv rfl) ?_
  clear henv a; intro a henv
  refine wpList_nil ?_
  refine th_n ?_
  refine wp_seq ?_
  refine wp_seq ?_
  refine region_seq ?_
  revert a
  refine mA rfl rfl ?_
  refine sA (v := .int .i64 1) rfl (fun _ henv => rn_slen (s := ⟨#[32]⟩) henv Tryd.underlying9 rfl) ?_
  refine sA (v := .bool false) rfl (fun _ henv => rn_bin henv rfl rfl rfl) ?_
  intro a henv
  refine wpList_nil ?_
  refine th_n ?_
  refine if_f henv rfl (rfl) ?_
  refine wp_skip ?_
  refine th_n ?_
  refine wp_seq ?_
  refine wp_seq ?_
  refine region_seq ?_
  revert a
  refine mA rfl rfl ?_
  refine sA (v := .int .i64 1) rfl (fun _ henv => rn_slen (s := ⟨#[32]⟩) henv Tryd.underlying9 rfl) ?_
  refine sA (v := .bool true) rfl (fun _ henv => rn_bin henv rfl rfl rfl) ?_
  intro a henv
  refine wpList_nil ?_
  refine th_n ?_
  refine if_t henv rfl (rfl) ?_
  refine wp_seq ?_
  refine region_seq ?_
  revert a
  refine mA rfl rfl ?_
  refine mA rfl rfl ?_
  refine sA (v := .int .u8 32) rfl (fun _ henv => rn_idx32 henv Tryd.underlying9 rfl rfl) ?_
  intro a henv
  refine seq_step rfl (op_ext (vs := #[.string ⟨s.toArray⟩, .int .u8 32]) henv rfl rfl (ext_count (s := s) (c := 32)) ?_)
  clear henv a; intro a henv
  refine sv (v := .int .i64 (countByte s (32 : Nat).toUInt8 : Nat)) henv rfl (rn_assign henv rfl) ?_
  clear henv a; intro a henv
  refine wpList_nil ?_
  refine th_n ?_
  refine wp_ret ?_
  refine th_r ?_
  refine leave henv (res1 Tryd.results87 (RV.tmp henv rfl)) ?_
  exact ⟨congrArg (fun k : Nat => Ending.returned (Value.int .i64 (k : Int))) hn, hst.below⟩
set_option maxRecDepth 100000 in
set_option maxHeartbeats 4000000 in
theorem h_gs {ps : List (List UInt8)} {n : Nat} {w0 : World} (hl : ps.length = n) (h1 : 1 ≤ n) (hno : ∀ p ∈ ps, (32 : UInt8) ∉ p) (hb : (jn ps).length ≤ 70000) :
    Calls Tryd.prog 75 #[.string ⟨(jn ps).toArray⟩, .string ⟨#[32]⟩, .int .i64 0, .int .i64 (-1)] w0 fun e w' => ∃ g, e = .returned (.slice (some ⟨g, 0, none⟩) n n) ∧ NewRow notU 9 1 fS FTx w0.heap.size w' (some ⟨g, 0, none⟩) n n ps ∧ Below w0.heap.size w0 w' := by
  have hcn := jn_count hl h1 hno
  have hnb := jn_many hl h1 (s := jn ps) rfl
  refine enter Tryd.func75 rfl Tryd.ntmps75 rfl ?_
  intro a henv hst
  refine wp_seq ?_
  refine region_seq ?_
  refine sv (v := .slice none 0 0) henv rfl (rn_assign henv rfl) ?_
  clear henv a; intro a henv
  refine wpList_nil ?_
  refine th_n ?_
  refine wp_seq ?_
  refine wp_seq ?_
  refine region_seq ?_
  revert a
  refine mA rfl rfl ?_
  refine sA (v := .bool false) rfl (fun _ henv => rn_bin henv rfl rfl rfl) ?_
  intro a henv
  refine wpList_nil ?_
  refine th_n ?_
  refine if_f henv rfl (rfl) ?_
  refine wp_skip ?_
  refine th_n ?_
  refine wp_seq ?_
  refine wp_seq ?_
  refine region_seq ?_
  revert a
  refine mA rfl rfl ?_
  refine sA (v := .bool false) rfl (fun _ henv => rn_eqls (s := [32]) (t := []) henv rfl rfl) ?_
  intro a henv
  refine wpList_nil ?_
  refine th_n ?_
  refine if_f henv rfl (rfl) ?_
  refine wp_skip ?_
  refine th_n ?_
  refine wp_seq ?_
  refine wp_seq ?_
  refine region_seq ?_
  revert a
  refine mA rfl rfl ?_
  refine sA (v := .bool true) rfl (fun _ henv => rn_bin henv rfl rfl rfl) ?_
  intro a henv
  refine wpList_nil ?_
  refine th_n ?_
  refine if_t henv rfl (rfl) ?_
  refine region_seq ?_
  revert a
  refine mA rfl rfl ?_
  refine mA rfl rfl ?_
  intro a henv
  refine seq_step rfl (op_call henv rfl Tryd.call87 rfl (h_count (n := n - 1) hcn) ?_)
  rintro e w51 ⟨rfl, hb⟩
  refine ⟨_, rfl, ?_⟩
  clear henv a; intro a henv
  replace hst := hst.call hb
  clear hb
  revert a
  refine sA (v := .int .i64 (n : Nat)) rfl (fun _ henv => rn_add henv rfl rfl (by rw [IntWalk.i64_in _ (by omega)]; omega)) ?_
  refine aA rfl rfl ?_
  intro a henv
  refine wpList_nil ?_
  refine th_n ?_
  refine wp_seq ?_
  refine region_seq ?_
  revert a
  refine mA rfl rfl ?_
  refine mA rfl rfl ?_
  refine sA (v := .int .i64 ((jn ps).length : Nat)) rfl (fun _ henv => rn_lenS henv Tryd.underlying9 rfl) ?_
  refine sA (v := .int .i64 (((jn ps).length) + 1 : Nat)) rfl (fun _ henv => rn_add henv rfl rfl (by rw [IntWalk.i64_in _ (by omega)]; omega)) ?_
  refine sA (v := .int .i64 (n : Nat)) rfl (fun _ henv => rn_minl (m := n) (n := ((jn ps).length) + 1) henv rfl rfl (by omega)) ?_
  refine aA rfl rfl ?_
  intro a henv
  refine wpList_nil ?_
  refine th_n ?_
  refine wp_seq ?_
  refine region_seq ?_
  refine sv (v := .int .i64 (n : Nat)) henv rfl (rn_move henv rfl) ?_
  clear henv a; intro a henv
  refine seq_step rfl (op_makeS (f := fS) (e0 := []) (q := notU) (n := n) henv hst rfl Tryd.underlying97 inf_string rfl rfl rfl rfl rfl rfl (by omega) (by unfold maxLen; omega) ?_)
  clear henv hst a; intro a w53 g52 henv hst
  refine sv (v := .slice (some ⟨g52, 0, none⟩) n n) henv rfl (rn_assign henv rfl) ?_
  clear henv a; intro a henv
  refine wpList_nil ?_
  refine th_n ?_
  refine wp_seq ?_
  refine region_seq ?_
  revert a
  refine mA rfl rfl ?_
  refine sA (v := .int .i64 (n - 1 : Nat)) rfl (fun _ henv => rn_sub henv rfl rfl (by rw [IntWalk.i64_in _ (by omega)]; omega)) ?_
  refine aA rfl rfl ?_
  intro a henv
  refine wpList_nil ?_
  refine th_n ?_
  refine wp_seq ?_
  refine region_seq ?_
  refine sv (v := .int .i64 0) henv rfl (rn_assign henv rfl) ?_
  clear henv a; intro a henv
  refine wpList_nil ?_
  refine th_n ?_
  refine wp_seq ?_
  refine wp_block ?_
  refine wp_loop_ghost (fun mz a w => ∃ j : Nat, ∃ vs : List (List UInt8), ∃ u : List UInt8, n - j = mz ∧ Env 66 a [(0, .string ⟨u.toArray⟩), (1, .string ⟨#[32]⟩), (2, .int .i64 0), (3, .int .i64 ((n - 1) : Nat)), (9, .slice (some ⟨g52, 0, none⟩) n n), (10, .int .i64 (j : Nat))] ∧ St w0 w [rowS notU 9 1 (some ⟨g52, 0, none⟩) n n (fl fS vs)] [] ∧ j ≤ n - 1 ∧ vs = ps.take j ++ List.replicate (n - j) [] ∧ vs.length = n ∧ u = jn (ps.drop j) ∧ u.length ≤ 70000) _ ⟨0, (List.replicate n []), jn ps, rfl, henv.sub ⟨rfl, rfl, rfl, rfl, rfl, rfl, trivial⟩, hst.pick [0] [] (by decide), (Nat.zero_le _), rfl, List.length_replicate, rfl, hb⟩ ?_
  clear henv hst a
  rintro mz a w54 ⟨j, vs, u, rfl, henv, hst, hj, hv, hvl, hu, hub⟩
  refine wp_seq ?_
  refine wp_seq ?_
  refine region_seq ?_
  revert a
  refine mA rfl rfl ?_
  refine mA rfl rfl ?_
  refine sA (v := .bool (decide (((j : Nat) : Int) < (((n - 1) : Nat) : Int)))) rfl (fun _ henv => rn_bin henv rfl rfl rfl) ?_
  intro a henv
  refine wpList_nil ?_
  refine th_n ?_
  refine if_split henv rfl (fun hc55 => ?_) (fun hc55 => ?_)
  · have hlt : j < n - 1 := by have := of_decide_eq_true hc55; omega
    obtain ⟨p, he0⟩ : ∃ p, ps[j]? = some p := ⟨_, List.getElem?_eq_getElem (by omega)⟩
    have hp0 := hno p (List.mem_of_getElem? he0)
    have hu2 := hu.trans (jn_cut he0 (by omega))
    clear hu
    subst hu2
    have hpl : p.length ≤ 70000 := by rw [List.length_append] at hub; omega
    refine wp_skip ?_
    refine th_n ?_
    refine wp_block ?_
    refine wp_seq ?_
    refine region_seq ?_
    revert a
    refine mA rfl rfl ?_
    refine mA rfl rfl ?_
    intro a henv
    refine seq_step rfl (op_call henv rfl Tryd.call88 rfl (h_idx hp0) ?_)
    rintro e w56 ⟨rfl, hb⟩
    refine ⟨_, rfl, ?_⟩
    clear henv a; intro a henv
    replace hst := hst.call hb
    clear hb
    refine sv (v := .int .i64 (p.length : Nat)) henv rfl (rn_assign henv rfl) ?_
    clear henv a; intro a henv
    refine wpList_nil ?_
    refine th_n ?_
    refine wp_seq ?_
    refine wp_seq ?_
    refine region_seq ?_
    revert a
    refine mA rfl rfl ?_
    refine sA (v := .bool (decide (((p.length : Nat) : Int) < (0 : Int)))) rfl (fun _ henv => rn_bin henv rfl rfl rfl) ?_
    intro a henv
    rw [show (decide (((p.length : Nat) : Int) < (0 : Int))) = false from (decide_eq_false (by omega))] at henv
    refine wpList_nil ?_
    refine th_n ?_
    refine if_f henv rfl (rfl) ?_
    refine wp_skip ?_
    refine th_n ?_
    refine wp_seq ?_
    refine region_seq ?_
    revert a
    refine mA rfl rfl ?_
    refine mA rfl rfl ?_
    refine mA rfl rfl ?_
    refine mA rfl rfl ?_
    refine mA rfl rfl ?_
    refine sA (v := .int .i64 (p.length + 0 : Nat)) rfl (fun _ henv => rn_add henv rfl rfl (by rw [IntWalk.i64_in _ (by omega)]; omega)) ?_
    refine sA (v := .string ⟨p.toArray⟩) rfl (fun _ henv => rn_takeE (s := (p ++ 32 :: jn (ps.drop (j + 1)))) (t := p) (n := p.length + 0) henv Tryd.underlying9 rfl rfl (by simp)) ?_
    refine sA (v := .pointer (some ⟨ab (some ⟨g52, 0, none⟩), ao (some ⟨g52, 0, none⟩) + j * 1, none⟩)) rfl (fun _ henv => rn_idxR (i := j) henv Tryd.underlying97 (ty_string.size) rfl rfl (by omega) rfl (rowS_rd (hst.owns (k := 0) rfl))) ?_
    intro a henv
    refine seq_step rfl (op_storeW1 (f := fS) (i := j) (e := p) (k := 0) henv hst (ty_string.size) rfl rfl rfl rfl fS_len (by omega) hvl rfl rfl rfl ?_)
    clear henv hst a; intro a w57 henv hst
    refine wpList_nil ?_
    refine th_n ?_
    refine wp_seq ?_
    refine region_seq ?_
    revert a
    refine mA rfl rfl ?_
    refine mA rfl rfl ?_
    refine mA rfl rfl ?_
    refine sA (v := .int .i64 1) rfl (fun _ henv => rn_slen (s := ⟨#[32]⟩) henv Tryd.underlying9 rfl) ?_
    refine sA (v := .int .i64 (p.length + 1 : Nat)) rfl (fun _ henv => rn_add henv rfl rfl (by rw [IntWalk.i64_in _ (by omega)]; omega)) ?_
    refine sA (v := .string ⟨(jn (ps.drop (j + 1))).toArray⟩) rfl (fun _ henv => rn_dropE (s := (p ++ 32 :: jn (ps.drop (j + 1)))) (t := jn (ps.drop (j + 1))) (n := p.length + 1) henv Tryd.underlying9 rfl rfl (by simp)) ?_
    refine aA rfl rfl ?_
    intro a henv
    refine wpList_nil ?_
    refine th_n ?_
    refine region_seq ?_
    revert a
    refine mA rfl rfl ?_
    refine sA (v := .int .i64 (j + 1 : Nat)) rfl (fun _ henv => rn_add henv rfl rfl (by rw [IntWalk.i64_in _ (by omega)]; omega)) ?_
    refine aA rfl rfl ?_
    intro a henv
    refine wpList_nil ?_
    refine bl_n ?_
    exact th_n ⟨_, (by omega), ⟨j + 1, (vs.set j p), jn (ps.drop (j + 1)), rfl, henv.sub ⟨rfl, rfl, rfl, rfl, rfl, rfl, trivial⟩, hst.pick [0] [] (by decide), (by omega), (sp_step hl (by omega) he0 hv), (by rw [List.length_set]; exact hvl), rfl, (by rw [List.length_append, List.length_cons] at hub; omega)⟩⟩
  · have hjn : j = n - 1 := by have := of_decide_eq_false hc55; omega
    have hfin := sp_last hl h1 hjn hv hu
    refine wp_exit ?_
    refine th_x (th_x (bl_x (th_n ?_)))
    refine wp_seq ?_
    refine region_seq ?_
    revert a
    refine mA rfl rfl ?_
    refine mA rfl rfl ?_
    refine mA rfl rfl ?_
    refine sA (v := .pointer (some ⟨ab (some ⟨g52, 0, none⟩), ao (some ⟨g52, 0, none⟩) + j * 1, none⟩)) rfl (fun _ henv => rn_idxR (i := j) henv Tryd.underlying97 (ty_string.size) rfl rfl (by omega) rfl (rowS_rd (hst.owns (k := 0) rfl))) ?_
    intro a henv
    refine seq_step rfl (op_storeW1 (f := fS) (i := j) (e := u) (k := 0) henv hst (ty_string.size) rfl rfl rfl rfl fS_len (by omega) hvl rfl rfl rfl ?_)
    clear henv hst a; intro a w58 henv hst
    refine wpList_nil ?_
    rw [hfin] at hst
    refine th_n ?_
    refine wp_seq ?_
    refine region_seq ?_
    revert a
    refine mA rfl rfl ?_
    refine mA rfl rfl ?_
    refine sA (v := .int .i64 (n : Nat)) rfl (fun _ henv => rn_add henv rfl rfl (by rw [IntWalk.i64_in _ (by omega)]; omega)) ?_
    refine sA (v := .slice (some ⟨g52, 0, none⟩) n n) rfl (fun _ henv => rn_sliceTo (m := n) henv Tryd.underlying97 (ty_string.size) rfl rfl (by (try simp only [List.length_append, List.length_cons, List.length_nil]); omega)) ?_
    refine aA rfl rfl ?_
    intro a henv
    refine wpList_nil ?_
    refine th_n ?_
    refine wp_ret ?_
    refine leave henv (res1 Tryd.results75 (RV.tmp henv rfl)) ?_
    exact ⟨_, rfl, newrow_of (hst.owns (k := 0) rfl) (fun b hb => hst.new _ (List.mem_of_getElem? (i := 0) rfl) b hb) rfl, hst.below⟩
set_option maxRecDepth 100000 in
set_option maxHeartbeats 2000000 in
theorem h_split {ps : List (List UInt8)} {n : Nat} {w0 : World} (hl : ps.length = n) (h1 : 1 ≤ n) (hno : ∀ p ∈ ps, (32 : UInt8) ∉ p) (hb : (jn ps).length ≤ 70000) :
    Calls Tryd.prog 66 #[.string ⟨(jn ps).toArray⟩, .string ⟨#[32]⟩] w0 fun e w' => ∃ g, e = .returned (.slice (some ⟨g, 0, none⟩) n n) ∧ NewRow notU 9 1 fS FTx w0.heap.size w' (some ⟨g, 0, none⟩) n n ps ∧ Below w0.heap.size w0 w' := by
  refine enter Tryd.func66 rfl Tryd.ntmps66 rfl ?_
  intro a henv hst
  refine wp_seq ?_
  refine region_seq ?_
  refine sv (v := .slice none 0 0) henv rfl (rn_assign henv rfl) ?_
  clear henv a; intro a henv
  refine wpList_nil ?_
  refine th_n ?_
  refine wp_seq ?_
  refine region_seq ?_
  revert a
  refine mA rfl rfl ?_
  refine mA rfl rfl ?_
  intro a henv
  refine seq_step rfl (op_call henv rfl Tryd.call75 rfl (h_gs hl h1 hno hb) ?_)
  rintro e w53 ⟨g51, rfl, hr, hb⟩
  refine ⟨_, rfl, ?_⟩
  clear henv a; intro a henv
  replace hst := hst.freshRow hb hr (fun _ _ _ _ _ q => by obtain ⟨_, _, q⟩ := q; cases q)
  clear hr
  clear hb
  refine sv (v := .slice (some ⟨g51, 0, none⟩) n n) henv rfl (rn_assign henv rfl) ?_
  clear henv a; intro a henv
  refine wpList_nil ?_
  refine th_n ?_
  refine wp_ret ?_
  refine leave henv (res1 Tryd.results66 (RV.tmp henv rfl)) ?_
  exact ⟨_, rfl, newrow_of (hst.owns (k := 0) rfl) (fun b hb => hst.new _ (List.mem_of_getElem? (i := 0) rfl) b hb) rfl, hst.below⟩
end Go.Proofs.YtbdngknpngcojaaDoor.W

/- prog.head, instr, outs. Printed by pv/gen_h5.py. Condition: the table uint64pow10 is as laid (Pw). -/
namespace Go.Proofs.YtbdngknpngcojaaDoor.W
open Go.RowKit Anv Go.Lib
theorem tz_no (z : Int) (c : UInt8) (h : ¬ (c.toNat = 45 ∨ (48 ≤ c.toNat ∧ c.toNat ≤ 57))) : c ∉ textZ z := fun hm => by
  rcases textZ_parts z with ⟨_, e⟩ | ⟨_, e⟩
  · rw [e] at hm
    rcases List.mem_cons.1 hm with q | q
    · exact h (.inl (by rw [q]; rfl))
    · exact h (.inr (textN_dgt _ c q))
  · rw [e] at hm; exact h (.inr (textN_dgt _ c hm))
theorem preg_no (z : Int) (c : UInt8) (h : ¬ (c.toNat = 45 ∨ (48 ≤ c.toNat ∧ c.toNat ≤ 57))) (h2 : c ≠ 114) : c ∉ pTreg z := fun hm => by
  unfold pTreg at hm
  rcases List.mem_append.1 hm with q | q
  · simp at q; exact h2 q
  · exact tz_no z c h q
theorem psg_no (op : Int) (c : UInt8) (h : c = 32 ∨ c = 10) : c ∉ pTsg op := by
  unfold pTsg
  rcases h with rfl | rfl <;> (repeat' split) <;> decide
def wHead (i : Int) (g : Nat) : List (List UInt8) := [[105, 110], textZ i, [114, 101, 103, 115], textZ ((g : Nat) : Int)]
def wMove (tr ra : Int) : List (List UInt8) := [pTreg tr, [61], pTreg ra]
def wNeg (tr ra : Int) : List (List UInt8) := [pTreg tr, [61], 45 :: pTreg ra]
def wTwo (op tr ra rb : Int) : List (List UInt8) := [pTreg tr, [61], pTreg ra, pTsg op, pTreg rb]
def wCon (op tr ra cn : Int) : List (List UInt8) := [pTreg tr, [61], pTreg ra, pTsg op, textZ cn]
def wOuts (os : List Int) : List (List UInt8) := [111, 117, 116] :: os.map pTreg
def Wd (p : List UInt8) : Prop := (32 : UInt8) ∉ p ∧ (10 : UInt8) ∉ p
theorem wd_tz (z : Int) : Wd (textZ z) := ⟨tz_no z 32 (by decide), tz_no z 10 (by decide)⟩
theorem wd_reg (z : Int) : Wd (pTreg z) := ⟨preg_no z 32 (by decide) (by decide), preg_no z 10 (by decide) (by decide)⟩
theorem wd_neg (z : Int) : Wd (45 :: pTreg z) := ⟨by simpa using (wd_reg z).1, by simpa using (wd_reg z).2⟩
theorem wd_sg (op : Int) : Wd (pTsg op) := ⟨psg_no op 32 (.inl rfl), psg_no op 10 (.inr rfl)⟩
theorem wd_eq : Wd [61] := ⟨by decide, by decide⟩
theorem wd_head (i : Int) (g : Nat) : ∀ p ∈ wHead i g, Wd p := by
  intro p hp
  simp only [wHead, List.mem_cons, List.not_mem_nil, or_false] at hp
  rcases hp with rfl | rfl | rfl | rfl
  · exact ⟨by decide, by decide⟩
  · exact wd_tz _
  · exact ⟨by decide, by decide⟩
  · exact wd_tz _
theorem wd_move (tr ra : Int) : ∀ p ∈ wMove tr ra, Wd p := by
  intro p hp
  simp only [wMove, List.mem_cons, List.not_mem_nil, or_false] at hp
  rcases hp with rfl | rfl | rfl
  · exact wd_reg _
  · exact wd_eq
  · exact wd_reg _
theorem wd_negs (tr ra : Int) : ∀ p ∈ wNeg tr ra, Wd p := by
  intro p hp
  simp only [wNeg, List.mem_cons, List.not_mem_nil, or_false] at hp
  rcases hp with rfl | rfl | rfl
  · exact wd_reg _
  · exact wd_eq
  · exact wd_neg _
theorem wd_two (op tr ra rb : Int) : ∀ p ∈ wTwo op tr ra rb, Wd p := by
  intro p hp
  simp only [wTwo, List.mem_cons, List.not_mem_nil, or_false] at hp
  rcases hp with rfl | rfl | rfl | rfl | rfl
  · exact wd_reg _
  · exact wd_eq
  · exact wd_reg _
  · exact wd_sg _
  · exact wd_reg _
theorem wd_con (op tr ra cn : Int) : ∀ p ∈ wCon op tr ra cn, Wd p := by
  intro p hp
  simp only [wCon, List.mem_cons, List.not_mem_nil, or_false] at hp
  rcases hp with rfl | rfl | rfl | rfl | rfl
  · exact wd_reg _
  · exact wd_eq
  · exact wd_reg _
  · exact wd_sg _
  · exact wd_tz _
theorem wd_outs (os : List Int) : ∀ p ∈ wOuts os, Wd p := by
  intro p hp
  rcases List.mem_cons.1 hp with rfl | hp
  · exact ⟨by decide, by decide⟩
  · obtain ⟨r, _, rfl⟩ := List.mem_map.1 hp
    exact wd_reg _
theorem head_no32 (i : Int) (g : Nat) : ∀ p ∈ wHead i g, (32 : UInt8) ∉ p := fun p hp => (wd_head i g p hp).1
theorem outs_no32 (os : List Int) : ∀ p ∈ wOuts os, (32 : UInt8) ∉ p := fun p hp => (wd_outs os p hp).1
theorem head_len {i : Int} {g : Nat} (h1 : 0 ≤ i) (h2 : i ≤ 999) (h3 : g ≤ 999) : (jn (wHead i g)).length ≤ 70000 := by
  have a1 := tz_len (n := i) (by omega) h2
  have a2 := tz_len (n := ((g : Nat) : Int)) (by omega) (by omega)
  simp only [jn, wHead, List.flatMap_cons, List.flatMap_nil, List.length_append, List.length_cons, List.length_nil]; omega
theorem wouts_len {os : List Int} {n : Nat} (h : os.length = n) : (wOuts os).length = n + 1 := by simp [wOuts, h]
theorem jn_outs (os : List Int) : jn (wOuts os) = [111, 117, 116] ++ pTouts os := by
  show [111, 117, 116] ++ (os.map pTreg).flatMap _ = _
  rw [List.flatMap_map]
  rfl
theorem touts_len {os : List Int} (hx : ∀ x ∈ os, 0 ≤ x ∧ x ≤ 999) : (pTouts os).length ≤ 6 * os.length := by
  induction os with
  | nil => exact Nat.le_refl _
  | cons r os ih =>
    have h1 := hx r (List.mem_cons_self ..)
    have h2 := preg_len (n := r) (by omega) (by omega)
    have h3 := ih fun x hm => hx x (List.mem_cons_of_mem _ hm)
    unfold pTouts at h3 ⊢
    rw [List.flatMap_cons]
    simp only [List.length_append, List.length_cons, List.length_nil]; omega
theorem outs_jlen {os : List Int} {n : Nat} (h : os.length = n) (hn : n ≤ 400) (hx : ∀ x ∈ os, 0 ≤ x ∧ x ≤ 999) : (jn (wOuts os)).length ≤ 70000 := by
  have := touts_len hx
  rw [jn_outs, List.length_append]
  simp only [List.length_cons, List.length_nil]; omega
def opat (o j : Nat) : Int := if o < j then ((o : Nat) : Int) else 0
theorem opat_0 {o : Nat} (h : 3 ≤ o) : opat o 3 = 0 := if_neg (by omega)
theorem opat_hit {o j : Nat} (h : j = o) : ((j : Nat) : Int) = opat o (j + 1) := by subst h; exact (if_pos (by omega)).symm
theorem opat_miss {o j : Nat} (h : j ≠ o) : opat o j = opat o (j + 1) := by
  unfold opat
  by_cases q : o < j
  · rw [if_pos q, if_pos (by omega)]
  · rw [if_neg q, if_neg (by omega)]
theorem opat_end {o j : Nat} (h : 9 ≤ j) (ho : o ≤ 8) : opat o j = ((o : Nat) : Int) := if_pos (by omega)
theorem psg_all : ∀ j, j < 9 → 3 ≤ j → ∀ o, o < 9 → 3 ≤ o → pTsg ((j : Nat) : Int) = pTsg ((o : Nat) : Int) → j = o := by decide +kernel
theorem psg_inj {j o : Nat} (h1 : 3 ≤ j) (h2 : j ≤ 8) (h3 : 3 ≤ o) (h4 : o ≤ 8) (h : pTsg ((j : Nat) : Int) = pTsg ((o : Nat) : Int)) : j = o := psg_all j (by omega) h1 o (by omega) h3 h
set_option maxRecDepth 100000 in
set_option maxHeartbeats 2000000 in
theorem h_head {i : Int} {g : Nat} {w0 : World} (hP : Pw w0) (h1 : 0 ≤ i) (h2 : i ≤ 999) (h3 : g ≤ 999) :
    Calls Tryd.prog 53 #[.string ⟨(jn (wHead i g)).toArray⟩] w0 fun e w' => e = .returned (.tuple #[.int .i64 i, .int .i64 (g : Nat), .bool true]) ∧ Below w0.heap.size w0 w' := by
  have hno := head_no32 i g
  have hjb := head_len h1 h2 h3
  refine enter Tryd.func53 rfl Tryd.ntmps53 rfl ?_
  intro a henv hst
  replace hst := hst.argP pfPw hP
  refine wp_seq ?_
  refine region_seq ?_
  revert a
  refine aA rfl rfl ?_
  refine aA rfl rfl ?_
  refine aA rfl rfl ?_
  intro a henv
  refine wpList_nil ?_
  refine th_n ?_
  refine wp_seq ?_
  refine region_seq ?_
  refine sv (v := .string ⟨(jn (wHead i g)).toArray⟩) henv rfl (rn_move henv rfl) ?_
  clear henv a; intro a henv
  refine seq_step rfl (op_call henv rfl Tryd.call66 rfl (h_split (ps := (wHead i g)) (n := 4) rfl (by omega) hno hjb) ?_)
  rintro e w52 ⟨g51, rfl, hr, hb⟩
  refine ⟨_, rfl, ?_⟩
  clear henv a; intro a henv
  replace hst := hst.freshRd hb hr rfl (fun _ _ _ _ _ q => by obtain ⟨_, _, q⟩ := q; cases q)
  clear hr
  clear hb
  refine sv (v := .slice (some ⟨g51, 0, none⟩) 4 4) henv rfl (rn_assign henv rfl) ?_
  clear henv a; intro a henv
  refine wpList_nil ?_
  refine th_n ?_
  refine wp_seq ?_
  refine wp_seq ?_
  refine region_seq ?_
  revert a
  refine mA rfl rfl ?_
  refine sA (v := .int .i64 4) rfl (fun _ henv => rn_len henv Tryd.underlying97 rfl) ?_
  refine sA (v := .bool false) rfl (fun _ henv => rn_bin henv rfl rfl rfl) ?_
  refine mA rfl rfl ?_
  refine gA (v := .slice (some ⟨g51, 0, none⟩) 4 4) rfl rfl rfl rfl (fun _ henv => rn_move henv rfl) ?_
  refine gA (v := .pointer (some ⟨ab (some ⟨g51, 0, none⟩), ao (some ⟨g51, 0, none⟩) + 0 * 1, none⟩)) rfl rfl rfl rfl (fun _ henv => rn_idxR (i := 0) henv Tryd.underlying97 (ty_string.size) rfl rfl (by omega) rfl (show (pfRow fS FTx 1 (some ⟨g51, 0, none⟩) 4 4 (wHead i g)).P _ from (hst.pat (k := 0) rfl)).1) ?_
  refine gA (v := .string ⟨([105, 110]).toArray⟩) rfl rfl rfl rfl (fun _ henv => rn_loadE1 (i := 0) (j := 0) (e := [105, 110]) henv ty_string rfl rfl fS_len (by decide) (show (pfRow fS FTx 1 (some ⟨g51, 0, none⟩) 4 4 (wHead i g)).P _ from (hst.pat (k := 0) rfl)).1 (by omega) rfl rfl) ?_
  refine gA (v := .bool false) rfl rfl rfl rfl (fun _ henv => rn_neqs (s := [105, 110]) (t := [105, 110]) henv rfl rfl) ?_
  refine sA (v := .bool false) rfl (fun _ henv => rn_pick henv rfl rfl) ?_
  refine mA rfl rfl ?_
  refine gA (v := .slice (some ⟨g51, 0, none⟩) 4 4) rfl rfl rfl rfl (fun _ henv => rn_move henv rfl) ?_
  refine gA (v := .pointer (some ⟨ab (some ⟨g51, 0, none⟩), ao (some ⟨g51, 0, none⟩) + 2 * 1, none⟩)) rfl rfl rfl rfl (fun _ henv => rn_idxR (i := 2) henv Tryd.underlying97 (ty_string.size) rfl rfl (by omega) rfl (show (pfRow fS FTx 1 (some ⟨g51, 0, none⟩) 4 4 (wHead i g)).P _ from (hst.pat (k := 0) rfl)).1) ?_
  refine gA (v := .string ⟨([114, 101, 103, 115]).toArray⟩) rfl rfl rfl rfl (fun _ henv => rn_loadE1 (i := 2) (j := 0) (e := [114, 101, 103, 115]) henv ty_string rfl rfl fS_len (by decide) (show (pfRow fS FTx 1 (some ⟨g51, 0, none⟩) 4 4 (wHead i g)).P _ from (hst.pat (k := 0) rfl)).1 (by omega) rfl rfl) ?_
  refine gA (v := .bool false) rfl rfl rfl rfl (fun _ henv => rn_neqs (s := [114, 101, 103, 115]) (t := [114, 101, 103, 115]) henv rfl rfl) ?_
  refine sA (v := .bool false) rfl (fun _ henv => rn_pick henv rfl rfl) ?_
  intro a henv
  refine wpList_nil ?_
  refine th_n ?_
  refine if_f henv rfl (rfl) ?_
  refine wp_skip ?_
  refine th_n ?_
  refine wp_seq ?_
  refine region_seq ?_
  revert a
  refine mA rfl rfl ?_
  refine sA (v := .pointer (some ⟨ab (some ⟨g51, 0, none⟩), ao (some ⟨g51, 0, none⟩) + 1 * 1, none⟩)) rfl (fun _ henv => rn_idxR (i := 1) henv Tryd.underlying97 (ty_string.size) rfl rfl (by omega) rfl (show (pfRow fS FTx 1 (some ⟨g51, 0, none⟩) 4 4 (wHead i g)).P _ from (hst.pat (k := 0) rfl)).1) ?_
  refine sA (v := .string ⟨(textZ i).toArray⟩) rfl (fun _ henv => rn_loadE1 (i := 1) (j := 0) (e := textZ i) henv ty_string rfl rfl fS_len (by decide) (show (pfRow fS FTx 1 (some ⟨g51, 0, none⟩) 4 4 (wHead i g)).P _ from (hst.pat (k := 0) rfl)).1 (by omega) rfl rfl) ?_
  intro a henv
  refine seq_step rfl (op_call henv rfl Tryd.call67 rfl (h_number (n := i) (hst.pat (k := 1) rfl) (by omega) (by omega)) ?_)
  rintro e w53 ⟨rfl, hb⟩
  refine ⟨_, rfl, ?_⟩
  clear henv a; intro a henv
  replace hst := hst.call hb
  clear hb
  revert a
  refine mA rfl rfl ?_
  refine sA (v := .int .i64 i) rfl (fun _ henv => rn_extract henv rfl rfl) ?_
  refine sA (v := .bool true) rfl (fun _ henv => rn_extract henv rfl rfl) ?_
  refine aA rfl rfl ?_
  refine aA rfl rfl ?_
  intro a henv
  refine wpList_nil ?_
  refine th_n ?_
  refine wp_seq ?_
  refine region_seq ?_
  revert a
  refine mA rfl rfl ?_
  refine sA (v := .pointer (some ⟨ab (some ⟨g51, 0, none⟩), ao (some ⟨g51, 0, none⟩) + 3 * 1, none⟩)) rfl (fun _ henv => rn_idxR (i := 3) henv Tryd.underlying97 (ty_string.size) rfl rfl (by omega) rfl (show (pfRow fS FTx 1 (some ⟨g51, 0, none⟩) 4 4 (wHead i g)).P _ from (hst.pat (k := 0) rfl)).1) ?_
  refine sA (v := .string ⟨(textZ ((g : Nat) : Int)).toArray⟩) rfl (fun _ henv => rn_loadE1 (i := 3) (j := 0) (e := textZ ((g : Nat) : Int)) henv ty_string rfl rfl fS_len (by decide) (show (pfRow fS FTx 1 (some ⟨g51, 0, none⟩) 4 4 (wHead i g)).P _ from (hst.pat (k := 0) rfl)).1 (by omega) rfl rfl) ?_
  intro a henv
  refine seq_step rfl (op_call henv rfl Tryd.call67 rfl (h_number (n := ((g : Nat) : Int)) (hst.pat (k := 1) rfl) (by omega) (by omega)) ?_)
  rintro e w54 ⟨rfl, hb⟩
  refine ⟨_, rfl, ?_⟩
  clear henv a; intro a henv
  replace hst := hst.call hb
  clear hb
  revert a
  refine mA rfl rfl ?_
  refine sA (v := .int .i64 ((g : Nat) : Int)) rfl (fun _ henv => rn_extract henv rfl rfl) ?_
  refine sA (v := .bool true) rfl (fun _ henv => rn_extract henv rfl rfl) ?_
  refine aA rfl rfl ?_
  refine aA rfl rfl ?_
  intro a henv
  refine wpList_nil ?_
  refine th_n ?_
  refine wp_seq ?_
  refine region_seq ?_
  revert a
  refine mA rfl rfl ?_
  refine mA rfl rfl ?_
  refine mA rfl rfl ?_
  refine mA rfl rfl ?_
  refine gA (v := .bool true) rfl rfl rfl rfl (fun _ henv => rn_move henv rfl) ?_
  refine sA (v := .bool true) rfl (fun _ henv => rn_pick henv rfl rfl) ?_
  refine mA rfl rfl ?_
  refine gA (v := .int .i64 i) rfl rfl rfl rfl (fun _ henv => rn_move henv rfl) ?_
  refine gA (v := .bool (decide (i ≥ (0 : Int)))) rfl rfl rfl rfl (fun _ henv => rn_bin henv rfl rfl rfl) ?_
  refine sA (v := .bool (decide (i ≥ (0 : Int)))) rfl (fun _ henv => rn_pick henv rfl rfl) ?_
  refine mA rfl rfl ?_
  intro a henv
  rcases bool_em (decide (i ≥ (0 : Int))) with hg55 | hg55
  · rw [hg55] at henv
    have hq56 := of_decide_eq_true hg55
    revert a
    refine gA (v := .int .i64 ((g : Nat) : Int)) rfl rfl rfl rfl (fun _ henv => rn_move henv rfl) ?_
    refine gA (v := .bool (decide (((g : Nat) : Int) ≥ (0 : Int)))) rfl rfl rfl rfl (fun _ henv => rn_bin henv rfl rfl rfl) ?_
    refine sA (v := .bool (decide (((g : Nat) : Int) ≥ (0 : Int)))) rfl (fun _ henv => rn_pick henv rfl rfl) ?_
    refine aA rfl rfl ?_
    refine aA rfl rfl ?_
    refine aA rfl rfl ?_
    intro a henv
    refine wpList_nil ?_
    refine th_n ?_
    refine wp_ret ?_
    refine leave henv (res3 Tryd.results53 (RV.tmp henv rfl) (RV.tmp henv rfl) (RV.tmp henv rfl)) ?_
    exact ⟨rfl, hst.below⟩
  · rw [hg55] at henv
    have hq := of_decide_eq_false hg55
    omega
set_option maxRecDepth 100000 in
set_option maxHeartbeats 4000000 in
theorem h_instr_m {tr ra rb cn : Int} {w0 : World} (hP : Pw w0) (b1 : 0 ≤ tr) (b2 : tr ≤ 128) (b3 : 0 ≤ ra) (b4 : ra ≤ 128) (b5 : 0 ≤ rb) (b6 : rb ≤ 128) (b7 : -512 ≤ cn) (b8 : cn ≤ 512) :
    Calls Tryd.prog 56 #[.string ⟨(jn (wMove tr ra)).toArray⟩] w0 fun e w' => e = .returned (.tuple #[.agg #[.int .i64 1, .int .i64 tr, .int .i64 ra, .int .i64 0, .int .i64 0], .bool true]) ∧ Below w0.heap.size w0 w' := by
  have hl1 := preg_len (n := tr) (by omega) (by omega)
  have hl2 := preg_len (n := ra) (by omega) (by omega)
  have hl3 := preg_len (n := rb) (by omega) (by omega)
  have hl4 := tz_len (n := cn) (by omega) (by omega)
  have hno : ∀ p ∈ (wMove tr ra), (32 : UInt8) ∉ p := fun p hp => (wd_move tr ra p hp).1
  have hjb : (jn (wMove tr ra)).length ≤ 70000 := by simp only [jn, wMove, wNeg, wTwo, wCon, List.flatMap_cons, List.flatMap_nil, List.length_append, List.length_cons, List.length_nil]; omega
  refine enter Tryd.func56 rfl Tryd.ntmps56 rfl ?_
  intro a henv hst
  replace hst := hst.argP pfPw hP
  refine wp_seq ?_
  refine region_seq ?_
  refine seq_step rfl (op_alloc (c := #[.int .i64 0, .int .i64 0, .int .i64 0, .int .i64 0, .int .i64 0]) henv hst rfl zero_anvil_api_Instr rfl ?_)
  clear henv hst a; intro a w52 g51 henv hst
  refine sv (v := .bool false) henv rfl (rn_assign henv rfl) ?_
  clear henv a; intro a henv
  refine wpList_nil ?_
  refine th_n ?_
  refine wp_seq ?_
  refine region_seq ?_
  refine sv (v := .string ⟨(jn (wMove tr ra)).toArray⟩) henv rfl (rn_move henv rfl) ?_
  clear henv a; intro a henv
  refine seq_step rfl (op_call henv rfl Tryd.call66 rfl (h_split (ps := (wMove tr ra)) (n := 3) rfl (by omega) hno hjb) ?_)
  rintro e w54 ⟨g53, rfl, hr, hb⟩
  refine ⟨_, rfl, ?_⟩
  clear henv a; intro a henv
  replace hst := hst.freshRd hb hr rfl (fun _ _ _ _ _ q => by obtain ⟨_, _, q⟩ := q; cases q)
  clear hr
  clear hb
  refine sv (v := .slice (some ⟨g53, 0, none⟩) 3 3) henv rfl (rn_assign henv rfl) ?_
  clear henv a; intro a henv
  refine wpList_nil ?_
  refine th_n ?_
  refine wp_seq ?_
  refine region_seq ?_
  refine seq_step rfl (op_alloc (c := #[.int .i64 0, .int .i64 0, .int .i64 0, .int .i64 0, .int .i64 0]) henv hst rfl zero_anvil_api_Instr rfl ?_)
  clear henv hst a; intro a w56 g55 henv hst
  refine wpList_nil ?_
  refine th_n ?_
  refine wp_seq ?_
  refine region_seq ?_
  revert a
  refine aA rfl rfl ?_
  refine aA rfl rfl ?_
  intro a henv
  refine wpList_nil ?_
  refine th_n ?_
  refine wp_seq ?_
  refine wp_seq ?_
  refine region_seq ?_
  revert a
  refine mA rfl rfl ?_
  refine sA (v := .pointer (some ⟨ab (some ⟨g53, 0, none⟩), ao (some ⟨g53, 0, none⟩) + 0 * 1, none⟩)) rfl (fun _ henv => rn_idxR (i := 0) henv Tryd.underlying97 (ty_string.size) rfl rfl (by omega) rfl (show (pfRow fS FTx 1 (some ⟨g53, 0, none⟩) 3 3 (wMove tr ra)).P _ from (hst.pat (k := 0) rfl)).1) ?_
  refine sA (v := .string ⟨(pTreg tr).toArray⟩) rfl (fun _ henv => rn_loadE1 (i := 0) (j := 0) (e := pTreg tr) henv ty_string rfl rfl fS_len (by decide) (show (pfRow fS FTx 1 (some ⟨g53, 0, none⟩) 3 3 (wMove tr ra)).P _ from (hst.pat (k := 0) rfl)).1 (by omega) rfl rfl) ?_
  intro a henv
  refine seq_step rfl (op_call henv rfl Tryd.call69 rfl (h_register (n := tr) (hst.pat (k := 1) rfl) (by omega) (by omega)) ?_)
  rintro e w57 ⟨rfl, hb⟩
  refine ⟨_, rfl, ?_⟩
  clear henv a; intro a henv
  replace hst := hst.call hb
  clear hb
  revert a
  refine mA rfl rfl ?_
  refine sA (v := .int .i64 tr) rfl (fun _ henv => rn_extract henv rfl rfl) ?_
  refine sA (v := .bool true) rfl (fun _ henv => rn_extract henv rfl rfl) ?_
  refine sA (v := .pointer (some ⟨g55, 1, none⟩)) rfl (fun _ henv => rn_fieldAddr henv fd_anvil_api_Instr_1 (ty_int.size) (by decide) rfl) ?_
  intro a henv
  refine seq_step rfl (op_store1 (k := 0) (c' := #[.int .i64 0, .int .i64 tr, .int .i64 0, .int .i64 0, .int .i64 0]) henv hst (ty_int.size) rfl rfl rfl (by simp) rfl rfl ?_)
  clear henv hst a; intro a w58 henv hst
  refine sv (v := .bool true) henv rfl (rn_assign henv rfl) ?_
  clear henv a; intro a henv
  refine wpList_nil ?_
  refine th_n ?_
  refine wp_seq ?_
  refine region_seq ?_
  revert a
  refine mA rfl rfl ?_
  refine sA (v := .bool false) rfl (fun _ henv => rn_un henv rfl rfl) ?_
  refine mA rfl rfl ?_
  refine gA (v := .slice (some ⟨g53, 0, none⟩) 3 3) rfl rfl rfl rfl (fun _ henv => rn_move henv rfl) ?_
  refine gA (v := .int .i64 3) rfl rfl rfl rfl (fun _ henv => rn_len henv Tryd.underlying97 rfl) ?_
  refine gA (v := .bool false) rfl rfl rfl rfl (fun _ henv => rn_bin henv rfl rfl rfl) ?_
  refine sA (v := .bool false) rfl (fun _ henv => rn_pick henv rfl rfl) ?_
  refine mA rfl rfl ?_
  refine gA (v := .slice (some ⟨g53, 0, none⟩) 3 3) rfl rfl rfl rfl (fun _ henv => rn_move henv rfl) ?_
  refine gA (v := .pointer (some ⟨ab (some ⟨g53, 0, none⟩), ao (some ⟨g53, 0, none⟩) + 1 * 1, none⟩)) rfl rfl rfl rfl (fun _ henv => rn_idxR (i := 1) henv Tryd.underlying97 (ty_string.size) rfl rfl (by omega) rfl (show (pfRow fS FTx 1 (some ⟨g53, 0, none⟩) 3 3 (wMove tr ra)).P _ from (hst.pat (k := 0) rfl)).1) ?_
  refine gA (v := .string ⟨([61]).toArray⟩) rfl rfl rfl rfl (fun _ henv => rn_loadE1 (i := 1) (j := 0) (e := [61]) henv ty_string rfl rfl fS_len (by decide) (show (pfRow fS FTx 1 (some ⟨g53, 0, none⟩) 3 3 (wMove tr ra)).P _ from (hst.pat (k := 0) rfl)).1 (by omega) rfl rfl) ?_
  refine gA (v := .bool false) rfl rfl rfl rfl (fun _ henv => rn_neqs (s := [61]) (t := [61]) henv rfl rfl) ?_
  refine sA (v := .bool false) rfl (fun _ henv => rn_pick henv rfl rfl) ?_
  intro a henv
  refine wpList_nil ?_
  refine th_n ?_
  refine if_f henv rfl (rfl) ?_
  refine wp_skip ?_
  refine th_n ?_
  refine wp_seq ?_
  refine wp_block ?_
  refine wp_seq ?_
  refine region_seq ?_
  revert a
  refine mA rfl rfl ?_
  refine sA (v := .int .i64 3) rfl (fun _ henv => rn_len henv Tryd.underlying97 rfl) ?_
  refine sA (v := .bool true) rfl (fun _ henv => rn_bin henv rfl rfl rfl) ?_
  refine mA rfl rfl ?_
  refine gA (v := .slice (some ⟨g53, 0, none⟩) 3 3) rfl rfl rfl rfl (fun _ henv => rn_move henv rfl) ?_
  refine gA (v := .pointer (some ⟨ab (some ⟨g53, 0, none⟩), ao (some ⟨g53, 0, none⟩) + 2 * 1, none⟩)) rfl rfl rfl rfl (fun _ henv => rn_idxR (i := 2) henv Tryd.underlying97 (ty_string.size) rfl rfl (by omega) rfl (show (pfRow fS FTx 1 (some ⟨g53, 0, none⟩) 3 3 (wMove tr ra)).P _ from (hst.pat (k := 0) rfl)).1) ?_
  refine gA (v := .string ⟨(pTreg ra).toArray⟩) rfl rfl rfl rfl (fun _ henv => rn_loadE1 (i := 2) (j := 0) (e := pTreg ra) henv ty_string rfl rfl fS_len (by decide) (show (pfRow fS FTx 1 (some ⟨g53, 0, none⟩) 3 3 (wMove tr ra)).P _ from (hst.pat (k := 0) rfl)).1 (by omega) rfl rfl) ?_
  intro a henv
  refine seq_g rfl henv rfl rfl (op_call henv rfl Tryd.call54 rfl (h_hasp (s := (pTreg ra)) (p := [45]) (b := false) (by first | omega | (rw [List.length_cons]; omega)) (decide_eq_false (by unfold pTreg; simp))) ?_)
  rintro e w59 ⟨rfl, hb⟩
  refine ⟨_, rfl, ?_⟩
  clear henv a; intro a henv
  replace hst := hst.call hb
  clear hb
  revert a
  refine sA (v := .bool false) rfl (fun _ henv => rn_pick henv rfl rfl) ?_
  refine aA rfl rfl ?_
  intro a henv
  refine wpList_nil ?_
  refine th_n ?_
  refine if_f henv rfl (rfl) ?_
  refine wp_seq ?_
  refine region_seq ?_
  revert a
  refine mA rfl rfl ?_
  refine sA (v := .int .i64 3) rfl (fun _ henv => rn_len henv Tryd.underlying97 rfl) ?_
  refine sA (v := .bool true) rfl (fun _ henv => rn_bin henv rfl rfl rfl) ?_
  refine aA rfl rfl ?_
  intro a henv
  refine wpList_nil ?_
  refine th_n ?_
  refine if_t henv rfl (rfl) ?_
  refine wp_seq ?_
  refine region_seq ?_
  refine sv (v := .pointer (some ⟨g55, 0, none⟩)) henv rfl (rn_fieldAddr henv fd_anvil_api_Instr_0 (ty_int.size) (by decide) rfl) ?_
  clear henv a; intro a henv
  refine seq_step rfl (op_store1 (k := 0) (c' := #[.int .i64 1, .int .i64 tr, .int .i64 0, .int .i64 0, .int .i64 0]) henv hst (ty_int.size) rfl rfl rfl (by simp) rfl rfl ?_)
  clear henv hst a; intro a w60 henv hst
  refine wpList_nil ?_
  refine th_n ?_
  refine wp_seq ?_
  refine region_seq ?_
  revert a
  refine mA rfl rfl ?_
  refine sA (v := .pointer (some ⟨ab (some ⟨g53, 0, none⟩), ao (some ⟨g53, 0, none⟩) + 2 * 1, none⟩)) rfl (fun _ henv => rn_idxR (i := 2) henv Tryd.underlying97 (ty_string.size) rfl rfl (by omega) rfl (show (pfRow fS FTx 1 (some ⟨g53, 0, none⟩) 3 3 (wMove tr ra)).P _ from (hst.pat (k := 0) rfl)).1) ?_
  refine sA (v := .string ⟨(pTreg ra).toArray⟩) rfl (fun _ henv => rn_loadE1 (i := 2) (j := 0) (e := pTreg ra) henv ty_string rfl rfl fS_len (by decide) (show (pfRow fS FTx 1 (some ⟨g53, 0, none⟩) 3 3 (wMove tr ra)).P _ from (hst.pat (k := 0) rfl)).1 (by omega) rfl rfl) ?_
  intro a henv
  refine seq_step rfl (op_call henv rfl Tryd.call69 rfl (h_register (n := ra) (hst.pat (k := 1) rfl) (by omega) (by omega)) ?_)
  rintro e w61 ⟨rfl, hb⟩
  refine ⟨_, rfl, ?_⟩
  clear henv a; intro a henv
  replace hst := hst.call hb
  clear hb
  revert a
  refine mA rfl rfl ?_
  refine sA (v := .int .i64 ra) rfl (fun _ henv => rn_extract henv rfl rfl) ?_
  refine sA (v := .bool true) rfl (fun _ henv => rn_extract henv rfl rfl) ?_
  refine sA (v := .pointer (some ⟨g55, 2, none⟩)) rfl (fun _ henv => rn_fieldAddr henv fd_anvil_api_Instr_2 (ty_int.size) (by decide) rfl) ?_
  intro a henv
  refine seq_step rfl (op_store1 (k := 0) (c' := #[.int .i64 1, .int .i64 tr, .int .i64 ra, .int .i64 0, .int .i64 0]) henv hst (ty_int.size) rfl rfl rfl (by simp) rfl rfl ?_)
  clear henv hst a; intro a w62 henv hst
  refine sv (v := .bool true) henv rfl (rn_assign henv rfl) ?_
  clear henv a; intro a henv
  refine wpList_nil ?_
  refine th_n ?_
  refine wp_seq ?_
  refine region_seq ?_
  revert a
  refine sA (v := .agg #[.int .i64 1, .int .i64 tr, .int .i64 ra, .int .i64 0, .int .i64 0]) rfl (fun _ henv => rn_load0 henv ty_anvil_api_Instr rfl (hst.oat (k := 0) rfl) rfl) ?_
  refine mA rfl rfl ?_
  intro a henv
  refine seq_step rfl (op_store (k := 1) (c' := #[.int .i64 1, .int .i64 tr, .int .i64 ra, .int .i64 0, .int .i64 0]) henv hst (ty_anvil_api_Instr.size) rfl rfl rfl rfl (by simp) rfl rfl ?_)
  clear henv hst a; intro a w63 henv hst
  refine sv (v := .bool true) henv rfl (rn_assign henv rfl) ?_
  clear henv a; intro a henv
  refine wpList_nil ?_
  refine th_n ?_
  refine wp_ret ?_
  refine bl_r (th_r ?_)
  refine leave henv (res2 Tryd.results56 (RV.cell henv ty_anvil_api_Instr rfl (hst.oat (k := 1) rfl) rfl) (RV.tmp henv rfl)) ?_
  exact ⟨rfl, hst.below⟩
set_option maxRecDepth 100000 in
set_option maxHeartbeats 4000000 in
theorem h_instr_n {tr ra rb cn : Int} {w0 : World} (hP : Pw w0) (b1 : 0 ≤ tr) (b2 : tr ≤ 128) (b3 : 0 ≤ ra) (b4 : ra ≤ 128) (b5 : 0 ≤ rb) (b6 : rb ≤ 128) (b7 : -512 ≤ cn) (b8 : cn ≤ 512) :
    Calls Tryd.prog 56 #[.string ⟨(jn (wNeg tr ra)).toArray⟩] w0 fun e w' => e = .returned (.tuple #[.agg #[.int .i64 2, .int .i64 tr, .int .i64 ra, .int .i64 0, .int .i64 0], .bool true]) ∧ Below w0.heap.size w0 w' := by
  have hl1 := preg_len (n := tr) (by omega) (by omega)
  have hl2 := preg_len (n := ra) (by omega) (by omega)
  have hl3 := preg_len (n := rb) (by omega) (by omega)
  have hl4 := tz_len (n := cn) (by omega) (by omega)
  have hno : ∀ p ∈ (wNeg tr ra), (32 : UInt8) ∉ p := fun p hp => (wd_negs tr ra p hp).1
  have hjb : (jn (wNeg tr ra)).length ≤ 70000 := by simp only [jn, wMove, wNeg, wTwo, wCon, List.flatMap_cons, List.flatMap_nil, List.length_append, List.length_cons, List.length_nil]; omega
  refine enter Tryd.func56 rfl Tryd.ntmps56 rfl ?_
  intro a henv hst
  replace hst := hst.argP pfPw hP
  refine wp_seq ?_
  refine region_seq ?_
  refine seq_step rfl (op_alloc (c := #[.int .i64 0, .int .i64 0, .int .i64 0, .int .i64 0, .int .i64 0]) henv hst rfl zero_anvil_api_Instr rfl ?_)
  clear henv hst a; intro a w52 g51 henv hst
  refine sv (v := .bool false) henv rfl (rn_assign henv rfl) ?_
  clear henv a; intro a henv
  refine wpList_nil ?_
  refine th_n ?_
  refine wp_seq ?_
  refine region_seq ?_
  refine sv (v := .string ⟨(jn (wNeg tr ra)).toArray⟩) henv rfl (rn_move henv rfl) ?_
  clear henv a; intro a henv
  refine seq_step rfl (op_call henv rfl Tryd.call66 rfl (h_split (ps := (wNeg tr ra)) (n := 3) rfl (by omega) hno hjb) ?_)
  rintro e w54 ⟨g53, rfl, hr, hb⟩
  refine ⟨_, rfl, ?_⟩
  clear henv a; intro a henv
  replace hst := hst.freshRd hb hr rfl (fun _ _ _ _ _ q => by obtain ⟨_, _, q⟩ := q; cases q)
  clear hr
  clear hb
  refine sv (v := .slice (some ⟨g53, 0, none⟩) 3 3) henv rfl (rn_assign henv rfl) ?_
  clear henv a; intro a henv
  refine wpList_nil ?_
  refine th_n ?_
  refine wp_seq ?_
  refine region_seq ?_
  refine seq_step rfl (op_alloc (c := #[.int .i64 0, .int .i64 0, .int .i64 0, .int .i64 0, .int .i64 0]) henv hst rfl zero_anvil_api_Instr rfl ?_)
  clear henv hst a; intro a w56 g55 henv hst
  refine wpList_nil ?_
  refine th_n ?_
  refine wp_seq ?_
  refine region_seq ?_
  revert a
  refine aA rfl rfl ?_
  refine aA rfl rfl ?_
  intro a henv
  refine wpList_nil ?_
  refine th_n ?_
  refine wp_seq ?_
  refine wp_seq ?_
  refine region_seq ?_
  revert a
  refine mA rfl rfl ?_
  refine sA (v := .pointer (some ⟨ab (some ⟨g53, 0, none⟩), ao (some ⟨g53, 0, none⟩) + 0 * 1, none⟩)) rfl (fun _ henv => rn_idxR (i := 0) henv Tryd.underlying97 (ty_string.size) rfl rfl (by omega) rfl (show (pfRow fS FTx 1 (some ⟨g53, 0, none⟩) 3 3 (wNeg tr ra)).P _ from (hst.pat (k := 0) rfl)).1) ?_
  refine sA (v := .string ⟨(pTreg tr).toArray⟩) rfl (fun _ henv => rn_loadE1 (i := 0) (j := 0) (e := pTreg tr) henv ty_string rfl rfl fS_len (by decide) (show (pfRow fS FTx 1 (some ⟨g53, 0, none⟩) 3 3 (wNeg tr ra)).P _ from (hst.pat (k := 0) rfl)).1 (by omega) rfl rfl) ?_
  intro a henv
  refine seq_step rfl (op_call henv rfl Tryd.call69 rfl (h_register (n := tr) (hst.pat (k := 1) rfl) (by omega) (by omega)) ?_)
  rintro e w57 ⟨rfl, hb⟩
  refine ⟨_, rfl, ?_⟩
  clear henv a; intro a henv
  replace hst := hst.call hb
  clear hb
  revert a
  refine mA rfl rfl ?_
  refine sA (v := .int .i64 tr) rfl (fun _ henv => rn_extract henv rfl rfl) ?_
  refine sA (v := .bool true) rfl (fun _ henv => rn_extract henv rfl rfl) ?_
  refine sA (v := .pointer (some ⟨g55, 1, none⟩)) rfl (fun _ henv => rn_fieldAddr henv fd_anvil_api_Instr_1 (ty_int.size) (by decide) rfl) ?_
  intro a henv
  refine seq_step rfl (op_store1 (k := 0) (c' := #[.int .i64 0, .int .i64 tr, .int .i64 0, .int .i64 0, .int .i64 0]) henv hst (ty_int.size) rfl rfl rfl (by simp) rfl rfl ?_)
  clear henv hst a; intro a w58 henv hst
  refine sv (v := .bool true) henv rfl (rn_assign henv rfl) ?_
  clear henv a; intro a henv
  refine wpList_nil ?_
  refine th_n ?_
  refine wp_seq ?_
  refine region_seq ?_
  revert a
  refine mA rfl rfl ?_
  refine sA (v := .bool false) rfl (fun _ henv => rn_un henv rfl rfl) ?_
  refine mA rfl rfl ?_
  refine gA (v := .slice (some ⟨g53, 0, none⟩) 3 3) rfl rfl rfl rfl (fun _ henv => rn_move henv rfl) ?_
  refine gA (v := .int .i64 3) rfl rfl rfl rfl (fun _ henv => rn_len henv Tryd.underlying97 rfl) ?_
  refine gA (v := .bool false) rfl rfl rfl rfl (fun _ henv => rn_bin henv rfl rfl rfl) ?_
  refine sA (v := .bool false) rfl (fun _ henv => rn_pick henv rfl rfl) ?_
  refine mA rfl rfl ?_
  refine gA (v := .slice (some ⟨g53, 0, none⟩) 3 3) rfl rfl rfl rfl (fun _ henv => rn_move henv rfl) ?_
  refine gA (v := .pointer (some ⟨ab (some ⟨g53, 0, none⟩), ao (some ⟨g53, 0, none⟩) + 1 * 1, none⟩)) rfl rfl rfl rfl (fun _ henv => rn_idxR (i := 1) henv Tryd.underlying97 (ty_string.size) rfl rfl (by omega) rfl (show (pfRow fS FTx 1 (some ⟨g53, 0, none⟩) 3 3 (wNeg tr ra)).P _ from (hst.pat (k := 0) rfl)).1) ?_
  refine gA (v := .string ⟨([61]).toArray⟩) rfl rfl rfl rfl (fun _ henv => rn_loadE1 (i := 1) (j := 0) (e := [61]) henv ty_string rfl rfl fS_len (by decide) (show (pfRow fS FTx 1 (some ⟨g53, 0, none⟩) 3 3 (wNeg tr ra)).P _ from (hst.pat (k := 0) rfl)).1 (by omega) rfl rfl) ?_
  refine gA (v := .bool false) rfl rfl rfl rfl (fun _ henv => rn_neqs (s := [61]) (t := [61]) henv rfl rfl) ?_
  refine sA (v := .bool false) rfl (fun _ henv => rn_pick henv rfl rfl) ?_
  intro a henv
  refine wpList_nil ?_
  refine th_n ?_
  refine if_f henv rfl (rfl) ?_
  refine wp_skip ?_
  refine th_n ?_
  refine wp_seq ?_
  refine wp_block ?_
  refine wp_seq ?_
  refine region_seq ?_
  revert a
  refine mA rfl rfl ?_
  refine sA (v := .int .i64 3) rfl (fun _ henv => rn_len henv Tryd.underlying97 rfl) ?_
  refine sA (v := .bool true) rfl (fun _ henv => rn_bin henv rfl rfl rfl) ?_
  refine mA rfl rfl ?_
  refine gA (v := .slice (some ⟨g53, 0, none⟩) 3 3) rfl rfl rfl rfl (fun _ henv => rn_move henv rfl) ?_
  refine gA (v := .pointer (some ⟨ab (some ⟨g53, 0, none⟩), ao (some ⟨g53, 0, none⟩) + 2 * 1, none⟩)) rfl rfl rfl rfl (fun _ henv => rn_idxR (i := 2) henv Tryd.underlying97 (ty_string.size) rfl rfl (by omega) rfl (show (pfRow fS FTx 1 (some ⟨g53, 0, none⟩) 3 3 (wNeg tr ra)).P _ from (hst.pat (k := 0) rfl)).1) ?_
  refine gA (v := .string ⟨(45 :: pTreg ra).toArray⟩) rfl rfl rfl rfl (fun _ henv => rn_loadE1 (i := 2) (j := 0) (e := 45 :: pTreg ra) henv ty_string rfl rfl fS_len (by decide) (show (pfRow fS FTx 1 (some ⟨g53, 0, none⟩) 3 3 (wNeg tr ra)).P _ from (hst.pat (k := 0) rfl)).1 (by omega) rfl rfl) ?_
  intro a henv
  refine seq_g rfl henv rfl rfl (op_call henv rfl Tryd.call54 rfl (h_hasp (s := (45 :: pTreg ra)) (p := [45]) (b := true) (by first | omega | (rw [List.length_cons]; omega)) (decide_eq_true rfl)) ?_)
  rintro e w59 ⟨rfl, hb⟩
  refine ⟨_, rfl, ?_⟩
  clear henv a; intro a henv
  replace hst := hst.call hb
  clear hb
  revert a
  refine sA (v := .bool true) rfl (fun _ henv => rn_pick henv rfl rfl) ?_
  refine aA rfl rfl ?_
  intro a henv
  refine wpList_nil ?_
  refine th_n ?_
  refine if_t henv rfl (rfl) ?_
  refine wp_seq ?_
  refine region_seq ?_
  refine sv (v := .pointer (some ⟨g55, 0, none⟩)) henv rfl (rn_fieldAddr henv fd_anvil_api_Instr_0 (ty_int.size) (by decide) rfl) ?_
  clear henv a; intro a henv
  refine seq_step rfl (op_store1 (k := 0) (c' := #[.int .i64 2, .int .i64 tr, .int .i64 0, .int .i64 0, .int .i64 0]) henv hst (ty_int.size) rfl rfl rfl (by simp) rfl rfl ?_)
  clear henv hst a; intro a w60 henv hst
  refine wpList_nil ?_
  refine th_n ?_
  refine wp_seq ?_
  refine region_seq ?_
  revert a
  refine mA rfl rfl ?_
  refine sA (v := .pointer (some ⟨ab (some ⟨g53, 0, none⟩), ao (some ⟨g53, 0, none⟩) + 2 * 1, none⟩)) rfl (fun _ henv => rn_idxR (i := 2) henv Tryd.underlying97 (ty_string.size) rfl rfl (by omega) rfl (show (pfRow fS FTx 1 (some ⟨g53, 0, none⟩) 3 3 (wNeg tr ra)).P _ from (hst.pat (k := 0) rfl)).1) ?_
  refine sA (v := .string ⟨(45 :: pTreg ra).toArray⟩) rfl (fun _ henv => rn_loadE1 (i := 2) (j := 0) (e := 45 :: pTreg ra) henv ty_string rfl rfl fS_len (by decide) (show (pfRow fS FTx 1 (some ⟨g53, 0, none⟩) 3 3 (wNeg tr ra)).P _ from (hst.pat (k := 0) rfl)).1 (by omega) rfl rfl) ?_
  refine sA (v := .string ⟨(pTreg ra).toArray⟩) rfl (fun _ henv => rn_dropS (s := (45 :: pTreg ra)) (n := 1) henv Tryd.underlying9 rfl rfl (by (try simp only [List.length_append, List.length_cons, List.length_nil]); omega)) ?_
  intro a henv
  refine seq_step rfl (op_call henv rfl Tryd.call69 rfl (h_register (n := ra) (hst.pat (k := 1) rfl) (by omega) (by omega)) ?_)
  rintro e w61 ⟨rfl, hb⟩
  refine ⟨_, rfl, ?_⟩
  clear henv a; intro a henv
  replace hst := hst.call hb
  clear hb
  revert a
  refine mA rfl rfl ?_
  refine sA (v := .int .i64 ra) rfl (fun _ henv => rn_extract henv rfl rfl) ?_
  refine sA (v := .bool true) rfl (fun _ henv => rn_extract henv rfl rfl) ?_
  refine sA (v := .pointer (some ⟨g55, 2, none⟩)) rfl (fun _ henv => rn_fieldAddr henv fd_anvil_api_Instr_2 (ty_int.size) (by decide) rfl) ?_
  intro a henv
  refine seq_step rfl (op_store1 (k := 0) (c' := #[.int .i64 2, .int .i64 tr, .int .i64 ra, .int .i64 0, .int .i64 0]) henv hst (ty_int.size) rfl rfl rfl (by simp) rfl rfl ?_)
  clear henv hst a; intro a w62 henv hst
  refine sv (v := .bool true) henv rfl (rn_assign henv rfl) ?_
  clear henv a; intro a henv
  refine wpList_nil ?_
  refine th_n ?_
  refine wp_seq ?_
  refine region_seq ?_
  revert a
  refine sA (v := .agg #[.int .i64 2, .int .i64 tr, .int .i64 ra, .int .i64 0, .int .i64 0]) rfl (fun _ henv => rn_load0 henv ty_anvil_api_Instr rfl (hst.oat (k := 0) rfl) rfl) ?_
  refine mA rfl rfl ?_
  intro a henv
  refine seq_step rfl (op_store (k := 1) (c' := #[.int .i64 2, .int .i64 tr, .int .i64 ra, .int .i64 0, .int .i64 0]) henv hst (ty_anvil_api_Instr.size) rfl rfl rfl rfl (by simp) rfl rfl ?_)
  clear henv hst a; intro a w63 henv hst
  refine sv (v := .bool true) henv rfl (rn_assign henv rfl) ?_
  clear henv a; intro a henv
  refine wpList_nil ?_
  refine th_n ?_
  refine wp_ret ?_
  refine bl_r (th_r ?_)
  refine leave henv (res2 Tryd.results56 (RV.cell henv ty_anvil_api_Instr rfl (hst.oat (k := 1) rfl) rfl) (RV.tmp henv rfl)) ?_
  exact ⟨rfl, hst.below⟩
set_option maxRecDepth 100000 in
set_option maxHeartbeats 4000000 in
theorem h_instr_t {o : Nat} {tr ra rb cn : Int} {w0 : World} (hP : Pw w0) (ho : o = 3 ∨ o = 4) (b1 : 0 ≤ tr) (b2 : tr ≤ 128) (b3 : 0 ≤ ra) (b4 : ra ≤ 128) (b5 : 0 ≤ rb) (b6 : rb ≤ 128) (b7 : -512 ≤ cn) (b8 : cn ≤ 512) :
    Calls Tryd.prog 56 #[.string ⟨(jn (wTwo ((o : Nat) : Int) tr ra rb)).toArray⟩] w0 fun e w' => e = .returned (.tuple #[.agg #[.int .i64 ((o : Nat) : Int), .int .i64 tr, .int .i64 ra, .int .i64 rb, .int .i64 0], .bool true]) ∧ Below w0.heap.size w0 w' := by
  have hl1 := preg_len (n := tr) (by omega) (by omega)
  have hl2 := preg_len (n := ra) (by omega) (by omega)
  have hl3 := preg_len (n := rb) (by omega) (by omega)
  have hl4 := tz_len (n := cn) (by omega) (by omega)
  have hl5 := psg_len ((o : Nat) : Int)
  have hno : ∀ p ∈ (wTwo ((o : Nat) : Int) tr ra rb), (32 : UInt8) ∉ p := fun p hp => (wd_two ((o : Nat) : Int) tr ra rb p hp).1
  have hjb : (jn (wTwo ((o : Nat) : Int) tr ra rb)).length ≤ 70000 := by simp only [jn, wMove, wNeg, wTwo, wCon, List.flatMap_cons, List.flatMap_nil, List.length_append, List.length_cons, List.length_nil]; omega
  refine enter Tryd.func56 rfl Tryd.ntmps56 rfl ?_
  intro a henv hst
  replace hst := hst.argP pfPw hP
  refine wp_seq ?_
  refine region_seq ?_
  refine seq_step rfl (op_alloc (c := #[.int .i64 0, .int .i64 0, .int .i64 0, .int .i64 0, .int .i64 0]) henv hst rfl zero_anvil_api_Instr rfl ?_)
  clear henv hst a; intro a w52 g51 henv hst
  refine sv (v := .bool false) henv rfl (rn_assign henv rfl) ?_
  clear henv a; intro a henv
  refine wpList_nil ?_
  refine th_n ?_
  refine wp_seq ?_
  refine region_seq ?_
  refine sv (v := .string ⟨(jn (wTwo ((o : Nat) : Int) tr ra rb)).toArray⟩) henv rfl (rn_move henv rfl) ?_
  clear henv a; intro a henv
  refine seq_step rfl (op_call henv rfl Tryd.call66 rfl (h_split (ps := (wTwo ((o : Nat) : Int) tr ra rb)) (n := 5) rfl (by omega) hno hjb) ?_)
  rintro e w54 ⟨g53, rfl, hr, hb⟩
  refine ⟨_, rfl, ?_⟩
  clear henv a; intro a henv
  replace hst := hst.freshRd hb hr rfl (fun _ _ _ _ _ q => by obtain ⟨_, _, q⟩ := q; cases q)
  clear hr
  clear hb
  refine sv (v := .slice (some ⟨g53, 0, none⟩) 5 5) henv rfl (rn_assign henv rfl) ?_
  clear henv a; intro a henv
  refine wpList_nil ?_
  refine th_n ?_
  refine wp_seq ?_
  refine region_seq ?_
  refine seq_step rfl (op_alloc (c := #[.int .i64 0, .int .i64 0, .int .i64 0, .int .i64 0, .int .i64 0]) henv hst rfl zero_anvil_api_Instr rfl ?_)
  clear henv hst a; intro a w56 g55 henv hst
  refine wpList_nil ?_
  refine th_n ?_
  refine wp_seq ?_
  refine region_seq ?_
  revert a
  refine aA rfl rfl ?_
  refine aA rfl rfl ?_
  intro a henv
  refine wpList_nil ?_
  refine th_n ?_
  refine wp_seq ?_
  refine wp_seq ?_
  refine region_seq ?_
  revert a
  refine mA rfl rfl ?_
  refine sA (v := .pointer (some ⟨ab (some ⟨g53, 0, none⟩), ao (some ⟨g53, 0, none⟩) + 0 * 1, none⟩)) rfl (fun _ henv => rn_idxR (i := 0) henv Tryd.underlying97 (ty_string.size) rfl rfl (by omega) rfl (show (pfRow fS FTx 1 (some ⟨g53, 0, none⟩) 5 5 (wTwo ((o : Nat) : Int) tr ra rb)).P _ from (hst.pat (k := 0) rfl)).1) ?_
  refine sA (v := .string ⟨(pTreg tr).toArray⟩) rfl (fun _ henv => rn_loadE1 (i := 0) (j := 0) (e := pTreg tr) henv ty_string rfl rfl fS_len (by decide) (show (pfRow fS FTx 1 (some ⟨g53, 0, none⟩) 5 5 (wTwo ((o : Nat) : Int) tr ra rb)).P _ from (hst.pat (k := 0) rfl)).1 (by omega) rfl rfl) ?_
  intro a henv
  refine seq_step rfl (op_call henv rfl Tryd.call69 rfl (h_register (n := tr) (hst.pat (k := 1) rfl) (by omega) (by omega)) ?_)
  rintro e w57 ⟨rfl, hb⟩
  refine ⟨_, rfl, ?_⟩
  clear henv a; intro a henv
  replace hst := hst.call hb
  clear hb
  revert a
  refine mA rfl rfl ?_
  refine sA (v := .int .i64 tr) rfl (fun _ henv => rn_extract henv rfl rfl) ?_
  refine sA (v := .bool true) rfl (fun _ henv => rn_extract henv rfl rfl) ?_
  refine sA (v := .pointer (some ⟨g55, 1, none⟩)) rfl (fun _ henv => rn_fieldAddr henv fd_anvil_api_Instr_1 (ty_int.size) (by decide) rfl) ?_
  intro a henv
  refine seq_step rfl (op_store1 (k := 0) (c' := #[.int .i64 0, .int .i64 tr, .int .i64 0, .int .i64 0, .int .i64 0]) henv hst (ty_int.size) rfl rfl rfl (by simp) rfl rfl ?_)
  clear henv hst a; intro a w58 henv hst
  refine sv (v := .bool true) henv rfl (rn_assign henv rfl) ?_
  clear henv a; intro a henv
  refine wpList_nil ?_
  refine th_n ?_
  refine wp_seq ?_
  refine region_seq ?_
  revert a
  refine mA rfl rfl ?_
  refine sA (v := .bool false) rfl (fun _ henv => rn_un henv rfl rfl) ?_
  refine mA rfl rfl ?_
  refine gA (v := .slice (some ⟨g53, 0, none⟩) 5 5) rfl rfl rfl rfl (fun _ henv => rn_move henv rfl) ?_
  refine gA (v := .int .i64 5) rfl rfl rfl rfl (fun _ henv => rn_len henv Tryd.underlying97 rfl) ?_
  refine gA (v := .bool false) rfl rfl rfl rfl (fun _ henv => rn_bin henv rfl rfl rfl) ?_
  refine sA (v := .bool false) rfl (fun _ henv => rn_pick henv rfl rfl) ?_
  refine mA rfl rfl ?_
  refine gA (v := .slice (some ⟨g53, 0, none⟩) 5 5) rfl rfl rfl rfl (fun _ henv => rn_move henv rfl) ?_
  refine gA (v := .pointer (some ⟨ab (some ⟨g53, 0, none⟩), ao (some ⟨g53, 0, none⟩) + 1 * 1, none⟩)) rfl rfl rfl rfl (fun _ henv => rn_idxR (i := 1) henv Tryd.underlying97 (ty_string.size) rfl rfl (by omega) rfl (show (pfRow fS FTx 1 (some ⟨g53, 0, none⟩) 5 5 (wTwo ((o : Nat) : Int) tr ra rb)).P _ from (hst.pat (k := 0) rfl)).1) ?_
  refine gA (v := .string ⟨([61]).toArray⟩) rfl rfl rfl rfl (fun _ henv => rn_loadE1 (i := 1) (j := 0) (e := [61]) henv ty_string rfl rfl fS_len (by decide) (show (pfRow fS FTx 1 (some ⟨g53, 0, none⟩) 5 5 (wTwo ((o : Nat) : Int) tr ra rb)).P _ from (hst.pat (k := 0) rfl)).1 (by omega) rfl rfl) ?_
  refine gA (v := .bool false) rfl rfl rfl rfl (fun _ henv => rn_neqs (s := [61]) (t := [61]) henv rfl rfl) ?_
  refine sA (v := .bool false) rfl (fun _ henv => rn_pick henv rfl rfl) ?_
  intro a henv
  refine wpList_nil ?_
  refine th_n ?_
  refine if_f henv rfl (rfl) ?_
  refine wp_skip ?_
  refine th_n ?_
  refine wp_seq ?_
  refine wp_block ?_
  refine wp_seq ?_
  refine region_seq ?_
  revert a
  refine mA rfl rfl ?_
  refine sA (v := .int .i64 5) rfl (fun _ henv => rn_len henv Tryd.underlying97 rfl) ?_
  refine sA (v := .bool false) rfl (fun _ henv => rn_bin henv rfl rfl rfl) ?_
  refine mA rfl rfl ?_
  refine kA rfl rfl rfl rfl rfl ?_
  refine kA rfl rfl rfl rfl rfl ?_
  refine kA rfl rfl rfl rfl rfl ?_
  refine kA rfl rfl rfl rfl rfl ?_
  refine sA (v := .bool false) rfl (fun _ henv => rn_pick henv rfl rfl) ?_
  refine aA rfl rfl ?_
  intro a henv
  refine wpList_nil ?_
  refine th_n ?_
  refine if_f henv rfl (rfl) ?_
  refine wp_seq ?_
  refine region_seq ?_
  revert a
  refine mA rfl rfl ?_
  refine sA (v := .int .i64 5) rfl (fun _ henv => rn_len henv Tryd.underlying97 rfl) ?_
  refine sA (v := .bool false) rfl (fun _ henv => rn_bin henv rfl rfl rfl) ?_
  refine aA rfl rfl ?_
  intro a henv
  refine wpList_nil ?_
  refine th_n ?_
  refine if_f henv rfl (rfl) ?_
  refine wp_seq ?_
  refine region_seq ?_
  revert a
  refine mA rfl rfl ?_
  refine sA (v := .int .i64 5) rfl (fun _ henv => rn_len henv Tryd.underlying97 rfl) ?_
  refine sA (v := .bool false) rfl (fun _ henv => rn_bin henv rfl rfl rfl) ?_
  refine aA rfl rfl ?_
  intro a henv
  refine wpList_nil ?_
  refine th_n ?_
  refine if_f henv rfl (rfl) ?_
  refine wp_skip ?_
  refine bl_n (th_n ?_)
  refine wp_seq ?_
  refine wp_seq ?_
  refine region_seq ?_
  refine sv (v := .int .i64 3) henv rfl (rn_assign henv rfl) ?_
  clear henv a; intro a henv
  refine wpList_nil ?_
  refine th_n ?_
  refine wp_block ?_
  refine wp_loop_ghost (fun mz a w => ∃ j : Nat, ∃ v : Int, 9 - j = mz ∧ Env 124 a [(2, .pointer (some ⟨g51, 0, none⟩)), (4, .slice (some ⟨g53, 0, none⟩) 5 5), (5, .pointer (some ⟨g55, 0, none⟩)), (6, .bool true), (7, .bool true), (8, .int .i64 (j : Nat))] ∧ St w0 w [bk g55 #[.int .i64 v, .int .i64 tr, .int .i64 0, .int .i64 0, .int .i64 0] 37, bk g51 #[.int .i64 0, .int .i64 0, .int .i64 0, .int .i64 0, .int .i64 0] 37] [pfRow fS FTx 1 (some ⟨g53, 0, none⟩) 5 5 (wTwo ((o : Nat) : Int) tr ra rb), pfPw] ∧ (3 ≤ j ∧ j ≤ 9) ∧ v = opat o j) _ ⟨3, 0, rfl, henv.sub ⟨rfl, rfl, rfl, rfl, rfl, rfl, trivial⟩, hst.pick [0, 1] [0, 1] (by decide), (by omega), (opat_0 (by omega)).symm⟩ ?_
  clear henv hst a
  rintro mz a w59 ⟨j, v, rfl, henv, hst, hj, hv⟩
  refine wp_seq ?_
  refine wp_seq ?_
  refine region_seq ?_
  revert a
  refine mA rfl rfl ?_
  refine sA (v := .bool (decide (((j : Nat) : Int) ≤ (8 : Int)))) rfl (fun _ henv => rn_bin henv rfl rfl rfl) ?_
  intro a henv
  refine wpList_nil ?_
  refine th_n ?_
  refine if_split henv rfl (fun hc60 => ?_) (fun hc60 => ?_)
  · have hlt : j ≤ 8 := by have := of_decide_eq_true hc60; omega
    refine wp_skip ?_
    refine th_n ?_
    refine wp_seq ?_
    refine wp_block ?_
    refine wp_seq ?_
    refine region_any (n := 6) (Sk [bk g55 #[.int .i64 v, .int .i64 tr, .int .i64 0, .int .i64 0, .int .i64 0] 37, bk g51 #[.int .i64 0, .int .i64 0, .int .i64 0, .int .i64 0, .int .i64 0] 37] [pfRow fS FTx 1 (some ⟨g53, 0, none⟩) 5 5 (wTwo ((o : Nat) : Int) tr ra rb), pfPw] [] []) mixed rfl henv hst ?_
    clear henv hst; intro w61 henv hst
    refine tM (i := 0) [1, 5] rfl (by kernel_rfl) (fun _ _ _ h => h) henv rfl rfl ?_
    clear henv a; intro a henv
    refine tM (i := 2) [3, 4, 5] rfl (by kernel_rfl) (fun _ _ _ h => h) henv rfl rfl ?_
    clear henv a; intro a henv
    refine sAny_take (i := 3) [4, 5] (fun w' => (pfRow fS FTx 1 (some ⟨g53, 0, none⟩) 5 5 (wTwo ((o : Nat) : Int) tr ra rb)).P w') (v := .pointer (some ⟨ab (some ⟨g53, 0, none⟩), ao (some ⟨g53, 0, none⟩) + 3 * 1, none⟩)) rfl (by kernel_rfl) (fun _ _ _ h => h) (fun _ _ _ hS => hS.1.pat (k := 0) rfl) henv rfl (hst.pat (k := 0) rfl) (fun w' hg => rn_idxR (i := 3) henv Tryd.underlying97 (ty_string.size) rfl rfl (by omega) rfl (show (pfRow fS FTx 1 (some ⟨g53, 0, none⟩) 5 5 (wTwo ((o : Nat) : Int) tr ra rb)).P _ from hg).1) ?_
    clear henv a; intro a henv
    refine sAny_take (i := 4) [5] (fun w' => (pfRow fS FTx 1 (some ⟨g53, 0, none⟩) 5 5 (wTwo ((o : Nat) : Int) tr ra rb)).P w') (v := .string ⟨(pTsg ((o : Nat) : Int)).toArray⟩) rfl (by kernel_rfl) (fun _ _ _ h => h) (fun _ _ _ hS => hS.1.pat (k := 0) rfl) henv rfl (hst.pat (k := 0) rfl) (fun w' hg => rn_loadE1 (i := 3) (j := 0) (e := pTsg ((o : Nat) : Int)) henv ty_string rfl rfl fS_len (by decide) (show (pfRow fS FTx 1 (some ⟨g53, 0, none⟩) 5 5 (wTwo ((o : Nat) : Int) tr ra rb)).P _ from hg).1 (by omega) rfl rfl) ?_
    clear henv a; intro a henv
    refine sAny_one (i := 1) (by kernel_rfl) rfl rfl (op_call henv rfl Tryd.call62 rfl (h_sign (op := (j : Nat))) ?_)
    rintro e w63 ⟨rfl, hb⟩
    refine ⟨_, rfl, ?_⟩
    clear henv a; intro a henv
    replace hst := hst.call hb
    have hl62 := psg_len (j : Nat)
    clear hb
    refine ⟨.inr ⟨hst.kn.pick [0, 1] [0, 1], .inr (hst.kn.pick [] [])⟩, ?_⟩
    refine tA (i := 5) [] (v := .bool (decide ((pTsg (j : Nat)) = (pTsg ((o : Nat) : Int))))) rfl (by kernel_rfl) (fun _ _ _ h => h) henv rfl (fun _ => rn_eqls (s := (pTsg (j : Nat))) (t := (pTsg ((o : Nat) : Int))) henv rfl rfl) ?_
    clear henv a; intro a henv
    refine sAny_done (by kernel_rfl) ?_ _
    refine th_n ?_
    refine if_split henv rfl (fun hc64 => ?_) (fun hc64 => ?_)
    · have hjo : j = o := psg_inj hj.1 (by omega) (by omega) (by omega) (of_decide_eq_true hc64)
      refine region_seq ?_
      revert a
      refine mA rfl rfl ?_
      refine sA (v := .pointer (some ⟨g55, 0, none⟩)) rfl (fun _ henv => rn_fieldAddr henv fd_anvil_api_Instr_0 (ty_int.size) (by decide) rfl) ?_
      intro a henv
      refine seq_step rfl (op_store1 (k := 0) (c' := #[.int .i64 (j : Nat), .int .i64 tr, .int .i64 0, .int .i64 0, .int .i64 0]) henv hst (ty_int.size) rfl rfl rfl (by simp) rfl rfl ?_)
      clear henv hst a; intro a w65 henv hst
      refine wpList_nil ?_
      refine bl_n (th_n ?_)
      refine region_seq ?_
      revert a
      refine mA rfl rfl ?_
      refine sA (v := .int .i64 (j + 1 : Nat)) rfl (fun _ henv => rn_add henv rfl rfl (by rw [IntWalk.i64_in _ (by omega)]; omega)) ?_
      refine aA rfl rfl ?_
      intro a henv
      refine wpList_nil ?_
      exact th_n ⟨_, (by omega), ⟨j + 1, (j : Nat), rfl, henv.sub ⟨rfl, rfl, rfl, rfl, rfl, rfl, trivial⟩, hst.pick [0, 1] [0, 1] (by decide), (by omega), (opat_hit hjo)⟩⟩
    · have hjo : j ≠ o := fun q => of_decide_eq_false hc64 (by rw [q])
      refine wp_skip ?_
      refine bl_n (th_n ?_)
      refine region_seq ?_
      revert a
      refine mA rfl rfl ?_
      refine sA (v := .int .i64 (j + 1 : Nat)) rfl (fun _ henv => rn_add henv rfl rfl (by rw [IntWalk.i64_in _ (by omega)]; omega)) ?_
      refine aA rfl rfl ?_
      intro a henv
      refine wpList_nil ?_
      exact th_n ⟨_, (by omega), ⟨j + 1, v, rfl, henv.sub ⟨rfl, rfl, rfl, rfl, rfl, rfl, trivial⟩, hst.pick [0, 1] [0, 1] (by decide), (by omega), (hv.trans (opat_miss hjo))⟩⟩
  · have hvf : v = ((o : Nat) : Int) := by rw [hv, opat_end (by have := of_decide_eq_false hc60; omega) (by omega)]
    subst hvf
    refine wp_exit ?_
    refine th_x (th_x (bl_x (th_n ?_)))
    refine wp_seq ?_
    refine region_seq ?_
    revert a
    refine mA rfl rfl ?_
    refine sA (v := .pointer (some ⟨ab (some ⟨g53, 0, none⟩), ao (some ⟨g53, 0, none⟩) + 2 * 1, none⟩)) rfl (fun _ henv => rn_idxR (i := 2) henv Tryd.underlying97 (ty_string.size) rfl rfl (by omega) rfl (show (pfRow fS FTx 1 (some ⟨g53, 0, none⟩) 5 5 (wTwo ((o : Nat) : Int) tr ra rb)).P _ from (hst.pat (k := 0) rfl)).1) ?_
    refine sA (v := .string ⟨(pTreg ra).toArray⟩) rfl (fun _ henv => rn_loadE1 (i := 2) (j := 0) (e := pTreg ra) henv ty_string rfl rfl fS_len (by decide) (show (pfRow fS FTx 1 (some ⟨g53, 0, none⟩) 5 5 (wTwo ((o : Nat) : Int) tr ra rb)).P _ from (hst.pat (k := 0) rfl)).1 (by omega) rfl rfl) ?_
    intro a henv
    refine seq_step rfl (op_call henv rfl Tryd.call69 rfl (h_register (n := ra) (hst.pat (k := 1) rfl) (by omega) (by omega)) ?_)
    rintro e w66 ⟨rfl, hb⟩
    refine ⟨_, rfl, ?_⟩
    clear henv a; intro a henv
    replace hst := hst.call hb
    clear hb
    revert a
    refine mA rfl rfl ?_
    refine sA (v := .int .i64 ra) rfl (fun _ henv => rn_extract henv rfl rfl) ?_
    refine sA (v := .bool true) rfl (fun _ henv => rn_extract henv rfl rfl) ?_
    refine sA (v := .pointer (some ⟨g55, 2, none⟩)) rfl (fun _ henv => rn_fieldAddr henv fd_anvil_api_Instr_2 (ty_int.size) (by decide) rfl) ?_
    intro a henv
    refine seq_step rfl (op_store1 (k := 0) (c' := #[.int .i64 ((o : Nat) : Int), .int .i64 tr, .int .i64 ra, .int .i64 0, .int .i64 0]) henv hst (ty_int.size) rfl rfl rfl (by simp) rfl rfl ?_)
    clear henv hst a; intro a w67 henv hst
    refine sv (v := .bool true) henv rfl (rn_assign henv rfl) ?_
    clear henv a; intro a henv
    refine wpList_nil ?_
    refine th_n ?_
    refine wp_seq ?_
    refine wp_seq ?_
    refine region_seq ?_
    revert a
    refine sA (v := .pointer (some ⟨g55, 0, none⟩)) rfl (fun _ henv => rn_fieldAddr henv fd_anvil_api_Instr_0 (ty_int.size) (by decide) rfl) ?_
    refine sA (v := .int .i64 ((o : Nat) : Int)) rfl (fun _ henv => rn_load1 henv ty_int rfl (hst.oat (k := 0) rfl) rfl) ?_
    intro a henv
    refine seq_step rfl (op_call henv rfl Tryd.call57 rfl (g_two (op := ((o : Nat) : Int))) ?_)
    rintro e w68 ⟨rfl, hb⟩
    refine ⟨_, rfl, ?_⟩
    clear henv a; intro a henv
    replace hst := hst.call hb
    clear hb
    refine wpList_nil ?_
    refine th_n ?_
    refine if_split henv rfl (fun hc69 => ?_) (fun hc69 => ?_)
    · refine region_seq ?_
      revert a
      refine mA rfl rfl ?_
      refine sA (v := .pointer (some ⟨ab (some ⟨g53, 0, none⟩), ao (some ⟨g53, 0, none⟩) + 4 * 1, none⟩)) rfl (fun _ henv => rn_idxR (i := 4) henv Tryd.underlying97 (ty_string.size) rfl rfl (by omega) rfl (show (pfRow fS FTx 1 (some ⟨g53, 0, none⟩) 5 5 (wTwo ((o : Nat) : Int) tr ra rb)).P _ from (hst.pat (k := 0) rfl)).1) ?_
      refine sA (v := .string ⟨(pTreg rb).toArray⟩) rfl (fun _ henv => rn_loadE1 (i := 4) (j := 0) (e := pTreg rb) henv ty_string rfl rfl fS_len (by decide) (show (pfRow fS FTx 1 (some ⟨g53, 0, none⟩) 5 5 (wTwo ((o : Nat) : Int) tr ra rb)).P _ from (hst.pat (k := 0) rfl)).1 (by omega) rfl rfl) ?_
      intro a henv
      refine seq_step rfl (op_call henv rfl Tryd.call69 rfl (h_register (n := rb) (hst.pat (k := 1) rfl) (by omega) (by omega)) ?_)
      rintro e w70 ⟨rfl, hb⟩
      refine ⟨_, rfl, ?_⟩
      clear henv a; intro a henv
      replace hst := hst.call hb
      clear hb
      revert a
      refine mA rfl rfl ?_
      refine sA (v := .int .i64 rb) rfl (fun _ henv => rn_extract henv rfl rfl) ?_
      refine sA (v := .bool true) rfl (fun _ henv => rn_extract henv rfl rfl) ?_
      refine sA (v := .pointer (some ⟨g55, 3, none⟩)) rfl (fun _ henv => rn_fieldAddr henv fd_anvil_api_Instr_3 (ty_int.size) (by decide) rfl) ?_
      intro a henv
      refine seq_step rfl (op_store1 (k := 0) (c' := #[.int .i64 ((o : Nat) : Int), .int .i64 tr, .int .i64 ra, .int .i64 rb, .int .i64 0]) henv hst (ty_int.size) rfl rfl rfl (by simp) rfl rfl ?_)
      clear henv hst a; intro a w71 henv hst
      refine sv (v := .bool true) henv rfl (rn_assign henv rfl) ?_
      clear henv a; intro a henv
      refine wpList_nil ?_
      refine th_n ?_
      refine wp_seq ?_
      refine region_any (n := 12) (Sk [bk g55 #[.int .i64 ((o : Nat) : Int), .int .i64 tr, .int .i64 ra, .int .i64 rb, .int .i64 0] 37] [pfRow fS FTx 1 (some ⟨g53, 0, none⟩) 5 5 (wTwo ((o : Nat) : Int) tr ra rb), pfPw] [10] []) mixed rfl henv hst ?_
      clear henv hst; intro w72 henv hst
      refine tL (i := 0) 0 0 [10, 11] rfl (by kernel_rfl) (fun _ _ _ h => h) henv rfl ty_anvil_api_Instr rfl hst rfl rfl rfl ?_
      clear henv a; intro a henv
      refine tM (i := 1) (rg 2 10) rfl (by kernel_rfl) (fun _ _ _ h => h) henv rfl rfl ?_
      clear henv a; intro a henv
      refine tM (i := 2) (rg 3 9) rfl (by kernel_rfl) (fun _ _ _ h => h) henv rfl rfl ?_
      clear henv a; intro a henv
      refine tAg (i := 3) (rg 4 8) (v := .bool true) rfl (by kernel_rfl) (fun _ _ _ h => h) henv rfl rfl rfl rfl (fun _ => rn_move henv rfl) ?_
      clear henv a; intro a henv
      refine tA (i := 4) (rg 5 7) (v := .bool true) rfl (by kernel_rfl) (fun _ _ _ h => h) henv rfl (fun _ => rn_pick henv rfl rfl) ?_
      clear henv a; intro a henv
      refine tM (i := 5) (rg 6 6) rfl (by kernel_rfl) (fun _ _ _ h => h) henv rfl rfl ?_
      clear henv a; intro a henv
      refine tAg (i := 6) [7, 8, 9, 11] (v := .pointer (some ⟨g55, 0, none⟩)) rfl (by kernel_rfl) (fun _ _ _ h => h) henv rfl rfl rfl rfl (fun _ => rn_fieldAddr henv fd_anvil_api_Instr_0 (ty_int.size) (by decide) rfl) ?_
      clear henv a; intro a henv
      refine sAny_takeg (i := 7) [8, 9, 11] (fun w' => w'.heap[g55]? = some (.cells #[.int .i64 ((o : Nat) : Int), .int .i64 tr, .int .i64 ra, .int .i64 rb, .int .i64 0] 37 (0, 0))) (v := .int .i64 ((o : Nat) : Int)) rfl (by kernel_rfl) (fun _ _ _ h => h) (fun _ _ _ hS => hS.1.oat (k := 0) rfl) henv rfl rfl rfl rfl (hst.oat (k := 0) rfl) (fun w' hg => rn_load1 henv ty_int rfl hg rfl) ?_
      clear henv a; intro a henv
      refine tAg (i := 8) [9, 11] (v := .bool (decide (((o : Nat) : Int) > (0 : Int)))) rfl (by kernel_rfl) (fun _ _ _ h => h) henv rfl rfl rfl rfl (fun _ => rn_bin henv rfl rfl rfl) ?_
      clear henv a; intro a henv
      refine tA (i := 9) [11] (v := .bool (decide (((o : Nat) : Int) > (0 : Int)))) rfl (by kernel_rfl) (fun _ _ _ h => h) henv rfl (fun _ => rn_pick henv rfl rfl) ?_
      clear henv a; intro a henv
      refine sAny_one (i := 10) (by kernel_rfl) rfl rfl (op_store (k := 1) (c' := #[.int .i64 ((o : Nat) : Int), .int .i64 tr, .int .i64 ra, .int .i64 rb, .int .i64 0]) henv hst (ty_anvil_api_Instr.size) rfl rfl rfl rfl (by simp) rfl rfl ?_)
      clear henv hst a; intro a w73 henv hst
      refine ⟨.inr ⟨hst.kn.pick [0] [0, 1], .inl rfl⟩, ?_⟩
      refine tA (i := 11) [] (v := .bool (decide (((o : Nat) : Int) > (0 : Int)))) rfl (by kernel_rfl) (fun _ _ _ h => h) henv rfl (fun _ => rn_assign henv rfl) ?_
      clear henv a; intro a henv
      refine sAny_done (by kernel_rfl) ?_ _
      refine th_n ?_
      refine wp_ret ?_
      refine leave henv (res2 Tryd.results56 (RV.cell henv ty_anvil_api_Instr rfl (hst.oat (k := 1) rfl) rfl) (RV.tmp henv rfl)) ?_
      exact ⟨by rw [decide_eq_true (show ((o : Nat) : Int) > 0 by omega)], hst.below⟩
    · have hq := of_decide_eq_false hc69
      omega
set_option maxRecDepth 100000 in
set_option maxHeartbeats 4000000 in
theorem h_instr_c {o : Nat} {tr ra rb cn : Int} {w0 : World} (hP : Pw w0) (ho : 5 ≤ o ∧ o ≤ 8) (b1 : 0 ≤ tr) (b2 : tr ≤ 128) (b3 : 0 ≤ ra) (b4 : ra ≤ 128) (b5 : 0 ≤ rb) (b6 : rb ≤ 128) (b7 : -512 ≤ cn) (b8 : cn ≤ 512) :
    Calls Tryd.prog 56 #[.string ⟨(jn (wCon ((o : Nat) : Int) tr ra cn)).toArray⟩] w0 fun e w' => e = .returned (.tuple #[.agg #[.int .i64 ((o : Nat) : Int), .int .i64 tr, .int .i64 ra, .int .i64 0, .int .i64 cn], .bool true]) ∧ Below w0.heap.size w0 w' := by
  have hl1 := preg_len (n := tr) (by omega) (by omega)
  have hl2 := preg_len (n := ra) (by omega) (by omega)
  have hl3 := preg_len (n := rb) (by omega) (by omega)
  have hl4 := tz_len (n := cn) (by omega) (by omega)
  have hl5 := psg_len ((o : Nat) : Int)
  have hno : ∀ p ∈ (wCon ((o : Nat) : Int) tr ra cn), (32 : UInt8) ∉ p := fun p hp => (wd_con ((o : Nat) : Int) tr ra cn p hp).1
  have hjb : (jn (wCon ((o : Nat) : Int) tr ra cn)).length ≤ 70000 := by simp only [jn, wMove, wNeg, wTwo, wCon, List.flatMap_cons, List.flatMap_nil, List.length_append, List.length_cons, List.length_nil]; omega
  refine enter Tryd.func56 rfl Tryd.ntmps56 rfl ?_
  intro a henv hst
  replace hst := hst.argP pfPw hP
  refine wp_seq ?_
  refine region_seq ?_
  refine seq_step rfl (op_alloc (c := #[.int .i64 0, .int .i64 0, .int .i64 0, .int .i64 0, .int .i64 0]) henv hst rfl zero_anvil_api_Instr rfl ?_)
  clear henv hst a; intro a w52 g51 henv hst
  refine sv (v := .bool false) henv rfl (rn_assign henv rfl) ?_
  clear henv a; intro a henv
  refine wpList_nil ?_
  refine th_n ?_
  refine wp_seq ?_
  refine region_seq ?_
  refine sv (v := .string ⟨(jn (wCon ((o : Nat) : Int) tr ra cn)).toArray⟩) henv rfl (rn_move henv rfl) ?_
  clear henv a; intro a henv
  refine seq_step rfl (op_call henv rfl Tryd.call66 rfl (h_split (ps := (wCon ((o : Nat) : Int) tr ra cn)) (n := 5) rfl (by omega) hno hjb) ?_)
  rintro e w54 ⟨g53, rfl, hr, hb⟩
  refine ⟨_, rfl, ?_⟩
  clear henv a; intro a henv
  replace hst := hst.freshRd hb hr rfl (fun _ _ _ _ _ q => by obtain ⟨_, _, q⟩ := q; cases q)
  clear hr
  clear hb
  refine sv (v := .slice (some ⟨g53, 0, none⟩) 5 5) henv rfl (rn_assign henv rfl) ?_
  clear henv a; intro a henv
  refine wpList_nil ?_
  refine th_n ?_
  refine wp_seq ?_
  refine region_seq ?_
  refine seq_step rfl (op_alloc (c := #[.int .i64 0, .int .i64 0, .int .i64 0, .int .i64 0, .int .i64 0]) henv hst rfl zero_anvil_api_Instr rfl ?_)
  clear henv hst a; intro a w56 g55 henv hst
  refine wpList_nil ?_
  refine th_n ?_
  refine wp_seq ?_
  refine region_seq ?_
  revert a
  refine aA rfl rfl ?_
  refine aA rfl rfl ?_
  intro a henv
  refine wpList_nil ?_
  refine th_n ?_
  refine wp_seq ?_
  refine wp_seq ?_
  refine region_seq ?_
  revert a
  refine mA rfl rfl ?_
  refine sA (v := .pointer (some ⟨ab (some ⟨g53, 0, none⟩), ao (some ⟨g53, 0, none⟩) + 0 * 1, none⟩)) rfl (fun _ henv => rn_idxR (i := 0) henv Tryd.underlying97 (ty_string.size) rfl rfl (by omega) rfl (show (pfRow fS FTx 1 (some ⟨g53, 0, none⟩) 5 5 (wCon ((o : Nat) : Int) tr ra cn)).P _ from (hst.pat (k := 0) rfl)).1) ?_
  refine sA (v := .string ⟨(pTreg tr).toArray⟩) rfl (fun _ henv => rn_loadE1 (i := 0) (j := 0) (e := pTreg tr) henv ty_string rfl rfl fS_len (by decide) (show (pfRow fS FTx 1 (some ⟨g53, 0, none⟩) 5 5 (wCon ((o : Nat) : Int) tr ra cn)).P _ from (hst.pat (k := 0) rfl)).1 (by omega) rfl rfl) ?_
  intro a henv
  refine seq_step rfl (op_call henv rfl Tryd.call69 rfl (h_register (n := tr) (hst.pat (k := 1) rfl) (by omega) (by omega)) ?_)
  rintro e w57 ⟨rfl, hb⟩
  refine ⟨_, rfl, ?_⟩
  clear henv a; intro a henv
  replace hst := hst.call hb
  clear hb
  revert a
  refine mA rfl rfl ?_
  refine sA (v := .int .i64 tr) rfl (fun _ henv => rn_extract henv rfl rfl) ?_
  refine sA (v := .bool true) rfl (fun _ henv => rn_extract henv rfl rfl) ?_
  refine sA (v := .pointer (some ⟨g55, 1, none⟩)) rfl (fun _ henv => rn_fieldAddr henv fd_anvil_api_Instr_1 (ty_int.size) (by decide) rfl) ?_
  intro a henv
  refine seq_step rfl (op_store1 (k := 0) (c' := #[.int .i64 0, .int .i64 tr, .int .i64 0, .int .i64 0, .int .i64 0]) henv hst (ty_int.size) rfl rfl rfl (by simp) rfl rfl ?_)
  clear henv hst a; intro a w58 henv hst
  refine sv (v := .bool true) henv rfl (rn_assign henv rfl) ?_
  clear henv a; intro a henv
  refine wpList_nil ?_
  refine th_n ?_
  refine wp_seq ?_
  refine region_seq ?_
  revert a
  refine mA rfl rfl ?_
  refine sA (v := .bool false) rfl (fun _ henv => rn_un henv rfl rfl) ?_
  refine mA rfl rfl ?_
  refine gA (v := .slice (some ⟨g53, 0, none⟩) 5 5) rfl rfl rfl rfl (fun _ henv => rn_move henv rfl) ?_
  refine gA (v := .int .i64 5) rfl rfl rfl rfl (fun _ henv => rn_len henv Tryd.underlying97 rfl) ?_
  refine gA (v := .bool false) rfl rfl rfl rfl (fun _ henv => rn_bin henv rfl rfl rfl) ?_
  refine sA (v := .bool false) rfl (fun _ henv => rn_pick henv rfl rfl) ?_
  refine mA rfl rfl ?_
  refine gA (v := .slice (some ⟨g53, 0, none⟩) 5 5) rfl rfl rfl rfl (fun _ henv => rn_move henv rfl) ?_
  refine gA (v := .pointer (some ⟨ab (some ⟨g53, 0, none⟩), ao (some ⟨g53, 0, none⟩) + 1 * 1, none⟩)) rfl rfl rfl rfl (fun _ henv => rn_idxR (i := 1) henv Tryd.underlying97 (ty_string.size) rfl rfl (by omega) rfl (show (pfRow fS FTx 1 (some ⟨g53, 0, none⟩) 5 5 (wCon ((o : Nat) : Int) tr ra cn)).P _ from (hst.pat (k := 0) rfl)).1) ?_
  refine gA (v := .string ⟨([61]).toArray⟩) rfl rfl rfl rfl (fun _ henv => rn_loadE1 (i := 1) (j := 0) (e := [61]) henv ty_string rfl rfl fS_len (by decide) (show (pfRow fS FTx 1 (some ⟨g53, 0, none⟩) 5 5 (wCon ((o : Nat) : Int) tr ra cn)).P _ from (hst.pat (k := 0) rfl)).1 (by omega) rfl rfl) ?_
  refine gA (v := .bool false) rfl rfl rfl rfl (fun _ henv => rn_neqs (s := [61]) (t := [61]) henv rfl rfl) ?_
  refine sA (v := .bool false) rfl (fun _ henv => rn_pick henv rfl rfl) ?_
  intro a henv
  refine wpList_nil ?_
  refine th_n ?_
  refine if_f henv rfl (rfl) ?_
  refine wp_skip ?_
  refine th_n ?_
  refine wp_seq ?_
  refine wp_block ?_
  refine wp_seq ?_
  refine region_seq ?_
  revert a
  refine mA rfl rfl ?_
  refine sA (v := .int .i64 5) rfl (fun _ henv => rn_len henv Tryd.underlying97 rfl) ?_
  refine sA (v := .bool false) rfl (fun _ henv => rn_bin henv rfl rfl rfl) ?_
  refine mA rfl rfl ?_
  refine kA rfl rfl rfl rfl rfl ?_
  refine kA rfl rfl rfl rfl rfl ?_
  refine kA rfl rfl rfl rfl rfl ?_
  refine kA rfl rfl rfl rfl rfl ?_
  refine sA (v := .bool false) rfl (fun _ henv => rn_pick henv rfl rfl) ?_
  refine aA rfl rfl ?_
  intro a henv
  refine wpList_nil ?_
  refine th_n ?_
  refine if_f henv rfl (rfl) ?_
  refine wp_seq ?_
  refine region_seq ?_
  revert a
  refine mA rfl rfl ?_
  refine sA (v := .int .i64 5) rfl (fun _ henv => rn_len henv Tryd.underlying97 rfl) ?_
  refine sA (v := .bool false) rfl (fun _ henv => rn_bin henv rfl rfl rfl) ?_
  refine aA rfl rfl ?_
  intro a henv
  refine wpList_nil ?_
  refine th_n ?_
  refine if_f henv rfl (rfl) ?_
  refine wp_seq ?_
  refine region_seq ?_
  revert a
  refine mA rfl rfl ?_
  refine sA (v := .int .i64 5) rfl (fun _ henv => rn_len henv Tryd.underlying97 rfl) ?_
  refine sA (v := .bool false) rfl (fun _ henv => rn_bin henv rfl rfl rfl) ?_
  refine aA rfl rfl ?_
  intro a henv
  refine wpList_nil ?_
  refine th_n ?_
  refine if_f henv rfl (rfl) ?_
  refine wp_skip ?_
  refine bl_n (th_n ?_)
  refine wp_seq ?_
  refine wp_seq ?_
  refine region_seq ?_
  refine sv (v := .int .i64 3) henv rfl (rn_assign henv rfl) ?_
  clear henv a; intro a henv
  refine wpList_nil ?_
  refine th_n ?_
  refine wp_block ?_
  refine wp_loop_ghost (fun mz a w => ∃ j : Nat, ∃ v : Int, 9 - j = mz ∧ Env 124 a [(2, .pointer (some ⟨g51, 0, none⟩)), (4, .slice (some ⟨g53, 0, none⟩) 5 5), (5, .pointer (some ⟨g55, 0, none⟩)), (6, .bool true), (7, .bool true), (8, .int .i64 (j : Nat))] ∧ St w0 w [bk g55 #[.int .i64 v, .int .i64 tr, .int .i64 0, .int .i64 0, .int .i64 0] 37, bk g51 #[.int .i64 0, .int .i64 0, .int .i64 0, .int .i64 0, .int .i64 0] 37] [pfRow fS FTx 1 (some ⟨g53, 0, none⟩) 5 5 (wCon ((o : Nat) : Int) tr ra cn), pfPw] ∧ (3 ≤ j ∧ j ≤ 9) ∧ v = opat o j) _ ⟨3, 0, rfl, henv.sub ⟨rfl, rfl, rfl, rfl, rfl, rfl, trivial⟩, hst.pick [0, 1] [0, 1] (by decide), (by omega), (opat_0 (by omega)).symm⟩ ?_
  clear henv hst a
  rintro mz a w59 ⟨j, v, rfl, henv, hst, hj, hv⟩
  refine wp_seq ?_
  refine wp_seq ?_
  refine region_seq ?_
  revert a
  refine mA rfl rfl ?_
  refine sA (v := .bool (decide (((j : Nat) : Int) ≤ (8 : Int)))) rfl (fun _ henv => rn_bin henv rfl rfl rfl) ?_
  intro a henv
  refine wpList_nil ?_
  refine th_n ?_
  refine if_split henv rfl (fun hc60 => ?_) (fun hc60 => ?_)
  · have hlt : j ≤ 8 := by have := of_decide_eq_true hc60; omega
    refine wp_skip ?_
    refine th_n ?_
    refine wp_seq ?_
    refine wp_block ?_
    refine wp_seq ?_
    refine region_any (n := 6) (Sk [bk g55 #[.int .i64 v, .int .i64 tr, .int .i64 0, .int .i64 0, .int .i64 0] 37, bk g51 #[.int .i64 0, .int .i64 0, .int .i64 0, .int .i64 0, .int .i64 0] 37] [pfRow fS FTx 1 (some ⟨g53, 0, none⟩) 5 5 (wCon ((o : Nat) : Int) tr ra cn), pfPw] [] []) mixed rfl henv hst ?_
    clear henv hst; intro w61 henv hst
    refine tM (i := 0) [1, 5] rfl (by kernel_rfl) (fun _ _ _ h => h) henv rfl rfl ?_
    clear henv a; intro a henv
    refine tM (i := 2) [3, 4, 5] rfl (by kernel_rfl) (fun _ _ _ h => h) henv rfl rfl ?_
    clear henv a; intro a henv
    refine sAny_take (i := 3) [4, 5] (fun w' => (pfRow fS FTx 1 (some ⟨g53, 0, none⟩) 5 5 (wCon ((o : Nat) : Int) tr ra cn)).P w') (v := .pointer (some ⟨ab (some ⟨g53, 0, none⟩), ao (some ⟨g53, 0, none⟩) + 3 * 1, none⟩)) rfl (by kernel_rfl) (fun _ _ _ h => h) (fun _ _ _ hS => hS.1.pat (k := 0) rfl) henv rfl (hst.pat (k := 0) rfl) (fun w' hg => rn_idxR (i := 3) henv Tryd.underlying97 (ty_string.size) rfl rfl (by omega) rfl (show (pfRow fS FTx 1 (some ⟨g53, 0, none⟩) 5 5 (wCon ((o : Nat) : Int) tr ra cn)).P _ from hg).1) ?_
    clear henv a; intro a henv
    refine sAny_take (i := 4) [5] (fun w' => (pfRow fS FTx 1 (some ⟨g53, 0, none⟩) 5 5 (wCon ((o : Nat) : Int) tr ra cn)).P w') (v := .string ⟨(pTsg ((o : Nat) : Int)).toArray⟩) rfl (by kernel_rfl) (fun _ _ _ h => h) (fun _ _ _ hS => hS.1.pat (k := 0) rfl) henv rfl (hst.pat (k := 0) rfl) (fun w' hg => rn_loadE1 (i := 3) (j := 0) (e := pTsg ((o : Nat) : Int)) henv ty_string rfl rfl fS_len (by decide) (show (pfRow fS FTx 1 (some ⟨g53, 0, none⟩) 5 5 (wCon ((o : Nat) : Int) tr ra cn)).P _ from hg).1 (by omega) rfl rfl) ?_
    clear henv a; intro a henv
    refine sAny_one (i := 1) (by kernel_rfl) rfl rfl (op_call henv rfl Tryd.call62 rfl (h_sign (op := (j : Nat))) ?_)
    rintro e w63 ⟨rfl, hb⟩
    refine ⟨_, rfl, ?_⟩
    clear henv a; intro a henv
    replace hst := hst.call hb
    have hl62 := psg_len (j : Nat)
    clear hb
    refine ⟨.inr ⟨hst.kn.pick [0, 1] [0, 1], .inr (hst.kn.pick [] [])⟩, ?_⟩
    refine tA (i := 5) [] (v := .bool (decide ((pTsg (j : Nat)) = (pTsg ((o : Nat) : Int))))) rfl (by kernel_rfl) (fun _ _ _ h => h) henv rfl (fun _ => rn_eqls (s := (pTsg (j : Nat))) (t := (pTsg ((o : Nat) : Int))) henv rfl rfl) ?_
    clear henv a; intro a henv
    refine sAny_done (by kernel_rfl) ?_ _
    refine th_n ?_
    refine if_split henv rfl (fun hc64 => ?_) (fun hc64 => ?_)
    · have hjo : j = o := psg_inj hj.1 (by omega) (by omega) (by omega) (of_decide_eq_true hc64)
      refine region_seq ?_
      revert a
      refine mA rfl rfl ?_
      refine sA (v := .pointer (some ⟨g55, 0, none⟩)) rfl (fun _ henv => rn_fieldAddr henv fd_anvil_api_Instr_0 (ty_int.size) (by decide) rfl) ?_
      intro a henv
      refine seq_step rfl (op_store1 (k := 0) (c' := #[.int .i64 (j : Nat), .int .i64 tr, .int .i64 0, .int .i64 0, .int .i64 0]) henv hst (ty_int.size) rfl rfl rfl (by simp) rfl rfl ?_)
      clear henv hst a; intro a w65 henv hst
      refine wpList_nil ?_
      refine bl_n (th_n ?_)
      refine region_seq ?_
      revert a
      refine mA rfl rfl ?_
      refine sA (v := .int .i64 (j + 1 : Nat)) rfl (fun _ henv => rn_add henv rfl rfl (by rw [IntWalk.i64_in _ (by omega)]; omega)) ?_
      refine aA rfl rfl ?_
      intro a henv
      refine wpList_nil ?_
      exact th_n ⟨_, (by omega), ⟨j + 1, (j : Nat), rfl, henv.sub ⟨rfl, rfl, rfl, rfl, rfl, rfl, trivial⟩, hst.pick [0, 1] [0, 1] (by decide), (by omega), (opat_hit hjo)⟩⟩
    · have hjo : j ≠ o := fun q => of_decide_eq_false hc64 (by rw [q])
      refine wp_skip ?_
      refine bl_n (th_n ?_)
      refine region_seq ?_
      revert a
      refine mA rfl rfl ?_
      refine sA (v := .int .i64 (j + 1 : Nat)) rfl (fun _ henv => rn_add henv rfl rfl (by rw [IntWalk.i64_in _ (by omega)]; omega)) ?_
      refine aA rfl rfl ?_
      intro a henv
      refine wpList_nil ?_
      exact th_n ⟨_, (by omega), ⟨j + 1, v, rfl, henv.sub ⟨rfl, rfl, rfl, rfl, rfl, rfl, trivial⟩, hst.pick [0, 1] [0, 1] (by decide), (by omega), (hv.trans (opat_miss hjo))⟩⟩
  · have hvf : v = ((o : Nat) : Int) := by rw [hv, opat_end (by have := of_decide_eq_false hc60; omega) (by omega)]
    subst hvf
    refine wp_exit ?_
    refine th_x (th_x (bl_x (th_n ?_)))
    refine wp_seq ?_
    refine region_seq ?_
    revert a
    refine mA rfl rfl ?_
    refine sA (v := .pointer (some ⟨ab (some ⟨g53, 0, none⟩), ao (some ⟨g53, 0, none⟩) + 2 * 1, none⟩)) rfl (fun _ henv => rn_idxR (i := 2) henv Tryd.underlying97 (ty_string.size) rfl rfl (by omega) rfl (show (pfRow fS FTx 1 (some ⟨g53, 0, none⟩) 5 5 (wCon ((o : Nat) : Int) tr ra cn)).P _ from (hst.pat (k := 0) rfl)).1) ?_
    refine sA (v := .string ⟨(pTreg ra).toArray⟩) rfl (fun _ henv => rn_loadE1 (i := 2) (j := 0) (e := pTreg ra) henv ty_string rfl rfl fS_len (by decide) (show (pfRow fS FTx 1 (some ⟨g53, 0, none⟩) 5 5 (wCon ((o : Nat) : Int) tr ra cn)).P _ from (hst.pat (k := 0) rfl)).1 (by omega) rfl rfl) ?_
    intro a henv
    refine seq_step rfl (op_call henv rfl Tryd.call69 rfl (h_register (n := ra) (hst.pat (k := 1) rfl) (by omega) (by omega)) ?_)
    rintro e w66 ⟨rfl, hb⟩
    refine ⟨_, rfl, ?_⟩
    clear henv a; intro a henv
    replace hst := hst.call hb
    clear hb
    revert a
    refine mA rfl rfl ?_
    refine sA (v := .int .i64 ra) rfl (fun _ henv => rn_extract henv rfl rfl) ?_
    refine sA (v := .bool true) rfl (fun _ henv => rn_extract henv rfl rfl) ?_
    refine sA (v := .pointer (some ⟨g55, 2, none⟩)) rfl (fun _ henv => rn_fieldAddr henv fd_anvil_api_Instr_2 (ty_int.size) (by decide) rfl) ?_
    intro a henv
    refine seq_step rfl (op_store1 (k := 0) (c' := #[.int .i64 ((o : Nat) : Int), .int .i64 tr, .int .i64 ra, .int .i64 0, .int .i64 0]) henv hst (ty_int.size) rfl rfl rfl (by simp) rfl rfl ?_)
    clear henv hst a; intro a w67 henv hst
    refine sv (v := .bool true) henv rfl (rn_assign henv rfl) ?_
    clear henv a; intro a henv
    refine wpList_nil ?_
    refine th_n ?_
    refine wp_seq ?_
    refine wp_seq ?_
    refine region_seq ?_
    revert a
    refine sA (v := .pointer (some ⟨g55, 0, none⟩)) rfl (fun _ henv => rn_fieldAddr henv fd_anvil_api_Instr_0 (ty_int.size) (by decide) rfl) ?_
    refine sA (v := .int .i64 ((o : Nat) : Int)) rfl (fun _ henv => rn_load1 henv ty_int rfl (hst.oat (k := 0) rfl) rfl) ?_
    intro a henv
    refine seq_step rfl (op_call henv rfl Tryd.call57 rfl (g_two (op := ((o : Nat) : Int))) ?_)
    rintro e w68 ⟨rfl, hb⟩
    refine ⟨_, rfl, ?_⟩
    clear henv a; intro a henv
    replace hst := hst.call hb
    clear hb
    refine wpList_nil ?_
    refine th_n ?_
    refine if_split henv rfl (fun hc69 => ?_) (fun hc69 => ?_)
    · have hq := of_decide_eq_true hc69
      omega
    · refine region_seq ?_
      revert a
      refine mA rfl rfl ?_
      refine sA (v := .pointer (some ⟨ab (some ⟨g53, 0, none⟩), ao (some ⟨g53, 0, none⟩) + 4 * 1, none⟩)) rfl (fun _ henv => rn_idxR (i := 4) henv Tryd.underlying97 (ty_string.size) rfl rfl (by omega) rfl (show (pfRow fS FTx 1 (some ⟨g53, 0, none⟩) 5 5 (wCon ((o : Nat) : Int) tr ra cn)).P _ from (hst.pat (k := 0) rfl)).1) ?_
      refine sA (v := .string ⟨(textZ cn).toArray⟩) rfl (fun _ henv => rn_loadE1 (i := 4) (j := 0) (e := textZ cn) henv ty_string rfl rfl fS_len (by decide) (show (pfRow fS FTx 1 (some ⟨g53, 0, none⟩) 5 5 (wCon ((o : Nat) : Int) tr ra cn)).P _ from (hst.pat (k := 0) rfl)).1 (by omega) rfl rfl) ?_
      intro a henv
      refine seq_step rfl (op_call henv rfl Tryd.call67 rfl (h_number (n := cn) (hst.pat (k := 1) rfl) (by omega) (by omega)) ?_)
      rintro e w70 ⟨rfl, hb⟩
      refine ⟨_, rfl, ?_⟩
      clear henv a; intro a henv
      replace hst := hst.call hb
      clear hb
      revert a
      refine mA rfl rfl ?_
      refine sA (v := .int .i64 cn) rfl (fun _ henv => rn_extract henv rfl rfl) ?_
      refine sA (v := .bool true) rfl (fun _ henv => rn_extract henv rfl rfl) ?_
      refine sA (v := .pointer (some ⟨g55, 4, none⟩)) rfl (fun _ henv => rn_fieldAddr henv fd_anvil_api_Instr_4 (ty_int.size) (by decide) rfl) ?_
      intro a henv
      refine seq_step rfl (op_store1 (k := 0) (c' := #[.int .i64 ((o : Nat) : Int), .int .i64 tr, .int .i64 ra, .int .i64 0, .int .i64 cn]) henv hst (ty_int.size) rfl rfl rfl (by simp) rfl rfl ?_)
      clear henv hst a; intro a w71 henv hst
      refine sv (v := .bool true) henv rfl (rn_assign henv rfl) ?_
      clear henv a; intro a henv
      refine wpList_nil ?_
      refine th_n ?_
      refine wp_seq ?_
      refine region_any (n := 12) (Sk [bk g55 #[.int .i64 ((o : Nat) : Int), .int .i64 tr, .int .i64 ra, .int .i64 0, .int .i64 cn] 37] [pfRow fS FTx 1 (some ⟨g53, 0, none⟩) 5 5 (wCon ((o : Nat) : Int) tr ra cn), pfPw] [10] []) mixed rfl henv hst ?_
      clear henv hst; intro w72 henv hst
      refine tL (i := 0) 0 0 [10, 11] rfl (by kernel_rfl) (fun _ _ _ h => h) henv rfl ty_anvil_api_Instr rfl hst rfl rfl rfl ?_
      clear henv a; intro a henv
      refine tM (i := 1) (rg 2 10) rfl (by kernel_rfl) (fun _ _ _ h => h) henv rfl rfl ?_
      clear henv a; intro a henv
      refine tM (i := 2) (rg 3 9) rfl (by kernel_rfl) (fun _ _ _ h => h) henv rfl rfl ?_
      clear henv a; intro a henv
      refine tAg (i := 3) (rg 4 8) (v := .bool true) rfl (by kernel_rfl) (fun _ _ _ h => h) henv rfl rfl rfl rfl (fun _ => rn_move henv rfl) ?_
      clear henv a; intro a henv
      refine tA (i := 4) (rg 5 7) (v := .bool true) rfl (by kernel_rfl) (fun _ _ _ h => h) henv rfl (fun _ => rn_pick henv rfl rfl) ?_
      clear henv a; intro a henv
      refine tM (i := 5) (rg 6 6) rfl (by kernel_rfl) (fun _ _ _ h => h) henv rfl rfl ?_
      clear henv a; intro a henv
      refine tAg (i := 6) [7, 8, 9, 11] (v := .pointer (some ⟨g55, 0, none⟩)) rfl (by kernel_rfl) (fun _ _ _ h => h) henv rfl rfl rfl rfl (fun _ => rn_fieldAddr henv fd_anvil_api_Instr_0 (ty_int.size) (by decide) rfl) ?_
      clear henv a; intro a henv
      refine sAny_takeg (i := 7) [8, 9, 11] (fun w' => w'.heap[g55]? = some (.cells #[.int .i64 ((o : Nat) : Int), .int .i64 tr, .int .i64 ra, .int .i64 0, .int .i64 cn] 37 (0, 0))) (v := .int .i64 ((o : Nat) : Int)) rfl (by kernel_rfl) (fun _ _ _ h => h) (fun _ _ _ hS => hS.1.oat (k := 0) rfl) henv rfl rfl rfl rfl (hst.oat (k := 0) rfl) (fun w' hg => rn_load1 henv ty_int rfl hg rfl) ?_
      clear henv a; intro a henv
      refine tAg (i := 8) [9, 11] (v := .bool (decide (((o : Nat) : Int) > (0 : Int)))) rfl (by kernel_rfl) (fun _ _ _ h => h) henv rfl rfl rfl rfl (fun _ => rn_bin henv rfl rfl rfl) ?_
      clear henv a; intro a henv
      refine tA (i := 9) [11] (v := .bool (decide (((o : Nat) : Int) > (0 : Int)))) rfl (by kernel_rfl) (fun _ _ _ h => h) henv rfl (fun _ => rn_pick henv rfl rfl) ?_
      clear henv a; intro a henv
      refine sAny_one (i := 10) (by kernel_rfl) rfl rfl (op_store (k := 1) (c' := #[.int .i64 ((o : Nat) : Int), .int .i64 tr, .int .i64 ra, .int .i64 0, .int .i64 cn]) henv hst (ty_anvil_api_Instr.size) rfl rfl rfl rfl (by simp) rfl rfl ?_)
      clear henv hst a; intro a w73 henv hst
      refine ⟨.inr ⟨hst.kn.pick [0] [0, 1], .inl rfl⟩, ?_⟩
      refine tA (i := 11) [] (v := .bool (decide (((o : Nat) : Int) > (0 : Int)))) rfl (by kernel_rfl) (fun _ _ _ h => h) henv rfl (fun _ => rn_assign henv rfl) ?_
      clear henv a; intro a henv
      refine sAny_done (by kernel_rfl) ?_ _
      refine th_n ?_
      refine wp_ret ?_
      refine leave henv (res2 Tryd.results56 (RV.cell henv ty_anvil_api_Instr rfl (hst.oat (k := 1) rfl) rfl) (RV.tmp henv rfl)) ?_
      exact ⟨by rw [decide_eq_true (show ((o : Nat) : Int) > 0 by omega)], hst.below⟩
set_option maxRecDepth 100000 in
set_option maxHeartbeats 4000000 in
theorem h_outs {n1 : Nat} {es1 : List Int} {w0 : World} (hP : Pw w0) (hl : es1.length = n1) (hn1 : 1 ≤ n1) (hn4 : n1 ≤ 400) (hx : ∀ x ∈ es1, 0 ≤ x ∧ x ≤ 999) :
    Calls Tryd.prog 55 #[.string ⟨(jn (wOuts es1)).toArray⟩] w0 fun e w' => ∃ A c, e = .returned (.tuple #[.slice A n1 c, .bool true]) ∧ NewRow notU 3 1 fI FI w0.heap.size w' A n1 c es1 ∧ Below w0.heap.size w0 w' := by
  have hno := outs_no32 es1
  have hjb := outs_jlen hl hn4 hx
  refine enter Tryd.func55 rfl Tryd.ntmps55 rfl ?_
  intro a henv hst
  replace hst := hst.argP pfPw hP
  refine wp_seq ?_
  refine region_seq ?_
  revert a
  refine aA rfl rfl ?_
  refine aA rfl rfl ?_
  intro a henv
  refine wpList_nil ?_
  refine th_n ?_
  refine wp_seq ?_
  refine region_seq ?_
  refine sv (v := .string ⟨(jn (wOuts es1)).toArray⟩) henv rfl (rn_move henv rfl) ?_
  clear henv a; intro a henv
  refine seq_step rfl (op_call henv rfl Tryd.call66 rfl (h_split (ps := (wOuts es1)) (n := (n1 + 1)) (wouts_len hl) (by omega) hno hjb) ?_)
  rintro e w52 ⟨g51, rfl, hr, hb⟩
  refine ⟨_, rfl, ?_⟩
  clear henv a; intro a henv
  replace hst := hst.freshRd hb hr (wouts_len hl) (fun _ _ _ _ _ q => by obtain ⟨_, _, q⟩ := q; cases q)
  clear hr
  clear hb
  refine sv (v := .slice (some ⟨g51, 0, none⟩) (n1 + 1) (n1 + 1)) henv rfl (rn_assign henv rfl) ?_
  clear henv a; intro a henv
  refine wpList_nil ?_
  refine th_n ?_
  refine wp_seq ?_
  refine region_seq ?_
  refine sv (v := .slice none 0 0) henv rfl (rn_assign henv rfl) ?_
  clear henv a; intro a henv
  refine wpList_nil ?_
  refine th_n ?_
  refine wp_seq ?_
  refine wp_seq ?_
  refine region_seq ?_
  revert a
  refine mA rfl rfl ?_
  refine sA (v := .slice (some ⟨g51, 1, none⟩) n1 n1) rfl (fun _ henv => rn_sliceFrom (m := 1) (n := n1 + 1) (c := n1 + 1) henv Tryd.underlying97 (ty_string.size) rfl rfl (by omega) (by omega)) ?_
  refine sA (v := .int .i64 (n1 : Nat)) rfl (fun _ henv => rn_len henv Tryd.underlying97 rfl) ?_
  refine mA rfl rfl ?_
  intro a henv
  refine wpList_nil ?_
  replace hst := hst.dropRow (i := 0) rfl 1 fS_len (by omega)
  replace hst : St w0 _ [] [pfRow fS FTx 1 (some ⟨g51, 1, none⟩) n1 n1 (es1.map pTreg), pfRow fS FTx 1 (some ⟨g51, 0, none⟩) (n1 + 1) (n1 + 1) (wOuts es1), pfPw] := hst
  refine th_n ?_
  refine wp_block ?_
  replace hst := hst.addRowS notU 3 1
  replace hst : St w0 _ [rowS notU 3 1 none 0 0 (fl fI ([]))] [pfRow fS FTx 1 (some ⟨g51, 1, none⟩) n1 n1 (es1.map pTreg), pfRow fS FTx 1 (some ⟨g51, 0, none⟩) (n1 + 1) (n1 + 1) (wOuts es1), pfPw] := hst
  refine wp_loop_ghost (fun mz a w => ∃ j : Nat, ∃ B : Option Addr, ∃ d : Nat, ∃ rs : List Int, n1 - j = mz ∧ Env 36 a [(4, .slice (some ⟨g51, 0, none⟩) (n1 + 1) (n1 + 1)), (13, .slice (some ⟨g51, 1, none⟩) n1 n1), (14, .int .i64 (n1 : Nat)), (15, .int .i64 (j : Nat)), (5, .slice B j d)] ∧ St w0 w [rowS notU 3 1 B j d (fl fI rs)] [pfRow fS FTx 1 (some ⟨g51, 1, none⟩) n1 n1 (es1.map pTreg), pfRow fS FTx 1 (some ⟨g51, 0, none⟩) (n1 + 1) (n1 + 1) (wOuts es1), pfPw] ∧ j ≤ n1 ∧ rs = es1.take j) _ ⟨0, none, 0, [], rfl, henv.sub ⟨rfl, rfl, rfl, rfl, rfl, trivial⟩, hst.pick [0] [0, 1, 2] (by decide), (Nat.zero_le _), rfl⟩ ?_
  clear henv hst a
  rintro mz a w53 ⟨j, B, d, rs, rfl, henv, hst, hj, ho⟩
  refine wp_seq ?_
  refine region_seq ?_
  refine sv (v := .bool (decide (((j : Nat) : Int) < ((n1 : Nat) : Int)))) henv rfl (rn_bin henv rfl rfl rfl) ?_
  clear henv a; intro a henv
  refine wpList_nil ?_
  refine th_n ?_
  refine wp_seq ?_
  refine if_split henv rfl (fun hc54 => ?_) (fun hc54 => ?_)
  · have hlt : j < n1 := by have := of_decide_eq_true hc54; omega
    obtain ⟨x, he0⟩ : ∃ x, es1[j]? = some x := ⟨_, List.getElem?_eq_getElem (by omega)⟩
    have hxb := hx x (List.mem_of_getElem? he0)
    have hw0 : (es1.map pTreg)[j]? = some (pTreg x) := by rw [List.getElem?_map, he0]; rfl
    refine wp_skip ?_
    refine th_n ?_
    refine wp_seq ?_
    refine wp_block ?_
    refine wp_seq ?_
    refine region_seq ?_
    revert a
    refine sA (v := .pointer (some ⟨ab (some ⟨g51, 1, none⟩), ao (some ⟨g51, 1, none⟩) + j * 1, none⟩)) rfl (fun _ henv => rn_idxR (i := j) henv Tryd.underlying97 (ty_string.size) rfl rfl (by omega) rfl (show (pfRow fS FTx 1 (some ⟨g51, 1, none⟩) n1 n1 (es1.map pTreg)).P _ from (hst.pat (k := 0) rfl)).1) ?_
    refine sA (v := .string ⟨(pTreg x).toArray⟩) rfl (fun _ henv => rn_loadE1 (i := j) (j := 0) (e := pTreg x) henv ty_string rfl rfl fS_len (by decide) (show (pfRow fS FTx 1 (some ⟨g51, 1, none⟩) n1 n1 (es1.map pTreg)).P _ from (hst.pat (k := 0) rfl)).1 (by omega) hw0 rfl) ?_
    refine aA rfl rfl ?_
    intro a henv
    refine wpList_nil ?_
    refine th_n ?_
    refine wp_seq ?_
    refine region_seq ?_
    refine sv (v := .string ⟨(pTreg x).toArray⟩) henv rfl (rn_move henv rfl) ?_
    clear henv a; intro a henv
    refine seq_step rfl (op_call henv rfl Tryd.call69 rfl (h_register (n := x) (hst.pat (k := 2) rfl) (by omega) (by omega)) ?_)
    rintro e w55 ⟨rfl, hb⟩
    refine ⟨_, rfl, ?_⟩
    clear henv a; intro a henv
    replace hst := hst.call hb
    clear hb
    revert a
    refine mA rfl rfl ?_
    refine sA (v := .int .i64 x) rfl (fun _ henv => rn_extract henv rfl rfl) ?_
    refine sA (v := .bool true) rfl (fun _ henv => rn_extract henv rfl rfl) ?_
    refine aA rfl rfl ?_
    refine aA rfl rfl ?_
    intro a henv
    refine wpList_nil ?_
    refine th_n ?_
    refine wp_seq ?_
    refine wp_seq ?_
    refine region_seq ?_
    revert a
    refine mA rfl rfl ?_
    refine sA (v := .bool false) rfl (fun _ henv => rn_un henv rfl rfl) ?_
    intro a henv
    refine wpList_nil ?_
    refine th_n ?_
    refine if_f henv rfl (rfl) ?_
    refine wp_skip ?_
    refine th_n ?_
    refine region_seq ?_
    revert a
    refine mA rfl rfl ?_
    refine mA rfl rfl ?_
    intro a henv
    refine seq_step rfl (op_buildSlice (z := 1) (pv := #[(0, .int .i64 x)]) (c := #[.int .i64 x]) henv hst rfl Tryd.underlying23 (ty_int.size) zero_int (by decide) (by decide) rfl (by kernel_rfl) ?_)
    clear henv hst a; intro a w57 g56 henv hst
    refine seq_step rfl (op_appendS (k := 1) (j := 0) henv hst rfl Tryd.underlying23 inf_int rfl rfl rfl rfl rfl rfl rfl rfl rfl rfl rfl (by unfold maxLen; omega) (by omega) ?_)
    clear henv hst a; intro a w60 g58 c59 henv hst
    rw [show fl fI rs ++ (#[.int .i64 x] : Array Value).toList = fl fI (rs ++ [x]) from fl_snoc (f := fI) rs x] at hst
    refine sv (v := .slice (some ⟨g58, 0, none⟩) (j + 1) c59) henv rfl (rn_assign henv rfl) ?_
    clear henv a; intro a henv
    refine wpList_nil ?_
    refine bl_n (th_n ?_)
    refine region_seq ?_
    revert a
    refine sA (v := .int .i64 (j + 1 : Nat)) rfl (fun _ henv => rn_add henv rfl rfl (by rw [IntWalk.i64_in _ (by omega)]; omega)) ?_
    refine mA rfl rfl ?_
    intro a henv
    refine wpList_nil ?_
    exact th_n ⟨_, (by omega), ⟨j + 1, (some ⟨g58, 0, none⟩), c59, (rs ++ [x]), rfl, henv.sub ⟨rfl, rfl, rfl, rfl, rfl, trivial⟩, hst.pick [1] [0, 1, 2] (by decide), (by omega), (by rw [ho, take_one he0])⟩⟩
  · have hje : j = n1 := by have := of_decide_eq_false hc54; omega
    have hof : rs = es1 := by rw [ho, List.take_of_length_le (by omega)]
    rw [hof] at hst
    refine wp_exit ?_
    refine th_x (th_x (bl_x (th_n ?_)))
    refine wp_seq ?_
    refine region_any (n := 7) (Sk [rowS notU 3 1 B j d (fl fI es1)] [pfRow fS FTx 1 (some ⟨g51, 1, none⟩) n1 n1 (es1.map pTreg), pfRow fS FTx 1 (some ⟨g51, 0, none⟩) (n1 + 1) (n1 + 1) (wOuts es1), pfPw] [] []) mixed rfl henv hst ?_
    clear henv hst; intro w61 henv hst
    refine tM (i := 0) [5, 6] rfl (by kernel_rfl) (fun _ _ _ h => h) henv rfl rfl ?_
    clear henv a; intro a henv
    refine tM (i := 1) [2, 3, 4, 6] rfl (by kernel_rfl) (fun _ _ _ h => h) henv rfl rfl ?_
    clear henv a; intro a henv
    refine sAny_take (i := 2) [3, 4, 6] (fun w' => (pfRow fS FTx 1 (some ⟨g51, 0, none⟩) (n1 + 1) (n1 + 1) (wOuts es1)).P w') (v := .pointer (some ⟨ab (some ⟨g51, 0, none⟩), ao (some ⟨g51, 0, none⟩) + 0 * 1, none⟩)) rfl (by kernel_rfl) (fun _ _ _ h => h) (fun _ _ _ hS => hS.1.pat (k := 1) rfl) henv rfl (hst.pat (k := 1) rfl) (fun w' hg => rn_idxR (i := 0) henv Tryd.underlying97 (ty_string.size) rfl rfl (by omega) rfl (show (pfRow fS FTx 1 (some ⟨g51, 0, none⟩) (n1 + 1) (n1 + 1) (wOuts es1)).P _ from hg).1) ?_
    clear henv a; intro a henv
    refine sAny_take (i := 3) [4, 6] (fun w' => (pfRow fS FTx 1 (some ⟨g51, 0, none⟩) (n1 + 1) (n1 + 1) (wOuts es1)).P w') (v := .string ⟨([111, 117, 116]).toArray⟩) rfl (by kernel_rfl) (fun _ _ _ h => h) (fun _ _ _ hS => hS.1.pat (k := 1) rfl) henv rfl (hst.pat (k := 1) rfl) (fun w' hg => rn_loadE1 (i := 0) (j := 0) (e := [111, 117, 116]) henv ty_string rfl rfl fS_len (by decide) (show (pfRow fS FTx 1 (some ⟨g51, 0, none⟩) (n1 + 1) (n1 + 1) (wOuts es1)).P _ from hg).1 (by omega) rfl rfl) ?_
    clear henv a; intro a henv
    refine tA (i := 4) [6] (v := .bool true) rfl (by kernel_rfl) (fun _ _ _ h => h) henv rfl (fun _ => rn_eqls (s := [111, 117, 116]) (t := [111, 117, 116]) henv rfl rfl) ?_
    clear henv a; intro a henv
    refine tA (i := 5) [6] (v := .slice B j d) rfl (by kernel_rfl) (fun _ _ _ h => h) henv rfl (fun _ => rn_assign henv rfl) ?_
    clear henv a; intro a henv
    refine tA (i := 6) [] (v := .bool true) rfl (by kernel_rfl) (fun _ _ _ h => h) henv rfl (fun _ => rn_assign henv rfl) ?_
    clear henv a; intro a henv
    refine sAny_done (by kernel_rfl) ?_ _
    refine th_n ?_
    refine wp_ret ?_
    refine leave henv (res2 Tryd.results55 (RV.tmp henv rfl) (RV.tmp henv rfl)) ?_
    exact ⟨_, _, congrArg (fun k => Ending.returned (.tuple #[Value.slice _ k _, .bool true])) hje, newrow_of (hst.owns (k := 0) rfl) (fun b hb => hst.new _ (List.mem_of_getElem? (i := 0) rfl) b hb) hje, hst.below⟩
end Go.Proofs.YtbdngknpngcojaaDoor.W

/- prog.Read on the text of a right program. Printed by pv/gen_h6.py. Condition: the table uint64pow10 is as laid (Pw). -/
namespace Go.Proofs.YtbdngknpngcojaaDoor.W
open Go.RowKit Anv Go.Lib
theorem jn_no10 {ps : List (List UInt8)} (h : ∀ p ∈ ps, Wd p) : (10 : UInt8) ∉ jn ps := by
  induction ps with
  | nil => simp [jn]
  | cons t l ih =>
    cases l with
    | nil => simpa [jn] using (h t (List.mem_cons_self ..)).2
    | cons u l =>
      rw [jn_cons2]
      intro hm
      rcases List.mem_append.1 hm with q | q
      · exact (h t (List.mem_cons_self ..)).2 q
      · rcases List.mem_cons.1 q with q | q
        · cases q
        · exact ih (fun p hp => h p (List.mem_cons_of_mem _ hp)) q
def wOf (e : IE) : List (List UInt8) := if e.1 = 1 then wMove e.2.1 e.2.2.1 else if e.1 = 2 then wNeg e.2.1 e.2.2.1 else if e.1 = 3 ∨ e.1 = 4 then wTwo e.1 e.2.1 e.2.2.1 e.2.2.2.1 else wCon e.1 e.2.1 e.2.2.1 e.2.2.2.2
theorem jn_of (e : IE) : jn (wOf e) = pTline e := by
  obtain ⟨op, tr, ra, rb, cn⟩ := e
  unfold wOf pTline
  dsimp only
  by_cases h1 : op = 1
  · rw [if_pos h1, if_pos h1]; simp [jn, wMove]
  · rw [if_neg h1, if_neg h1]
    by_cases h2 : op = 2
    · rw [if_pos h2, if_pos h2]; simp [jn, wNeg]
    · rw [if_neg h2, if_neg h2]
      by_cases h3 : op = 3 ∨ op = 4
      · rw [if_pos h3, if_pos h3]; simp [jn, wTwo]
      · rw [if_neg h3, if_neg h3]; simp [jn, wCon]
theorem wd_of (e : IE) : ∀ p ∈ wOf e, Wd p := by
  unfold wOf
  by_cases h1 : e.1 = 1
  · rw [if_pos h1]; exact wd_move _ _
  · rw [if_neg h1]
    by_cases h2 : e.1 = 2
    · rw [if_pos h2]; exact wd_negs _ _
    · rw [if_neg h2]
      by_cases h3 : e.1 = 3 ∨ e.1 = 4
      · rw [if_pos h3]; exact wd_two _ _ _ _
      · rw [if_neg h3]; exact wd_con _ _ _ _
theorem line_no10 (e : IE) : (10 : UInt8) ∉ jn (wOf e) := jn_no10 (wd_of e)
theorem line_len {op tr ra rb cn : Int} {g : Int} (h : May (op, tr, ra, rb, cn) g) (hg : g ≤ 128) : (jn (wOf (op, tr, ra, rb, cn))).length ≤ 30 := by
  rw [jn_of]; exact pline_len (may_bd h hg)
theorem line_pre (e : IE) : ¬ (jn (wOf e)).take ([111, 117, 116] : List UInt8).length = [111, 117, 116] := by
  rw [jn_of]
  unfold pTline pTreg
  intro h
  simp at h
theorem outs_pre (os : List Int) : (jn (wOuts os)).take ([111, 117, 116] : List UInt8).length = [111, 117, 116] := by
  rw [jn_outs]; rfl
theorem head_cut (i : Int) (g : Nat) : jn (wHead i g) ++ [10] = pThead i g := by simp [jn, wHead, pThead]
theorem all_cut (i : Int) (g : Nat) (es : List IE) (os : List Int) : pTall i g es os = jn (wHead i g) ++ 10 :: (pTcode es ++ (jn (wOuts os) ++ 10 :: [])) := by
  rw [pTall, ← head_cut, jn_outs]; simp
theorem code_cut {es : List IE} {j : Nat} {e : IE} (h : es[j]? = some e) : pTcode (es.drop j) = jn (wOf e) ++ 10 :: pTcode (es.drop (j + 1)) := by
  rw [drop_two h, pTcode, List.flatMap_cons, jn_of]; simp [pTcode]
theorem code_len {es : List IE} {g : Int} (h : ∀ e ∈ es, May e g) (hg : g ≤ 128) : (pTcode es).length ≤ 31 * es.length := by
  induction es with
  | nil => exact Nat.le_refl _
  | cons e es ih =>
    obtain ⟨op, tr, ra, rb, cn⟩ := e
    have h1 := pline_len (op := op) (may_bd (h _ (List.mem_cons_self ..)) hg)
    have h2 := ih fun e he => h e (List.mem_cons_of_mem _ he)
    unfold pTcode at h2 ⊢
    rw [List.flatMap_cons]
    simp only [List.length_append, List.length_cons, List.length_nil]; omega
theorem all_len {i : Int} {g n0 n1 : Nat} {es : List IE} {os : List Int} (hR : Right i g n0 n1 es os) (h0 : es.length = n0) (h1 : os.length = n1) (hn : n0 ≤ 400) : (pTall i g es os).length ≤ 30000 := by
  obtain ⟨hh1, hh2, hh3, hh4, hh5, hh6⟩ := hR.1
  have a1 := tz_len (n := i) (by omega) (by omega)
  have a2 := tz_len (n := ((g : Nat) : Int)) (by omega) (by omega)
  have a3 := code_len hR.2.2 (by omega)
  have a4 := touts_len (os := os) fun x hx => by have := hR.2.1 x hx; omega
  unfold pTall pThead
  simp only [List.length_append, List.length_cons, List.length_nil]; omega
def RdS (i : Int) (g : Nat) (es : List IE) (os : List Int) (n0 n1 k j : Nat) (u : List UInt8) (iv gv : Int) (no : Nat) (eo : List Int) (en : Bool) : Prop :=
  (k = 0 ∧ j = 0 ∧ iv = 0 ∧ gv = 0 ∧ no = 0 ∧ eo = [] ∧ en = false ∧ u = jn (wHead i g) ++ 10 :: (pTcode es ++ (jn (wOuts os) ++ 10 :: []))) ∨
  (∃ e, k = j + 1 ∧ es[j]? = some e ∧ i = iv ∧ (g : Int) = gv ∧ no = 0 ∧ eo = [] ∧ en = false ∧ u = jn (wOf e) ++ 10 :: (pTcode (es.drop (j + 1)) ++ (jn (wOuts os) ++ 10 :: []))) ∨
  (k = n0 + 1 ∧ n0 = j ∧ i = iv ∧ (g : Int) = gv ∧ no = 0 ∧ eo = [] ∧ en = false ∧ u = jn (wOuts os) ++ 10 :: []) ∨
  (k = n0 + 2 ∧ n0 = j ∧ i = iv ∧ (g : Int) = gv ∧ n1 = no ∧ os = eo ∧ en = true ∧ u = [])
theorem rd_at {i : Int} {g : Nat} {es : List IE} {os : List Int} {n0 n1 k j : Nat} (hk : k = j + 1) (hj : j ≤ n0) (hl : es.length = n0) : RdS i g es os n0 n1 k j (pTcode (es.drop j) ++ (jn (wOuts os) ++ 10 :: [])) i g 0 [] false := by
  rcases Nat.lt_or_ge j n0 with q | q
  · have he : es[j]? = some es[j] := List.getElem?_eq_getElem (by omega)
    exact .inr (.inl ⟨es[j], hk, he, rfl, rfl, rfl, rfl, rfl, by rw [code_cut he]; simp⟩)
  · have e : n0 = j := by omega
    subst e
    refine .inr (.inr (.inl ⟨hk, rfl, rfl, rfl, rfl, rfl, rfl, ?_⟩))
    rw [List.drop_eq_nil_of_le (by omega)]; rfl
theorem rd_next0 {i : Int} {g : Nat} {es : List IE} {os : List Int} {n0 n1 k j : Nat} (hk : k = 0) (hj : j = 0) (hl : es.length = n0) : RdS i g es os n0 n1 (k + 1) j (pTcode es ++ (jn (wOuts os) ++ 10 :: [])) i g 0 [] false := by
  have := rd_at (i := i) (g := g) (os := os) (n1 := n1) (k := k + 1) (j := j) (es := es) (n0 := n0) (by omega) (by omega) hl
  subst hj
  rwa [List.drop_zero] at this
theorem rd_next1 {i : Int} {g : Nat} {es : List IE} {os : List Int} {n0 n1 k j : Nat} {e : IE} (hk : k = j + 1) (he : es[j]? = some e) (hl : es.length = n0) : RdS i g es os n0 n1 (k + 1) (j + 1) (pTcode (es.drop (j + 1)) ++ (jn (wOuts os) ++ 10 :: [])) i g 0 [] false :=
  rd_at (by omega) (by have := (List.getElem?_eq_some_iff.1 he).1; omega) hl
theorem lt_of_some {α : Type} {l : List α} {j n : Nat} {e : α} (h : l[j]? = some e) (hl : l.length = n) : j + 1 ≤ n := by
  have := (List.getElem?_eq_some_iff.1 h).1; omega
theorem drop_rd {s p u : List UInt8} {n : Nat} (hs : s = p ++ u) (hn : p.length = n) : s.drop n = u ∧ n ≤ s.length := by
  subst hn
  rw [hs]
  exact ⟨List.drop_left' rfl, by rw [List.length_append]; omega⟩
theorem take_line {p r : List UInt8} : (p ++ 10 :: r).take p.length = p ∧ p.length ≤ (p ++ 10 :: r).length := ⟨List.take_left' rfl, by rw [List.length_append]; omega⟩
theorem h_instr {e : IE} {g : Int} {w0 : World} (hP : Pw w0) (hM : May e g) (hg : g ≤ 128) :
    Calls Tryd.prog 56 #[.string ⟨(jn (wOf e)).toArray⟩] w0 fun r w' => r = .returned (.tuple #[.agg #[.int .i64 e.1, .int .i64 e.2.1, .int .i64 e.2.2.1, .int .i64 e.2.2.2.1, .int .i64 e.2.2.2.2], .bool true]) ∧ Below w0.heap.size w0 w' := by
  obtain ⟨op, tr, ra, rb, cn⟩ := e
  obtain ⟨b1, b2, b3, b4, b5, b6, b7, b8⟩ := may_bd hM hg
  unfold May at hM
  dsimp only at hM ⊢
  unfold wOf
  dsimp only
  by_cases h1 : op = 1
  · obtain rfl : rb = 0 := by omega
    obtain rfl : cn = 0 := by omega
    rw [if_pos h1, h1]
    exact h_instr_m hP b1 b2 b3 b4 b5 b6 b7 b8
  rw [if_neg h1]
  by_cases h2 : op = 2
  · obtain rfl : rb = 0 := by omega
    obtain rfl : cn = 0 := by omega
    rw [if_pos h2, h2]
    exact h_instr_n hP b1 b2 b3 b4 b5 b6 b7 b8
  rw [if_neg h2]
  obtain ⟨o, rfl⟩ : ∃ o : Nat, op = o := ⟨op.toNat, by omega⟩
  by_cases h3 : ((o : Nat) : Int) = 3 ∨ ((o : Nat) : Int) = 4
  · obtain rfl : cn = 0 := by omega
    rw [if_pos h3]
    exact h_instr_t hP (by omega) b1 b2 b3 b4 b5 b6 b7 b8
  · obtain rfl : rb = 0 := by omega
    rw [if_neg h3]
    exact h_instr_c hP (by omega) b1 b2 b3 b4 b5 b6 b7 b8
set_option maxRecDepth 100000 in
set_option maxHeartbeats 8000000 in
theorem h_read_ok {i : Int} {g n0 n1 : Nat} {es0 : List IE} {es1 : List Int} {s : List UInt8} {w0 : World} (hP : Pw w0) (hlen0 : es0.length = n0) (hlen1 : es1.length = n1) (hn0 : n0 ≤ 400) (hs0 : s = pTall i g es0 es1) (hR : Right i g n0 n1 es0 es1) :
    Calls Tryd.prog 33 #[.string ⟨s.toArray⟩] w0 fun e w' => ∃ A c B d, e = .returned (.tuple #[.agg #[.int .i64 i, .int .i64 (g : Nat), .slice A n0 c, .slice B n1 d], .agg #[.int .i64 0, .int .i64 0]]) ∧ NewRow notU 37 5 fJ FJ w0.heap.size w' A n0 c es0 ∧ NewRow notU 3 1 fI FI w0.heap.size w' B n1 d es1 ∧ Below w0.heap.size w0 w' := by
  obtain ⟨hh1, hh2, hh3, hh4, hh5, hh6⟩ := hR.1
  have hox : ∀ x ∈ es1, 0 ≤ x ∧ x ≤ 999 := fun x hx => by have := hR.2.1 x hx; omega
  have hsb : s.length ≤ 30000 := by rw [hs0]; exact all_len hR hlen0 hlen1 hn0
  replace hs0 := hs0.trans (all_cut i g es0 es1)
  have hol := outs_jlen (n := n1) hlen1 (by omega) hox
  have hhl := head_len (i := i) (g := g) (by omega) (by omega) (by omega)
  refine enter Tryd.func33 rfl Tryd.ntmps33 rfl ?_
  intro a henv hst
  replace hst := hst.argP pfPw hP
  refine wp_seq ?_
  refine region_seq ?_
  refine seq_step rfl (op_alloc (c := #[.int .i64 0, .int .i64 0, .slice none 0 0, .slice none 0 0]) henv hst rfl zero_anvil_api_Prog rfl ?_)
  clear henv hst a; intro a w52 g51 henv hst
  refine seq_step rfl (op_alloc (c := #[.int .i64 0, .int .i64 0]) henv hst rfl zero_anvil_api_Spot rfl ?_)
  clear henv hst a; intro a w54 g53 henv hst
  refine wpList_nil ?_
  refine th_n ?_
  refine wp_scope_straight ?_
  refine wp_seq ?_
  refine wp_seq ?_
  refine region_seq ?_
  revert a
  refine mA rfl rfl ?_
  refine sA (v := .int .i64 (s.length : Nat)) rfl (fun _ henv => rn_lenS henv Tryd.underlying9 rfl) ?_
  refine sA (v := .bool (decide (((s.length : Nat) : Int) > (65536 : Int)))) rfl (fun _ henv => rn_bin henv rfl rfl rfl) ?_
  intro a henv
  rw [show (decide (((s.length : Nat) : Int) > (65536 : Int))) = false from (decide_eq_false (by omega))] at henv
  refine wpList_nil ?_
  refine th_n ?_
  refine if_f henv rfl (rfl) ?_
  refine wp_skip ?_
  refine th_n ?_
  refine wp_seq ?_
  refine region_seq ?_
  refine seq_step rfl (op_alloc (c := #[.int .i64 0, .int .i64 0, .slice none 0 0, .slice none 0 0]) henv hst rfl zero_anvil_api_Prog rfl ?_)
  clear henv hst a; intro a w56 g55 henv hst
  refine wpList_nil ?_
  refine th_n ?_
  refine wp_seq ?_
  replace hst := (hst.addRowS notU 37 5)
  replace hst : St w0 _ [rowS notU 37 5 none 0 0 (fl fJ ([])), bk g55 #[.int .i64 0, .int .i64 0, .slice none 0 0, .slice none 0 0] 25, bk g53 #[.int .i64 0, .int .i64 0] 59, bk g51 #[.int .i64 0, .int .i64 0, .slice none 0 0, .slice none 0 0] 25] [pfPw] := hst
  replace hst := (hst.addRowS notU 3 1)
  replace hst : St w0 _ [rowS notU 3 1 none 0 0 (fl fI ([])), rowS notU 37 5 none 0 0 (fl fJ ([])), bk g55 #[.int .i64 0, .int .i64 0, .slice none 0 0, .slice none 0 0] 25, bk g53 #[.int .i64 0, .int .i64 0] 59, bk g51 #[.int .i64 0, .int .i64 0, .slice none 0 0, .slice none 0 0] 25] [pfPw] := hst
  replace hst := (hst.addRowS notU 3 1)
  replace hst : St w0 _ [rowS notU 3 1 none 0 0 (fl fI ([])), rowS notU 3 1 none 0 0 (fl fI ([])), rowS notU 37 5 none 0 0 (fl fJ ([])), bk g55 #[.int .i64 0, .int .i64 0, .slice none 0 0, .slice none 0 0] 25, bk g53 #[.int .i64 0, .int .i64 0] 59, bk g51 #[.int .i64 0, .int .i64 0, .slice none 0 0, .slice none 0 0] 25] [pfPw] := hst
  refine region_seq ?_
  refine sv (v := .slice none 0 0) henv rfl (rn_assign henv rfl) ?_
  clear henv a; intro a henv
  refine wpList_nil ?_
  refine th_n ?_
  refine wp_seq ?_
  refine region_seq ?_
  revert a
  refine aA rfl rfl ?_
  refine aA rfl rfl ?_
  intro a henv
  refine wpList_nil ?_
  refine th_n ?_
  refine wp_seq ?_
  refine wp_label ?_
  refine th_n ?_
  refine wp_seq ?_
  refine wp_seq ?_
  refine region_seq ?_
  refine sv (v := .int .i64 0) henv rfl (rn_assign henv rfl) ?_
  clear henv a; intro a henv
  refine wpList_nil ?_
  refine th_n ?_
  refine wp_block ?_
  refine wp_loop_ghost (fun mz a w => ∃ k : Nat, ∃ j : Nat, ∃ at_ : Nat, ∃ pre : List UInt8, ∃ u : List UInt8, ∃ iv : Int, ∃ gv : Int, ∃ Bc : Option Addr, ∃ dc : Nat, ∃ cs : List IE, ∃ Bo : Option Addr, ∃ no : Nat, ∃ do_ : Nat, ∃ eo : List Int, ∃ Bs : Option Addr, ∃ ds : Nat, ∃ ss : List Int, ∃ en : Bool, n0 + 3 - k = mz ∧ Env 136 a [(0, .string ⟨s.toArray⟩), (2, .pointer (some ⟨g51, 0, none⟩)), (3, .pointer (some ⟨g53, 0, none⟩)), (4, .pointer (some ⟨g55, 0, none⟩)), (5, .slice Bs j ds), (6, .int .i64 (at_ : Nat)), (7, .bool en), (8, .int .i64 (k : Nat))] ∧ St w0 w [bk g55 #[.int .i64 iv, .int .i64 gv, .slice Bc j dc, .slice Bo no do_] 25, bk g53 #[.int .i64 0, .int .i64 0] 59, bk g51 #[.int .i64 0, .int .i64 0, .slice none 0 0, .slice none 0 0] 25, rowS notU 37 5 Bc j dc (fl fJ cs), rowS notU 3 1 Bo no do_ (fl fI eo), rowS notU 3 1 Bs j ds (fl fI ss)] [pfPw] ∧ s = pre ++ u ∧ pre.length = at_ ∧ cs = es0.take j ∧ j ≤ n0 ∧ RdS i g es0 es1 n0 n1 k j u iv gv no eo en) _ ⟨0, 0, 0, [], s, 0, 0, none, 0, [], none, 0, 0, [], none, 0, [], false, rfl, henv.sub ⟨rfl, rfl, rfl, rfl, rfl, rfl, rfl, rfl, trivial⟩, hst.pick [3, 4, 5, 2, 1, 0] [0] (by decide), rfl, rfl, rfl, (Nat.zero_le _), (.inl ⟨rfl, rfl, rfl, rfl, rfl, rfl, rfl, hs0⟩)⟩ ?_
  clear henv hst a
  rintro mz a w57 ⟨k, j, at_, pre, u, iv, gv, Bc, dc, cs, Bo, no, do_, eo, Bs, ds, ss, en, rfl, henv, hst, hs, hat, hcs, hjn, hV⟩
  rcases hV with ⟨hk, hj0, rfl, rfl, rfl, rfl, rfl, rfl⟩ | ⟨⟨op, tr, ra, rb, cn⟩, hk, he0, rfl, rfl, rfl, rfl, rfl, rfl⟩ | ⟨hk, rfl, rfl, rfl, rfl, rfl, rfl, rfl⟩ | ⟨hk, rfl, rfl, rfl, rfl, rfl, rfl, rfl⟩
  · refine wp_seq ?_
    refine wp_block ?_
    refine wp_seq ?_
    have hn10 : (10 : UInt8) ∉ (jn (wHead i (g : Nat))) := jn_no10 (wd_head i g)
    have hsl : at_ + ((jn (wHead i (g : Nat))).length + 1) ≤ 30000 := by have := congrArg List.length hs; simp only [List.length_append, List.length_cons, List.length_nil] at this ⊢; omega
    replace hst : St w0 _ [bk g55 #[.int .i64 0, .int .i64 0, .slice Bc j dc, .slice Bo 0 do_] 25, bk g53 #[.int .i64 0, .int .i64 0] 59, bk g51 #[.int .i64 0, .int .i64 0, .slice none 0 0, .slice none 0 0] 25, rowS notU 37 5 Bc j dc (fl fJ cs), rowS notU 3 1 Bo 0 do_ (fl fI ([])), rowS notU 3 1 Bs j ds (fl fI ss)] [pfPw] := hst
    refine region_seq ?_
    revert a
    refine mA rfl rfl ?_
    refine mA rfl rfl ?_
    refine sA (v := .string ⟨(jn (wHead i (g : Nat)) ++ 10 :: (pTcode es0 ++ (jn (wOuts es1) ++ 10 :: []))).toArray⟩) rfl (fun _ henv => rn_dropE (s := s) (t := (jn (wHead i (g : Nat)) ++ 10 :: (pTcode es0 ++ (jn (wOuts es1) ++ 10 :: [])))) (n := at_) henv Tryd.underlying9 rfl rfl (drop_rd hs hat)) ?_
    intro a henv
    refine seq_step rfl (op_call henv rfl Tryd.call52 rfl (h_nl_yes (la := (jn (wHead i (g : Nat)))) (lb := (pTcode es0 ++ (jn (wOuts es1) ++ 10 :: []))) hn10) ?_)
    rintro e w58 ⟨rfl, hb⟩
    refine ⟨_, rfl, ?_⟩
    clear henv a; intro a henv
    replace hst := hst.call hb
    clear hb
    refine sv (v := .int .i64 ((jn (wHead i (g : Nat))).length : Nat)) henv rfl (rn_assign henv rfl) ?_
    clear henv a; intro a henv
    refine wpList_nil ?_
    refine th_n ?_
    refine wp_seq ?_
    refine region_seq ?_
    revert a
    refine mA rfl rfl ?_
    refine mA rfl rfl ?_
    refine sA (v := .string ⟨(jn (wHead i (g : Nat)) ++ 10 :: (pTcode es0 ++ (jn (wOuts es1) ++ 10 :: []))).toArray⟩) rfl (fun _ henv => rn_dropE (s := s) (t := (jn (wHead i (g : Nat)) ++ 10 :: (pTcode es0 ++ (jn (wOuts es1) ++ 10 :: [])))) (n := at_) henv Tryd.underlying9 rfl rfl (drop_rd hs hat)) ?_
    refine aA rfl rfl ?_
    intro a henv
    refine wpList_nil ?_
    refine th_n ?_
    refine wp_seq ?_
    refine wp_seq ?_
    refine region_seq ?_
    revert a
    refine mA rfl rfl ?_
    refine sA (v := .bool (decide ((((jn (wHead i (g : Nat))).length : Nat) : Int) ≥ (0 : Int)))) rfl (fun _ henv => rn_bin henv rfl rfl rfl) ?_
    intro a henv
    rw [show (decide ((((jn (wHead i (g : Nat))).length : Nat) : Int) ≥ (0 : Int))) = true from (decide_eq_true (by omega))] at henv
    refine wpList_nil ?_
    refine th_n ?_
    refine if_t henv rfl (rfl) ?_
    refine region_seq ?_
    revert a
    refine mA rfl rfl ?_
    refine mA rfl rfl ?_
    refine sA (v := .string ⟨(jn (wHead i (g : Nat))).toArray⟩) rfl (fun _ henv => rn_takeE (s := (jn (wHead i (g : Nat)) ++ 10 :: (pTcode es0 ++ (jn (wOuts es1) ++ 10 :: [])))) (t := (jn (wHead i (g : Nat)))) (n := (jn (wHead i (g : Nat))).length) henv Tryd.underlying9 rfl rfl take_line) ?_
    refine aA rfl rfl ?_
    intro a henv
    refine wpList_nil ?_
    refine th_n ?_
    refine wp_seq ?_
    refine region_seq ?_
    revert a
    refine mA rfl rfl ?_
    refine sA (v := .bool (decide ((((jn (wHead i (g : Nat))).length : Nat) : Int) ≥ (0 : Int)))) rfl (fun _ henv => rn_bin henv rfl rfl rfl) ?_
    intro a henv
    rw [show (decide ((((jn (wHead i (g : Nat))).length : Nat) : Int) ≥ (0 : Int))) = true from (decide_eq_true (by omega))] at henv
    refine sv (v := .bool true) henv rfl (rn_assign henv rfl) ?_
    clear henv a; intro a henv
    refine wpList_nil ?_
    refine th_n ?_
    refine wp_seq ?_
    refine wp_block ?_
    refine wp_seq ?_
    refine region_seq ?_
    revert a
    refine mA rfl rfl ?_
    refine mA rfl rfl ?_
    refine sA (v := .int .i64 (s.length : Nat)) rfl (fun _ henv => rn_lenS henv Tryd.underlying9 rfl) ?_
    refine sA (v := .bool (((at_ : Nat) : Int) == ((s.length : Nat) : Int))) rfl (fun _ henv => rn_bin henv rfl rfl rfl) ?_
    intro a henv
    rw [show (((at_ : Nat) : Int) == ((s.length : Nat) : Int)) = false from (beq_eq_false_iff_ne.2 (by have := congrArg List.length hs; simp only [List.length_append, List.length_cons, List.length_nil] at this; omega))] at henv
    refine sv (v := .bool false) henv rfl (rn_assign henv rfl) ?_
    clear henv a; intro a henv
    refine wpList_nil ?_
    refine th_n ?_
    refine if_f henv rfl (rfl) ?_
    refine wp_seq ?_
    refine region_seq ?_
    revert a
    refine mA rfl rfl ?_
    refine aA rfl rfl ?_
    intro a henv
    refine wpList_nil ?_
    refine th_n ?_
    refine if_f henv rfl (rfl) ?_
    refine wp_seq ?_
    refine region_seq ?_
    revert a
    refine mA rfl rfl ?_
    refine sA (v := .bool (((k : Nat) : Int) == (0 : Int))) rfl (fun _ henv => rn_bin henv rfl rfl rfl) ?_
    intro a henv
    rw [show (((k : Nat) : Int) == (0 : Int)) = true from (by rw [hk]; rfl)] at henv
    refine sv (v := .bool true) henv rfl (rn_assign henv rfl) ?_
    clear henv a; intro a henv
    refine wpList_nil ?_
    refine th_n ?_
    refine if_t henv rfl (rfl) ?_
    refine wp_seq ?_
    refine region_seq ?_
    refine sv (v := .string ⟨(jn (wHead i (g : Nat))).toArray⟩) henv rfl (rn_move henv rfl) ?_
    clear henv a; intro a henv
    refine seq_step rfl (op_call henv rfl Tryd.call53 rfl (h_head (i := i) (g := g) (hst.pat (k := 0) rfl) (by omega) (by omega) (by omega)) ?_)
    rintro e w59 ⟨rfl, hb⟩
    refine ⟨_, rfl, ?_⟩
    clear henv a; intro a henv
    replace hst := hst.call hb
    clear hb
    revert a
    refine mA rfl rfl ?_
    refine sA (v := .int .i64 i) rfl (fun _ henv => rn_extract henv rfl rfl) ?_
    refine sA (v := .int .i64 (g : Nat)) rfl (fun _ henv => rn_extract henv rfl rfl) ?_
    refine sA (v := .bool true) rfl (fun _ henv => rn_extract henv rfl rfl) ?_
    refine aA rfl rfl ?_
    refine aA rfl rfl ?_
    refine aA rfl rfl ?_
    intro a henv
    refine wpList_nil ?_
    refine th_n ?_
    refine region_seq ?_
    revert a
    refine mA rfl rfl ?_
    refine mA rfl rfl ?_
    refine mA rfl rfl ?_
    refine mA rfl rfl ?_
    refine gA (v := .bool true) rfl rfl rfl rfl (fun _ henv => rn_move henv rfl) ?_
    refine sA (v := .bool true) rfl (fun _ henv => rn_pick henv rfl rfl) ?_
    refine sA (v := .pointer (some ⟨g55, 0, none⟩)) rfl (fun _ henv => rn_fieldAddr henv fd_anvil_api_Prog_0 (ty_int.size) (by decide) rfl) ?_
    intro a henv
    refine seq_step rfl (op_store1 (k := 0) (c' := #[.int .i64 i, .int .i64 0, .slice Bc j dc, .slice Bo 0 do_]) henv hst (ty_int.size) rfl rfl rfl (by simp) rfl rfl ?_)
    clear henv hst a; intro a w60 henv hst
    refine sv (v := .pointer (some ⟨g55, 1, none⟩)) henv rfl (rn_fieldAddr henv fd_anvil_api_Prog_1 (ty_int.size) (by decide) rfl) ?_
    clear henv a; intro a henv
    refine seq_step rfl (op_store1 (k := 0) (c' := #[.int .i64 i, .int .i64 (g : Nat), .slice Bc j dc, .slice Bo 0 do_]) henv hst (ty_int.size) rfl rfl rfl (by simp) rfl rfl ?_)
    clear henv hst a; intro a w61 henv hst
    refine sv (v := .bool true) henv rfl (rn_assign henv rfl) ?_
    clear henv a; intro a henv
    refine wpList_nil ?_
    refine bl_n (th_n ?_)
    refine wp_seq ?_
    refine wp_seq ?_
    refine region_seq ?_
    revert a
    refine mA rfl rfl ?_
    refine sA (v := .bool false) rfl (fun _ henv => rn_un henv rfl rfl) ?_
    intro a henv
    refine wpList_nil ?_
    refine th_n ?_
    refine if_f henv rfl (rfl) ?_
    refine wp_skip ?_
    refine th_n ?_
    refine region_seq ?_
    revert a
    refine mA rfl rfl ?_
    refine mA rfl rfl ?_
    refine sA (v := .int .i64 ((jn (wHead i (g : Nat))).length : Nat)) rfl (fun _ henv => rn_lenS henv Tryd.underlying9 rfl) ?_
    refine sA (v := .int .i64 (((jn (wHead i (g : Nat))).length) + 1 : Nat)) rfl (fun _ henv => rn_add henv rfl rfl (by rw [IntWalk.i64_in _ (by omega)]; omega)) ?_
    refine sA (v := .int .i64 (at_ + (((jn (wHead i (g : Nat))).length) + 1) : Nat)) rfl (fun _ henv => rn_add henv rfl rfl (by rw [IntWalk.i64_in _ (by omega)]; omega)) ?_
    refine aA rfl rfl ?_
    intro a henv
    refine wpList_nil ?_
    refine bl_n (th_n ?_)
    refine region_seq ?_
    revert a
    refine mA rfl rfl ?_
    refine sA (v := .int .i64 (k + 1 : Nat)) rfl (fun _ henv => rn_add henv rfl rfl (by rw [IntWalk.i64_in _ (by omega)]; omega)) ?_
    refine aA rfl rfl ?_
    intro a henv
    refine wpList_nil ?_
    exact th_n ⟨_, (by omega), ⟨k + 1, j, at_ + (((jn (wHead i (g : Nat))).length) + 1), pre ++ ((jn (wHead i (g : Nat))) ++ [10]), (pTcode es0 ++ (jn (wOuts es1) ++ 10 :: [])), i, (g : Nat), Bc, dc, cs, Bo, 0, do_, ([]), Bs, ds, ss, false, rfl, henv.sub ⟨rfl, rfl, rfl, rfl, rfl, rfl, rfl, rfl, trivial⟩, hst.pick [0, 1, 2, 3, 4, 5] [0] (by decide), (by rw [hs]; simp), (by rw [← hat]; simp; try omega), hcs, (by omega), (rd_next0 hk hj0 hlen0)⟩⟩
  · refine wp_seq ?_
    refine wp_block ?_
    refine wp_seq ?_
    have hmy : May (op, tr, ra, rb, cn) g := hR.2.2 _ (List.mem_of_getElem? he0)
    have hll := line_len hmy (by omega)
    have hjlt := lt_of_some he0 hlen0
    have hn10 : (10 : UInt8) ∉ (jn (wOf (op, tr, ra, rb, cn))) := line_no10 _
    have hsl : at_ + ((jn (wOf (op, tr, ra, rb, cn))).length + 1) ≤ 30000 := by have := congrArg List.length hs; simp only [List.length_append, List.length_cons, List.length_nil] at this ⊢; omega
    replace hst : St w0 _ [bk g55 #[.int .i64 i, .int .i64 ((g : Nat) : Int), .slice Bc j dc, .slice Bo 0 do_] 25, bk g53 #[.int .i64 0, .int .i64 0] 59, bk g51 #[.int .i64 0, .int .i64 0, .slice none 0 0, .slice none 0 0] 25, rowS notU 37 5 Bc j dc (fl fJ cs), rowS notU 3 1 Bo 0 do_ (fl fI ([])), rowS notU 3 1 Bs j ds (fl fI ss)] [pfPw] := hst
    refine region_seq ?_
    revert a
    refine mA rfl rfl ?_
    refine mA rfl rfl ?_
    refine sA (v := .string ⟨((jn (wOf (op, tr, ra, rb, cn))) ++ 10 :: (pTcode (es0.drop (j + 1)) ++ (jn (wOuts es1) ++ 10 :: []))).toArray⟩) rfl (fun _ henv => rn_dropE (s := s) (t := ((jn (wOf (op, tr, ra, rb, cn))) ++ 10 :: (pTcode (es0.drop (j + 1)) ++ (jn (wOuts es1) ++ 10 :: [])))) (n := at_) henv Tryd.underlying9 rfl rfl (drop_rd hs hat)) ?_
    intro a henv
    refine seq_step rfl (op_call henv rfl Tryd.call52 rfl (h_nl_yes (la := (jn (wOf (op, tr, ra, rb, cn)))) (lb := (pTcode (es0.drop (j + 1)) ++ (jn (wOuts es1) ++ 10 :: []))) hn10) ?_)
    rintro e w62 ⟨rfl, hb⟩
    refine ⟨_, rfl, ?_⟩
    clear henv a; intro a henv
    replace hst := hst.call hb
    clear hb
    refine sv (v := .int .i64 ((jn (wOf (op, tr, ra, rb, cn))).length : Nat)) henv rfl (rn_assign henv rfl) ?_
    clear henv a; intro a henv
    refine wpList_nil ?_
    refine th_n ?_
    refine wp_seq ?_
    refine region_seq ?_
    revert a
    refine mA rfl rfl ?_
    refine mA rfl rfl ?_
    refine sA (v := .string ⟨((jn (wOf (op, tr, ra, rb, cn))) ++ 10 :: (pTcode (es0.drop (j + 1)) ++ (jn (wOuts es1) ++ 10 :: []))).toArray⟩) rfl (fun _ henv => rn_dropE (s := s) (t := ((jn (wOf (op, tr, ra, rb, cn))) ++ 10 :: (pTcode (es0.drop (j + 1)) ++ (jn (wOuts es1) ++ 10 :: [])))) (n := at_) henv Tryd.underlying9 rfl rfl (drop_rd hs hat)) ?_
    refine aA rfl rfl ?_
    intro a henv
    refine wpList_nil ?_
    refine th_n ?_
    refine wp_seq ?_
    refine wp_seq ?_
    refine region_seq ?_
    revert a
    refine mA rfl rfl ?_
    refine sA (v := .bool (decide ((((jn (wOf (op, tr, ra, rb, cn))).length : Nat) : Int) ≥ (0 : Int)))) rfl (fun _ henv => rn_bin henv rfl rfl rfl) ?_
    intro a henv
    rw [show (decide ((((jn (wOf (op, tr, ra, rb, cn))).length : Nat) : Int) ≥ (0 : Int))) = true from (decide_eq_true (by omega))] at henv
    refine wpList_nil ?_
    refine th_n ?_
    refine if_t henv rfl (rfl) ?_
    refine region_seq ?_
    revert a
    refine mA rfl rfl ?_
    refine mA rfl rfl ?_
    refine sA (v := .string ⟨(jn (wOf (op, tr, ra, rb, cn))).toArray⟩) rfl (fun _ henv => rn_takeE (s := ((jn (wOf (op, tr, ra, rb, cn))) ++ 10 :: (pTcode (es0.drop (j + 1)) ++ (jn (wOuts es1) ++ 10 :: [])))) (t := (jn (wOf (op, tr, ra, rb, cn)))) (n := (jn (wOf (op, tr, ra, rb, cn))).length) henv Tryd.underlying9 rfl rfl take_line) ?_
    refine aA rfl rfl ?_
    intro a henv
    refine wpList_nil ?_
    refine th_n ?_
    refine wp_seq ?_
    refine region_seq ?_
    revert a
    refine mA rfl rfl ?_
    refine sA (v := .bool (decide ((((jn (wOf (op, tr, ra, rb, cn))).length : Nat) : Int) ≥ (0 : Int)))) rfl (fun _ henv => rn_bin henv rfl rfl rfl) ?_
    intro a henv
    rw [show (decide ((((jn (wOf (op, tr, ra, rb, cn))).length : Nat) : Int) ≥ (0 : Int))) = true from (decide_eq_true (by omega))] at henv
    refine sv (v := .bool true) henv rfl (rn_assign henv rfl) ?_
    clear henv a; intro a henv
    refine wpList_nil ?_
    refine th_n ?_
    refine wp_seq ?_
    refine wp_block ?_
    refine wp_seq ?_
    refine region_seq ?_
    revert a
    refine mA rfl rfl ?_
    refine mA rfl rfl ?_
    refine sA (v := .int .i64 (s.length : Nat)) rfl (fun _ henv => rn_lenS henv Tryd.underlying9 rfl) ?_
    refine sA (v := .bool (((at_ : Nat) : Int) == ((s.length : Nat) : Int))) rfl (fun _ henv => rn_bin henv rfl rfl rfl) ?_
    intro a henv
    rw [show (((at_ : Nat) : Int) == ((s.length : Nat) : Int)) = false from (beq_eq_false_iff_ne.2 (by have := congrArg List.length hs; simp only [List.length_append, List.length_cons, List.length_nil] at this; omega))] at henv
    refine sv (v := .bool false) henv rfl (rn_assign henv rfl) ?_
    clear henv a; intro a henv
    refine wpList_nil ?_
    refine th_n ?_
    refine if_f henv rfl (rfl) ?_
    refine wp_seq ?_
    refine region_seq ?_
    revert a
    refine mA rfl rfl ?_
    refine aA rfl rfl ?_
    intro a henv
    refine wpList_nil ?_
    refine th_n ?_
    refine if_f henv rfl (rfl) ?_
    refine wp_seq ?_
    refine region_seq ?_
    revert a
    refine mA rfl rfl ?_
    refine sA (v := .bool (((k : Nat) : Int) == (0 : Int))) rfl (fun _ henv => rn_bin henv rfl rfl rfl) ?_
    intro a henv
    rw [show (((k : Nat) : Int) == (0 : Int)) = false from (beq_eq_false_iff_ne.2 (by omega))] at henv
    refine sv (v := .bool false) henv rfl (rn_assign henv rfl) ?_
    clear henv a; intro a henv
    refine wpList_nil ?_
    refine th_n ?_
    refine if_f henv rfl (rfl) ?_
    refine wp_seq ?_
    refine region_seq ?_
    refine sv (v := .string ⟨(jn (wOf (op, tr, ra, rb, cn))).toArray⟩) henv rfl (rn_move henv rfl) ?_
    clear henv a; intro a henv
    refine seq_step rfl (op_call henv rfl Tryd.call54 rfl (h_hasp (s := (jn (wOf (op, tr, ra, rb, cn)))) (p := [111, 117, 116]) (b := false) (by omega) (decide_eq_false (line_pre _))) ?_)
    rintro e w63 ⟨rfl, hb⟩
    refine ⟨_, rfl, ?_⟩
    clear henv a; intro a henv
    replace hst := hst.call hb
    clear hb
    refine sv (v := .bool false) henv rfl (rn_assign henv rfl) ?_
    clear henv a; intro a henv
    refine wpList_nil ?_
    refine th_n ?_
    refine if_f henv rfl (rfl) ?_
    refine wp_seq ?_
    refine region_seq ?_
    refine sv (v := .string ⟨(jn (wOf (op, tr, ra, rb, cn))).toArray⟩) henv rfl (rn_move henv rfl) ?_
    clear henv a; intro a henv
    refine seq_step rfl (op_call henv rfl Tryd.call56 rfl (h_instr (e := (op, tr, ra, rb, cn)) (hst.pat (k := 0) rfl) hmy (by omega)) ?_)
    rintro e w64 ⟨rfl, hb⟩
    refine ⟨_, rfl, ?_⟩
    clear henv a; intro a henv
    replace hst := hst.call hb
    clear hb
    revert a
    refine mA rfl rfl ?_
    refine sA (v := .agg #[.int .i64 op, .int .i64 tr, .int .i64 ra, .int .i64 rb, .int .i64 cn]) rfl (fun _ henv => rn_extract henv rfl rfl) ?_
    refine sA (v := .bool true) rfl (fun _ henv => rn_extract henv rfl rfl) ?_
    intro a henv
    refine seq_step rfl (op_alloc (c := #[.int .i64 0, .int .i64 0, .int .i64 0, .int .i64 0, .int .i64 0]) henv hst rfl zero_anvil_api_Instr rfl ?_)
    clear henv hst a; intro a w66 g65 henv hst
    refine seq_step rfl (op_store (k := 0) (c' := #[.int .i64 op, .int .i64 tr, .int .i64 ra, .int .i64 rb, .int .i64 cn]) henv hst (ty_anvil_api_Instr.size) rfl rfl rfl rfl (by simp) rfl rfl ?_)
    clear henv hst a; intro a w67 henv hst
    refine sv (v := .bool true) henv rfl (rn_assign henv rfl) ?_
    clear henv a; intro a henv
    refine wpList_nil ?_
    refine th_n ?_
    refine wp_seq ?_
    refine region_seq ?_
    revert a
    refine sA (v := .pointer (some ⟨g55, 2, none⟩)) rfl (fun _ henv => rn_fieldAddr henv fd_anvil_api_Prog_2 (ty__api_Instr.size) (by decide) rfl) ?_
    refine sA (v := .slice Bc j dc) rfl (fun _ henv => rn_load1 henv ty__api_Instr rfl (hst.oat (k := 1) rfl) rfl) ?_
    refine sA (v := .agg #[.int .i64 op, .int .i64 tr, .int .i64 ra, .int .i64 rb, .int .i64 cn]) rfl (fun _ henv => rn_load0 henv ty_anvil_api_Instr rfl (hst.oat (k := 0) rfl) rfl) ?_
    intro a henv
    refine seq_step rfl (op_buildSlice (z := 5) (pv := #[(0, .agg #[.int .i64 op, .int .i64 tr, .int .i64 ra, .int .i64 rb, .int .i64 cn])]) (c := #[.int .i64 op, .int .i64 tr, .int .i64 ra, .int .i64 rb, .int .i64 cn]) henv hst rfl Tryd.underlying22 (ty_anvil_api_Instr.size) zero_anvil_api_Instr (by decide) (by decide) rfl (by kernel_rfl) ?_)
    clear henv hst a; intro a w69 g68 henv hst
    refine seq_step rfl (op_appendS (k := 5) (j := 0) henv hst rfl Tryd.underlying22 inf_anvil_api_Instr rfl rfl rfl rfl rfl rfl rfl rfl rfl rfl rfl (by unfold maxLen; omega) (by omega) ?_)
    clear henv hst a; intro a w72 g70 c71 henv hst
    rw [show fl fJ cs ++ (#[.int .i64 op, .int .i64 tr, .int .i64 ra, .int .i64 rb, .int .i64 cn] : Array Value).toList = fl fJ (cs ++ [((op, tr, ra, rb, cn) : IE)]) from fl_snoc (f := fJ) cs ((op, tr, ra, rb, cn) : IE)] at hst
    revert a
    refine mA rfl rfl ?_
    refine mA rfl rfl ?_
    refine gA (v := .bool true) rfl rfl rfl rfl (fun _ henv => rn_move henv rfl) ?_
    refine sA (v := .bool true) rfl (fun _ henv => rn_pick henv rfl rfl) ?_
    refine sA (v := .pointer (some ⟨g55, 2, none⟩)) rfl (fun _ henv => rn_fieldAddr henv fd_anvil_api_Prog_2 (ty__api_Instr.size) (by decide) rfl) ?_
    intro a henv
    refine seq_step rfl (op_store1 (k := 2) (c' := #[.int .i64 i, .int .i64 ((g : Nat) : Int), .slice (some ⟨g70, 0, none⟩) (j + 1) c71, .slice Bo 0 do_]) henv hst (ty__api_Instr.size) rfl rfl rfl (by simp) rfl rfl ?_)
    clear henv hst a; intro a w73 henv hst
    refine sv (v := .bool true) henv rfl (rn_assign henv rfl) ?_
    clear henv a; intro a henv
    refine wpList_nil ?_
    refine th_n ?_
    refine region_seq ?_
    revert a
    refine mA rfl rfl ?_
    refine mA rfl rfl ?_
    intro a henv
    refine seq_step rfl (op_buildSlice (z := 1) (pv := #[(0, .int .i64 (at_ : Nat))]) (c := #[.int .i64 (at_ : Nat)]) henv hst rfl Tryd.underlying23 (ty_int.size) zero_int (by decide) (by decide) rfl (by kernel_rfl) ?_)
    clear henv hst a; intro a w75 g74 henv hst
    refine seq_step rfl (op_appendS (k := 8) (j := 0) henv hst rfl Tryd.underlying23 inf_int rfl rfl rfl rfl rfl rfl rfl rfl rfl rfl rfl (by unfold maxLen; omega) (by omega) ?_)
    clear henv hst a; intro a w78 g76 c77 henv hst
    rw [show fl fI ss ++ (#[.int .i64 (at_ : Nat)] : Array Value).toList = fl fI (ss ++ [((at_ : Nat) : Int)]) from fl_snoc (f := fI) ss ((at_ : Nat) : Int)] at hst
    refine sv (v := .slice (some ⟨g76, 0, none⟩) (j + 1) c77) henv rfl (rn_assign henv rfl) ?_
    clear henv a; intro a henv
    refine wpList_nil ?_
    refine bl_n (th_n ?_)
    refine wp_seq ?_
    refine wp_seq ?_
    refine region_seq ?_
    revert a
    refine mA rfl rfl ?_
    refine sA (v := .bool false) rfl (fun _ henv => rn_un henv rfl rfl) ?_
    intro a henv
    refine wpList_nil ?_
    refine th_n ?_
    refine if_f henv rfl (rfl) ?_
    refine wp_skip ?_
    refine th_n ?_
    refine region_seq ?_
    revert a
    refine mA rfl rfl ?_
    refine mA rfl rfl ?_
    refine sA (v := .int .i64 ((jn (wOf (op, tr, ra, rb, cn))).length : Nat)) rfl (fun _ henv => rn_lenS henv Tryd.underlying9 rfl) ?_
    refine sA (v := .int .i64 (((jn (wOf (op, tr, ra, rb, cn))).length) + 1 : Nat)) rfl (fun _ henv => rn_add henv rfl rfl (by rw [IntWalk.i64_in _ (by omega)]; omega)) ?_
    refine sA (v := .int .i64 (at_ + (((jn (wOf (op, tr, ra, rb, cn))).length) + 1) : Nat)) rfl (fun _ henv => rn_add henv rfl rfl (by rw [IntWalk.i64_in _ (by omega)]; omega)) ?_
    refine aA rfl rfl ?_
    intro a henv
    refine wpList_nil ?_
    refine bl_n (th_n ?_)
    refine region_seq ?_
    revert a
    refine mA rfl rfl ?_
    refine sA (v := .int .i64 (k + 1 : Nat)) rfl (fun _ henv => rn_add henv rfl rfl (by rw [IntWalk.i64_in _ (by omega)]; omega)) ?_
    refine aA rfl rfl ?_
    intro a henv
    refine wpList_nil ?_
    exact th_n ⟨_, (by omega), ⟨k + 1, j + 1, at_ + (((jn (wOf (op, tr, ra, rb, cn))).length) + 1), pre ++ ((jn (wOf (op, tr, ra, rb, cn))) ++ [10]), (pTcode (es0.drop (j + 1)) ++ (jn (wOuts es1) ++ 10 :: [])), i, ((g : Nat) : Int), (some ⟨g70, 0, none⟩), c71, (cs ++ [((op, tr, ra, rb, cn) : IE)]), Bo, 0, do_, ([]), (some ⟨g76, 0, none⟩), c77, (ss ++ [((at_ : Nat) : Int)]), false, rfl, henv.sub ⟨rfl, rfl, rfl, rfl, rfl, rfl, rfl, rfl, trivial⟩, hst.pick [3, 4, 5, 6, 7, 8] [0] (by decide), (by rw [hs]; simp), (by rw [← hat]; simp; try omega), (by rw [hcs, take_one he0]), (lt_of_some he0 hlen0), (rd_next1 hk he0 hlen0)⟩⟩
  · refine wp_seq ?_
    refine wp_block ?_
    refine wp_seq ?_
    have hn10 : (10 : UInt8) ∉ (jn (wOuts es1)) := jn_no10 (wd_outs es1)
    have hsl : at_ + ((jn (wOuts es1)).length + 1) ≤ 30000 := by have := congrArg List.length hs; simp only [List.length_append, List.length_cons, List.length_nil] at this ⊢; omega
    replace hst : St w0 _ [bk g55 #[.int .i64 i, .int .i64 ((g : Nat) : Int), .slice Bc n0 dc, .slice Bo 0 do_] 25, bk g53 #[.int .i64 0, .int .i64 0] 59, bk g51 #[.int .i64 0, .int .i64 0, .slice none 0 0, .slice none 0 0] 25, rowS notU 37 5 Bc n0 dc (fl fJ cs), rowS notU 3 1 Bo 0 do_ (fl fI ([])), rowS notU 3 1 Bs n0 ds (fl fI ss)] [pfPw] := hst
    refine region_seq ?_
    revert a
    refine mA rfl rfl ?_
    refine mA rfl rfl ?_
    refine sA (v := .string ⟨(jn (wOuts es1) ++ 10 :: []).toArray⟩) rfl (fun _ henv => rn_dropE (s := s) (t := (jn (wOuts es1) ++ 10 :: [])) (n := at_) henv Tryd.underlying9 rfl rfl (drop_rd hs hat)) ?_
    intro a henv
    refine seq_step rfl (op_call henv rfl Tryd.call52 rfl (h_nl_yes (la := (jn (wOuts es1))) (lb := []) hn10) ?_)
    rintro e w79 ⟨rfl, hb⟩
    refine ⟨_, rfl, ?_⟩
    clear henv a; intro a henv
    replace hst := hst.call hb
    clear hb
    refine sv (v := .int .i64 ((jn (wOuts es1)).length : Nat)) henv rfl (rn_assign henv rfl) ?_
    clear henv a; intro a henv
    refine wpList_nil ?_
    refine th_n ?_
    refine wp_seq ?_
    refine region_seq ?_
    revert a
    refine mA rfl rfl ?_
    refine mA rfl rfl ?_
    refine sA (v := .string ⟨(jn (wOuts es1) ++ 10 :: []).toArray⟩) rfl (fun _ henv => rn_dropE (s := s) (t := (jn (wOuts es1) ++ 10 :: [])) (n := at_) henv Tryd.underlying9 rfl rfl (drop_rd hs hat)) ?_
    refine aA rfl rfl ?_
    intro a henv
    refine wpList_nil ?_
    refine th_n ?_
    refine wp_seq ?_
    refine wp_seq ?_
    refine region_seq ?_
    revert a
    refine mA rfl rfl ?_
    refine sA (v := .bool (decide ((((jn (wOuts es1)).length : Nat) : Int) ≥ (0 : Int)))) rfl (fun _ henv => rn_bin henv rfl rfl rfl) ?_
    intro a henv
    rw [show (decide ((((jn (wOuts es1)).length : Nat) : Int) ≥ (0 : Int))) = true from (decide_eq_true (by omega))] at henv
    refine wpList_nil ?_
    refine th_n ?_
    refine if_t henv rfl (rfl) ?_
    refine region_seq ?_
    revert a
    refine mA rfl rfl ?_
    refine mA rfl rfl ?_
    refine sA (v := .string ⟨(jn (wOuts es1)).toArray⟩) rfl (fun _ henv => rn_takeE (s := (jn (wOuts es1) ++ 10 :: [])) (t := (jn (wOuts es1))) (n := (jn (wOuts es1)).length) henv Tryd.underlying9 rfl rfl take_line) ?_
    refine aA rfl rfl ?_
    intro a henv
    refine wpList_nil ?_
    refine th_n ?_
    refine wp_seq ?_
    refine region_seq ?_
    revert a
    refine mA rfl rfl ?_
    refine sA (v := .bool (decide ((((jn (wOuts es1)).length : Nat) : Int) ≥ (0 : Int)))) rfl (fun _ henv => rn_bin henv rfl rfl rfl) ?_
    intro a henv
    rw [show (decide ((((jn (wOuts es1)).length : Nat) : Int) ≥ (0 : Int))) = true from (decide_eq_true (by omega))] at henv
    refine sv (v := .bool true) henv rfl (rn_assign henv rfl) ?_
    clear henv a; intro a henv
    refine wpList_nil ?_
    refine th_n ?_
    refine wp_seq ?_
    refine wp_block ?_
    refine wp_seq ?_
    refine region_seq ?_
    revert a
    refine mA rfl rfl ?_
    refine mA rfl rfl ?_
    refine sA (v := .int .i64 (s.length : Nat)) rfl (fun _ henv => rn_lenS henv Tryd.underlying9 rfl) ?_
    refine sA (v := .bool (((at_ : Nat) : Int) == ((s.length : Nat) : Int))) rfl (fun _ henv => rn_bin henv rfl rfl rfl) ?_
    intro a henv
    rw [show (((at_ : Nat) : Int) == ((s.length : Nat) : Int)) = false from (beq_eq_false_iff_ne.2 (by have := congrArg List.length hs; simp only [List.length_append, List.length_cons, List.length_nil] at this; omega))] at henv
    refine sv (v := .bool false) henv rfl (rn_assign henv rfl) ?_
    clear henv a; intro a henv
    refine wpList_nil ?_
    refine th_n ?_
    refine if_f henv rfl (rfl) ?_
    refine wp_seq ?_
    refine region_seq ?_
    revert a
    refine mA rfl rfl ?_
    refine aA rfl rfl ?_
    intro a henv
    refine wpList_nil ?_
    refine th_n ?_
    refine if_f henv rfl (rfl) ?_
    refine wp_seq ?_
    refine region_seq ?_
    revert a
    refine mA rfl rfl ?_
    refine sA (v := .bool (((k : Nat) : Int) == (0 : Int))) rfl (fun _ henv => rn_bin henv rfl rfl rfl) ?_
    intro a henv
    rw [show (((k : Nat) : Int) == (0 : Int)) = false from (beq_eq_false_iff_ne.2 (by omega))] at henv
    refine sv (v := .bool false) henv rfl (rn_assign henv rfl) ?_
    clear henv a; intro a henv
    refine wpList_nil ?_
    refine th_n ?_
    refine if_f henv rfl (rfl) ?_
    refine wp_seq ?_
    refine region_seq ?_
    refine sv (v := .string ⟨(jn (wOuts es1)).toArray⟩) henv rfl (rn_move henv rfl) ?_
    clear henv a; intro a henv
    refine seq_step rfl (op_call henv rfl Tryd.call54 rfl (h_hasp (s := (jn (wOuts es1))) (p := [111, 117, 116]) (b := true) (by omega) (decide_eq_true (outs_pre es1))) ?_)
    rintro e w80 ⟨rfl, hb⟩
    refine ⟨_, rfl, ?_⟩
    clear henv a; intro a henv
    replace hst := hst.call hb
    clear hb
    refine sv (v := .bool true) henv rfl (rn_assign henv rfl) ?_
    clear henv a; intro a henv
    refine wpList_nil ?_
    refine th_n ?_
    refine if_t henv rfl (rfl) ?_
    refine wp_seq ?_
    refine region_seq ?_
    refine sv (v := .string ⟨(jn (wOuts es1)).toArray⟩) henv rfl (rn_move henv rfl) ?_
    clear henv a; intro a henv
    refine seq_step rfl (op_call henv rfl Tryd.call55 rfl (h_outs (hst.pat (k := 0) rfl) hlen1 (by omega) (by omega) hox) ?_)
    rintro e w83 ⟨A81, c82, rfl, hr, hb⟩
    refine ⟨_, rfl, ?_⟩
    clear henv a; intro a henv
    replace hst := hst.freshRow hb hr (fun _ _ _ _ _ q => by obtain ⟨_, _, q⟩ := q; cases q)
    clear hr
    clear hb
    revert a
    refine mA rfl rfl ?_
    refine sA (v := .slice A81 n1 c82) rfl (fun _ henv => rn_extract henv rfl rfl) ?_
    refine sA (v := .bool true) rfl (fun _ henv => rn_extract henv rfl rfl) ?_
    refine aA rfl rfl ?_
    refine aA rfl rfl ?_
    intro a henv
    refine wpList_nil ?_
    refine th_n ?_
    refine region_seq ?_
    revert a
    refine mA rfl rfl ?_
    refine mA rfl rfl ?_
    refine mA rfl rfl ?_
    refine gA (v := .bool true) rfl rfl rfl rfl (fun _ henv => rn_move henv rfl) ?_
    refine sA (v := .bool true) rfl (fun _ henv => rn_pick henv rfl rfl) ?_
    refine sA (v := .pointer (some ⟨g55, 3, none⟩)) rfl (fun _ henv => rn_fieldAddr henv fd_anvil_api_Prog_3 (ty__int.size) (by decide) rfl) ?_
    intro a henv
    refine seq_step rfl (op_store1 (k := 1) (c' := #[.int .i64 i, .int .i64 ((g : Nat) : Int), .slice Bc n0 dc, .slice A81 n1 c82]) henv hst (ty__int.size) rfl rfl rfl (by simp) rfl rfl ?_)
    clear henv hst a; intro a w84 henv hst
    revert a
    refine aA rfl rfl ?_
    refine aA rfl rfl ?_
    intro a henv
    refine wpList_nil ?_
    refine bl_n (th_n ?_)
    refine wp_seq ?_
    refine wp_seq ?_
    refine region_seq ?_
    revert a
    refine mA rfl rfl ?_
    refine sA (v := .bool false) rfl (fun _ henv => rn_un henv rfl rfl) ?_
    intro a henv
    refine wpList_nil ?_
    refine th_n ?_
    refine if_f henv rfl (rfl) ?_
    refine wp_skip ?_
    refine th_n ?_
    refine region_seq ?_
    revert a
    refine mA rfl rfl ?_
    refine mA rfl rfl ?_
    refine sA (v := .int .i64 ((jn (wOuts es1)).length : Nat)) rfl (fun _ henv => rn_lenS henv Tryd.underlying9 rfl) ?_
    refine sA (v := .int .i64 (((jn (wOuts es1)).length) + 1 : Nat)) rfl (fun _ henv => rn_add henv rfl rfl (by rw [IntWalk.i64_in _ (by omega)]; omega)) ?_
    refine sA (v := .int .i64 (at_ + (((jn (wOuts es1)).length) + 1) : Nat)) rfl (fun _ henv => rn_add henv rfl rfl (by rw [IntWalk.i64_in _ (by omega)]; omega)) ?_
    refine aA rfl rfl ?_
    intro a henv
    refine wpList_nil ?_
    refine bl_n (th_n ?_)
    refine region_seq ?_
    revert a
    refine mA rfl rfl ?_
    refine sA (v := .int .i64 (k + 1 : Nat)) rfl (fun _ henv => rn_add henv rfl rfl (by rw [IntWalk.i64_in _ (by omega)]; omega)) ?_
    refine aA rfl rfl ?_
    intro a henv
    refine wpList_nil ?_
    exact th_n ⟨_, (by omega), ⟨k + 1, n0, at_ + (((jn (wOuts es1)).length) + 1), pre ++ ((jn (wOuts es1)) ++ [10]), [], i, ((g : Nat) : Int), Bc, dc, cs, A81, n1, c82, es1, Bs, ds, ss, true, rfl, henv.sub ⟨rfl, rfl, rfl, rfl, rfl, rfl, rfl, rfl, trivial⟩, hst.pick [1, 2, 3, 4, 0, 6] [1] (by decide), (by rw [hs]; simp), (by rw [← hat]; simp; try omega), hcs, (by omega), (.inr (.inr (.inr ⟨by omega, rfl, rfl, rfl, rfl, rfl, rfl, rfl⟩)))⟩⟩
  · refine wp_seq ?_
    refine wp_block ?_
    refine wp_seq ?_
    have hatl : at_ = s.length := by rw [hs, List.append_nil, hat]
    replace hst : St w0 _ [bk g55 #[.int .i64 i, .int .i64 ((g : Nat) : Int), .slice Bc n0 dc, .slice Bo n1 do_] 25, bk g53 #[.int .i64 0, .int .i64 0] 59, bk g51 #[.int .i64 0, .int .i64 0, .slice none 0 0, .slice none 0 0] 25, rowS notU 37 5 Bc n0 dc (fl fJ cs), rowS notU 3 1 Bo n1 do_ (fl fI es1), rowS notU 3 1 Bs n0 ds (fl fI ss)] [pfPw] := hst
    refine region_seq ?_
    revert a
    refine mA rfl rfl ?_
    refine mA rfl rfl ?_
    refine sA (v := .string ⟨([]).toArray⟩) rfl (fun _ henv => rn_dropE (s := s) (t := []) (n := at_) henv Tryd.underlying9 rfl rfl (drop_rd hs hat)) ?_
    intro a henv
    refine seq_step rfl (op_call henv rfl Tryd.call52 rfl (h_nl_no (s := []) (by simp)) ?_)
    rintro e w85 ⟨rfl, hb⟩
    refine ⟨_, rfl, ?_⟩
    clear henv a; intro a henv
    replace hst := hst.call hb
    clear hb
    refine sv (v := .int .i64 (-1)) henv rfl (rn_assign henv rfl) ?_
    clear henv a; intro a henv
    refine wpList_nil ?_
    refine th_n ?_
    refine wp_seq ?_
    refine region_seq ?_
    revert a
    refine mA rfl rfl ?_
    refine mA rfl rfl ?_
    refine sA (v := .string ⟨([]).toArray⟩) rfl (fun _ henv => rn_dropE (s := s) (t := []) (n := at_) henv Tryd.underlying9 rfl rfl (drop_rd hs hat)) ?_
    refine aA rfl rfl ?_
    intro a henv
    refine wpList_nil ?_
    refine th_n ?_
    refine wp_seq ?_
    refine wp_seq ?_
    refine region_seq ?_
    revert a
    refine mA rfl rfl ?_
    refine sA (v := .bool false) rfl (fun _ henv => rn_bin henv rfl rfl rfl) ?_
    intro a henv
    refine wpList_nil ?_
    refine th_n ?_
    refine if_f henv rfl (rfl) ?_
    refine wp_skip ?_
    refine th_n ?_
    refine wp_seq ?_
    refine region_seq ?_
    revert a
    refine mA rfl rfl ?_
    refine sA (v := .bool false) rfl (fun _ henv => rn_bin henv rfl rfl rfl) ?_
    refine aA rfl rfl ?_
    intro a henv
    refine wpList_nil ?_
    refine th_n ?_
    refine wp_seq ?_
    refine wp_block ?_
    refine wp_seq ?_
    refine region_seq ?_
    revert a
    refine mA rfl rfl ?_
    refine mA rfl rfl ?_
    refine sA (v := .int .i64 (s.length : Nat)) rfl (fun _ henv => rn_lenS henv Tryd.underlying9 rfl) ?_
    refine sA (v := .bool (((at_ : Nat) : Int) == ((s.length : Nat) : Int))) rfl (fun _ henv => rn_bin henv rfl rfl rfl) ?_
    intro a henv
    rw [show (((at_ : Nat) : Int) == ((s.length : Nat) : Int)) = true from (by rw [hatl]; exact beq_self_eq_true _)] at henv
    refine sv (v := .bool true) henv rfl (rn_assign henv rfl) ?_
    clear henv a; intro a henv
    refine wpList_nil ?_
    refine th_n ?_
    refine if_t henv rfl (rfl) ?_
    refine wp_exit ?_
    refine bl_o rfl (th_x (bl_o rfl (th_x (th_x (bl_x (th_n ?_))))))
    refine wp_seq ?_
    refine wp_seq ?_
    have hcf : cs = es0 := by rw [hcs, List.take_of_length_le (by omega)]
    rw [hcf] at hst
    refine region_seq ?_
    revert a
    refine mA rfl rfl ?_
    refine sA (v := .bool false) rfl (fun _ henv => rn_un henv rfl rfl) ?_
    intro a henv
    refine wpList_nil ?_
    refine th_n ?_
    refine if_f henv rfl (rfl) ?_
    refine wp_skip ?_
    refine th_n ?_
    refine wp_seq ?_
    refine region_seq ?_
    refine sv (v := .agg #[.int .i64 i, .int .i64 ((g : Nat) : Int), .slice Bc n0 dc, .slice Bo n1 do_]) henv rfl (rn_load0 henv ty_anvil_api_Prog rfl (hst.oat (k := 0) rfl) rfl) ?_
    clear henv a; intro a henv
    refine seq_step rfl (op_call henv rfl Tryd.call11 rfl (g_check_ok_ ⟨rowS_rd (hst.owns (k := 3) rfl), hlen0, fun _ _ => trivial⟩ ⟨rowS_rd (hst.owns (k := 4) rfl), hlen1, fun _ _ => trivial⟩ hR) ?_)
    rintro e w86 ⟨rfl, hb⟩
    refine ⟨_, rfl, ?_⟩
    clear henv a; intro a henv
    replace hst := hst.call hb
    clear hb
    revert a
    refine mA rfl rfl ?_
    refine sA (v := .int .i64 0) rfl (fun _ henv => rn_extract henv rfl rfl) ?_
    refine sA (v := .int .i64 0) rfl (fun _ henv => rn_extract henv rfl rfl) ?_
    refine aA rfl rfl ?_
    refine aA rfl rfl ?_
    intro a henv
    refine wpList_nil ?_
    refine th_n ?_
    refine wp_seq ?_
    refine wp_block ?_
    refine wp_seq ?_
    refine region_seq ?_
    revert a
    refine mA rfl rfl ?_
    refine sA (v := .bool true) rfl (fun _ henv => rn_bin henv rfl rfl rfl) ?_
    refine aA rfl rfl ?_
    intro a henv
    refine wpList_nil ?_
    refine th_n ?_
    refine if_t henv rfl (rfl) ?_
    refine wp_seq ?_
    refine region_seq ?_
    revert a
    refine sA (v := .agg #[.int .i64 i, .int .i64 ((g : Nat) : Int), .slice Bc n0 dc, .slice Bo n1 do_]) rfl (fun _ henv => rn_load0 henv ty_anvil_api_Prog rfl (hst.oat (k := 0) rfl) rfl) ?_
    refine sA (v := .agg #[.int .i64 0, .int .i64 0]) rfl (fun _ henv => rn_spot0) ?_
    intro a henv
    refine seq_step rfl (op_store (k := 2) (c' := #[.int .i64 i, .int .i64 ((g : Nat) : Int), .slice Bc n0 dc, .slice Bo n1 do_]) henv hst (ty_anvil_api_Prog.size) rfl rfl rfl rfl (by simp) rfl rfl ?_)
    clear henv hst a; intro a w87 henv hst
    refine seq_step rfl (op_store (k := 1) (c' := #[.int .i64 0, .int .i64 0]) henv hst (ty_anvil_api_Spot.size) rfl rfl rfl rfl (by simp) rfl rfl ?_)
    clear henv hst a; intro a w88 henv hst
    refine wpList_nil ?_
    refine th_n ?_
    refine wp_ret ?_
    refine bl_r (th_r (sc_r ?_))
    refine leave henv (res2 Tryd.results33 (RV.cell henv ty_anvil_api_Prog rfl (hst.oat (k := 2) rfl) rfl) (RV.cell henv ty_anvil_api_Spot rfl (hst.oat (k := 1) rfl) rfl)) ?_
    exact ⟨_, _, _, _, rfl, newrow_of (hst.owns (k := 3) rfl) (fun b hb => hst.new _ (List.mem_of_getElem? (i := 3) rfl) b hb) rfl, newrow_of (hst.owns (k := 4) rfl) (fun b hb => hst.new _ (List.mem_of_getElem? (i := 4) rfl) b hb) rfl, hst.below⟩
end Go.Proofs.YtbdngknpngcojaaDoor.W

/- ProgTexts. Printed by pv/gen_h7.py. Condition: the table uint64pow10 is as laid (Pw). -/
namespace Go.Proofs.YtbdngknpngcojaaDoor.W
open Go.RowKit Anv Go.Lib
theorem h_text_tx {i : Int} {g : Nat} {A0 A1 : Option Addr} {n0 c0 n1 c1 : Nat} {es0 : List IE} {es1 : List Int} {tx : List UInt8} {w0 : World} (hP : Pw w0) (htx : tx = pTall i g es0 es1) (h0 : (pfRow fJ FJ 5 A0 n0 c0 es0).P w0) (h1 : (pfRow fI FI 1 A1 n1 c1 es1).P w0) (hR : Right i g n0 n1 es0 es1) :
    Calls Tryd.prog 31 #[.agg #[.int .i64 i, .int .i64 (g : Nat), .slice A0 n0 c0, .slice A1 n1 c1]] w0 fun e w' => e = .returned (.tuple #[.string ⟨tx.toArray⟩, .int .i64 0]) ∧ Below w0.heap.size w0 w' := by
  rw [htx]; exact h_text_ok hP h0 h1 hR
theorem r_text_tx {i : Int} {g : Nat} {A0 A1 : Option Addr} {n0 c0 n1 c1 : Nat} {es0 : List IE} {es1 : List Int} {tx : List UInt8} {w0 : World} (htx : tx = pTall i g es0 es1) (h0 : (pfRow fJ FJ 5 A0 n0 c0 es0).P w0) (h1 : (pfRow fI FI 1 A1 n1 c1 es1).P w0) (hR : Right i g n0 n1 es0 es1) :
    Calls Tryd.prog 32 #[.agg #[.int .i64 i, .int .i64 (g : Nat), .slice A0 n0 c0, .slice A1 n1 c1]] w0 fun e w' => e = .returned (.string ⟨tx.toArray⟩) ∧ Below w0.heap.size w0 w' := by
  rw [htx]; exact r_text h0 h1 hR
set_option maxRecDepth 100000 in
set_option maxHeartbeats 8000000 in
theorem gtexts_w {i g : Int} {A0 A1 : Option Addr} {n0 c0 n1 c1 : Nat} {es0 : List IE} {es1 : List Int} {w0 : World} (h0 : (pfRow fJ FJ 5 A0 n0 c0 es0).P w0) (h1 : (pfRow fI FI 1 A1 n1 c1 es1).P w0) (hv : 400 < n0 ∨ 400 < n1) :
    Calls Tryd.prog 8 #[.agg #[.int .i64 i, .int .i64 g, .slice A0 n0 c0, .slice A1 n1 c1]] w0 fun e w' => e = .returned (.bool true) ∧ Below w0.heap.size w0 w' := by
  refine enter Tryd.func8 rfl Tryd.ntmps8 rfl ?_
  intro a henv hst
  have hlen0 := h0.2.1
  have hbig0 := Nat.le_trans h0.1.cap h0.1.big
  unfold maxLen at hbig0
  have hlen1 := h1.2.1
  have hbig1 := Nat.le_trans h1.1.cap h1.1.big
  unfold maxLen at hbig1
  replace hst := hst.argRow h0
  replace hst := hst.argRow h1
  clear h0 h1
  refine wp_seq ?_
  refine region_seq ?_
  refine seq_step rfl (op_box (c := #[.int .i64 i, .int .i64 g, .slice A0 n0 c0, .slice A1 n1 c1]) henv hst rfl rfl rfl ?_)
  clear henv hst a; intro a w52 g51 henv hst
  refine sv (v := .bool false) henv rfl (rn_assign henv rfl) ?_
  clear henv a; intro a henv
  refine wpList_nil ?_
  refine th_n ?_
  refine wp_seq ?_
  refine wp_seq ?_
  refine region_seq ?_
  refine seq_step rfl (op_call henv rfl Tryd.call10 rfl g_live ?_)
  rintro e w53 ⟨rfl, hb⟩
  refine ⟨_, rfl, ?_⟩
  clear henv a; intro a henv
  replace hst := hst.call hb
  clear hb
  refine sv (v := .bool false) henv rfl (rn_un henv rfl rfl) ?_
  clear henv a; intro a henv
  refine wpList_nil ?_
  refine th_n ?_
  refine if_f henv rfl (rfl) ?_
  refine wp_skip ?_
  refine th_n ?_
  refine wp_seq ?_
  refine wp_seq ?_
  refine region_seq ?_
  refine sv (v := .agg #[.int .i64 i, .int .i64 g, .slice A0 n0 c0, .slice A1 n1 c1]) henv rfl (rn_load0 henv ty_anvil_api_Prog rfl (hst.oat (k := 0) rfl) rfl) ?_
  clear henv a; intro a henv
  refine seq_step rfl (op_call henv rfl Tryd.call13 rfl (g_long (i := i) (g := g) (A0 := A0) (n0 := n0) (c0 := c0) (A1 := A1) (n1 := n1) (c1 := c1)) ?_)
  rintro e w54 ⟨rfl, hb⟩
  refine ⟨_, rfl, ?_⟩
  clear henv a; intro a henv
  replace hst := hst.call hb
  clear hb
  rw [show (decide (400 < n0 ∨ 400 < n1)) = true from (decide_eq_true hv)] at henv
  refine wpList_nil ?_
  refine th_n ?_
  refine if_t henv rfl (rfl) ?_
  refine wp_seq ?_
  refine region_seq ?_
  refine sv (v := .bool true) henv rfl (rn_assign henv rfl) ?_
  clear henv a; intro a henv
  refine wpList_nil ?_
  refine th_n ?_
  refine wp_ret ?_
  refine th_r ?_
  refine leave henv (res1 Tryd.results8 (RV.tmp henv rfl)) ?_
  exact ⟨rfl, hst.below⟩
set_option maxRecDepth 100000 in
set_option maxHeartbeats 8000000 in
theorem gtexts_ok {i : Int} {g : Nat} {A0 A1 : Option Addr} {n0 c0 n1 c1 : Nat} {es0 : List IE} {es1 : List Int} {w0 : World} (h0 : (pfRow fJ FJ 5 A0 n0 c0 es0).P w0) (h1 : (pfRow fI FI 1 A1 n1 c1 es1).P w0) (hP : Pw w0) (hv : ¬ (400 < n0 ∨ 400 < n1)) (hR : Right i g n0 n1 es0 es1) :
    Calls Tryd.prog 8 #[.agg #[.int .i64 i, .int .i64 (g : Nat), .slice A0 n0 c0, .slice A1 n1 c1]] w0 fun e w' => e = .returned (.bool true) ∧ Below w0.heap.size w0 w' := by
  obtain ⟨tx, htx⟩ : ∃ tx, tx = pTall i g es0 es1 := ⟨_, rfl⟩
  refine enter Tryd.func8 rfl Tryd.ntmps8 rfl ?_
  intro a henv hst
  replace hst := hst.argP pfPw hP
  have hlen0 := h0.2.1
  have hbig0 := Nat.le_trans h0.1.cap h0.1.big
  unfold maxLen at hbig0
  have hlen1 := h1.2.1
  have hbig1 := Nat.le_trans h1.1.cap h1.1.big
  unfold maxLen at hbig1
  replace hst := hst.argRow h0
  replace hst := hst.argRow h1
  clear h0 h1
  refine wp_seq ?_
  refine region_seq ?_
  refine seq_step rfl (op_box (c := #[.int .i64 i, .int .i64 (g : Nat), .slice A0 n0 c0, .slice A1 n1 c1]) henv hst rfl rfl rfl ?_)
  clear henv hst a; intro a w52 g51 henv hst
  refine sv (v := .bool false) henv rfl (rn_assign henv rfl) ?_
  clear henv a; intro a henv
  refine wpList_nil ?_
  refine th_n ?_
  refine wp_seq ?_
  refine wp_seq ?_
  refine region_seq ?_
  refine seq_step rfl (op_call henv rfl Tryd.call10 rfl g_live ?_)
  rintro e w53 ⟨rfl, hb⟩
  refine ⟨_, rfl, ?_⟩
  clear henv a; intro a henv
  replace hst := hst.call hb
  clear hb
  refine sv (v := .bool false) henv rfl (rn_un henv rfl rfl) ?_
  clear henv a; intro a henv
  refine wpList_nil ?_
  refine th_n ?_
  refine if_f henv rfl (rfl) ?_
  refine wp_skip ?_
  refine th_n ?_
  refine wp_seq ?_
  refine wp_seq ?_
  refine region_seq ?_
  refine sv (v := .agg #[.int .i64 i, .int .i64 (g : Nat), .slice A0 n0 c0, .slice A1 n1 c1]) henv rfl (rn_load0 henv ty_anvil_api_Prog rfl (hst.oat (k := 0) rfl) rfl) ?_
  clear henv a; intro a henv
  refine seq_step rfl (op_call henv rfl Tryd.call13 rfl (g_long (i := i) (g := (g : Nat)) (A0 := A0) (n0 := n0) (c0 := c0) (A1 := A1) (n1 := n1) (c1 := c1)) ?_)
  rintro e w54 ⟨rfl, hb⟩
  refine ⟨_, rfl, ?_⟩
  clear henv a; intro a henv
  replace hst := hst.call hb
  clear hb
  rw [show (decide (400 < n0 ∨ 400 < n1)) = false from (decide_eq_false hv)] at henv
  refine wpList_nil ?_
  refine th_n ?_
  refine if_f henv rfl (rfl) ?_
  refine wp_skip ?_
  refine th_n ?_
  refine wp_seq ?_
  refine region_seq ?_
  refine sv (v := .agg #[.int .i64 i, .int .i64 (g : Nat), .slice A0 n0 c0, .slice A1 n1 c1]) henv rfl (rn_load0 henv ty_anvil_api_Prog rfl (hst.oat (k := 0) rfl) rfl) ?_
  clear henv a; intro a henv
  refine seq_step rfl (op_call henv rfl Tryd.call31 rfl (h_text_tx (hst.pat (k := 2) rfl) htx (hst.pat (k := 1) rfl) (hst.pat (k := 0) rfl) hR) ?_)
  rintro e w55 ⟨rfl, hb⟩
  refine ⟨_, rfl, ?_⟩
  clear henv a; intro a henv
  replace hst := hst.call hb
  clear hb
  revert a
  refine mA rfl rfl ?_
  refine sA (v := .string ⟨tx.toArray⟩) rfl (fun _ henv => rn_extract henv rfl rfl) ?_
  refine sA (v := .int .i64 0) rfl (fun _ henv => rn_extract henv rfl rfl) ?_
  refine aA rfl rfl ?_
  refine aA rfl rfl ?_
  intro a henv
  refine wpList_nil ?_
  refine th_n ?_
  refine wp_seq ?_
  refine region_seq ?_
  refine sv (v := .agg #[.int .i64 i, .int .i64 (g : Nat), .slice A0 n0 c0, .slice A1 n1 c1]) henv rfl (rn_load0 henv ty_anvil_api_Prog rfl (hst.oat (k := 0) rfl) rfl) ?_
  clear henv a; intro a henv
  refine seq_step rfl (op_call henv rfl Tryd.call15 rfl (r_right_ok (hst.pat (k := 1) rfl) (hst.pat (k := 0) rfl) hR) ?_)
  rintro e w56 ⟨rfl, hb⟩
  refine ⟨_, rfl, ?_⟩
  clear henv a; intro a henv
  replace hst := hst.call hb
  clear hb
  refine sv (v := .bool true) henv rfl (rn_assign henv rfl) ?_
  clear henv a; intro a henv
  refine wpList_nil ?_
  refine th_n ?_
  refine wp_seq ?_
  refine wp_seq ?_
  refine region_seq ?_
  revert a
  refine mA rfl rfl ?_
  refine sA (v := .bool false) rfl (fun _ henv => rn_un henv rfl rfl) ?_
  intro a henv
  refine wpList_nil ?_
  refine th_n ?_
  refine if_f henv rfl (rfl) ?_
  refine wp_skip ?_
  refine th_n ?_
  refine wp_seq ?_
  refine wp_seq ?_
  refine region_seq ?_
  revert a
  refine mA rfl rfl ?_
  refine sA (v := .bool false) rfl (fun _ henv => rn_bin henv rfl rfl rfl) ?_
  refine mA rfl rfl ?_
  refine gA (v := .string ⟨tx.toArray⟩) rfl rfl rfl rfl (fun _ henv => rn_move henv rfl) ?_
  refine gA (v := .agg #[.int .i64 i, .int .i64 (g : Nat), .slice A0 n0 c0, .slice A1 n1 c1]) rfl rfl rfl rfl (fun _ henv => rn_load0 henv ty_anvil_api_Prog rfl (hst.oat (k := 0) rfl) rfl) ?_
  intro a henv
  refine seq_g rfl henv rfl rfl (op_call henv rfl Tryd.call32 rfl (r_text_tx htx (hst.pat (k := 1) rfl) (hst.pat (k := 0) rfl) hR) ?_)
  rintro e w57 ⟨rfl, hb⟩
  refine ⟨_, rfl, ?_⟩
  clear henv a; intro a henv
  replace hst := hst.call hb
  clear hb
  refine seq_g rfl henv rfl rfl (op_val (v := .bool (!decide (tx = tx))) henv rfl (rn_neqs (s := tx) (t := tx) henv rfl rfl) ?_)
  clear henv a; intro a henv
  rw [show (!decide (tx = tx)) = false from (by rw [decide_eq_true rfl]; rfl)] at henv
  refine sv (v := .bool false) henv rfl (rn_pick henv rfl rfl) ?_
  clear henv a; intro a henv
  refine wpList_nil ?_
  refine th_n ?_
  refine if_f henv rfl (rfl) ?_
  refine wp_skip ?_
  refine th_n ?_
  refine wp_seq ?_
  refine region_seq ?_
  refine sv (v := .string ⟨tx.toArray⟩) henv rfl (rn_move henv rfl) ?_
  clear henv a; intro a henv
  refine seq_step rfl (op_call henv rfl Tryd.call33 rfl (h_read_ok (hst.pat (k := 2) rfl) hlen0 hlen1 (by omega) htx hR) ?_)
  rintro e w62 ⟨A58, c59, A60, c61, rfl, hr, hr2, hb⟩
  refine ⟨_, rfl, ?_⟩
  clear henv a; intro a henv
  replace hst := hst.fresh2 hb hr hlen0 (fun _ _ _ _ _ q => by obtain ⟨_, _, q⟩ := q; cases q) hr2 hlen1 (fun _ _ _ _ _ q => by obtain ⟨_, _, q⟩ := q; cases q)
  clear hr
  clear hr2
  clear hb
  revert a
  refine mA rfl rfl ?_
  refine sA (v := .agg #[.int .i64 i, .int .i64 (g : Nat), .slice A58 n0 c59, .slice A60 n1 c61]) rfl (fun _ henv => rn_extract henv rfl rfl) ?_
  refine sA (v := .agg #[.int .i64 0, .int .i64 0]) rfl (fun _ henv => rn_extract henv rfl rfl) ?_
  intro a henv
  refine seq_step rfl (op_alloc (c := #[.int .i64 0, .int .i64 0, .slice none 0 0, .slice none 0 0]) henv hst rfl zero_anvil_api_Prog rfl ?_)
  clear henv hst a; intro a w64 g63 henv hst
  refine seq_step rfl (op_alloc (c := #[.int .i64 0, .int .i64 0]) henv hst rfl zero_anvil_api_Spot rfl ?_)
  clear henv hst a; intro a w66 g65 henv hst
  refine seq_step rfl (op_store (k := 1) (c' := #[.int .i64 i, .int .i64 (g : Nat), .slice A58 n0 c59, .slice A60 n1 c61]) henv hst (ty_anvil_api_Prog.size) rfl rfl rfl rfl (by simp) rfl rfl ?_)
  clear henv hst a; intro a w67 henv hst
  refine seq_step rfl (op_store (k := 0) (c' := #[.int .i64 0, .int .i64 0]) henv hst (ty_anvil_api_Spot.size) rfl rfl rfl rfl (by simp) rfl rfl ?_)
  clear henv hst a; intro a w68 henv hst
  refine wpList_nil ?_
  refine th_n ?_
  refine wp_seq ?_
  refine region_seq ?_
  revert a
  refine sA (v := .pointer (some ⟨g65, 0, none⟩)) rfl (fun _ henv => rn_fieldAddr henv fd_anvil_api_Spot_0 (ty_anvil_api_Errno.size) (by decide) rfl) ?_
  refine sA (v := .int .i64 0) rfl (fun _ henv => rn_load1 henv ty_anvil_api_Errno rfl (hst.oat (k := 0) rfl) rfl) ?_
  refine sA (v := .bool true) rfl (fun _ henv => rn_bin henv rfl rfl rfl) ?_
  refine mA rfl rfl ?_
  refine gA (v := .pointer (some ⟨g65, 1, none⟩)) rfl rfl rfl rfl (fun _ henv => rn_fieldAddr henv fd_anvil_api_Spot_1 (ty_int.size) (by decide) rfl) ?_
  refine gA (v := .int .i64 0) rfl rfl rfl rfl (fun _ henv => rn_load1 henv ty_int rfl (hst.oat (k := 0) rfl) rfl) ?_
  refine gA (v := .bool true) rfl rfl rfl rfl (fun _ henv => rn_bin henv rfl rfl rfl) ?_
  refine sA (v := .bool true) rfl (fun _ henv => rn_pick henv rfl rfl) ?_
  refine mA rfl rfl ?_
  refine gA (v := .agg #[.int .i64 i, .int .i64 (g : Nat), .slice A0 n0 c0, .slice A1 n1 c1]) rfl rfl rfl rfl (fun _ henv => rn_load0 henv ty_anvil_api_Prog rfl (hst.oat (k := 2) rfl) rfl) ?_
  refine gA (v := .agg #[.int .i64 i, .int .i64 (g : Nat), .slice A58 n0 c59, .slice A60 n1 c61]) rfl rfl rfl rfl (fun _ henv => rn_load0 henv ty_anvil_api_Prog rfl (hst.oat (k := 1) rfl) rfl) ?_
  intro a henv
  refine seq_g rfl henv rfl rfl (op_call henv rfl Tryd.call16 rfl (r_same (i := i) (g := (g : Nat)) (i2 := i) (g2 := (g : Nat)) (hst.pat (k := 3) rfl) (hst.pat (k := 2) rfl) (hst.pat (k := 1) rfl) (hst.pat (k := 0) rfl)) ?_)
  rintro e w69 ⟨rfl, hb⟩
  refine ⟨_, rfl, ?_⟩
  clear henv a; intro a henv
  replace hst := hst.call hb
  clear hb
  rw [show (decide (i = i ∧ ((g : Nat) : Int) = (g : Nat) ∧ es0 = es0 ∧ es1 = es1)) = true from (decide_eq_true ⟨rfl, rfl, rfl, rfl⟩)] at henv
  revert a
  refine sA (v := .bool true) rfl (fun _ henv => rn_pick henv rfl rfl) ?_
  refine aA rfl rfl ?_
  intro a henv
  refine wpList_nil ?_
  refine th_n ?_
  refine wp_ret ?_
  refine leave henv (res1 Tryd.results8 (RV.tmp henv rfl)) ?_
  exact ⟨rfl, hst.below⟩
set_option maxRecDepth 100000 in
set_option maxHeartbeats 8000000 in
theorem gtexts_bad {i g : Int} {A0 A1 : Option Addr} {n0 c0 n1 c1 : Nat} {es0 : List IE} {es1 : List Int} {w0 : World} (h0 : (pfRow fJ FJ 5 A0 n0 c0 es0).P w0) (h1 : (pfRow fI FI 1 A1 n1 c1 es1).P w0) {kk : Int} (hv : ¬ (400 < n0 ∨ 400 < n1)) (hR : Wrong i g n0 n1 es0 es1 kk) :
    Calls Tryd.prog 8 #[.agg #[.int .i64 i, .int .i64 g, .slice A0 n0 c0, .slice A1 n1 c1]] w0 fun e w' => e = .returned (.bool true) ∧ Below w0.heap.size w0 w' := by
  refine enter Tryd.func8 rfl Tryd.ntmps8 rfl ?_
  intro a henv hst
  have hlen0 := h0.2.1
  have hbig0 := Nat.le_trans h0.1.cap h0.1.big
  unfold maxLen at hbig0
  have hlen1 := h1.2.1
  have hbig1 := Nat.le_trans h1.1.cap h1.1.big
  unfold maxLen at hbig1
  replace hst := hst.argRow h0
  replace hst := hst.argRow h1
  clear h0 h1
  refine wp_seq ?_
  refine region_seq ?_
  refine seq_step rfl (op_box (c := #[.int .i64 i, .int .i64 g, .slice A0 n0 c0, .slice A1 n1 c1]) henv hst rfl rfl rfl ?_)
  clear henv hst a; intro a w52 g51 henv hst
  refine sv (v := .bool false) henv rfl (rn_assign henv rfl) ?_
  clear henv a; intro a henv
  refine wpList_nil ?_
  refine th_n ?_
  refine wp_seq ?_
  refine wp_seq ?_
  refine region_seq ?_
  refine seq_step rfl (op_call henv rfl Tryd.call10 rfl g_live ?_)
  rintro e w53 ⟨rfl, hb⟩
  refine ⟨_, rfl, ?_⟩
  clear henv a; intro a henv
  replace hst := hst.call hb
  clear hb
  refine sv (v := .bool false) henv rfl (rn_un henv rfl rfl) ?_
  clear henv a; intro a henv
  refine wpList_nil ?_
  refine th_n ?_
  refine if_f henv rfl (rfl) ?_
  refine wp_skip ?_
  refine th_n ?_
  refine wp_seq ?_
  refine wp_seq ?_
  refine region_seq ?_
  refine sv (v := .agg #[.int .i64 i, .int .i64 g, .slice A0 n0 c0, .slice A1 n1 c1]) henv rfl (rn_load0 henv ty_anvil_api_Prog rfl (hst.oat (k := 0) rfl) rfl) ?_
  clear henv a; intro a henv
  refine seq_step rfl (op_call henv rfl Tryd.call13 rfl (g_long (i := i) (g := g) (A0 := A0) (n0 := n0) (c0 := c0) (A1 := A1) (n1 := n1) (c1 := c1)) ?_)
  rintro e w54 ⟨rfl, hb⟩
  refine ⟨_, rfl, ?_⟩
  clear henv a; intro a henv
  replace hst := hst.call hb
  clear hb
  rw [show (decide (400 < n0 ∨ 400 < n1)) = false from (decide_eq_false hv)] at henv
  refine wpList_nil ?_
  refine th_n ?_
  refine if_f henv rfl (rfl) ?_
  refine wp_skip ?_
  refine th_n ?_
  refine wp_seq ?_
  refine region_seq ?_
  refine sv (v := .agg #[.int .i64 i, .int .i64 g, .slice A0 n0 c0, .slice A1 n1 c1]) henv rfl (rn_load0 henv ty_anvil_api_Prog rfl (hst.oat (k := 0) rfl) rfl) ?_
  clear henv a; intro a henv
  refine seq_step rfl (op_call henv rfl Tryd.call31 rfl (h_text_bad (hst.pat (k := 1) rfl) (hst.pat (k := 0) rfl) hR) ?_)
  rintro e w55 ⟨rfl, hb⟩
  refine ⟨_, rfl, ?_⟩
  clear henv a; intro a henv
  replace hst := hst.call hb
  clear hb
  revert a
  refine mA rfl rfl ?_
  refine sA (v := .string ⟨#[]⟩) rfl (fun _ henv => rn_extract henv rfl rfl) ?_
  refine sA (v := .int .i64 80) rfl (fun _ henv => rn_extract henv rfl rfl) ?_
  refine aA rfl rfl ?_
  refine aA rfl rfl ?_
  intro a henv
  refine wpList_nil ?_
  refine th_n ?_
  refine wp_seq ?_
  refine region_seq ?_
  refine sv (v := .agg #[.int .i64 i, .int .i64 g, .slice A0 n0 c0, .slice A1 n1 c1]) henv rfl (rn_load0 henv ty_anvil_api_Prog rfl (hst.oat (k := 0) rfl) rfl) ?_
  clear henv a; intro a henv
  refine seq_step rfl (op_call henv rfl Tryd.call15 rfl (r_right_bad (hst.pat (k := 1) rfl) (hst.pat (k := 0) rfl) hR) ?_)
  rintro e w56 ⟨rfl, hb⟩
  refine ⟨_, rfl, ?_⟩
  clear henv a; intro a henv
  replace hst := hst.call hb
  clear hb
  refine sv (v := .bool false) henv rfl (rn_assign henv rfl) ?_
  clear henv a; intro a henv
  refine wpList_nil ?_
  refine th_n ?_
  refine wp_seq ?_
  refine wp_seq ?_
  refine region_seq ?_
  revert a
  refine mA rfl rfl ?_
  refine sA (v := .bool true) rfl (fun _ henv => rn_un henv rfl rfl) ?_
  intro a henv
  refine wpList_nil ?_
  refine th_n ?_
  refine if_t henv rfl (rfl) ?_
  refine wp_seq ?_
  refine region_seq ?_
  revert a
  refine mA rfl rfl ?_
  refine sA (v := .bool true) rfl (fun _ henv => rn_eqls (s := []) (t := []) henv rfl rfl) ?_
  refine mA rfl rfl ?_
  refine gA (v := .int .i64 80) rfl rfl rfl rfl (fun _ henv => rn_move henv rfl) ?_
  refine gA (v := .bool true) rfl rfl rfl rfl (fun _ henv => rn_bin henv rfl rfl rfl) ?_
  refine sA (v := .bool true) rfl (fun _ henv => rn_pick henv rfl rfl) ?_
  refine mA rfl rfl ?_
  intro a henv
  refine seq_g rfl henv rfl rfl (op_call henv rfl Tryd.call10 rfl g_live ?_)
  rintro e w57 ⟨rfl, hb⟩
  refine ⟨_, rfl, ?_⟩
  clear henv a; intro a henv
  replace hst := hst.call hb
  clear hb
  revert a
  refine sA (v := .bool true) rfl (fun _ henv => rn_pick henv rfl rfl) ?_
  refine aA rfl rfl ?_
  intro a henv
  refine wpList_nil ?_
  refine th_n ?_
  refine wp_ret ?_
  refine th_r ?_
  refine leave henv (res1 Tryd.results8 (RV.tmp henv rfl)) ?_
  exact ⟨rfl, hst.below⟩
theorem gtexts_law {i g : Int} {A0 A1 : Option Addr} {n0 c0 n1 c1 : Nat} {es0 : List IE} {es1 : List Int} {w0 : World} (h0 : (pfRow fJ FJ 5 A0 n0 c0 es0).P w0) (h1 : (pfRow fI FI 1 A1 n1 c1 es1).P w0) (hP : Pw w0) :
    Calls Tryd.prog 8 #[.agg #[.int .i64 i, .int .i64 g, .slice A0 n0 c0, .slice A1 n1 c1]] w0 fun e w' => e = .returned (.bool true) ∧ Below w0.heap.size w0 w' := by
  by_cases a : 400 < n0 ∨ 400 < n1
  · exact gtexts_w h0 h1 a
  rcases right_or i g n0 n1 es0 es1 with h | ⟨q, h⟩
  · obtain ⟨G, rfl⟩ : ∃ G : Nat, g = G := ⟨g.toNat, by have := h.1; unfold HeadOk at this; omega⟩
    exact gtexts_ok h0 h1 hP a h
  · exact gtexts_bad h0 h1 a h
end Go.Proofs.YtbdngknpngcojaaDoor.W
