/- Package ratio: what its functions leave, over core's Rat. Printed by pv/gen_ratio.py. No condition. -/
import Derived.Test.YtegglooojlheoaaDoorM33
import Derived.Test.YtegglooojlheoaaDoorM11
import Derived.Test.YtegglooojlheoaaDoorM34
import Derived.Test.YtegglooojlheoaaDoorM39
import Derived.Test.YtegglooojlheoaaDoorM40
import Derived.Test.YtegglooojlheoaaDoorM41

namespace Go.Proofs.YtegglooojlheoaaDoor.W
open Go.RowKit Anv Go.Lib
theorem z_at {w : World} {A : Option Addr} {c : Nat} {a z : Int} (e : a = z) (h : ZIn w A c a) : ZAt w (.agg #[.bool (neg a), .slice A (zl a) c]) z := by subst e; exact ⟨_, _, rfl, h⟩
theorem q_at {w : World} {A B : Option Addr} {c d : Nat} {a b : Int} {r : Rat} (e1 : a = qn r) (e2 : b = ql r) (h1 : ZIn w A c a) (h2 : ZIn w B d b) : QAt w (.agg #[.bool (neg a), .slice A (zl a) c, .bool (neg b), .slice B (zl b) d]) r := by subst e1 e2; exact ⟨_, _, _, _, rfl, h1, h2⟩
theorem gcd_zq (x y : Int) : zl (Int.gcd x y : Int) ≤ zl x + zl y := by
  by_cases hy : y = 0
  · subst hy; rw [Int.gcd_zero_right, zl_abs]; omega
  · have := gcd_zl (x := x) hy; omega
theorem isw_q (x : Rat) : ((ql x).sign == 0) = decide (ql x = 0) := by
  by_cases h : ql x = 0
  · rw [h]; rfl
  · rw [decide_eq_false h]
    exact beq_eq_false_iff_ne.2 fun e => h (Int.sign_eq_zero_iff_zero.1 e)
def textQ (x : Rat) : List UInt8 := if ql x = 0 then textZ (qn x) else textZ (qn x) ++ 47 :: textZ (qd x)
theorem textZ_bd (z : Int) : (textZ z).length ≤ 10 * zl z + 2 := by
  have h := textN_bd z.natAbs
  have hz : nl z.natAbs = zl z := rfl
  unfold textZ
  split <;> simp <;> omega
theorem qcells : (Value.agg #[.bool false, .slice none 0 0, .bool false, .slice none 0 0]).cells = #[.bool (neg (qn 0)), .slice none (zl (qn 0)) 0, .bool (neg (ql 0)), .slice none (zl (ql 0)) 0] := by
  rw [qn_zero, ql_zero, neg_zero, zl_zero]; rfl
section
variable {N : Nat} {dq : List Deferred} {a : Act} {l : List (Nat × Value)} {w : World} {d : Nat} {ty : TypeId} {pos : String} {af : Array Edge} {gd : Option (Nat × Bool)}
theorem rn_zrat : (execOp a.eval ⟨some d, .build 91 #[], ty, pos, af, gd⟩).run Tryd.prog w = .ok (.value (.agg #[.bool (neg (qn 0)), .slice none (zl (qn 0)) 0, .bool (neg (ql 0)), .slice none (zl (ql 0)) 0])) w := by
  rw [qn_zero, ql_zero, neg_zero, zl_zero]
  have hz : (zeroValue 91).run Tryd.prog w = .ok (.agg #[.bool false, .slice none 0 0, .bool false, .slice none 0 0]) w := by obtain ⟨i, hi, hv⟩ := zero_anvil_ratio_Rat; simp [zeroValue, typeInfo, hi, hv]
  simp [execOp, Instr.build, hz, run_underlying Tryd.underlying91, Sem.run_bind, run_sizeOf ty_anvil_integer_Int.size, Instr.fill, Value.cells]
theorem rn_rat2 {x y : Operand} {p q r s : Value} (h : EnvD dq N a l) (hx : evl l x = some (.agg #[p, q])) (hy : evl l y = some (.agg #[r, s])) :
    (execOp a.eval ⟨some d, .build 91 #[(0, x), (1, y)], ty, pos, af, gd⟩).run Tryd.prog w = .ok (.value (.agg #[p, q, r, s])) w := by
  have hz : (zeroValue 91).run Tryd.prog w = .ok (.agg #[.bool false, .slice none 0 0, .bool false, .slice none 0 0]) w := by obtain ⟨i, hi, hv⟩ := zero_anvil_ratio_Rat; simp [zeroValue, typeInfo, hi, hv]
  simp [execOp, h.ev hx, h.ev hy, Instr.build, hz, run_underlying Tryd.underlying91, Sem.run_bind, run_sizeOf ty_anvil_integer_Int.size, Instr.fill, Value.cells]
theorem rn_rat1 {x : Operand} {p q : Value} (h : EnvD dq N a l) (hx : evl l x = some (.agg #[p, q])) :
    (execOp a.eval ⟨some d, .build 91 #[(0, x)], ty, pos, af, gd⟩).run Tryd.prog w = .ok (.value (.agg #[p, q, .bool (neg 0), .slice none (zl 0) 0])) w := by
  rw [neg_zero, zl_zero]
  have hz : (zeroValue 91).run Tryd.prog w = .ok (.agg #[.bool false, .slice none 0 0, .bool false, .slice none 0 0]) w := by obtain ⟨i, hi, hv⟩ := zero_anvil_ratio_Rat; simp [zeroValue, typeInfo, hi, hv]
  simp [execOp, h.ev hx, Instr.build, hz, run_underlying Tryd.underlying91, Sem.run_bind, run_sizeOf ty_anvil_integer_Int.size, Instr.fill, Value.cells]
end
set_option maxRecDepth 100000 in
set_option maxHeartbeats 1000000 in
theorem lowest_q {A B : Option Addr} {c d : Nat} {p q : Int} {r : Rat} {w0 : World} (hx : ZIn w0 A c p) (hy : ZIn w0 B d q) (hn : zl p ≤ 100000) (hm : zl q ≤ 100000) (h0 : 0 < q) (hr : Rat.divInt p q = r) :
    Calls Tryd.prog 116 #[.agg #[.bool (neg p), .slice A (zl p) c], .agg #[.bool (neg q), .slice B (zl q) d]] w0 fun e w' => ∃ v, e = .returned v ∧ QAt w' v r ∧ Below w0.heap.size w0 w' := by
  have h1z : zl 1 ≤ 1 := nl_le_of_lt (by decide)
  have hg0 := gcd_ne (n := p) (d := q) (by omega)
  have hgz := gcd_zl (x := p) (y := q) (by omega)
  refine enter Tryd.func116 rfl Tryd.ntmps116 rfl ?_
  intro a henv hst
  replace hst := hst.addZ hx trivial
  replace hst := hst.addZ hy trivial
  refine wp_seq ?_
  refine region_seq ?_
  refine seq_step rfl (op_box (c := #[.bool (neg p), .slice A (zl p) c]) henv hst rfl rfl rfl ?_)
  clear henv hst a; intro a w2 g1 henv hst
  refine seq_step rfl (op_box (c := #[.bool (neg q), .slice B (zl q) d]) henv hst rfl rfl rfl ?_)
  clear henv hst a; intro a w4 g3 henv hst
  refine seq_step rfl (op_alloc (c := #[.bool (neg (qn 0)), .slice none (zl (qn 0)) 0, .bool (neg (ql 0)), .slice none (zl (ql 0)) 0]) henv hst rfl zero_anvil_ratio_Rat qcells ?_)
  clear henv hst a; intro a w6 g5 henv hst
  refine wpList_nil ?_
  refine th_n ?_
  refine wp_seq ?_
  refine region_seq ?_
  revert a
  refine sA (v := .agg #[.bool (neg p), .slice A (zl p) c]) rfl (fun _ henv => rn_load0 henv ty_anvil_integer_Int rfl (hst.oat (k := 2) rfl) rfl) ?_
  refine sA (v := .agg #[.bool (neg q), .slice B (zl q) d]) rfl (fun _ henv => rn_load0 henv ty_anvil_integer_Int rfl (hst.oat (k := 1) rfl) rfl) ?_
  intro a henv
  have hs7 := gcd_zq p q
  refine seq_step rfl (op_call henv rfl Tryd.call93 rfl (gcd_z (x := p) (y := q) (show ZIn _ A c p from hst.pat (k := 1) rfl) (show ZIn _ B d q from hst.pat (k := 0) rfl) (by omega) (by omega)) ?_)
  rintro e w11 ⟨_, rfl, ⟨A8, c9, rfl, hz10⟩, hb⟩
  refine ⟨_, rfl, ?_⟩
  clear henv a; intro a henv
  replace hst := (hst.call hb).addZ hz10 ⟨nou_bk rfl, nou_bk rfl, nou_bk rfl, trivial⟩
  clear hz10
  clear hb
  refine seq_step rfl (op_alloc (c := #[.bool (neg 0), .slice none (zl 0) 0]) henv hst rfl zero_anvil_integer_Int zcells ?_)
  clear henv hst a; intro a w13 g12 henv hst
  refine seq_step rfl (op_store (k := 0) (c' := #[.bool (neg ((Int.gcd p q : Nat) : Int)), .slice A8 (zl ((Int.gcd p q : Nat) : Int)) c9]) henv hst (ty_anvil_integer_Int.size) rfl rfl rfl rfl (by simp) rfl rfl ?_)
  clear henv hst a; intro a w14 henv hst
  refine wpList_nil ?_
  refine th_n ?_
  refine wp_seq ?_
  refine region_seq ?_
  revert a
  refine sA (v := .agg #[.bool (neg p), .slice A (zl p) c]) rfl (fun _ henv => rn_load0 henv ty_anvil_integer_Int rfl (hst.oat (k := 3) rfl) rfl) ?_
  refine sA (v := .agg #[.bool (neg ((Int.gcd p q : Nat) : Int)), .slice A8 (zl ((Int.gcd p q : Nat) : Int)) c9]) rfl (fun _ henv => rn_load0 henv ty_anvil_integer_Int rfl (hst.oat (k := 0) rfl) rfl) ?_
  intro a henv
  have hs15 := zl_ediv p ((Int.gcd p q : Nat) : Int)
  refine seq_step rfl (op_call henv rfl Tryd.call117 rfl (divmod_z (x := p) (y := ((Int.gcd p q : Nat) : Int)) (show ZIn _ A c p from hst.pat (k := 2) rfl) (show ZIn _ A8 c9 ((Int.gcd p q : Nat) : Int) from hst.pat (k := 0) rfl) (by omega) (by omega) hg0) ?_)
  rintro e w22 ⟨_, _, rfl, ⟨A16, c17, rfl, hz18⟩, ⟨A19, c20, rfl, hz21⟩, hb⟩
  refine ⟨_, rfl, ?_⟩
  clear henv a; intro a henv
  replace hst := ((hst.call hb).addZ hz18 ⟨nou_bk rfl, nou_bk rfl, nou_bk rfl, nou_bk rfl, trivial⟩).addZ hz21 ⟨nou_bk rfl, nou_bk rfl, nou_bk rfl, nou_bk rfl, trivial⟩
  clear hz18 hz21
  clear hb
  revert a
  refine mA rfl rfl ?_
  refine sA (v := .agg #[.bool (neg (p / ((Int.gcd p q : Nat) : Int))), .slice A16 (zl (p / ((Int.gcd p q : Nat) : Int))) c17]) rfl (fun _ henv => rn_extract henv rfl rfl) ?_
  refine sA (v := .agg #[.bool (neg (p % ((Int.gcd p q : Nat) : Int))), .slice A19 (zl (p % ((Int.gcd p q : Nat) : Int))) c20]) rfl (fun _ henv => rn_extract henv rfl rfl) ?_
  refine sA (v := .int .i64 0) rfl (fun _ henv => rn_extract henv rfl rfl) ?_
  intro a henv
  refine seq_step rfl (op_store (k := 3) (c' := #[.bool (neg (p / ((Int.gcd p q : Nat) : Int))), .slice A16 (zl (p / ((Int.gcd p q : Nat) : Int))) c17]) henv hst (ty_anvil_integer_Int.size) rfl rfl rfl rfl (by simp) rfl rfl ?_)
  clear henv hst a; intro a w23 henv hst
  refine wpList_nil ?_
  refine th_n ?_
  refine wp_seq ?_
  refine region_seq ?_
  revert a
  refine sA (v := .agg #[.bool (neg q), .slice B (zl q) d]) rfl (fun _ henv => rn_load0 henv ty_anvil_integer_Int rfl (hst.oat (k := 2) rfl) rfl) ?_
  refine sA (v := .agg #[.bool (neg ((Int.gcd p q : Nat) : Int)), .slice A8 (zl ((Int.gcd p q : Nat) : Int)) c9]) rfl (fun _ henv => rn_load0 henv ty_anvil_integer_Int rfl (hst.oat (k := 0) rfl) rfl) ?_
  intro a henv
  have hs24 := zl_ediv q ((Int.gcd p q : Nat) : Int)
  refine seq_step rfl (op_call henv rfl Tryd.call117 rfl (divmod_z (x := q) (y := ((Int.gcd p q : Nat) : Int)) (show ZIn _ B d q from hst.pat (k := 3) rfl) (show ZIn _ A8 c9 ((Int.gcd p q : Nat) : Int) from hst.pat (k := 2) rfl) (by omega) (by omega) hg0) ?_)
  rintro e w31 ⟨_, _, rfl, ⟨A25, c26, rfl, hz27⟩, ⟨A28, c29, rfl, hz30⟩, hb⟩
  refine ⟨_, rfl, ?_⟩
  clear henv a; intro a henv
  replace hst := ((hst.call hb).addZ hz27 ⟨nou_bk rfl, nou_bk rfl, nou_bk rfl, nou_bk rfl, trivial⟩).addZ hz30 ⟨nou_bk rfl, nou_bk rfl, nou_bk rfl, nou_bk rfl, trivial⟩
  clear hz27 hz30
  clear hb
  revert a
  refine mA rfl rfl ?_
  refine sA (v := .agg #[.bool (neg (q / ((Int.gcd p q : Nat) : Int))), .slice A25 (zl (q / ((Int.gcd p q : Nat) : Int))) c26]) rfl (fun _ henv => rn_extract henv rfl rfl) ?_
  refine sA (v := .agg #[.bool (neg (q % ((Int.gcd p q : Nat) : Int))), .slice A28 (zl (q % ((Int.gcd p q : Nat) : Int))) c29]) rfl (fun _ henv => rn_extract henv rfl rfl) ?_
  refine sA (v := .int .i64 0) rfl (fun _ henv => rn_extract henv rfl rfl) ?_
  intro a henv
  refine seq_step rfl (op_store (k := 2) (c' := #[.bool (neg (q / ((Int.gcd p q : Nat) : Int))), .slice A25 (zl (q / ((Int.gcd p q : Nat) : Int))) c26]) henv hst (ty_anvil_integer_Int.size) rfl rfl rfl rfl (by simp) rfl rfl ?_)
  clear henv hst a; intro a w32 henv hst
  refine wpList_nil ?_
  refine th_n ?_
  refine wp_seq ?_
  refine region_any (n := 6) (Sk [bk g12 #[.bool (neg ((Int.gcd p q : Nat) : Int)), .slice A8 (zl ((Int.gcd p q : Nat) : Int)) c9] 36, bk g3 #[.bool (neg (q / ((Int.gcd p q : Nat) : Int))), .slice A25 (zl (q / ((Int.gcd p q : Nat) : Int))) c26] 36, bk g1 #[.bool (neg (p / ((Int.gcd p q : Nat) : Int))), .slice A16 (zl (p / ((Int.gcd p q : Nat) : Int))) c17] 36] [pfZ A28 c29 (q % ((Int.gcd p q : Nat) : Int)), pfZ A25 c26 (q / ((Int.gcd p q : Nat) : Int)), pfZ A19 c20 (p % ((Int.gcd p q : Nat) : Int)), pfZ A16 c17 (p / ((Int.gcd p q : Nat) : Int)), pfZ A8 c9 ((Int.gcd p q : Nat) : Int), pfZ B d q, pfZ A c p] [5] []) mixed rfl henv hst ?_
  clear henv hst; intro w33 henv hst
  refine tL (i := 0) 2 3 [4, 5] rfl (by kernel_rfl) (fun _ _ _ h => h) henv rfl ty_anvil_integer_Int rfl hst rfl rfl rfl ?_
  clear henv a; intro a henv
  refine tL (i := 1) 1 2 [3, 4, 5] rfl (by kernel_rfl) (fun _ _ _ h => h) henv rfl ty_anvil_integer_Int rfl hst rfl rfl rfl ?_
  clear henv a; intro a henv
  refine sAny_one (i := 2) (by kernel_rfl) rfl rfl (op_call henv rfl Tryd.call43 rfl (of_z (n := (1 : Int)) (by decide) (by decide)) ?_)
  rintro e w37 ⟨_, rfl, ⟨A34, c35, rfl, hz36⟩, hb⟩
  refine ⟨_, rfl, ?_⟩
  clear henv a; intro a henv
  replace hst := (hst.call hb).addZ hz36 ⟨nou_bk rfl, nou_bk rfl, nou_bk rfl, nou_bk rfl, trivial⟩
  clear hz36
  clear hb
  refine ⟨.inr ⟨hst.kn.pick [0, 2, 3] (rg 1 7), .inr (hst.kn.pick [] [])⟩, ?_⟩
  have hs38 := zl_sub (q / ((Int.gcd p q : Nat) : Int)) 1
  refine sAny_one (i := 3) (by kernel_rfl) rfl rfl (op_call henv rfl Tryd.call99 rfl (sub_z (x := q / ((Int.gcd p q : Nat) : Int)) (y := 1) (show ZIn _ A25 c26 (q / ((Int.gcd p q : Nat) : Int)) from hst.pat (k := 2) rfl) (show ZIn _ A34 c35 1 from hst.pat (k := 0) rfl) (by omega) (by omega)) ?_)
  rintro e w42 ⟨_, rfl, ⟨A39, c40, rfl, hz41⟩, hb⟩
  refine ⟨_, rfl, ?_⟩
  clear henv a; intro a henv
  replace hst := (hst.call hb).addZ hz41 ⟨nou_bk rfl, nou_bk rfl, nou_bk rfl, nou_bk rfl, trivial⟩
  clear hz41
  clear hb
  refine ⟨.inr ⟨hst.kn.pick [0, 2, 3] (rg 2 7), .inr (hst.kn.pick [] [])⟩, ?_⟩
  refine tA (i := 4) [5] (v := .agg #[.bool (neg (p / ((Int.gcd p q : Nat) : Int))), .slice A16 (zl (p / ((Int.gcd p q : Nat) : Int))) c17, .bool (neg ((q / ((Int.gcd p q : Nat) : Int)) - 1)), .slice A39 (zl ((q / ((Int.gcd p q : Nat) : Int)) - 1)) c40]) rfl (by kernel_rfl) (fun _ _ _ h => h) henv rfl (fun _ => rn_rat2 henv rfl rfl) ?_
  clear henv a; intro a henv
  refine sAny_one (i := 5) (by kernel_rfl) rfl rfl (op_store (k := 1) (c' := #[.bool (neg (p / ((Int.gcd p q : Nat) : Int))), .slice A16 (zl (p / ((Int.gcd p q : Nat) : Int))) c17, .bool (neg ((q / ((Int.gcd p q : Nat) : Int)) - 1)), .slice A39 (zl ((q / ((Int.gcd p q : Nat) : Int)) - 1)) c40]) henv hst (ty_anvil_ratio_Rat.size) rfl rfl rfl rfl (by simp) rfl rfl ?_)
  clear henv hst a; intro a w43 henv hst
  refine ⟨.inr ⟨hst.kn.pick [0, 2, 3] (rg 2 7), .inl rfl⟩, ?_⟩
  refine sAny_done (by kernel_rfl) ?_ _
  refine th_n ?_
  refine wp_ret ?_
  refine leave henv (res1 Tryd.results116 (RV.cell henv ty_anvil_ratio_Rat rfl (hst.oat (k := 1) rfl) rfl)) ?_
  exact ⟨_, rfl, q_at (hr ▸ low_n h0) (hr ▸ low_l h0) (hst.pat (k := 5) rfl) (hst.pat (k := 0) rfl), hst.below⟩
set_option maxRecDepth 100000 in
set_option maxHeartbeats 1000000 in
theorem den_q {A0 B0 : Option Addr} {c0 d0 : Nat} {x : Rat} {w0 : World} (h0 : ZIn w0 A0 c0 (qn x)) (k0 : ZIn w0 B0 d0 (ql x)) {a : Nat} (sx : Qs a x) (ha : a ≤ 40000) :
    Calls Tryd.prog 89 #[.agg #[.bool (neg (qn x)), .slice A0 (zl (qn x)) c0, .bool (neg (ql x)), .slice B0 (zl (ql x)) d0]] w0 fun e w' => ∃ v, e = .returned v ∧ ZAt w' v (qd x) ∧ Below w0.heap.size w0 w' := by
  have h1z : zl 1 ≤ 1 := nl_le_of_lt (by decide)
  have hnx := sx.n
  have hdx := sx.d
  have hlx := sx.l
  refine enter Tryd.func89 rfl Tryd.ntmps89 rfl ?_
  intro a henv hst
  replace hst := hst.addZ h0 trivial
  replace hst := hst.addZ k0 trivial
  refine wp_seq ?_
  refine region_seq ?_
  refine seq_step rfl (op_box (c := #[.bool (neg (qn x)), .slice A0 (zl (qn x)) c0, .bool (neg (ql x)), .slice B0 (zl (ql x)) d0]) henv hst rfl rfl rfl ?_)
  clear henv hst a; intro a w2 g1 henv hst
  refine seq_step rfl (op_alloc (c := #[.bool (neg 0), .slice none (zl 0) 0]) henv hst rfl zero_anvil_integer_Int zcells ?_)
  clear henv hst a; intro a w4 g3 henv hst
  refine wpList_nil ?_
  refine th_n ?_
  refine wp_seq ?_
  refine region_any (n := 5) (Sk [bk g1 #[.bool (neg (qn x)), .slice A0 (zl (qn x)) c0, .bool (neg (ql x)), .slice B0 (zl (ql x)) d0] 91] [pfZ B0 d0 (ql x), pfZ A0 c0 (qn x)] [4] []) mixed rfl henv hst ?_
  clear henv hst; intro w5 henv hst
  refine tA (i := 0) [1, 3, 4] (v := .pointer (some ⟨g1, 2, none⟩)) rfl (by kernel_rfl) (fun _ _ _ h => h) henv rfl (fun _ => rn_fieldAddr henv fd_anvil_ratio_Rat_1 (ty_anvil_integer_Int.size) (by decide) rfl) ?_
  clear henv a; intro a henv
  refine sAny_take (i := 1) [3, 4] (fun w' => w'.heap[g1]? = some (.cells #[.bool (neg (qn x)), .slice A0 (zl (qn x)) c0, .bool (neg (ql x)), .slice B0 (zl (ql x)) d0] 91 (0, 0))) (v := .agg #[.bool (neg (ql x)), .slice B0 (zl (ql x)) d0]) rfl (by kernel_rfl) (fun _ _ _ h => h) (fun _ _ _ hS => hS.1.oat (k := 0) rfl) henv rfl (hst.oat (k := 1) rfl) (fun w' hg => rn_load henv ty_anvil_integer_Int rfl hg rfl rfl) ?_
  clear henv a; intro a henv
  refine sAny_one (i := 2) (by kernel_rfl) rfl rfl (op_call henv rfl Tryd.call43 rfl (of_z (n := (1 : Int)) (by decide) (by decide)) ?_)
  rintro e w9 ⟨_, rfl, ⟨A6, c7, rfl, hz8⟩, hb⟩
  refine ⟨_, rfl, ?_⟩
  clear henv a; intro a henv
  replace hst := (hst.call hb).addZ hz8 ⟨nou_bk rfl, nou_bk rfl, trivial⟩
  clear hz8
  clear hb
  refine ⟨.inr ⟨hst.kn.pick [1] [1, 2], .inr (hst.kn.pick [] [])⟩, ?_⟩
  have hs10 := zl_add (ql x) 1
  refine sAny_one (i := 3) (by kernel_rfl) rfl rfl (op_call henv rfl Tryd.call85 rfl (add_z (x := (ql x)) (y := 1) (show ZIn _ B0 d0 (ql x) from hst.pat (k := 1) rfl) (show ZIn _ A6 c7 1 from hst.pat (k := 0) rfl) (by omega) (by omega)) ?_)
  rintro e w14 ⟨_, rfl, ⟨A11, c12, rfl, hz13⟩, hb⟩
  refine ⟨_, rfl, ?_⟩
  clear henv a; intro a henv
  replace hst := (hst.call hb).addZ hz13 ⟨nou_bk rfl, nou_bk rfl, trivial⟩
  clear hz13
  clear hb
  refine ⟨.inr ⟨hst.kn.pick [1] [2, 3], .inr (hst.kn.pick [] [])⟩, ?_⟩
  refine sAny_one (i := 4) (by kernel_rfl) rfl rfl (op_store (k := 0) (c' := #[.bool (neg ((ql x) + 1)), .slice A11 (zl ((ql x) + 1)) c12]) henv hst (ty_anvil_integer_Int.size) rfl rfl rfl rfl (by simp) rfl rfl ?_)
  clear henv hst a; intro a w15 henv hst
  refine ⟨.inr ⟨hst.kn.pick [1] [2, 3], .inl rfl⟩, ?_⟩
  refine sAny_done (by kernel_rfl) ?_ _
  refine th_n ?_
  refine wp_ret ?_
  refine leave henv (res1 Tryd.results89 (RV.cell henv ty_anvil_integer_Int rfl (hst.oat (k := 0) rfl) rfl)) ?_
  exact ⟨_, rfl, z_at (ql_qd _) (hst.pat (k := 0) rfl), hst.below⟩
set_option maxRecDepth 100000 in
set_option maxHeartbeats 1000000 in
theorem sign_q {A0 B0 : Option Addr} {c0 d0 : Nat} {x : Rat} {w0 : World} (h0 : ZIn w0 A0 c0 (qn x)) (k0 : ZIn w0 B0 d0 (ql x)) :
    Calls Tryd.prog 63 #[.agg #[.bool (neg (qn x)), .slice A0 (zl (qn x)) c0, .bool (neg (ql x)), .slice B0 (zl (ql x)) d0]] w0 fun e w' => e = .returned (.int .i64 (qn x).sign) ∧ Below w0.heap.size w0 w' := by
  refine enter Tryd.func63 rfl Tryd.ntmps63 rfl ?_
  intro a henv hst
  replace hst := hst.addZ h0 trivial
  replace hst := hst.addZ k0 trivial
  refine wp_seq ?_
  refine region_seq ?_
  refine seq_step rfl (op_box (c := #[.bool (neg (qn x)), .slice A0 (zl (qn x)) c0, .bool (neg (ql x)), .slice B0 (zl (ql x)) d0]) henv hst rfl rfl rfl ?_)
  clear henv hst a; intro a w2 g1 henv hst
  refine sv (v := .int .i64 0) henv rfl (rn_assign henv rfl) ?_
  clear henv a; intro a henv
  refine wpList_nil ?_
  refine th_n ?_
  refine wp_seq ?_
  refine region_seq ?_
  revert a
  refine sA (v := .pointer (some ⟨g1, 0, none⟩)) rfl (fun _ henv => rn_fieldAddr henv fd_anvil_ratio_Rat_0 (ty_anvil_integer_Int.size) (by decide) rfl) ?_
  refine sA (v := .agg #[.bool (neg (qn x)), .slice A0 (zl (qn x)) c0]) rfl (fun _ henv => rn_load henv ty_anvil_integer_Int rfl (hst.oat (k := 0) rfl) rfl rfl) ?_
  intro a henv
  refine seq_step rfl (op_call henv rfl Tryd.call31 rfl (sign_z (z := (qn x))) ?_)
  rintro e w3 ⟨rfl, hb⟩
  refine ⟨_, rfl, ?_⟩
  clear henv a; intro a henv
  replace hst := hst.call hb
  clear hb
  refine sv (v := .int .i64 ((qn x).sign)) henv rfl (rn_assign henv rfl) ?_
  clear henv a; intro a henv
  refine wpList_nil ?_
  refine th_n ?_
  refine wp_ret ?_
  refine leave henv (res1 Tryd.results63 (RV.tmp henv rfl)) ?_
  exact ⟨rfl, hst.below⟩
set_option maxRecDepth 100000 in
set_option maxHeartbeats 1000000 in
theorem whole_q {A0 B0 : Option Addr} {c0 d0 : Nat} {x : Rat} {w0 : World} (h0 : ZIn w0 A0 c0 (qn x)) (k0 : ZIn w0 B0 d0 (ql x)) :
    Calls Tryd.prog 67 #[.agg #[.bool (neg (qn x)), .slice A0 (zl (qn x)) c0, .bool (neg (ql x)), .slice B0 (zl (ql x)) d0]] w0 fun e w' => e = .returned (.bool (decide (ql x = 0))) ∧ Below w0.heap.size w0 w' := by
  refine enter Tryd.func67 rfl Tryd.ntmps67 rfl ?_
  intro a henv hst
  replace hst := hst.addZ h0 trivial
  replace hst := hst.addZ k0 trivial
  refine wp_seq ?_
  refine region_seq ?_
  refine seq_step rfl (op_box (c := #[.bool (neg (qn x)), .slice A0 (zl (qn x)) c0, .bool (neg (ql x)), .slice B0 (zl (ql x)) d0]) henv hst rfl rfl rfl ?_)
  clear henv hst a; intro a w2 g1 henv hst
  refine sv (v := .bool false) henv rfl (rn_assign henv rfl) ?_
  clear henv a; intro a henv
  refine wpList_nil ?_
  refine th_n ?_
  refine wp_seq ?_
  refine region_seq ?_
  revert a
  refine sA (v := .pointer (some ⟨g1, 2, none⟩)) rfl (fun _ henv => rn_fieldAddr henv fd_anvil_ratio_Rat_1 (ty_anvil_integer_Int.size) (by decide) rfl) ?_
  refine sA (v := .agg #[.bool (neg (ql x)), .slice B0 (zl (ql x)) d0]) rfl (fun _ henv => rn_load henv ty_anvil_integer_Int rfl (hst.oat (k := 0) rfl) rfl rfl) ?_
  intro a henv
  refine seq_step rfl (op_call henv rfl Tryd.call31 rfl (sign_z (z := (ql x))) ?_)
  rintro e w3 ⟨rfl, hb⟩
  refine ⟨_, rfl, ?_⟩
  clear henv a; intro a henv
  replace hst := hst.call hb
  clear hb
  revert a
  refine sA (v := .bool ((ql x).sign == (0 : Int))) rfl (fun _ henv => rn_bin henv rfl rfl rfl) ?_
  refine aA rfl rfl ?_
  intro a henv
  refine wpList_nil ?_
  refine th_n ?_
  refine wp_ret ?_
  refine leave henv (res1 Tryd.results67 (RV.tmp henv rfl)) ?_
  exact ⟨by rw [isw_q], hst.below⟩
set_option maxRecDepth 100000 in
set_option maxHeartbeats 1000000 in
theorem of_int_q {A : Option Addr} {c : Nat} {z : Int} {w0 : World} (hx : ZIn w0 A c z) :
    Calls Tryd.prog 65 #[.agg #[.bool (neg z), .slice A (zl z) c]] w0 fun e w' => ∃ v, e = .returned v ∧ QAt w' v (z : Rat) ∧ Below w0.heap.size w0 w' := by
  refine enter Tryd.func65 rfl Tryd.ntmps65 rfl ?_
  intro a henv hst
  replace hst := hst.addZ hx trivial
  replace hst := hst.addZ (zin_none _) trivial
  refine wp_seq ?_
  refine region_seq ?_
  refine seq_step rfl (op_box (c := #[.bool (neg z), .slice A (zl z) c]) henv hst rfl rfl rfl ?_)
  clear henv hst a; intro a w2 g1 henv hst
  refine seq_step rfl (op_alloc (c := #[.bool (neg (qn 0)), .slice none (zl (qn 0)) 0, .bool (neg (ql 0)), .slice none (zl (ql 0)) 0]) henv hst rfl zero_anvil_ratio_Rat qcells ?_)
  clear henv hst a; intro a w4 g3 henv hst
  refine wpList_nil ?_
  refine th_n ?_
  refine wp_seq ?_
  refine region_seq ?_
  revert a
  refine sA (v := .agg #[.bool (neg z), .slice A (zl z) c]) rfl (fun _ henv => rn_load0 henv ty_anvil_integer_Int rfl (hst.oat (k := 1) rfl) rfl) ?_
  refine sA (v := .agg #[.bool (neg z), .slice A (zl z) c, .bool (neg 0), .slice none (zl 0) 0]) rfl (fun _ henv => rn_rat1 henv rfl) ?_
  intro a henv
  refine seq_step rfl (op_store (k := 0) (c' := #[.bool (neg z), .slice A (zl z) c, .bool (neg 0), .slice none (zl 0) 0]) henv hst (ty_anvil_ratio_Rat.size) rfl rfl rfl rfl (by simp) rfl rfl ?_)
  clear henv hst a; intro a w5 henv hst
  refine wpList_nil ?_
  refine th_n ?_
  refine wp_ret ?_
  refine leave henv (res1 Tryd.results65 (RV.cell henv ty_anvil_ratio_Rat rfl (hst.oat (k := 0) rfl) rfl)) ?_
  exact ⟨_, rfl, q_at rfl rfl (hst.pat (k := 1) rfl) (hst.pat (k := 0) rfl), hst.below⟩
set_option maxRecDepth 100000 in
set_option maxHeartbeats 1000000 in
theorem floor_q {A0 B0 : Option Addr} {c0 d0 : Nat} {x : Rat} {w0 : World} (h0 : ZIn w0 A0 c0 (qn x)) (k0 : ZIn w0 B0 d0 (ql x)) {a : Nat} (sx : Qs a x) (ha : a ≤ 40000) :
    Calls Tryd.prog 66 #[.agg #[.bool (neg (qn x)), .slice A0 (zl (qn x)) c0, .bool (neg (ql x)), .slice B0 (zl (ql x)) d0]] w0 fun e w' => ∃ v, e = .returned v ∧ ZAt w' v x.floor ∧ Below w0.heap.size w0 w' := by
  have hnx := sx.n
  have hdx := sx.d
  have hlx := sx.l
  refine enter Tryd.func66 rfl Tryd.ntmps66 rfl ?_
  intro a henv hst
  replace hst := hst.addZ h0 trivial
  replace hst := hst.addZ k0 trivial
  refine wp_seq ?_
  refine region_seq ?_
  refine seq_step rfl (op_box (c := #[.bool (neg (qn x)), .slice A0 (zl (qn x)) c0, .bool (neg (ql x)), .slice B0 (zl (ql x)) d0]) henv hst rfl rfl rfl ?_)
  clear henv hst a; intro a w2 g1 henv hst
  refine seq_step rfl (op_alloc (c := #[.bool (neg 0), .slice none (zl 0) 0]) henv hst rfl zero_anvil_integer_Int zcells ?_)
  clear henv hst a; intro a w4 g3 henv hst
  refine wpList_nil ?_
  refine th_n ?_
  refine wp_seq ?_
  refine cut (fun a w => ∃ A11 : Option Addr, ∃ c12 : Nat, ∃ A14 : Option Addr, ∃ c15 : Nat, ∃ g18 : Nat, ∃ g22 : Nat, Env 16 a [(0, .agg #[.bool (neg (qn x)), .slice A0 (zl (qn x)) c0, .bool (neg (ql x)), .slice B0 (zl (ql x)) d0]), (2, .pointer (some ⟨g3, 0, none⟩)), (3, .pointer (some ⟨g18, 0, none⟩))] ∧ St w0 w [bk g22 #[.bool (neg ((qn x) % (qd x))), .slice A14 (zl ((qn x) % (qd x))) c15] 36, bk g18 #[.bool (neg ((qn x) / (qd x))), .slice A11 (zl ((qn x) / (qd x))) c12] 36, bk g3 #[.bool (neg 0), .slice none (zl 0) 0] 36, bk g1 #[.bool (neg (qn x)), .slice A0 (zl (qn x)) c0, .bool (neg (ql x)), .slice B0 (zl (ql x)) d0] 91] [pfZ A14 c15 ((qn x) % (qd x)), pfZ A11 c12 ((qn x) / (qd x)), pfZ B0 d0 (ql x), pfZ A0 c0 (qn x)]) ?_ ?_
  · refine region_any (n := 14) (Sk [bk g3 #[.bool (neg 0), .slice none (zl 0) 0] 36, bk g1 #[.bool (neg (qn x)), .slice A0 (zl (qn x)) c0, .bool (neg (ql x)), .slice B0 (zl (ql x)) d0] 91] [pfZ B0 d0 (ql x), pfZ A0 c0 (qn x)] [11, 12] []) mixed rfl henv hst ?_
    clear henv hst; intro w5 henv hst
    refine sAny_gen fun T hT => ?_
    have hN24 : ∀ (L : Array Bool) (a : Act) (w : World), L = #[true, true, true, true, true, true, true, true, true, true, true, false, false, false] → (∃ A11 : Option Addr, ∃ c12 : Nat, ∃ A14 : Option Addr, ∃ c15 : Nat, ∃ g18 : Nat, ∃ g22 : Nat, Env 16 a [(0, .agg #[.bool (neg (qn x)), .slice A0 (zl (qn x)) c0, .bool (neg (ql x)), .slice B0 (zl (ql x)) d0]), (2, .pointer (some ⟨g3, 0, none⟩)), (12, .agg #[.bool (neg ((qn x) / (qd x))), .slice A11 (zl ((qn x) / (qd x))) c12]), (13, .agg #[.bool (neg ((qn x) % (qd x))), .slice A14 (zl ((qn x) % (qd x))) c15]), (14, .int .i64 0), (3, .pointer (some ⟨g18, 0, none⟩)), (4, .pointer (some ⟨g22, 0, none⟩))] ∧ St w0 w [bk g22 #[.bool (neg 0), .slice none (zl 0) 0] 36, bk g18 #[.bool (neg 0), .slice none (zl 0) 0] 36, bk g3 #[.bool (neg 0), .slice none (zl 0) 0] 36, bk g1 #[.bool (neg (qn x)), .slice A0 (zl (qn x)) c0, .bool (neg (ql x)), .slice B0 (zl (ql x)) d0] 91] [pfZ A14 c15 ((qn x) % (qd x)), pfZ A11 c12 ((qn x) / (qd x)), pfZ B0 d0 (ql x), pfZ A0 c0 (qn x)]) → T 3 L a w := by
      rintro _ a w25 rfl ⟨A11, c12, A14, c15, g18, g22, henv, hst⟩
      rw [hT]
      refine sAny_one (i := 11) (by kernel_rfl) rfl rfl (op_store (k := 1) (c' := #[.bool (neg ((qn x) / (qd x))), .slice A11 (zl ((qn x) / (qd x))) c12]) henv hst (ty_anvil_integer_Int.size) rfl rfl rfl rfl (by simp) rfl rfl ?_)
      clear henv hst a; intro a w26 henv hst
      refine ⟨.inr ⟨hst.kn.pick [2, 3] [2, 3], .inl rfl⟩, ?_⟩
      refine sAny_one (i := 12) (by kernel_rfl) rfl rfl (op_store (k := 0) (c' := #[.bool (neg ((qn x) % (qd x))), .slice A14 (zl ((qn x) % (qd x))) c15]) henv hst (ty_anvil_integer_Int.size) rfl rfl rfl rfl (by simp) rfl rfl ?_)
      clear henv hst a; intro a w27 henv hst
      refine ⟨.inr ⟨hst.kn.pick [2, 3] [2, 3], .inl rfl⟩, ?_⟩
      refine tA (i := 13) [] (v := .int .i64 0) rfl (by kernel_rfl) (fun _ _ _ h => h) henv rfl (fun _ => rn_assign henv rfl) ?_
      clear henv a; intro a henv
      refine sAny_done (by kernel_rfl) ?_ _
      exact th_n ⟨A11, c12, A14, c15, g18, g22, henv.sub ⟨rfl, rfl, rfl, trivial⟩, hst.pick [0, 1, 2, 3] [0, 1, 2, 3] (by decide)⟩
    have hN20 : ∀ (L : Array Bool) (a : Act) (w : World), L = #[true, true, true, true, true, true, true, true, true, true, false, false, false, false] → (∃ A11 : Option Addr, ∃ c12 : Nat, ∃ A14 : Option Addr, ∃ c15 : Nat, ∃ g18 : Nat, Env 16 a [(0, .agg #[.bool (neg (qn x)), .slice A0 (zl (qn x)) c0, .bool (neg (ql x)), .slice B0 (zl (ql x)) d0]), (2, .pointer (some ⟨g3, 0, none⟩)), (12, .agg #[.bool (neg ((qn x) / (qd x))), .slice A11 (zl ((qn x) / (qd x))) c12]), (13, .agg #[.bool (neg ((qn x) % (qd x))), .slice A14 (zl ((qn x) % (qd x))) c15]), (14, .int .i64 0), (3, .pointer (some ⟨g18, 0, none⟩))] ∧ St w0 w [bk g18 #[.bool (neg 0), .slice none (zl 0) 0] 36, bk g3 #[.bool (neg 0), .slice none (zl 0) 0] 36, bk g1 #[.bool (neg (qn x)), .slice A0 (zl (qn x)) c0, .bool (neg (ql x)), .slice B0 (zl (ql x)) d0] 91] [pfZ A14 c15 ((qn x) % (qd x)), pfZ A11 c12 ((qn x) / (qd x)), pfZ B0 d0 (ql x), pfZ A0 c0 (qn x)]) → T 4 L a w := by
      rintro _ a w21 rfl ⟨A11, c12, A14, c15, g18, henv, hst⟩
      rw [hT]
      refine sAny_one (i := 10) (by kernel_rfl) rfl rfl (op_alloc (c := #[.bool (neg 0), .slice none (zl 0) 0]) henv hst rfl zero_anvil_integer_Int zcells ?_)
      clear henv hst a; intro a w23 g22 henv hst
      refine ⟨.inr ⟨hst.kn.pick [2, 3] [2, 3], .inr (hst.kn.pick [] [])⟩, ?_⟩
      rw [← hT]
      exact hN24 _ _ _ (by kernel_rfl) ⟨A11, c12, A14, c15, g18, g22, henv.sub ⟨rfl, rfl, rfl, rfl, rfl, rfl, rfl, trivial⟩, hst.pick [0, 1, 2, 3] [0, 1, 2, 3] (by decide)⟩
    have hN30 : ∀ (L : Array Bool) (a : Act) (w : World), L = #[true, true, true, true, true, true, true, true, true, false, true, false, false, false] → (∃ A11 : Option Addr, ∃ c12 : Nat, ∃ A14 : Option Addr, ∃ c15 : Nat, ∃ g28 : Nat, Env 16 a [(0, .agg #[.bool (neg (qn x)), .slice A0 (zl (qn x)) c0, .bool (neg (ql x)), .slice B0 (zl (ql x)) d0]), (2, .pointer (some ⟨g3, 0, none⟩)), (12, .agg #[.bool (neg ((qn x) / (qd x))), .slice A11 (zl ((qn x) / (qd x))) c12]), (13, .agg #[.bool (neg ((qn x) % (qd x))), .slice A14 (zl ((qn x) % (qd x))) c15]), (14, .int .i64 0), (4, .pointer (some ⟨g28, 0, none⟩))] ∧ St w0 w [bk g28 #[.bool (neg 0), .slice none (zl 0) 0] 36, bk g3 #[.bool (neg 0), .slice none (zl 0) 0] 36, bk g1 #[.bool (neg (qn x)), .slice A0 (zl (qn x)) c0, .bool (neg (ql x)), .slice B0 (zl (ql x)) d0] 91] [pfZ A14 c15 ((qn x) % (qd x)), pfZ A11 c12 ((qn x) / (qd x)), pfZ B0 d0 (ql x), pfZ A0 c0 (qn x)]) → T 4 L a w := by
      rintro _ a w31 rfl ⟨A11, c12, A14, c15, g28, henv, hst⟩
      rw [hT]
      refine sAny_one (i := 9) (by kernel_rfl) rfl rfl (op_alloc (c := #[.bool (neg 0), .slice none (zl 0) 0]) henv hst rfl zero_anvil_integer_Int zcells ?_)
      clear henv hst a; intro a w33 g32 henv hst
      refine ⟨.inr ⟨hst.kn.pick [2, 3] [2, 3], .inr (hst.kn.pick [] [])⟩, ?_⟩
      rw [← hT]
      exact hN24 _ _ _ (by kernel_rfl) ⟨A11, c12, A14, c15, g32, g28, henv.sub ⟨rfl, rfl, rfl, rfl, rfl, rfl, rfl, trivial⟩, hst.pick [1, 0, 2, 3] [0, 1, 2, 3] (by decide)⟩
    have hN48 : ∀ (L : Array Bool) (a : Act) (w : World), L = #[true, true, true, true, false, false, false, false, false, true, true, false, false, false] → (∃ A6 : Option Addr, ∃ c7 : Nat, ∃ g34 : Nat, ∃ g46 : Nat, Env 16 a [(0, .agg #[.bool (neg (qn x)), .slice A0 (zl (qn x)) c0, .bool (neg (ql x)), .slice B0 (zl (ql x)) d0]), (2, .pointer (some ⟨g3, 0, none⟩)), (8, .agg #[.bool (neg (qn x)), .slice A0 (zl (qn x)) c0]), (10, .agg #[.bool (neg (qd x)), .slice A6 (zl (qd x)) c7]), (3, .pointer (some ⟨g34, 0, none⟩)), (4, .pointer (some ⟨g46, 0, none⟩))] ∧ St w0 w [bk g46 #[.bool (neg 0), .slice none (zl 0) 0] 36, bk g34 #[.bool (neg 0), .slice none (zl 0) 0] 36, bk g3 #[.bool (neg 0), .slice none (zl 0) 0] 36, bk g1 #[.bool (neg (qn x)), .slice A0 (zl (qn x)) c0, .bool (neg (ql x)), .slice B0 (zl (ql x)) d0] 91] [pfZ A6 c7 (qd x), pfZ B0 d0 (ql x), pfZ A0 c0 (qn x)]) → T 8 L a w := by
      rintro _ a w49 rfl ⟨A6, c7, g34, g46, henv, hst⟩
      rw [hT]
      have hs50 := zl_ediv (qn x) (qd x)
      refine sAny_one (i := 4) (by kernel_rfl) rfl rfl (op_call henv rfl Tryd.call117 rfl (divmod_z (x := (qn x)) (y := (qd x)) (show ZIn _ A0 c0 (qn x) from hst.pat (k := 2) rfl) (show ZIn _ A6 c7 (qd x) from hst.pat (k := 0) rfl) (by omega) (by omega) (qd_ne _)) ?_)
      rintro e w57 ⟨_, _, rfl, ⟨A51, c52, rfl, hz53⟩, ⟨A54, c55, rfl, hz56⟩, hb⟩
      refine ⟨_, rfl, ?_⟩
      clear henv a; intro a henv
      replace hst := ((hst.call hb).addZ hz53 ⟨nou_bk rfl, nou_bk rfl, nou_bk rfl, nou_bk rfl, trivial⟩).addZ hz56 ⟨nou_bk rfl, nou_bk rfl, nou_bk rfl, nou_bk rfl, trivial⟩
      clear hz53 hz56
      clear hb
      refine ⟨.inr ⟨hst.kn.pick [2, 3] [3, 4], .inr (hst.kn.pick [] [])⟩, ?_⟩
      refine tM (i := 5) [6, 7, 8, 11, 12, 13] rfl (by kernel_rfl) (fun _ _ _ h => h) henv rfl rfl ?_
      clear henv a; intro a henv
      refine tA (i := 6) [11, 12, 13] (v := .agg #[.bool (neg ((qn x) / (qd x))), .slice A51 (zl ((qn x) / (qd x))) c52]) rfl (by kernel_rfl) (fun _ _ _ h => h) henv rfl (fun _ => rn_extract henv rfl rfl) ?_
      clear henv a; intro a henv
      refine tA (i := 7) [12, 13] (v := .agg #[.bool (neg ((qn x) % (qd x))), .slice A54 (zl ((qn x) % (qd x))) c55]) rfl (by kernel_rfl) (fun _ _ _ h => h) henv rfl (fun _ => rn_extract henv rfl rfl) ?_
      clear henv a; intro a henv
      refine tA (i := 8) [13] (v := .int .i64 0) rfl (by kernel_rfl) (fun _ _ _ h => h) henv rfl (fun _ => rn_extract henv rfl rfl) ?_
      clear henv a; intro a henv
      rw [← hT]
      exact hN24 _ _ _ (by kernel_rfl) ⟨A51, c52, A54, c55, g34, g46, henv.sub ⟨rfl, rfl, rfl, rfl, rfl, rfl, rfl, trivial⟩, hst.pick [0, 1, 2, 3] [0, 1, 3, 4] (by decide)⟩
    have hN36 : ∀ (L : Array Bool) (a : Act) (w : World), L = #[true, true, true, true, false, false, false, false, false, true, false, false, false, false] → (∃ A6 : Option Addr, ∃ c7 : Nat, ∃ g34 : Nat, Env 16 a [(0, .agg #[.bool (neg (qn x)), .slice A0 (zl (qn x)) c0, .bool (neg (ql x)), .slice B0 (zl (ql x)) d0]), (2, .pointer (some ⟨g3, 0, none⟩)), (8, .agg #[.bool (neg (qn x)), .slice A0 (zl (qn x)) c0]), (10, .agg #[.bool (neg (qd x)), .slice A6 (zl (qd x)) c7]), (3, .pointer (some ⟨g34, 0, none⟩))] ∧ St w0 w [bk g34 #[.bool (neg 0), .slice none (zl 0) 0] 36, bk g3 #[.bool (neg 0), .slice none (zl 0) 0] 36, bk g1 #[.bool (neg (qn x)), .slice A0 (zl (qn x)) c0, .bool (neg (ql x)), .slice B0 (zl (ql x)) d0] 91] [pfZ A6 c7 (qd x), pfZ B0 d0 (ql x), pfZ A0 c0 (qn x)]) → T 9 L a w := by
      rintro _ a w37 rfl ⟨A6, c7, g34, henv, hst⟩
      rw [hT]
      refine sAny_all (rs := [4, 10]) (by kernel_rfl) (by simp) ?_
      simp only [List.forall_mem_cons, List.not_mem_nil, false_implies, implies_true, and_true]
      refine ⟨?_, ?_⟩
      · have hs38 := zl_ediv (qn x) (qd x)
        refine ⟨_, rfl, rfl, op_call henv rfl Tryd.call117 rfl (divmod_z (x := (qn x)) (y := (qd x)) (show ZIn _ A0 c0 (qn x) from hst.pat (k := 2) rfl) (show ZIn _ A6 c7 (qd x) from hst.pat (k := 0) rfl) (by omega) (by omega) (qd_ne _)) ?_⟩
        rintro e w45 ⟨_, _, rfl, ⟨A39, c40, rfl, hz41⟩, ⟨A42, c43, rfl, hz44⟩, hb⟩
        refine ⟨_, rfl, ?_⟩
        clear henv a; intro a henv
        replace hst := ((hst.call hb).addZ hz41 ⟨nou_bk rfl, nou_bk rfl, nou_bk rfl, trivial⟩).addZ hz44 ⟨nou_bk rfl, nou_bk rfl, nou_bk rfl, trivial⟩
        clear hz41 hz44
        clear hb
        refine ⟨.inr ⟨hst.kn.pick [1, 2] [3, 4], .inr (hst.kn.pick [] [])⟩, ?_⟩
        refine tM (i := 5) [6, 7, 8, 11, 12, 13] rfl (by kernel_rfl) (fun _ _ _ h => h) henv rfl rfl ?_
        clear henv a; intro a henv
        refine tA (i := 6) [11, 12, 13] (v := .agg #[.bool (neg ((qn x) / (qd x))), .slice A39 (zl ((qn x) / (qd x))) c40]) rfl (by kernel_rfl) (fun _ _ _ h => h) henv rfl (fun _ => rn_extract henv rfl rfl) ?_
        clear henv a; intro a henv
        refine tA (i := 7) [12, 13] (v := .agg #[.bool (neg ((qn x) % (qd x))), .slice A42 (zl ((qn x) % (qd x))) c43]) rfl (by kernel_rfl) (fun _ _ _ h => h) henv rfl (fun _ => rn_extract henv rfl rfl) ?_
        clear henv a; intro a henv
        refine tA (i := 8) [13] (v := .int .i64 0) rfl (by kernel_rfl) (fun _ _ _ h => h) henv rfl (fun _ => rn_extract henv rfl rfl) ?_
        clear henv a; intro a henv
        rw [← hT]
        exact hN20 _ _ _ (by kernel_rfl) ⟨A39, c40, A42, c43, g34, henv.sub ⟨rfl, rfl, rfl, rfl, rfl, rfl, trivial⟩, hst.pick [0, 1, 2] [0, 1, 3, 4] (by decide)⟩
      · refine ⟨_, rfl, rfl, op_alloc (c := #[.bool (neg 0), .slice none (zl 0) 0]) henv hst rfl zero_anvil_integer_Int zcells ?_⟩
        clear henv hst a; intro a w47 g46 henv hst
        refine ⟨.inr ⟨hst.kn.pick [2, 3] [1, 2], .inr (hst.kn.pick [] [])⟩, ?_⟩
        rw [← hT]
        exact hN48 _ _ _ (by kernel_rfl) ⟨A6, c7, g34, g46, henv.sub ⟨rfl, rfl, rfl, rfl, rfl, rfl, trivial⟩, hst.pick [0, 1, 2, 3] [0, 1, 2] (by decide)⟩
    have hN60 : ∀ (L : Array Bool) (a : Act) (w : World), L = #[true, true, true, true, false, false, false, false, false, false, true, false, false, false] → (∃ A6 : Option Addr, ∃ c7 : Nat, ∃ g58 : Nat, Env 16 a [(0, .agg #[.bool (neg (qn x)), .slice A0 (zl (qn x)) c0, .bool (neg (ql x)), .slice B0 (zl (ql x)) d0]), (2, .pointer (some ⟨g3, 0, none⟩)), (8, .agg #[.bool (neg (qn x)), .slice A0 (zl (qn x)) c0]), (10, .agg #[.bool (neg (qd x)), .slice A6 (zl (qd x)) c7]), (4, .pointer (some ⟨g58, 0, none⟩))] ∧ St w0 w [bk g58 #[.bool (neg 0), .slice none (zl 0) 0] 36, bk g3 #[.bool (neg 0), .slice none (zl 0) 0] 36, bk g1 #[.bool (neg (qn x)), .slice A0 (zl (qn x)) c0, .bool (neg (ql x)), .slice B0 (zl (ql x)) d0] 91] [pfZ A6 c7 (qd x), pfZ B0 d0 (ql x), pfZ A0 c0 (qn x)]) → T 9 L a w := by
      rintro _ a w61 rfl ⟨A6, c7, g58, henv, hst⟩
      rw [hT]
      refine sAny_all (rs := [4, 9]) (by kernel_rfl) (by simp) ?_
      simp only [List.forall_mem_cons, List.not_mem_nil, false_implies, implies_true, and_true]
      refine ⟨?_, ?_⟩
      · have hs62 := zl_ediv (qn x) (qd x)
        refine ⟨_, rfl, rfl, op_call henv rfl Tryd.call117 rfl (divmod_z (x := (qn x)) (y := (qd x)) (show ZIn _ A0 c0 (qn x) from hst.pat (k := 2) rfl) (show ZIn _ A6 c7 (qd x) from hst.pat (k := 0) rfl) (by omega) (by omega) (qd_ne _)) ?_⟩
        rintro e w69 ⟨_, _, rfl, ⟨A63, c64, rfl, hz65⟩, ⟨A66, c67, rfl, hz68⟩, hb⟩
        refine ⟨_, rfl, ?_⟩
        clear henv a; intro a henv
        replace hst := ((hst.call hb).addZ hz65 ⟨nou_bk rfl, nou_bk rfl, nou_bk rfl, trivial⟩).addZ hz68 ⟨nou_bk rfl, nou_bk rfl, nou_bk rfl, trivial⟩
        clear hz65 hz68
        clear hb
        refine ⟨.inr ⟨hst.kn.pick [1, 2] [3, 4], .inr (hst.kn.pick [] [])⟩, ?_⟩
        refine tM (i := 5) [6, 7, 8, 11, 12, 13] rfl (by kernel_rfl) (fun _ _ _ h => h) henv rfl rfl ?_
        clear henv a; intro a henv
        refine tA (i := 6) [11, 12, 13] (v := .agg #[.bool (neg ((qn x) / (qd x))), .slice A63 (zl ((qn x) / (qd x))) c64]) rfl (by kernel_rfl) (fun _ _ _ h => h) henv rfl (fun _ => rn_extract henv rfl rfl) ?_
        clear henv a; intro a henv
        refine tA (i := 7) [12, 13] (v := .agg #[.bool (neg ((qn x) % (qd x))), .slice A66 (zl ((qn x) % (qd x))) c67]) rfl (by kernel_rfl) (fun _ _ _ h => h) henv rfl (fun _ => rn_extract henv rfl rfl) ?_
        clear henv a; intro a henv
        refine tA (i := 8) [13] (v := .int .i64 0) rfl (by kernel_rfl) (fun _ _ _ h => h) henv rfl (fun _ => rn_extract henv rfl rfl) ?_
        clear henv a; intro a henv
        rw [← hT]
        exact hN30 _ _ _ (by kernel_rfl) ⟨A63, c64, A66, c67, g58, henv.sub ⟨rfl, rfl, rfl, rfl, rfl, rfl, trivial⟩, hst.pick [0, 1, 2] [0, 1, 3, 4] (by decide)⟩
      · refine ⟨_, rfl, rfl, op_alloc (c := #[.bool (neg 0), .slice none (zl 0) 0]) henv hst rfl zero_anvil_integer_Int zcells ?_⟩
        clear henv hst a; intro a w71 g70 henv hst
        refine ⟨.inr ⟨hst.kn.pick [2, 3] [1, 2], .inr (hst.kn.pick [] [])⟩, ?_⟩
        rw [← hT]
        exact hN48 _ _ _ (by kernel_rfl) ⟨A6, c7, g70, g58, henv.sub ⟨rfl, rfl, rfl, rfl, rfl, rfl, trivial⟩, hst.pick [1, 0, 2, 3] [0, 1, 2] (by decide)⟩
    have hN80 : ∀ (L : Array Bool) (a : Act) (w : World), L = #[true, true, true, false, false, false, false, false, false, true, true, false, false, false] → (∃ g72 : Nat, ∃ g78 : Nat, Env 16 a [(0, .agg #[.bool (neg (qn x)), .slice A0 (zl (qn x)) c0, .bool (neg (ql x)), .slice B0 (zl (ql x)) d0]), (2, .pointer (some ⟨g3, 0, none⟩)), (8, .agg #[.bool (neg (qn x)), .slice A0 (zl (qn x)) c0]), (9, .agg #[.bool (neg (qn x)), .slice A0 (zl (qn x)) c0, .bool (neg (ql x)), .slice B0 (zl (ql x)) d0]), (3, .pointer (some ⟨g72, 0, none⟩)), (4, .pointer (some ⟨g78, 0, none⟩))] ∧ St w0 w [bk g78 #[.bool (neg 0), .slice none (zl 0) 0] 36, bk g72 #[.bool (neg 0), .slice none (zl 0) 0] 36, bk g3 #[.bool (neg 0), .slice none (zl 0) 0] 36, bk g1 #[.bool (neg (qn x)), .slice A0 (zl (qn x)) c0, .bool (neg (ql x)), .slice B0 (zl (ql x)) d0] 91] [pfZ B0 d0 (ql x), pfZ A0 c0 (qn x)]) → T 9 L a w := by
      rintro _ a w81 rfl ⟨g72, g78, henv, hst⟩
      rw [hT]
      refine sAny_one (i := 3) (by kernel_rfl) rfl rfl (op_call henv rfl Tryd.call89 rfl (den_q (x := x) (show ZIn _ A0 c0 (qn x) from hst.pat (k := 1) rfl) (show ZIn _ B0 d0 (ql x) from hst.pat (k := 0) rfl) sx (by omega)) ?_)
      rintro e w85 ⟨_, rfl, ⟨A82, c83, rfl, hz84⟩, hb⟩
      refine ⟨_, rfl, ?_⟩
      clear henv a; intro a henv
      replace hst := (hst.call hb).addZ hz84 ⟨nou_bk rfl, nou_bk rfl, nou_bk rfl, nou_bk rfl, trivial⟩
      clear hz84
      clear hb
      refine ⟨.inr ⟨hst.kn.pick [2, 3] [1, 2], .inr (hst.kn.pick [] [])⟩, ?_⟩
      rw [← hT]
      exact hN48 _ _ _ (by kernel_rfl) ⟨A82, c83, g72, g78, henv.sub ⟨rfl, rfl, rfl, rfl, rfl, rfl, trivial⟩, hst.pick [0, 1, 2, 3] [0, 1, 2] (by decide)⟩
    rw [hT]
    refine tA (i := 0) [1, 4, 5, 6, 7, 8, 11, 12, 13] (v := .pointer (some ⟨g1, 0, none⟩)) rfl (by kernel_rfl) (fun _ _ _ h => h) henv rfl (fun _ => rn_fieldAddr henv fd_anvil_ratio_Rat_0 (ty_anvil_integer_Int.size) (by decide) rfl) ?_
    clear henv a; intro a henv
    refine sAny_take (i := 1) [4, 5, 6, 7, 8, 11, 12, 13] (fun w' => w'.heap[g1]? = some (.cells #[.bool (neg (qn x)), .slice A0 (zl (qn x)) c0, .bool (neg (ql x)), .slice B0 (zl (ql x)) d0] 91 (0, 0))) (v := .agg #[.bool (neg (qn x)), .slice A0 (zl (qn x)) c0]) rfl (by kernel_rfl) (fun _ _ _ h => h) (fun _ _ _ hS => hS.1.oat (k := 1) rfl) henv rfl (hst.oat (k := 1) rfl) (fun w' hg => rn_load henv ty_anvil_integer_Int rfl hg rfl rfl) ?_
    clear henv a; intro a henv
    refine tL (i := 2) 1 1 [3, 4, 5, 6, 7, 8, 11, 12, 13] rfl (by kernel_rfl) (fun _ _ _ h => h) henv rfl ty_anvil_ratio_Rat rfl hst rfl rfl rfl ?_
    clear henv a; intro a henv
    refine sAny_all (rs := [3, 9, 10]) (by kernel_rfl) (by simp) ?_
    simp only [List.forall_mem_cons, List.not_mem_nil, false_implies, implies_true, and_true]
    refine ⟨?_, ?_, ?_⟩
    · refine ⟨_, rfl, rfl, op_call henv rfl Tryd.call89 rfl (den_q (x := x) (show ZIn _ A0 c0 (qn x) from hst.pat (k := 1) rfl) (show ZIn _ B0 d0 (ql x) from hst.pat (k := 0) rfl) sx (by omega)) ?_⟩
      rintro e w9 ⟨_, rfl, ⟨A6, c7, rfl, hz8⟩, hb⟩
      refine ⟨_, rfl, ?_⟩
      clear henv a; intro a henv
      replace hst := (hst.call hb).addZ hz8 ⟨nou_bk rfl, nou_bk rfl, trivial⟩
      clear hz8
      clear hb
      refine ⟨.inr ⟨hst.kn.pick [0, 1] [1, 2], .inr (hst.kn.pick [] [])⟩, ?_⟩
      refine sAny_all (rs := [4, 9, 10]) (by kernel_rfl) (by simp) ?_
      simp only [List.forall_mem_cons, List.not_mem_nil, false_implies, implies_true, and_true]
      refine ⟨?_, ?_, ?_⟩
      · have hs10 := zl_ediv (qn x) (qd x)
        refine ⟨_, rfl, rfl, op_call henv rfl Tryd.call117 rfl (divmod_z (x := (qn x)) (y := (qd x)) (show ZIn _ A0 c0 (qn x) from hst.pat (k := 2) rfl) (show ZIn _ A6 c7 (qd x) from hst.pat (k := 0) rfl) (by omega) (by omega) (qd_ne _)) ?_⟩
        rintro e w17 ⟨_, _, rfl, ⟨A11, c12, rfl, hz13⟩, ⟨A14, c15, rfl, hz16⟩, hb⟩
        refine ⟨_, rfl, ?_⟩
        clear henv a; intro a henv
        replace hst := ((hst.call hb).addZ hz13 ⟨nou_bk rfl, nou_bk rfl, trivial⟩).addZ hz16 ⟨nou_bk rfl, nou_bk rfl, trivial⟩
        clear hz13 hz16
        clear hb
        refine ⟨.inr ⟨hst.kn.pick [0, 1] [3, 4], .inr (hst.kn.pick [] [])⟩, ?_⟩
        refine tM (i := 5) [6, 7, 8, 11, 12, 13] rfl (by kernel_rfl) (fun _ _ _ h => h) henv rfl rfl ?_
        clear henv a; intro a henv
        refine tA (i := 6) [11, 12, 13] (v := .agg #[.bool (neg ((qn x) / (qd x))), .slice A11 (zl ((qn x) / (qd x))) c12]) rfl (by kernel_rfl) (fun _ _ _ h => h) henv rfl (fun _ => rn_extract henv rfl rfl) ?_
        clear henv a; intro a henv
        refine tA (i := 7) [12, 13] (v := .agg #[.bool (neg ((qn x) % (qd x))), .slice A14 (zl ((qn x) % (qd x))) c15]) rfl (by kernel_rfl) (fun _ _ _ h => h) henv rfl (fun _ => rn_extract henv rfl rfl) ?_
        clear henv a; intro a henv
        refine tA (i := 8) [13] (v := .int .i64 0) rfl (by kernel_rfl) (fun _ _ _ h => h) henv rfl (fun _ => rn_extract henv rfl rfl) ?_
        clear henv a; intro a henv
        refine sAny_all (rs := [9, 10]) (by kernel_rfl) (by simp) ?_
        simp only [List.forall_mem_cons, List.not_mem_nil, false_implies, implies_true, and_true]
        refine ⟨?_, ?_⟩
        · refine ⟨_, rfl, rfl, op_alloc (c := #[.bool (neg 0), .slice none (zl 0) 0]) henv hst rfl zero_anvil_integer_Int zcells ?_⟩
          clear henv hst a; intro a w19 g18 henv hst
          refine ⟨.inr ⟨hst.kn.pick [1, 2] [3, 4], .inr (hst.kn.pick [] [])⟩, ?_⟩
          rw [← hT]
          exact hN20 _ _ _ (by kernel_rfl) ⟨A11, c12, A14, c15, g18, henv.sub ⟨rfl, rfl, rfl, rfl, rfl, rfl, trivial⟩, hst.pick [0, 1, 2] [0, 1, 3, 4] (by decide)⟩
        · refine ⟨_, rfl, rfl, op_alloc (c := #[.bool (neg 0), .slice none (zl 0) 0]) henv hst rfl zero_anvil_integer_Int zcells ?_⟩
          clear henv hst a; intro a w29 g28 henv hst
          refine ⟨.inr ⟨hst.kn.pick [1, 2] [3, 4], .inr (hst.kn.pick [] [])⟩, ?_⟩
          rw [← hT]
          exact hN30 _ _ _ (by kernel_rfl) ⟨A11, c12, A14, c15, g28, henv.sub ⟨rfl, rfl, rfl, rfl, rfl, rfl, trivial⟩, hst.pick [0, 1, 2] [0, 1, 3, 4] (by decide)⟩
      · refine ⟨_, rfl, rfl, op_alloc (c := #[.bool (neg 0), .slice none (zl 0) 0]) henv hst rfl zero_anvil_integer_Int zcells ?_⟩
        clear henv hst a; intro a w35 g34 henv hst
        refine ⟨.inr ⟨hst.kn.pick [1, 2] [1, 2], .inr (hst.kn.pick [] [])⟩, ?_⟩
        rw [← hT]
        exact hN36 _ _ _ (by kernel_rfl) ⟨A6, c7, g34, henv.sub ⟨rfl, rfl, rfl, rfl, rfl, trivial⟩, hst.pick [0, 1, 2] [0, 1, 2] (by decide)⟩
      · refine ⟨_, rfl, rfl, op_alloc (c := #[.bool (neg 0), .slice none (zl 0) 0]) henv hst rfl zero_anvil_integer_Int zcells ?_⟩
        clear henv hst a; intro a w59 g58 henv hst
        refine ⟨.inr ⟨hst.kn.pick [1, 2] [1, 2], .inr (hst.kn.pick [] [])⟩, ?_⟩
        rw [← hT]
        exact hN60 _ _ _ (by kernel_rfl) ⟨A6, c7, g58, henv.sub ⟨rfl, rfl, rfl, rfl, rfl, trivial⟩, hst.pick [0, 1, 2] [0, 1, 2] (by decide)⟩
    · refine ⟨_, rfl, rfl, op_alloc (c := #[.bool (neg 0), .slice none (zl 0) 0]) henv hst rfl zero_anvil_integer_Int zcells ?_⟩
      clear henv hst a; intro a w73 g72 henv hst
      refine ⟨.inr ⟨hst.kn.pick [1, 2] [0, 1], .inr (hst.kn.pick [] [])⟩, ?_⟩
      refine sAny_all (rs := [3, 10]) (by kernel_rfl) (by simp) ?_
      simp only [List.forall_mem_cons, List.not_mem_nil, false_implies, implies_true, and_true]
      refine ⟨?_, ?_⟩
      · refine ⟨_, rfl, rfl, op_call henv rfl Tryd.call89 rfl (den_q (x := x) (show ZIn _ A0 c0 (qn x) from hst.pat (k := 1) rfl) (show ZIn _ B0 d0 (ql x) from hst.pat (k := 0) rfl) sx (by omega)) ?_⟩
        rintro e w77 ⟨_, rfl, ⟨A74, c75, rfl, hz76⟩, hb⟩
        refine ⟨_, rfl, ?_⟩
        clear henv a; intro a henv
        replace hst := (hst.call hb).addZ hz76 ⟨nou_bk rfl, nou_bk rfl, nou_bk rfl, trivial⟩
        clear hz76
        clear hb
        refine ⟨.inr ⟨hst.kn.pick [1, 2] [1, 2], .inr (hst.kn.pick [] [])⟩, ?_⟩
        rw [← hT]
        exact hN36 _ _ _ (by kernel_rfl) ⟨A74, c75, g72, henv.sub ⟨rfl, rfl, rfl, rfl, rfl, trivial⟩, hst.pick [0, 1, 2] [0, 1, 2] (by decide)⟩
      · refine ⟨_, rfl, rfl, op_alloc (c := #[.bool (neg 0), .slice none (zl 0) 0]) henv hst rfl zero_anvil_integer_Int zcells ?_⟩
        clear henv hst a; intro a w79 g78 henv hst
        refine ⟨.inr ⟨hst.kn.pick [2, 3] [0, 1], .inr (hst.kn.pick [] [])⟩, ?_⟩
        rw [← hT]
        exact hN80 _ _ _ (by kernel_rfl) ⟨g72, g78, henv.sub ⟨rfl, rfl, rfl, rfl, rfl, rfl, trivial⟩, hst.pick [0, 1, 2, 3] [0, 1] (by decide)⟩
    · refine ⟨_, rfl, rfl, op_alloc (c := #[.bool (neg 0), .slice none (zl 0) 0]) henv hst rfl zero_anvil_integer_Int zcells ?_⟩
      clear henv hst a; intro a w87 g86 henv hst
      refine ⟨.inr ⟨hst.kn.pick [1, 2] [0, 1], .inr (hst.kn.pick [] [])⟩, ?_⟩
      refine sAny_all (rs := [3, 9]) (by kernel_rfl) (by simp) ?_
      simp only [List.forall_mem_cons, List.not_mem_nil, false_implies, implies_true, and_true]
      refine ⟨?_, ?_⟩
      · refine ⟨_, rfl, rfl, op_call henv rfl Tryd.call89 rfl (den_q (x := x) (show ZIn _ A0 c0 (qn x) from hst.pat (k := 1) rfl) (show ZIn _ B0 d0 (ql x) from hst.pat (k := 0) rfl) sx (by omega)) ?_⟩
        rintro e w91 ⟨_, rfl, ⟨A88, c89, rfl, hz90⟩, hb⟩
        refine ⟨_, rfl, ?_⟩
        clear henv a; intro a henv
        replace hst := (hst.call hb).addZ hz90 ⟨nou_bk rfl, nou_bk rfl, nou_bk rfl, trivial⟩
        clear hz90
        clear hb
        refine ⟨.inr ⟨hst.kn.pick [1, 2] [1, 2], .inr (hst.kn.pick [] [])⟩, ?_⟩
        rw [← hT]
        exact hN60 _ _ _ (by kernel_rfl) ⟨A88, c89, g86, henv.sub ⟨rfl, rfl, rfl, rfl, rfl, trivial⟩, hst.pick [0, 1, 2] [0, 1, 2] (by decide)⟩
      · refine ⟨_, rfl, rfl, op_alloc (c := #[.bool (neg 0), .slice none (zl 0) 0]) henv hst rfl zero_anvil_integer_Int zcells ?_⟩
        clear henv hst a; intro a w93 g92 henv hst
        refine ⟨.inr ⟨hst.kn.pick [2, 3] [0, 1], .inr (hst.kn.pick [] [])⟩, ?_⟩
        rw [← hT]
        exact hN80 _ _ _ (by kernel_rfl) ⟨g92, g86, henv.sub ⟨rfl, rfl, rfl, rfl, rfl, rfl, trivial⟩, hst.pick [1, 0, 2, 3] [0, 1] (by decide)⟩
  clear henv hst a
  rintro a w94 ⟨A11, c12, A14, c15, g18, g22, henv, hst⟩
  refine wp_seq ?_
  refine region_seq ?_
  refine sv (v := .agg #[.bool (neg ((qn x) / (qd x))), .slice A11 (zl ((qn x) / (qd x))) c12]) henv rfl (rn_load0 henv ty_anvil_integer_Int rfl (hst.oat (k := 1) rfl) rfl) ?_
  clear henv a; intro a henv
  refine seq_step rfl (op_store (k := 2) (c' := #[.bool (neg ((qn x) / (qd x))), .slice A11 (zl ((qn x) / (qd x))) c12]) henv hst (ty_anvil_integer_Int.size) rfl rfl rfl rfl (by simp) rfl rfl ?_)
  clear henv hst a; intro a w95 henv hst
  refine wpList_nil ?_
  refine th_n ?_
  refine wp_ret ?_
  refine leave henv (res1 Tryd.results66 (RV.cell henv ty_anvil_integer_Int rfl (hst.oat (k := 2) rfl) rfl)) ?_
  exact ⟨_, rfl, z_at (q_floor _) (hst.pat (k := 1) rfl), hst.below⟩
set_option maxRecDepth 100000 in
set_option maxHeartbeats 1000000 in
theorem cmp_q {A0 B0 : Option Addr} {c0 d0 : Nat} {A1 B1 : Option Addr} {c1 d1 : Nat} {x y : Rat} {w0 : World} (h0 : ZIn w0 A0 c0 (qn x)) (k0 : ZIn w0 B0 d0 (ql x)) (h1 : ZIn w0 A1 c1 (qn y)) (k1 : ZIn w0 B1 d1 (ql y)) {a b : Nat} (sx : Qs a x) (sy : Qs b y) (hab : a + b ≤ 40000) :
    Calls Tryd.prog 64 #[.agg #[.bool (neg (qn x)), .slice A0 (zl (qn x)) c0, .bool (neg (ql x)), .slice B0 (zl (ql x)) d0], .agg #[.bool (neg (qn y)), .slice A1 (zl (qn y)) c1, .bool (neg (ql y)), .slice B1 (zl (ql y)) d1]] w0 fun e w' => e = .returned (.int .i64 (cmpQ x y)) ∧ Below w0.heap.size w0 w' := by
  have hnx := sx.n
  have hdx := sx.d
  have hlx := sx.l
  have hny := sy.n
  have hdy := sy.d
  have hly := sy.l
  refine enter Tryd.func64 rfl Tryd.ntmps64 rfl ?_
  intro a henv hst
  replace hst := hst.addZ h0 trivial
  replace hst := hst.addZ k0 trivial
  replace hst := hst.addZ h1 trivial
  replace hst := hst.addZ k1 trivial
  refine wp_seq ?_
  refine region_seq ?_
  refine seq_step rfl (op_box (c := #[.bool (neg (qn x)), .slice A0 (zl (qn x)) c0, .bool (neg (ql x)), .slice B0 (zl (ql x)) d0]) henv hst rfl rfl rfl ?_)
  clear henv hst a; intro a w2 g1 henv hst
  refine seq_step rfl (op_box (c := #[.bool (neg (qn y)), .slice A1 (zl (qn y)) c1, .bool (neg (ql y)), .slice B1 (zl (ql y)) d1]) henv hst rfl rfl rfl ?_)
  clear henv hst a; intro a w4 g3 henv hst
  refine sv (v := .int .i64 0) henv rfl (rn_assign henv rfl) ?_
  clear henv a; intro a henv
  refine wpList_nil ?_
  refine th_n ?_
  refine wp_seq ?_
  refine region_any (n := 12) (Sk [bk g3 #[.bool (neg (qn y)), .slice A1 (zl (qn y)) c1, .bool (neg (ql y)), .slice B1 (zl (ql y)) d1] 91, bk g1 #[.bool (neg (qn x)), .slice A0 (zl (qn x)) c0, .bool (neg (ql x)), .slice B0 (zl (ql x)) d0] 91] [pfZ B1 d1 (ql y), pfZ A1 c1 (qn y), pfZ B0 d0 (ql x), pfZ A0 c0 (qn x)] [] []) mixed rfl henv hst ?_
  clear henv hst; intro w5 henv hst
  refine tA (i := 0) [1, 4, 8, 9, 10, 11] (v := .pointer (some ⟨g1, 0, none⟩)) rfl (by kernel_rfl) (fun _ _ _ h => h) henv rfl (fun _ => rn_fieldAddr henv fd_anvil_ratio_Rat_0 (ty_anvil_integer_Int.size) (by decide) rfl) ?_
  clear henv a; intro a henv
  refine sAny_take (i := 1) [4, 8, 9, 10, 11] (fun w' => w'.heap[g1]? = some (.cells #[.bool (neg (qn x)), .slice A0 (zl (qn x)) c0, .bool (neg (ql x)), .slice B0 (zl (ql x)) d0] 91 (0, 0))) (v := .agg #[.bool (neg (qn x)), .slice A0 (zl (qn x)) c0]) rfl (by kernel_rfl) (fun _ _ _ h => h) (fun _ _ _ hS => hS.1.oat (k := 1) rfl) henv rfl (hst.oat (k := 1) rfl) (fun w' hg => rn_load henv ty_anvil_integer_Int rfl hg rfl rfl) ?_
  clear henv a; intro a henv
  refine tL (i := 2) 0 0 [3, 4, 8, 9, 10, 11] rfl (by kernel_rfl) (fun _ _ _ h => h) henv rfl ty_anvil_ratio_Rat rfl hst rfl rfl rfl ?_
  clear henv a; intro a henv
  refine tA (i := 5) [6, 9, 10, 11] (v := .pointer (some ⟨g3, 0, none⟩)) rfl (by kernel_rfl) (fun _ _ _ h => h) henv rfl (fun _ => rn_fieldAddr henv fd_anvil_ratio_Rat_0 (ty_anvil_integer_Int.size) (by decide) rfl) ?_
  clear henv a; intro a henv
  refine sAny_take (i := 6) [9, 10, 11] (fun w' => w'.heap[g3]? = some (.cells #[.bool (neg (qn y)), .slice A1 (zl (qn y)) c1, .bool (neg (ql y)), .slice B1 (zl (ql y)) d1] 91 (0, 0))) (v := .agg #[.bool (neg (qn y)), .slice A1 (zl (qn y)) c1]) rfl (by kernel_rfl) (fun _ _ _ h => h) (fun _ _ _ hS => hS.1.oat (k := 0) rfl) henv rfl (hst.oat (k := 0) rfl) (fun w' hg => rn_load henv ty_anvil_integer_Int rfl hg rfl rfl) ?_
  clear henv a; intro a henv
  refine tL (i := 7) 1 1 (rg 8 4) rfl (by kernel_rfl) (fun _ _ _ h => h) henv rfl ty_anvil_ratio_Rat rfl hst rfl rfl rfl ?_
  clear henv a; intro a henv
  refine sAny_one (i := 3) (by kernel_rfl) rfl rfl (op_call henv rfl Tryd.call89 rfl (den_q (x := y) (show ZIn _ A1 c1 (qn y) from hst.pat (k := 1) rfl) (show ZIn _ B1 d1 (ql y) from hst.pat (k := 0) rfl) sy (by omega)) ?_)
  rintro e w9 ⟨_, rfl, ⟨A6, c7, rfl, hz8⟩, hb⟩
  refine ⟨_, rfl, ?_⟩
  clear henv a; intro a henv
  replace hst := (hst.call hb).addZ hz8 ⟨nou_bk rfl, nou_bk rfl, trivial⟩
  clear hz8
  clear hb
  refine ⟨.inr ⟨hst.kn.pick [0, 1] (rg 1 4), .inr (hst.kn.pick [] [])⟩, ?_⟩
  have hs10 := zl_mul (qn x) (qd y)
  refine sAny_one (i := 4) (by kernel_rfl) rfl rfl (op_call henv rfl Tryd.call84 rfl (mul_z (x := (qn x)) (y := (qd y)) (show ZIn _ A0 c0 (qn x) from hst.pat (k := 4) rfl) (show ZIn _ A6 c7 (qd y) from hst.pat (k := 0) rfl) (by omega) (by omega)) ?_)
  rintro e w14 ⟨_, rfl, ⟨A11, c12, rfl, hz13⟩, hb⟩
  refine ⟨_, rfl, ?_⟩
  clear henv a; intro a henv
  replace hst := (hst.call hb).addZ hz13 ⟨nou_bk rfl, nou_bk rfl, trivial⟩
  clear hz13
  clear hb
  refine ⟨.inr ⟨hst.kn.pick [0, 1] (rg 2 4), .inr (hst.kn.pick [] [])⟩, ?_⟩
  refine sAny_one (i := 8) (by kernel_rfl) rfl rfl (op_call henv rfl Tryd.call89 rfl (den_q (x := x) (show ZIn _ A0 c0 (qn x) from hst.pat (k := 5) rfl) (show ZIn _ B0 d0 (ql x) from hst.pat (k := 4) rfl) sx (by omega)) ?_)
  rintro e w18 ⟨_, rfl, ⟨A15, c16, rfl, hz17⟩, hb⟩
  refine ⟨_, rfl, ?_⟩
  clear henv a; intro a henv
  replace hst := (hst.call hb).addZ hz17 ⟨nou_bk rfl, nou_bk rfl, trivial⟩
  clear hz17
  clear hb
  refine ⟨.inr ⟨hst.kn.pick [0, 1] (rg 3 4), .inr (hst.kn.pick [] [])⟩, ?_⟩
  have hs19 := zl_mul (qn y) (qd x)
  refine sAny_one (i := 9) (by kernel_rfl) rfl rfl (op_call henv rfl Tryd.call84 rfl (mul_z (x := (qn y)) (y := (qd x)) (show ZIn _ A1 c1 (qn y) from hst.pat (k := 4) rfl) (show ZIn _ A15 c16 (qd x) from hst.pat (k := 0) rfl) (by omega) (by omega)) ?_)
  rintro e w23 ⟨_, rfl, ⟨A20, c21, rfl, hz22⟩, hb⟩
  refine ⟨_, rfl, ?_⟩
  clear henv a; intro a henv
  replace hst := (hst.call hb).addZ hz22 ⟨nou_bk rfl, nou_bk rfl, trivial⟩
  clear hz22
  clear hb
  refine ⟨.inr ⟨hst.kn.pick [0, 1] (rg 4 4), .inr (hst.kn.pick [] [])⟩, ?_⟩
  refine sAny_one (i := 10) (by kernel_rfl) rfl rfl (op_call henv rfl Tryd.call42 rfl (cmp_z (x := (qn x) * (qd y)) (y := (qn y) * (qd x)) (show ZIn _ A11 c12 ((qn x) * (qd y)) from hst.pat (k := 2) rfl) (show ZIn _ A20 c21 ((qn y) * (qd x)) from hst.pat (k := 0) rfl)) ?_)
  rintro e w24 ⟨rfl, hb⟩
  refine ⟨_, rfl, ?_⟩
  clear henv a; intro a henv
  replace hst := hst.call hb
  clear hb
  refine ⟨.inr ⟨hst.kn.pick [0, 1] (rg 4 4), .inr (hst.kn.pick [] [])⟩, ?_⟩
  refine tA (i := 11) [] (v := .int .i64 ((((qn x) * (qd y)) - ((qn y) * (qd x))).sign)) rfl (by kernel_rfl) (fun _ _ _ h => h) henv rfl (fun _ => rn_assign henv rfl) ?_
  clear henv a; intro a henv
  refine sAny_done (by kernel_rfl) ?_ _
  refine th_n ?_
  refine wp_ret ?_
  refine leave henv (res1 Tryd.results64 (RV.tmp henv rfl)) ?_
  exact ⟨rfl, hst.below⟩
set_option maxRecDepth 100000 in
set_option maxHeartbeats 1000000 in
theorem neg_q {A0 B0 : Option Addr} {c0 d0 : Nat} {x : Rat} {w0 : World} (h0 : ZIn w0 A0 c0 (qn x)) (k0 : ZIn w0 B0 d0 (ql x)) :
    Calls Tryd.prog 61 #[.agg #[.bool (neg (qn x)), .slice A0 (zl (qn x)) c0, .bool (neg (ql x)), .slice B0 (zl (ql x)) d0]] w0 fun e w' => ∃ v, e = .returned v ∧ QAt w' v (-x) ∧ Below w0.heap.size w0 w' := by
  refine enter Tryd.func61 rfl Tryd.ntmps61 rfl ?_
  intro a henv hst
  replace hst := hst.addZ h0 trivial
  replace hst := hst.addZ k0 trivial
  refine wp_seq ?_
  refine region_seq ?_
  refine seq_step rfl (op_box (c := #[.bool (neg (qn x)), .slice A0 (zl (qn x)) c0, .bool (neg (ql x)), .slice B0 (zl (ql x)) d0]) henv hst rfl rfl rfl ?_)
  clear henv hst a; intro a w2 g1 henv hst
  refine seq_step rfl (op_alloc (c := #[.bool (neg (qn 0)), .slice none (zl (qn 0)) 0, .bool (neg (ql 0)), .slice none (zl (ql 0)) 0]) henv hst rfl zero_anvil_ratio_Rat qcells ?_)
  clear henv hst a; intro a w4 g3 henv hst
  refine wpList_nil ?_
  refine th_n ?_
  refine wp_seq ?_
  refine region_any (n := 7) (Sk [bk g1 #[.bool (neg (qn x)), .slice A0 (zl (qn x)) c0, .bool (neg (ql x)), .slice B0 (zl (ql x)) d0] 91] [pfZ B0 d0 (ql x), pfZ A0 c0 (qn x)] [6] []) mixed rfl henv hst ?_
  clear henv hst; intro w5 henv hst
  refine tA (i := 0) [1, 2, 5, 6] (v := .pointer (some ⟨g1, 0, none⟩)) rfl (by kernel_rfl) (fun _ _ _ h => h) henv rfl (fun _ => rn_fieldAddr henv fd_anvil_ratio_Rat_0 (ty_anvil_integer_Int.size) (by decide) rfl) ?_
  clear henv a; intro a henv
  refine sAny_take (i := 1) [2, 5, 6] (fun w' => w'.heap[g1]? = some (.cells #[.bool (neg (qn x)), .slice A0 (zl (qn x)) c0, .bool (neg (ql x)), .slice B0 (zl (ql x)) d0] 91 (0, 0))) (v := .agg #[.bool (neg (qn x)), .slice A0 (zl (qn x)) c0]) rfl (by kernel_rfl) (fun _ _ _ h => h) (fun _ _ _ hS => hS.1.oat (k := 0) rfl) henv rfl (hst.oat (k := 1) rfl) (fun w' hg => rn_load henv ty_anvil_integer_Int rfl hg rfl rfl) ?_
  clear henv a; intro a henv
  refine tA (i := 3) [4, 5, 6] (v := .pointer (some ⟨g1, 2, none⟩)) rfl (by kernel_rfl) (fun _ _ _ h => h) henv rfl (fun _ => rn_fieldAddr henv fd_anvil_ratio_Rat_1 (ty_anvil_integer_Int.size) (by decide) rfl) ?_
  clear henv a; intro a henv
  refine sAny_take (i := 4) [5, 6] (fun w' => w'.heap[g1]? = some (.cells #[.bool (neg (qn x)), .slice A0 (zl (qn x)) c0, .bool (neg (ql x)), .slice B0 (zl (ql x)) d0] 91 (0, 0))) (v := .agg #[.bool (neg (ql x)), .slice B0 (zl (ql x)) d0]) rfl (by kernel_rfl) (fun _ _ _ h => h) (fun _ _ _ hS => hS.1.oat (k := 0) rfl) henv rfl (hst.oat (k := 1) rfl) (fun w' hg => rn_load henv ty_anvil_integer_Int rfl hg rfl rfl) ?_
  clear henv a; intro a henv
  have hs6 := zl_neg (qn x)
  refine sAny_one (i := 2) (by kernel_rfl) rfl rfl (op_call henv rfl Tryd.call103 rfl (neg_z (z := (qn x)) (show ZIn _ A0 c0 (qn x) from hst.pat (k := 1) rfl)) ?_)
  rintro e w10 ⟨_, rfl, ⟨A7, c8, rfl, hz9⟩, hb⟩
  refine ⟨_, rfl, ?_⟩
  clear henv a; intro a henv
  replace hst := (hst.call hb).addZ hz9 ⟨nou_bk rfl, nou_bk rfl, trivial⟩
  clear hz9
  clear hb
  refine ⟨.inr ⟨hst.kn.pick [1] [1, 2], .inr (hst.kn.pick [] [])⟩, ?_⟩
  refine tA (i := 5) [6] (v := .agg #[.bool (neg (-(qn x))), .slice A7 (zl (-(qn x))) c8, .bool (neg (ql x)), .slice B0 (zl (ql x)) d0]) rfl (by kernel_rfl) (fun _ _ _ h => h) henv rfl (fun _ => rn_rat2 henv rfl rfl) ?_
  clear henv a; intro a henv
  refine sAny_one (i := 6) (by kernel_rfl) rfl rfl (op_store (k := 0) (c' := #[.bool (neg (-(qn x))), .slice A7 (zl (-(qn x))) c8, .bool (neg (ql x)), .slice B0 (zl (ql x)) d0]) henv hst (ty_anvil_ratio_Rat.size) rfl rfl rfl rfl (by simp) rfl rfl ?_)
  clear henv hst a; intro a w11 henv hst
  refine ⟨.inr ⟨hst.kn.pick [1] [1, 2], .inl rfl⟩, ?_⟩
  refine sAny_done (by kernel_rfl) ?_ _
  refine th_n ?_
  refine wp_ret ?_
  refine leave henv (res1 Tryd.results61 (RV.cell henv ty_anvil_ratio_Rat rfl (hst.oat (k := 0) rfl) rfl)) ?_
  exact ⟨_, rfl, q_at rfl rfl (hst.pat (k := 0) rfl) (hst.pat (k := 1) rfl), hst.below⟩
set_option maxRecDepth 100000 in
set_option maxHeartbeats 1000000 in
theorem add_q {A0 B0 : Option Addr} {c0 d0 : Nat} {A1 B1 : Option Addr} {c1 d1 : Nat} {x y : Rat} {w0 : World} (h0 : ZIn w0 A0 c0 (qn x)) (k0 : ZIn w0 B0 d0 (ql x)) (h1 : ZIn w0 A1 c1 (qn y)) (k1 : ZIn w0 B1 d1 (ql y)) {a b : Nat} (sx : Qs a x) (sy : Qs b y) (hab : a + b ≤ 40000) :
    Calls Tryd.prog 58 #[.agg #[.bool (neg (qn x)), .slice A0 (zl (qn x)) c0, .bool (neg (ql x)), .slice B0 (zl (ql x)) d0], .agg #[.bool (neg (qn y)), .slice A1 (zl (qn y)) c1, .bool (neg (ql y)), .slice B1 (zl (ql y)) d1]] w0 fun e w' => ∃ v, e = .returned v ∧ QAt w' v (x + y) ∧ Below w0.heap.size w0 w' := by
  have hnx := sx.n
  have hdx := sx.d
  have hlx := sx.l
  have hny := sy.n
  have hdy := sy.d
  have hly := sy.l
  refine enter Tryd.func58 rfl Tryd.ntmps58 rfl ?_
  intro a henv hst
  replace hst := hst.addZ h0 trivial
  replace hst := hst.addZ k0 trivial
  replace hst := hst.addZ h1 trivial
  replace hst := hst.addZ k1 trivial
  refine wp_seq ?_
  refine region_seq ?_
  refine seq_step rfl (op_box (c := #[.bool (neg (qn x)), .slice A0 (zl (qn x)) c0, .bool (neg (ql x)), .slice B0 (zl (ql x)) d0]) henv hst rfl rfl rfl ?_)
  clear henv hst a; intro a w2 g1 henv hst
  refine seq_step rfl (op_box (c := #[.bool (neg (qn y)), .slice A1 (zl (qn y)) c1, .bool (neg (ql y)), .slice B1 (zl (ql y)) d1]) henv hst rfl rfl rfl ?_)
  clear henv hst a; intro a w4 g3 henv hst
  refine seq_step rfl (op_alloc (c := #[.bool (neg (qn 0)), .slice none (zl (qn 0)) 0, .bool (neg (ql 0)), .slice none (zl (ql 0)) 0]) henv hst rfl zero_anvil_ratio_Rat qcells ?_)
  clear henv hst a; intro a w6 g5 henv hst
  refine wpList_nil ?_
  refine th_n ?_
  refine wp_seq ?_
  refine cut (fun a w => ∃ A8 : Option Addr, ∃ c9 : Nat, ∃ A12 : Option Addr, ∃ c13 : Nat, ∃ g16 : Nat, ∃ g20 : Nat, Env 24 a [(0, .agg #[.bool (neg (qn x)), .slice A0 (zl (qn x)) c0, .bool (neg (ql x)), .slice B0 (zl (ql x)) d0]), (1, .agg #[.bool (neg (qn y)), .slice A1 (zl (qn y)) c1, .bool (neg (ql y)), .slice B1 (zl (ql y)) d1]), (2, .pointer (some ⟨g1, 0, none⟩)), (3, .pointer (some ⟨g3, 0, none⟩)), (4, .pointer (some ⟨g5, 0, none⟩)), (5, .pointer (some ⟨g16, 0, none⟩)), (6, .pointer (some ⟨g20, 0, none⟩))] ∧ St w0 w [bk g20 #[.bool (neg (qd y)), .slice A12 (zl (qd y)) c13] 36, bk g16 #[.bool (neg (qd x)), .slice A8 (zl (qd x)) c9] 36, bk g5 #[.bool (neg (qn 0)), .slice none (zl (qn 0)) 0, .bool (neg (ql 0)), .slice none (zl (ql 0)) 0] 91, bk g3 #[.bool (neg (qn y)), .slice A1 (zl (qn y)) c1, .bool (neg (ql y)), .slice B1 (zl (ql y)) d1] 91, bk g1 #[.bool (neg (qn x)), .slice A0 (zl (qn x)) c0, .bool (neg (ql x)), .slice B0 (zl (ql x)) d0] 91] [pfZ A12 c13 (qd y), pfZ A8 c9 (qd x), pfZ B1 d1 (ql y), pfZ A1 c1 (qn y), pfZ B0 d0 (ql x), pfZ A0 c0 (qn x)]) ?_ ?_
  · refine region_any (n := 8) (Sk [bk g5 #[.bool (neg (qn 0)), .slice none (zl (qn 0)) 0, .bool (neg (ql 0)), .slice none (zl (ql 0)) 0] 91, bk g3 #[.bool (neg (qn y)), .slice A1 (zl (qn y)) c1, .bool (neg (ql y)), .slice B1 (zl (ql y)) d1] 91, bk g1 #[.bool (neg (qn x)), .slice A0 (zl (qn x)) c0, .bool (neg (ql x)), .slice B0 (zl (ql x)) d0] 91] [pfZ B1 d1 (ql y), pfZ A1 c1 (qn y), pfZ B0 d0 (ql x), pfZ A0 c0 (qn x)] [6, 7] []) mixed rfl henv hst ?_
    clear henv hst; intro w7 henv hst
    refine sAny_gen fun T hT => ?_
    have hN22 : ∀ (L : Array Bool) (a : Act) (w : World), L = #[true, true, true, true, true, true, false, false] → (∃ A8 : Option Addr, ∃ c9 : Nat, ∃ A12 : Option Addr, ∃ c13 : Nat, ∃ g16 : Nat, ∃ g20 : Nat, Env 24 a [(0, .agg #[.bool (neg (qn x)), .slice A0 (zl (qn x)) c0, .bool (neg (ql x)), .slice B0 (zl (ql x)) d0]), (1, .agg #[.bool (neg (qn y)), .slice A1 (zl (qn y)) c1, .bool (neg (ql y)), .slice B1 (zl (ql y)) d1]), (2, .pointer (some ⟨g1, 0, none⟩)), (3, .pointer (some ⟨g3, 0, none⟩)), (4, .pointer (some ⟨g5, 0, none⟩)), (8, .agg #[.bool (neg (qd x)), .slice A8 (zl (qd x)) c9]), (10, .agg #[.bool (neg (qd y)), .slice A12 (zl (qd y)) c13]), (5, .pointer (some ⟨g16, 0, none⟩)), (6, .pointer (some ⟨g20, 0, none⟩))] ∧ St w0 w [bk g20 #[.bool (neg 0), .slice none (zl 0) 0] 36, bk g16 #[.bool (neg 0), .slice none (zl 0) 0] 36, bk g5 #[.bool (neg (qn 0)), .slice none (zl (qn 0)) 0, .bool (neg (ql 0)), .slice none (zl (ql 0)) 0] 91, bk g3 #[.bool (neg (qn y)), .slice A1 (zl (qn y)) c1, .bool (neg (ql y)), .slice B1 (zl (ql y)) d1] 91, bk g1 #[.bool (neg (qn x)), .slice A0 (zl (qn x)) c0, .bool (neg (ql x)), .slice B0 (zl (ql x)) d0] 91] [pfZ A12 c13 (qd y), pfZ A8 c9 (qd x), pfZ B1 d1 (ql y), pfZ A1 c1 (qn y), pfZ B0 d0 (ql x), pfZ A0 c0 (qn x)]) → T 2 L a w := by
      rintro _ a w23 rfl ⟨A8, c9, A12, c13, g16, g20, henv, hst⟩
      rw [hT]
      refine sAny_one (i := 6) (by kernel_rfl) rfl rfl (op_store (k := 1) (c' := #[.bool (neg (qd x)), .slice A8 (zl (qd x)) c9]) henv hst (ty_anvil_integer_Int.size) rfl rfl rfl rfl (by simp) rfl rfl ?_)
      clear henv hst a; intro a w24 henv hst
      refine ⟨.inr ⟨hst.kn.pick [2, 3, 4] (rg 2 4), .inl rfl⟩, ?_⟩
      refine sAny_one (i := 7) (by kernel_rfl) rfl rfl (op_store (k := 0) (c' := #[.bool (neg (qd y)), .slice A12 (zl (qd y)) c13]) henv hst (ty_anvil_integer_Int.size) rfl rfl rfl rfl (by simp) rfl rfl ?_)
      clear henv hst a; intro a w25 henv hst
      refine ⟨.inr ⟨hst.kn.pick [2, 3, 4] (rg 2 4), .inl rfl⟩, ?_⟩
      refine sAny_done (by kernel_rfl) ?_ _
      exact th_n ⟨A8, c9, A12, c13, g16, g20, henv.sub ⟨rfl, rfl, rfl, rfl, rfl, rfl, rfl, trivial⟩, hst.pick [0, 1, 2, 3, 4] [0, 1, 2, 3, 4, 5] (by decide)⟩
    have hN18 : ∀ (L : Array Bool) (a : Act) (w : World), L = #[true, true, true, true, true, false, false, false] → (∃ A8 : Option Addr, ∃ c9 : Nat, ∃ A12 : Option Addr, ∃ c13 : Nat, ∃ g16 : Nat, Env 24 a [(0, .agg #[.bool (neg (qn x)), .slice A0 (zl (qn x)) c0, .bool (neg (ql x)), .slice B0 (zl (ql x)) d0]), (1, .agg #[.bool (neg (qn y)), .slice A1 (zl (qn y)) c1, .bool (neg (ql y)), .slice B1 (zl (ql y)) d1]), (2, .pointer (some ⟨g1, 0, none⟩)), (3, .pointer (some ⟨g3, 0, none⟩)), (4, .pointer (some ⟨g5, 0, none⟩)), (8, .agg #[.bool (neg (qd x)), .slice A8 (zl (qd x)) c9]), (10, .agg #[.bool (neg (qd y)), .slice A12 (zl (qd y)) c13]), (5, .pointer (some ⟨g16, 0, none⟩))] ∧ St w0 w [bk g16 #[.bool (neg 0), .slice none (zl 0) 0] 36, bk g5 #[.bool (neg (qn 0)), .slice none (zl (qn 0)) 0, .bool (neg (ql 0)), .slice none (zl (ql 0)) 0] 91, bk g3 #[.bool (neg (qn y)), .slice A1 (zl (qn y)) c1, .bool (neg (ql y)), .slice B1 (zl (ql y)) d1] 91, bk g1 #[.bool (neg (qn x)), .slice A0 (zl (qn x)) c0, .bool (neg (ql x)), .slice B0 (zl (ql x)) d0] 91] [pfZ A12 c13 (qd y), pfZ A8 c9 (qd x), pfZ B1 d1 (ql y), pfZ A1 c1 (qn y), pfZ B0 d0 (ql x), pfZ A0 c0 (qn x)]) → T 3 L a w := by
      rintro _ a w19 rfl ⟨A8, c9, A12, c13, g16, henv, hst⟩
      rw [hT]
      refine sAny_one (i := 5) (by kernel_rfl) rfl rfl (op_alloc (c := #[.bool (neg 0), .slice none (zl 0) 0]) henv hst rfl zero_anvil_integer_Int zcells ?_)
      clear henv hst a; intro a w21 g20 henv hst
      refine ⟨.inr ⟨hst.kn.pick [2, 3, 4] (rg 2 4), .inr (hst.kn.pick [] [])⟩, ?_⟩
      rw [← hT]
      exact hN22 _ _ _ (by kernel_rfl) ⟨A8, c9, A12, c13, g16, g20, henv.sub ⟨rfl, rfl, rfl, rfl, rfl, rfl, rfl, rfl, rfl, trivial⟩, hst.pick [0, 1, 2, 3, 4] [0, 1, 2, 3, 4, 5] (by decide)⟩
    have hN28 : ∀ (L : Array Bool) (a : Act) (w : World), L = #[true, true, true, true, false, true, false, false] → (∃ A8 : Option Addr, ∃ c9 : Nat, ∃ A12 : Option Addr, ∃ c13 : Nat, ∃ g26 : Nat, Env 24 a [(0, .agg #[.bool (neg (qn x)), .slice A0 (zl (qn x)) c0, .bool (neg (ql x)), .slice B0 (zl (ql x)) d0]), (1, .agg #[.bool (neg (qn y)), .slice A1 (zl (qn y)) c1, .bool (neg (ql y)), .slice B1 (zl (ql y)) d1]), (2, .pointer (some ⟨g1, 0, none⟩)), (3, .pointer (some ⟨g3, 0, none⟩)), (4, .pointer (some ⟨g5, 0, none⟩)), (8, .agg #[.bool (neg (qd x)), .slice A8 (zl (qd x)) c9]), (10, .agg #[.bool (neg (qd y)), .slice A12 (zl (qd y)) c13]), (6, .pointer (some ⟨g26, 0, none⟩))] ∧ St w0 w [bk g26 #[.bool (neg 0), .slice none (zl 0) 0] 36, bk g5 #[.bool (neg (qn 0)), .slice none (zl (qn 0)) 0, .bool (neg (ql 0)), .slice none (zl (ql 0)) 0] 91, bk g3 #[.bool (neg (qn y)), .slice A1 (zl (qn y)) c1, .bool (neg (ql y)), .slice B1 (zl (ql y)) d1] 91, bk g1 #[.bool (neg (qn x)), .slice A0 (zl (qn x)) c0, .bool (neg (ql x)), .slice B0 (zl (ql x)) d0] 91] [pfZ A12 c13 (qd y), pfZ A8 c9 (qd x), pfZ B1 d1 (ql y), pfZ A1 c1 (qn y), pfZ B0 d0 (ql x), pfZ A0 c0 (qn x)]) → T 3 L a w := by
      rintro _ a w29 rfl ⟨A8, c9, A12, c13, g26, henv, hst⟩
      rw [hT]
      refine sAny_one (i := 4) (by kernel_rfl) rfl rfl (op_alloc (c := #[.bool (neg 0), .slice none (zl 0) 0]) henv hst rfl zero_anvil_integer_Int zcells ?_)
      clear henv hst a; intro a w31 g30 henv hst
      refine ⟨.inr ⟨hst.kn.pick [2, 3, 4] (rg 2 4), .inr (hst.kn.pick [] [])⟩, ?_⟩
      rw [← hT]
      exact hN22 _ _ _ (by kernel_rfl) ⟨A8, c9, A12, c13, g30, g26, henv.sub ⟨rfl, rfl, rfl, rfl, rfl, rfl, rfl, rfl, rfl, trivial⟩, hst.pick [1, 0, 2, 3, 4] [0, 1, 2, 3, 4, 5] (by decide)⟩
    have hN42 : ∀ (L : Array Bool) (a : Act) (w : World), L = #[true, true, true, false, true, true, false, false] → (∃ A8 : Option Addr, ∃ c9 : Nat, ∃ g32 : Nat, ∃ g40 : Nat, Env 24 a [(0, .agg #[.bool (neg (qn x)), .slice A0 (zl (qn x)) c0, .bool (neg (ql x)), .slice B0 (zl (ql x)) d0]), (1, .agg #[.bool (neg (qn y)), .slice A1 (zl (qn y)) c1, .bool (neg (ql y)), .slice B1 (zl (ql y)) d1]), (2, .pointer (some ⟨g1, 0, none⟩)), (3, .pointer (some ⟨g3, 0, none⟩)), (4, .pointer (some ⟨g5, 0, none⟩)), (9, .agg #[.bool (neg (qn y)), .slice A1 (zl (qn y)) c1, .bool (neg (ql y)), .slice B1 (zl (ql y)) d1]), (8, .agg #[.bool (neg (qd x)), .slice A8 (zl (qd x)) c9]), (5, .pointer (some ⟨g32, 0, none⟩)), (6, .pointer (some ⟨g40, 0, none⟩))] ∧ St w0 w [bk g40 #[.bool (neg 0), .slice none (zl 0) 0] 36, bk g32 #[.bool (neg 0), .slice none (zl 0) 0] 36, bk g5 #[.bool (neg (qn 0)), .slice none (zl (qn 0)) 0, .bool (neg (ql 0)), .slice none (zl (ql 0)) 0] 91, bk g3 #[.bool (neg (qn y)), .slice A1 (zl (qn y)) c1, .bool (neg (ql y)), .slice B1 (zl (ql y)) d1] 91, bk g1 #[.bool (neg (qn x)), .slice A0 (zl (qn x)) c0, .bool (neg (ql x)), .slice B0 (zl (ql x)) d0] 91] [pfZ A8 c9 (qd x), pfZ B1 d1 (ql y), pfZ A1 c1 (qn y), pfZ B0 d0 (ql x), pfZ A0 c0 (qn x)]) → T 3 L a w := by
      rintro _ a w43 rfl ⟨A8, c9, g32, g40, henv, hst⟩
      rw [hT]
      refine sAny_one (i := 3) (by kernel_rfl) rfl rfl (op_call henv rfl Tryd.call89 rfl (den_q (x := y) (show ZIn _ A1 c1 (qn y) from hst.pat (k := 2) rfl) (show ZIn _ B1 d1 (ql y) from hst.pat (k := 1) rfl) sy (by omega)) ?_)
      rintro e w47 ⟨_, rfl, ⟨A44, c45, rfl, hz46⟩, hb⟩
      refine ⟨_, rfl, ?_⟩
      clear henv a; intro a henv
      replace hst := (hst.call hb).addZ hz46 ⟨nou_bk rfl, nou_bk rfl, nou_bk rfl, nou_bk rfl, nou_bk rfl, trivial⟩
      clear hz46
      clear hb
      refine ⟨.inr ⟨hst.kn.pick [2, 3, 4] (rg 2 4), .inr (hst.kn.pick [] [])⟩, ?_⟩
      rw [← hT]
      exact hN22 _ _ _ (by kernel_rfl) ⟨A8, c9, A44, c45, g32, g40, henv.sub ⟨rfl, rfl, rfl, rfl, rfl, rfl, rfl, rfl, rfl, trivial⟩, hst.pick [0, 1, 2, 3, 4] [0, 1, 2, 3, 4, 5] (by decide)⟩
    have hN34 : ∀ (L : Array Bool) (a : Act) (w : World), L = #[true, true, true, false, true, false, false, false] → (∃ A8 : Option Addr, ∃ c9 : Nat, ∃ g32 : Nat, Env 24 a [(0, .agg #[.bool (neg (qn x)), .slice A0 (zl (qn x)) c0, .bool (neg (ql x)), .slice B0 (zl (ql x)) d0]), (1, .agg #[.bool (neg (qn y)), .slice A1 (zl (qn y)) c1, .bool (neg (ql y)), .slice B1 (zl (ql y)) d1]), (2, .pointer (some ⟨g1, 0, none⟩)), (3, .pointer (some ⟨g3, 0, none⟩)), (4, .pointer (some ⟨g5, 0, none⟩)), (9, .agg #[.bool (neg (qn y)), .slice A1 (zl (qn y)) c1, .bool (neg (ql y)), .slice B1 (zl (ql y)) d1]), (8, .agg #[.bool (neg (qd x)), .slice A8 (zl (qd x)) c9]), (5, .pointer (some ⟨g32, 0, none⟩))] ∧ St w0 w [bk g32 #[.bool (neg 0), .slice none (zl 0) 0] 36, bk g5 #[.bool (neg (qn 0)), .slice none (zl (qn 0)) 0, .bool (neg (ql 0)), .slice none (zl (ql 0)) 0] 91, bk g3 #[.bool (neg (qn y)), .slice A1 (zl (qn y)) c1, .bool (neg (ql y)), .slice B1 (zl (ql y)) d1] 91, bk g1 #[.bool (neg (qn x)), .slice A0 (zl (qn x)) c0, .bool (neg (ql x)), .slice B0 (zl (ql x)) d0] 91] [pfZ A8 c9 (qd x), pfZ B1 d1 (ql y), pfZ A1 c1 (qn y), pfZ B0 d0 (ql x), pfZ A0 c0 (qn x)]) → T 4 L a w := by
      rintro _ a w35 rfl ⟨A8, c9, g32, henv, hst⟩
      rw [hT]
      refine sAny_all (rs := [3, 5]) (by kernel_rfl) (by simp) ?_
      simp only [List.forall_mem_cons, List.not_mem_nil, false_implies, implies_true, and_true]
      refine ⟨?_, ?_⟩
      · refine ⟨_, rfl, rfl, op_call henv rfl Tryd.call89 rfl (den_q (x := y) (show ZIn _ A1 c1 (qn y) from hst.pat (k := 2) rfl) (show ZIn _ B1 d1 (ql y) from hst.pat (k := 1) rfl) sy (by omega)) ?_⟩
        rintro e w39 ⟨_, rfl, ⟨A36, c37, rfl, hz38⟩, hb⟩
        refine ⟨_, rfl, ?_⟩
        clear henv a; intro a henv
        replace hst := (hst.call hb).addZ hz38 ⟨nou_bk rfl, nou_bk rfl, nou_bk rfl, nou_bk rfl, trivial⟩
        clear hz38
        clear hb
        refine ⟨.inr ⟨hst.kn.pick [1, 2, 3] (rg 2 4), .inr (hst.kn.pick [] [])⟩, ?_⟩
        rw [← hT]
        exact hN18 _ _ _ (by kernel_rfl) ⟨A8, c9, A36, c37, g32, henv.sub ⟨rfl, rfl, rfl, rfl, rfl, rfl, rfl, rfl, trivial⟩, hst.pick [0, 1, 2, 3] [0, 1, 2, 3, 4, 5] (by decide)⟩
      · refine ⟨_, rfl, rfl, op_alloc (c := #[.bool (neg 0), .slice none (zl 0) 0]) henv hst rfl zero_anvil_integer_Int zcells ?_⟩
        clear henv hst a; intro a w41 g40 henv hst
        refine ⟨.inr ⟨hst.kn.pick [2, 3, 4] (rg 1 4), .inr (hst.kn.pick [] [])⟩, ?_⟩
        rw [← hT]
        exact hN42 _ _ _ (by kernel_rfl) ⟨A8, c9, g32, g40, henv.sub ⟨rfl, rfl, rfl, rfl, rfl, rfl, rfl, rfl, rfl, trivial⟩, hst.pick [0, 1, 2, 3, 4] [0, 1, 2, 3, 4] (by decide)⟩
    have hN50 : ∀ (L : Array Bool) (a : Act) (w : World), L = #[true, true, true, false, false, true, false, false] → (∃ A8 : Option Addr, ∃ c9 : Nat, ∃ g48 : Nat, Env 24 a [(0, .agg #[.bool (neg (qn x)), .slice A0 (zl (qn x)) c0, .bool (neg (ql x)), .slice B0 (zl (ql x)) d0]), (1, .agg #[.bool (neg (qn y)), .slice A1 (zl (qn y)) c1, .bool (neg (ql y)), .slice B1 (zl (ql y)) d1]), (2, .pointer (some ⟨g1, 0, none⟩)), (3, .pointer (some ⟨g3, 0, none⟩)), (4, .pointer (some ⟨g5, 0, none⟩)), (9, .agg #[.bool (neg (qn y)), .slice A1 (zl (qn y)) c1, .bool (neg (ql y)), .slice B1 (zl (ql y)) d1]), (8, .agg #[.bool (neg (qd x)), .slice A8 (zl (qd x)) c9]), (6, .pointer (some ⟨g48, 0, none⟩))] ∧ St w0 w [bk g48 #[.bool (neg 0), .slice none (zl 0) 0] 36, bk g5 #[.bool (neg (qn 0)), .slice none (zl (qn 0)) 0, .bool (neg (ql 0)), .slice none (zl (ql 0)) 0] 91, bk g3 #[.bool (neg (qn y)), .slice A1 (zl (qn y)) c1, .bool (neg (ql y)), .slice B1 (zl (ql y)) d1] 91, bk g1 #[.bool (neg (qn x)), .slice A0 (zl (qn x)) c0, .bool (neg (ql x)), .slice B0 (zl (ql x)) d0] 91] [pfZ A8 c9 (qd x), pfZ B1 d1 (ql y), pfZ A1 c1 (qn y), pfZ B0 d0 (ql x), pfZ A0 c0 (qn x)]) → T 4 L a w := by
      rintro _ a w51 rfl ⟨A8, c9, g48, henv, hst⟩
      rw [hT]
      refine sAny_all (rs := [3, 4]) (by kernel_rfl) (by simp) ?_
      simp only [List.forall_mem_cons, List.not_mem_nil, false_implies, implies_true, and_true]
      refine ⟨?_, ?_⟩
      · refine ⟨_, rfl, rfl, op_call henv rfl Tryd.call89 rfl (den_q (x := y) (show ZIn _ A1 c1 (qn y) from hst.pat (k := 2) rfl) (show ZIn _ B1 d1 (ql y) from hst.pat (k := 1) rfl) sy (by omega)) ?_⟩
        rintro e w55 ⟨_, rfl, ⟨A52, c53, rfl, hz54⟩, hb⟩
        refine ⟨_, rfl, ?_⟩
        clear henv a; intro a henv
        replace hst := (hst.call hb).addZ hz54 ⟨nou_bk rfl, nou_bk rfl, nou_bk rfl, nou_bk rfl, trivial⟩
        clear hz54
        clear hb
        refine ⟨.inr ⟨hst.kn.pick [1, 2, 3] (rg 2 4), .inr (hst.kn.pick [] [])⟩, ?_⟩
        rw [← hT]
        exact hN28 _ _ _ (by kernel_rfl) ⟨A8, c9, A52, c53, g48, henv.sub ⟨rfl, rfl, rfl, rfl, rfl, rfl, rfl, rfl, trivial⟩, hst.pick [0, 1, 2, 3] [0, 1, 2, 3, 4, 5] (by decide)⟩
      · refine ⟨_, rfl, rfl, op_alloc (c := #[.bool (neg 0), .slice none (zl 0) 0]) henv hst rfl zero_anvil_integer_Int zcells ?_⟩
        clear henv hst a; intro a w57 g56 henv hst
        refine ⟨.inr ⟨hst.kn.pick [2, 3, 4] (rg 1 4), .inr (hst.kn.pick [] [])⟩, ?_⟩
        rw [← hT]
        exact hN42 _ _ _ (by kernel_rfl) ⟨A8, c9, g56, g48, henv.sub ⟨rfl, rfl, rfl, rfl, rfl, rfl, rfl, rfl, rfl, trivial⟩, hst.pick [1, 0, 2, 3, 4] [0, 1, 2, 3, 4] (by decide)⟩
    have hN66 : ∀ (L : Array Bool) (a : Act) (w : World), L = #[true, false, true, false, true, true, false, false] → (∃ g58 : Nat, ∃ g64 : Nat, Env 24 a [(0, .agg #[.bool (neg (qn x)), .slice A0 (zl (qn x)) c0, .bool (neg (ql x)), .slice B0 (zl (ql x)) d0]), (1, .agg #[.bool (neg (qn y)), .slice A1 (zl (qn y)) c1, .bool (neg (ql y)), .slice B1 (zl (ql y)) d1]), (2, .pointer (some ⟨g1, 0, none⟩)), (3, .pointer (some ⟨g3, 0, none⟩)), (4, .pointer (some ⟨g5, 0, none⟩)), (7, .agg #[.bool (neg (qn x)), .slice A0 (zl (qn x)) c0, .bool (neg (ql x)), .slice B0 (zl (ql x)) d0]), (9, .agg #[.bool (neg (qn y)), .slice A1 (zl (qn y)) c1, .bool (neg (ql y)), .slice B1 (zl (ql y)) d1]), (5, .pointer (some ⟨g58, 0, none⟩)), (6, .pointer (some ⟨g64, 0, none⟩))] ∧ St w0 w [bk g64 #[.bool (neg 0), .slice none (zl 0) 0] 36, bk g58 #[.bool (neg 0), .slice none (zl 0) 0] 36, bk g5 #[.bool (neg (qn 0)), .slice none (zl (qn 0)) 0, .bool (neg (ql 0)), .slice none (zl (ql 0)) 0] 91, bk g3 #[.bool (neg (qn y)), .slice A1 (zl (qn y)) c1, .bool (neg (ql y)), .slice B1 (zl (ql y)) d1] 91, bk g1 #[.bool (neg (qn x)), .slice A0 (zl (qn x)) c0, .bool (neg (ql x)), .slice B0 (zl (ql x)) d0] 91] [pfZ B1 d1 (ql y), pfZ A1 c1 (qn y), pfZ B0 d0 (ql x), pfZ A0 c0 (qn x)]) → T 4 L a w := by
      rintro _ a w67 rfl ⟨g58, g64, henv, hst⟩
      rw [hT]
      refine sAny_one (i := 1) (by kernel_rfl) rfl rfl (op_call henv rfl Tryd.call89 rfl (den_q (x := x) (show ZIn _ A0 c0 (qn x) from hst.pat (k := 3) rfl) (show ZIn _ B0 d0 (ql x) from hst.pat (k := 2) rfl) sx (by omega)) ?_)
      rintro e w71 ⟨_, rfl, ⟨A68, c69, rfl, hz70⟩, hb⟩
      refine ⟨_, rfl, ?_⟩
      clear henv a; intro a henv
      replace hst := (hst.call hb).addZ hz70 ⟨nou_bk rfl, nou_bk rfl, nou_bk rfl, nou_bk rfl, nou_bk rfl, trivial⟩
      clear hz70
      clear hb
      refine ⟨.inr ⟨hst.kn.pick [2, 3, 4] (rg 1 4), .inr (hst.kn.pick [] [])⟩, ?_⟩
      rw [← hT]
      exact hN42 _ _ _ (by kernel_rfl) ⟨A68, c69, g58, g64, henv.sub ⟨rfl, rfl, rfl, rfl, rfl, rfl, rfl, rfl, rfl, trivial⟩, hst.pick [0, 1, 2, 3, 4] [0, 1, 2, 3, 4] (by decide)⟩
    rw [hT]
    refine tL (i := 0) 2 2 [1, 3, 6, 7] rfl (by kernel_rfl) (fun _ _ _ h => h) henv rfl ty_anvil_ratio_Rat rfl hst rfl rfl rfl ?_
    clear henv a; intro a henv
    refine tL (i := 2) 1 1 [3, 6, 7] rfl (by kernel_rfl) (fun _ _ _ h => h) henv rfl ty_anvil_ratio_Rat rfl hst rfl rfl rfl ?_
    clear henv a; intro a henv
    refine sAny_all (rs := [1, 4, 5]) (by kernel_rfl) (by simp) ?_
    simp only [List.forall_mem_cons, List.not_mem_nil, false_implies, implies_true, and_true]
    refine ⟨?_, ?_, ?_⟩
    · refine ⟨_, rfl, rfl, op_call henv rfl Tryd.call89 rfl (den_q (x := x) (show ZIn _ A0 c0 (qn x) from hst.pat (k := 3) rfl) (show ZIn _ B0 d0 (ql x) from hst.pat (k := 2) rfl) sx (by omega)) ?_⟩
      rintro e w11 ⟨_, rfl, ⟨A8, c9, rfl, hz10⟩, hb⟩
      refine ⟨_, rfl, ?_⟩
      clear henv a; intro a henv
      replace hst := (hst.call hb).addZ hz10 ⟨nou_bk rfl, nou_bk rfl, nou_bk rfl, trivial⟩
      clear hz10
      clear hb
      refine ⟨.inr ⟨hst.kn.pick [0, 1, 2] (rg 1 4), .inr (hst.kn.pick [] [])⟩, ?_⟩
      refine sAny_all (rs := [3, 4, 5]) (by kernel_rfl) (by simp) ?_
      simp only [List.forall_mem_cons, List.not_mem_nil, false_implies, implies_true, and_true]
      refine ⟨?_, ?_, ?_⟩
      · refine ⟨_, rfl, rfl, op_call henv rfl Tryd.call89 rfl (den_q (x := y) (show ZIn _ A1 c1 (qn y) from hst.pat (k := 2) rfl) (show ZIn _ B1 d1 (ql y) from hst.pat (k := 1) rfl) sy (by omega)) ?_⟩
        rintro e w15 ⟨_, rfl, ⟨A12, c13, rfl, hz14⟩, hb⟩
        refine ⟨_, rfl, ?_⟩
        clear henv a; intro a henv
        replace hst := (hst.call hb).addZ hz14 ⟨nou_bk rfl, nou_bk rfl, nou_bk rfl, trivial⟩
        clear hz14
        clear hb
        refine ⟨.inr ⟨hst.kn.pick [0, 1, 2] (rg 2 4), .inr (hst.kn.pick [] [])⟩, ?_⟩
        refine sAny_all (rs := [4, 5]) (by kernel_rfl) (by simp) ?_
        simp only [List.forall_mem_cons, List.not_mem_nil, false_implies, implies_true, and_true]
        refine ⟨?_, ?_⟩
        · refine ⟨_, rfl, rfl, op_alloc (c := #[.bool (neg 0), .slice none (zl 0) 0]) henv hst rfl zero_anvil_integer_Int zcells ?_⟩
          clear henv hst a; intro a w17 g16 henv hst
          refine ⟨.inr ⟨hst.kn.pick [1, 2, 3] (rg 2 4), .inr (hst.kn.pick [] [])⟩, ?_⟩
          rw [← hT]
          exact hN18 _ _ _ (by kernel_rfl) ⟨A8, c9, A12, c13, g16, henv.sub ⟨rfl, rfl, rfl, rfl, rfl, rfl, rfl, rfl, trivial⟩, hst.pick [0, 1, 2, 3] [0, 1, 2, 3, 4, 5] (by decide)⟩
        · refine ⟨_, rfl, rfl, op_alloc (c := #[.bool (neg 0), .slice none (zl 0) 0]) henv hst rfl zero_anvil_integer_Int zcells ?_⟩
          clear henv hst a; intro a w27 g26 henv hst
          refine ⟨.inr ⟨hst.kn.pick [1, 2, 3] (rg 2 4), .inr (hst.kn.pick [] [])⟩, ?_⟩
          rw [← hT]
          exact hN28 _ _ _ (by kernel_rfl) ⟨A8, c9, A12, c13, g26, henv.sub ⟨rfl, rfl, rfl, rfl, rfl, rfl, rfl, rfl, trivial⟩, hst.pick [0, 1, 2, 3] [0, 1, 2, 3, 4, 5] (by decide)⟩
      · refine ⟨_, rfl, rfl, op_alloc (c := #[.bool (neg 0), .slice none (zl 0) 0]) henv hst rfl zero_anvil_integer_Int zcells ?_⟩
        clear henv hst a; intro a w33 g32 henv hst
        refine ⟨.inr ⟨hst.kn.pick [1, 2, 3] (rg 1 4), .inr (hst.kn.pick [] [])⟩, ?_⟩
        rw [← hT]
        exact hN34 _ _ _ (by kernel_rfl) ⟨A8, c9, g32, henv.sub ⟨rfl, rfl, rfl, rfl, rfl, rfl, rfl, rfl, trivial⟩, hst.pick [0, 1, 2, 3] [0, 1, 2, 3, 4] (by decide)⟩
      · refine ⟨_, rfl, rfl, op_alloc (c := #[.bool (neg 0), .slice none (zl 0) 0]) henv hst rfl zero_anvil_integer_Int zcells ?_⟩
        clear henv hst a; intro a w49 g48 henv hst
        refine ⟨.inr ⟨hst.kn.pick [1, 2, 3] (rg 1 4), .inr (hst.kn.pick [] [])⟩, ?_⟩
        rw [← hT]
        exact hN50 _ _ _ (by kernel_rfl) ⟨A8, c9, g48, henv.sub ⟨rfl, rfl, rfl, rfl, rfl, rfl, rfl, rfl, trivial⟩, hst.pick [0, 1, 2, 3] [0, 1, 2, 3, 4] (by decide)⟩
    · refine ⟨_, rfl, rfl, op_alloc (c := #[.bool (neg 0), .slice none (zl 0) 0]) henv hst rfl zero_anvil_integer_Int zcells ?_⟩
      clear henv hst a; intro a w59 g58 henv hst
      refine ⟨.inr ⟨hst.kn.pick [1, 2, 3] (rg 0 4), .inr (hst.kn.pick [] [])⟩, ?_⟩
      refine sAny_all (rs := [1, 5]) (by kernel_rfl) (by simp) ?_
      simp only [List.forall_mem_cons, List.not_mem_nil, false_implies, implies_true, and_true]
      refine ⟨?_, ?_⟩
      · refine ⟨_, rfl, rfl, op_call henv rfl Tryd.call89 rfl (den_q (x := x) (show ZIn _ A0 c0 (qn x) from hst.pat (k := 3) rfl) (show ZIn _ B0 d0 (ql x) from hst.pat (k := 2) rfl) sx (by omega)) ?_⟩
        rintro e w63 ⟨_, rfl, ⟨A60, c61, rfl, hz62⟩, hb⟩
        refine ⟨_, rfl, ?_⟩
        clear henv a; intro a henv
        replace hst := (hst.call hb).addZ hz62 ⟨nou_bk rfl, nou_bk rfl, nou_bk rfl, nou_bk rfl, trivial⟩
        clear hz62
        clear hb
        refine ⟨.inr ⟨hst.kn.pick [1, 2, 3] (rg 1 4), .inr (hst.kn.pick [] [])⟩, ?_⟩
        rw [← hT]
        exact hN34 _ _ _ (by kernel_rfl) ⟨A60, c61, g58, henv.sub ⟨rfl, rfl, rfl, rfl, rfl, rfl, rfl, rfl, trivial⟩, hst.pick [0, 1, 2, 3] [0, 1, 2, 3, 4] (by decide)⟩
      · refine ⟨_, rfl, rfl, op_alloc (c := #[.bool (neg 0), .slice none (zl 0) 0]) henv hst rfl zero_anvil_integer_Int zcells ?_⟩
        clear henv hst a; intro a w65 g64 henv hst
        refine ⟨.inr ⟨hst.kn.pick [2, 3, 4] (rg 0 4), .inr (hst.kn.pick [] [])⟩, ?_⟩
        rw [← hT]
        exact hN66 _ _ _ (by kernel_rfl) ⟨g58, g64, henv.sub ⟨rfl, rfl, rfl, rfl, rfl, rfl, rfl, rfl, rfl, trivial⟩, hst.pick [0, 1, 2, 3, 4] [0, 1, 2, 3] (by decide)⟩
    · refine ⟨_, rfl, rfl, op_alloc (c := #[.bool (neg 0), .slice none (zl 0) 0]) henv hst rfl zero_anvil_integer_Int zcells ?_⟩
      clear henv hst a; intro a w73 g72 henv hst
      refine ⟨.inr ⟨hst.kn.pick [1, 2, 3] (rg 0 4), .inr (hst.kn.pick [] [])⟩, ?_⟩
      refine sAny_all (rs := [1, 4]) (by kernel_rfl) (by simp) ?_
      simp only [List.forall_mem_cons, List.not_mem_nil, false_implies, implies_true, and_true]
      refine ⟨?_, ?_⟩
      · refine ⟨_, rfl, rfl, op_call henv rfl Tryd.call89 rfl (den_q (x := x) (show ZIn _ A0 c0 (qn x) from hst.pat (k := 3) rfl) (show ZIn _ B0 d0 (ql x) from hst.pat (k := 2) rfl) sx (by omega)) ?_⟩
        rintro e w77 ⟨_, rfl, ⟨A74, c75, rfl, hz76⟩, hb⟩
        refine ⟨_, rfl, ?_⟩
        clear henv a; intro a henv
        replace hst := (hst.call hb).addZ hz76 ⟨nou_bk rfl, nou_bk rfl, nou_bk rfl, nou_bk rfl, trivial⟩
        clear hz76
        clear hb
        refine ⟨.inr ⟨hst.kn.pick [1, 2, 3] (rg 1 4), .inr (hst.kn.pick [] [])⟩, ?_⟩
        rw [← hT]
        exact hN50 _ _ _ (by kernel_rfl) ⟨A74, c75, g72, henv.sub ⟨rfl, rfl, rfl, rfl, rfl, rfl, rfl, rfl, trivial⟩, hst.pick [0, 1, 2, 3] [0, 1, 2, 3, 4] (by decide)⟩
      · refine ⟨_, rfl, rfl, op_alloc (c := #[.bool (neg 0), .slice none (zl 0) 0]) henv hst rfl zero_anvil_integer_Int zcells ?_⟩
        clear henv hst a; intro a w79 g78 henv hst
        refine ⟨.inr ⟨hst.kn.pick [2, 3, 4] (rg 0 4), .inr (hst.kn.pick [] [])⟩, ?_⟩
        rw [← hT]
        exact hN66 _ _ _ (by kernel_rfl) ⟨g78, g72, henv.sub ⟨rfl, rfl, rfl, rfl, rfl, rfl, rfl, rfl, rfl, trivial⟩, hst.pick [1, 0, 2, 3, 4] [0, 1, 2, 3] (by decide)⟩
  clear henv hst a
  rintro a w80 ⟨A8, c9, A12, c13, g16, g20, henv, hst⟩
  refine wp_seq ?_
  refine region_any (n := 14) (Sk [bk g20 #[.bool (neg (qd y)), .slice A12 (zl (qd y)) c13] 36, bk g16 #[.bool (neg (qd x)), .slice A8 (zl (qd x)) c9] 36, bk g3 #[.bool (neg (qn y)), .slice A1 (zl (qn y)) c1, .bool (neg (ql y)), .slice B1 (zl (ql y)) d1] 91, bk g1 #[.bool (neg (qn x)), .slice A0 (zl (qn x)) c0, .bool (neg (ql x)), .slice B0 (zl (ql x)) d0] 91] [pfZ A12 c13 (qd y), pfZ A8 c9 (qd x), pfZ B1 d1 (ql y), pfZ A1 c1 (qn y), pfZ B0 d0 (ql x), pfZ A0 c0 (qn x)] [13] []) mixed rfl henv hst ?_
  clear henv hst; intro w81 henv hst
  refine tA (i := 0) [1, 3, 7, 8, 11, 12, 13] (v := .pointer (some ⟨g1, 0, none⟩)) rfl (by kernel_rfl) (fun _ _ _ h => h) henv rfl (fun _ => rn_fieldAddr henv fd_anvil_ratio_Rat_0 (ty_anvil_integer_Int.size) (by decide) rfl) ?_
  clear henv a; intro a henv
  refine sAny_take (i := 1) [3, 7, 8, 11, 12, 13] (fun w' => w'.heap[g1]? = some (.cells #[.bool (neg (qn x)), .slice A0 (zl (qn x)) c0, .bool (neg (ql x)), .slice B0 (zl (ql x)) d0] 91 (0, 0))) (v := .agg #[.bool (neg (qn x)), .slice A0 (zl (qn x)) c0]) rfl (by kernel_rfl) (fun _ _ _ h => h) (fun _ _ _ hS => hS.1.oat (k := 3) rfl) henv rfl (hst.oat (k := 4) rfl) (fun w' hg => rn_load henv ty_anvil_integer_Int rfl hg rfl rfl) ?_
  clear henv a; intro a henv
  refine tL (i := 2) 0 0 [3, 7, 8, 11, 12, 13] rfl (by kernel_rfl) (fun _ _ _ h => h) henv rfl ty_anvil_integer_Int rfl hst rfl rfl rfl ?_
  clear henv a; intro a henv
  refine tA (i := 4) [5, 7, 8, 11, 12, 13] (v := .pointer (some ⟨g3, 0, none⟩)) rfl (by kernel_rfl) (fun _ _ _ h => h) henv rfl (fun _ => rn_fieldAddr henv fd_anvil_ratio_Rat_0 (ty_anvil_integer_Int.size) (by decide) rfl) ?_
  clear henv a; intro a henv
  refine sAny_take (i := 5) [7, 8, 11, 12, 13] (fun w' => w'.heap[g3]? = some (.cells #[.bool (neg (qn y)), .slice A1 (zl (qn y)) c1, .bool (neg (ql y)), .slice B1 (zl (ql y)) d1] 91 (0, 0))) (v := .agg #[.bool (neg (qn y)), .slice A1 (zl (qn y)) c1]) rfl (by kernel_rfl) (fun _ _ _ h => h) (fun _ _ _ hS => hS.1.oat (k := 2) rfl) henv rfl (hst.oat (k := 3) rfl) (fun w' hg => rn_load henv ty_anvil_integer_Int rfl hg rfl rfl) ?_
  clear henv a; intro a henv
  refine tL (i := 6) 1 1 [7, 8, 11, 12, 13] rfl (by kernel_rfl) (fun _ _ _ h => h) henv rfl ty_anvil_integer_Int rfl hst rfl rfl rfl ?_
  clear henv a; intro a henv
  refine tL (i := 9) 1 1 [11, 12, 13] rfl (by kernel_rfl) (fun _ _ _ h => h) henv rfl ty_anvil_integer_Int rfl hst rfl rfl rfl ?_
  clear henv a; intro a henv
  refine tL (i := 10) 0 0 [11, 12, 13] rfl (by kernel_rfl) (fun _ _ _ h => h) henv rfl ty_anvil_integer_Int rfl hst rfl rfl rfl ?_
  clear henv a; intro a henv
  have hs82 := zl_mul (qn x) (qd y)
  refine sAny_one (i := 3) (by kernel_rfl) rfl rfl (op_call henv rfl Tryd.call84 rfl (mul_z (x := (qn x)) (y := (qd y)) (show ZIn _ A0 c0 (qn x) from hst.pat (k := 5) rfl) (show ZIn _ A12 c13 (qd y) from hst.pat (k := 0) rfl) (by omega) (by omega)) ?_)
  rintro e w86 ⟨_, rfl, ⟨A83, c84, rfl, hz85⟩, hb⟩
  refine ⟨_, rfl, ?_⟩
  clear henv a; intro a henv
  replace hst := (hst.call hb).addZ hz85 ⟨nou_bk rfl, nou_bk rfl, nou_bk rfl, nou_bk rfl, nou_bk rfl, trivial⟩
  clear hz85
  clear hb
  refine ⟨.inr ⟨hst.kn.pick [0, 1, 3, 4] (rg 1 6), .inr (hst.kn.pick [] [])⟩, ?_⟩
  have hs87 := zl_mul (qn y) (qd x)
  refine sAny_one (i := 7) (by kernel_rfl) rfl rfl (op_call henv rfl Tryd.call84 rfl (mul_z (x := (qn y)) (y := (qd x)) (show ZIn _ A1 c1 (qn y) from hst.pat (k := 4) rfl) (show ZIn _ A8 c9 (qd x) from hst.pat (k := 2) rfl) (by omega) (by omega)) ?_)
  rintro e w91 ⟨_, rfl, ⟨A88, c89, rfl, hz90⟩, hb⟩
  refine ⟨_, rfl, ?_⟩
  clear henv a; intro a henv
  replace hst := (hst.call hb).addZ hz90 ⟨nou_bk rfl, nou_bk rfl, nou_bk rfl, nou_bk rfl, nou_bk rfl, trivial⟩
  clear hz90
  clear hb
  refine ⟨.inr ⟨hst.kn.pick [0, 1, 3, 4] (rg 2 6), .inr (hst.kn.pick [] [])⟩, ?_⟩
  have hs92 := zl_add ((qn x) * (qd y)) ((qn y) * (qd x))
  refine sAny_one (i := 8) (by kernel_rfl) rfl rfl (op_call henv rfl Tryd.call85 rfl (add_z (x := (qn x) * (qd y)) (y := (qn y) * (qd x)) (show ZIn _ A83 c84 ((qn x) * (qd y)) from hst.pat (k := 1) rfl) (show ZIn _ A88 c89 ((qn y) * (qd x)) from hst.pat (k := 0) rfl) (by omega) (by omega)) ?_)
  rintro e w96 ⟨_, rfl, ⟨A93, c94, rfl, hz95⟩, hb⟩
  refine ⟨_, rfl, ?_⟩
  clear henv a; intro a henv
  replace hst := (hst.call hb).addZ hz95 ⟨nou_bk rfl, nou_bk rfl, nou_bk rfl, nou_bk rfl, nou_bk rfl, trivial⟩
  clear hz95
  clear hb
  refine ⟨.inr ⟨hst.kn.pick [0, 1, 3, 4] (rg 3 6), .inr (hst.kn.pick [] [])⟩, ?_⟩
  have hs97 := zl_mul (qd x) (qd y)
  refine sAny_one (i := 11) (by kernel_rfl) rfl rfl (op_call henv rfl Tryd.call84 rfl (mul_z (x := (qd x)) (y := (qd y)) (show ZIn _ A8 c9 (qd x) from hst.pat (k := 4) rfl) (show ZIn _ A12 c13 (qd y) from hst.pat (k := 3) rfl) (by omega) (by omega)) ?_)
  rintro e w101 ⟨_, rfl, ⟨A98, c99, rfl, hz100⟩, hb⟩
  refine ⟨_, rfl, ?_⟩
  clear henv a; intro a henv
  replace hst := (hst.call hb).addZ hz100 ⟨nou_bk rfl, nou_bk rfl, nou_bk rfl, nou_bk rfl, nou_bk rfl, trivial⟩
  clear hz100
  clear hb
  refine ⟨.inr ⟨hst.kn.pick [0, 1, 3, 4] (rg 4 6), .inr (hst.kn.pick [] [])⟩, ?_⟩
  refine sAny_one (i := 12) (by kernel_rfl) rfl rfl (op_call henv rfl Tryd.call116 rfl (lowest_q (p := ((qn x) * (qd y)) + ((qn y) * (qd x))) (q := (qd x) * (qd y)) (r := x + y) (show ZIn _ A93 c94 (((qn x) * (qd y)) + ((qn y) * (qd x))) from hst.pat (k := 1) rfl) (show ZIn _ A98 c99 ((qd x) * (qd y)) from hst.pat (k := 0) rfl) (by omega) (by omega) (Int.mul_pos (qd_pos _) (qd_pos _)) (q_add x y)) ?_)
  rintro e w108 ⟨_, rfl, ⟨A102, c103, B104, d105, rfl, hz106, hz107⟩, hb⟩
  refine ⟨_, rfl, ?_⟩
  clear henv a; intro a henv
  replace hst := ((hst.call hb).addZ hz106 ⟨nou_bk rfl, nou_bk rfl, nou_bk rfl, nou_bk rfl, nou_bk rfl, trivial⟩).addZ hz107 ⟨nou_bk rfl, nou_bk rfl, nou_bk rfl, nou_bk rfl, nou_bk rfl, trivial⟩
  clear hz106 hz107
  clear hb
  refine ⟨.inr ⟨hst.kn.pick [0, 1, 3, 4] (rg 6 6), .inr (hst.kn.pick [] [])⟩, ?_⟩
  refine sAny_one (i := 13) (by kernel_rfl) rfl rfl (op_store (k := 2) (c' := #[.bool (neg (qn (x + y))), .slice A102 (zl (qn (x + y))) c103, .bool (neg (ql (x + y))), .slice B104 (zl (ql (x + y))) d105]) henv hst (ty_anvil_ratio_Rat.size) rfl rfl rfl rfl (by simp) rfl rfl ?_)
  clear henv hst a; intro a w109 henv hst
  refine ⟨.inr ⟨hst.kn.pick [0, 1, 3, 4] (rg 6 6), .inl rfl⟩, ?_⟩
  refine sAny_done (by kernel_rfl) ?_ _
  refine th_n ?_
  refine wp_ret ?_
  refine leave henv (res1 Tryd.results58 (RV.cell henv ty_anvil_ratio_Rat rfl (hst.oat (k := 2) rfl) rfl)) ?_
  exact ⟨_, rfl, q_at rfl rfl (hst.pat (k := 1) rfl) (hst.pat (k := 0) rfl), hst.below⟩
set_option maxRecDepth 100000 in
set_option maxHeartbeats 1000000 in
theorem mul_q {A0 B0 : Option Addr} {c0 d0 : Nat} {A1 B1 : Option Addr} {c1 d1 : Nat} {x y : Rat} {w0 : World} (h0 : ZIn w0 A0 c0 (qn x)) (k0 : ZIn w0 B0 d0 (ql x)) (h1 : ZIn w0 A1 c1 (qn y)) (k1 : ZIn w0 B1 d1 (ql y)) {a b : Nat} (sx : Qs a x) (sy : Qs b y) (hab : a + b ≤ 40000) :
    Calls Tryd.prog 59 #[.agg #[.bool (neg (qn x)), .slice A0 (zl (qn x)) c0, .bool (neg (ql x)), .slice B0 (zl (ql x)) d0], .agg #[.bool (neg (qn y)), .slice A1 (zl (qn y)) c1, .bool (neg (ql y)), .slice B1 (zl (ql y)) d1]] w0 fun e w' => ∃ v, e = .returned v ∧ QAt w' v (x * y) ∧ Below w0.heap.size w0 w' := by
  have hnx := sx.n
  have hdx := sx.d
  have hlx := sx.l
  have hny := sy.n
  have hdy := sy.d
  have hly := sy.l
  refine enter Tryd.func59 rfl Tryd.ntmps59 rfl ?_
  intro a henv hst
  replace hst := hst.addZ h0 trivial
  replace hst := hst.addZ k0 trivial
  replace hst := hst.addZ h1 trivial
  replace hst := hst.addZ k1 trivial
  refine wp_seq ?_
  refine region_seq ?_
  refine seq_step rfl (op_box (c := #[.bool (neg (qn x)), .slice A0 (zl (qn x)) c0, .bool (neg (ql x)), .slice B0 (zl (ql x)) d0]) henv hst rfl rfl rfl ?_)
  clear henv hst a; intro a w2 g1 henv hst
  refine seq_step rfl (op_box (c := #[.bool (neg (qn y)), .slice A1 (zl (qn y)) c1, .bool (neg (ql y)), .slice B1 (zl (ql y)) d1]) henv hst rfl rfl rfl ?_)
  clear henv hst a; intro a w4 g3 henv hst
  refine seq_step rfl (op_alloc (c := #[.bool (neg (qn 0)), .slice none (zl (qn 0)) 0, .bool (neg (ql 0)), .slice none (zl (ql 0)) 0]) henv hst rfl zero_anvil_ratio_Rat qcells ?_)
  clear henv hst a; intro a w6 g5 henv hst
  refine wpList_nil ?_
  refine th_n ?_
  refine wp_seq ?_
  refine region_any (n := 12) (Sk [bk g3 #[.bool (neg (qn y)), .slice A1 (zl (qn y)) c1, .bool (neg (ql y)), .slice B1 (zl (ql y)) d1] 91, bk g1 #[.bool (neg (qn x)), .slice A0 (zl (qn x)) c0, .bool (neg (ql x)), .slice B0 (zl (ql x)) d0] 91] [pfZ B1 d1 (ql y), pfZ A1 c1 (qn y), pfZ B0 d0 (ql x), pfZ A0 c0 (qn x)] [11] []) mixed rfl henv hst ?_
  clear henv hst; intro w7 henv hst
  refine tA (i := 0) [1, 4, 6, 8, 9, 10, 11] (v := .pointer (some ⟨g1, 0, none⟩)) rfl (by kernel_rfl) (fun _ _ _ h => h) henv rfl (fun _ => rn_fieldAddr henv fd_anvil_ratio_Rat_0 (ty_anvil_integer_Int.size) (by decide) rfl) ?_
  clear henv a; intro a henv
  refine sAny_take (i := 1) [4, 6, 8, 9, 10, 11] (fun w' => w'.heap[g1]? = some (.cells #[.bool (neg (qn x)), .slice A0 (zl (qn x)) c0, .bool (neg (ql x)), .slice B0 (zl (ql x)) d0] 91 (0, 0))) (v := .agg #[.bool (neg (qn x)), .slice A0 (zl (qn x)) c0]) rfl (by kernel_rfl) (fun _ _ _ h => h) (fun _ _ _ hS => hS.1.oat (k := 1) rfl) henv rfl (hst.oat (k := 2) rfl) (fun w' hg => rn_load henv ty_anvil_integer_Int rfl hg rfl rfl) ?_
  clear henv a; intro a henv
  refine tA (i := 2) [3, 4, 6, 8, 9, 10, 11] (v := .pointer (some ⟨g3, 0, none⟩)) rfl (by kernel_rfl) (fun _ _ _ h => h) henv rfl (fun _ => rn_fieldAddr henv fd_anvil_ratio_Rat_0 (ty_anvil_integer_Int.size) (by decide) rfl) ?_
  clear henv a; intro a henv
  refine sAny_take (i := 3) [4, 6, 8, 9, 10, 11] (fun w' => w'.heap[g3]? = some (.cells #[.bool (neg (qn y)), .slice A1 (zl (qn y)) c1, .bool (neg (ql y)), .slice B1 (zl (ql y)) d1] 91 (0, 0))) (v := .agg #[.bool (neg (qn y)), .slice A1 (zl (qn y)) c1]) rfl (by kernel_rfl) (fun _ _ _ h => h) (fun _ _ _ hS => hS.1.oat (k := 0) rfl) henv rfl (hst.oat (k := 1) rfl) (fun w' hg => rn_load henv ty_anvil_integer_Int rfl hg rfl rfl) ?_
  clear henv a; intro a henv
  refine tL (i := 5) 1 2 [6, 8, 9, 10, 11] rfl (by kernel_rfl) (fun _ _ _ h => h) henv rfl ty_anvil_ratio_Rat rfl hst rfl rfl rfl ?_
  clear henv a; intro a henv
  refine tL (i := 7) 0 1 (rg 8 4) rfl (by kernel_rfl) (fun _ _ _ h => h) henv rfl ty_anvil_ratio_Rat rfl hst rfl rfl rfl ?_
  clear henv a; intro a henv
  have hs8 := zl_mul (qn x) (qn y)
  refine sAny_one (i := 4) (by kernel_rfl) rfl rfl (op_call henv rfl Tryd.call84 rfl (mul_z (x := (qn x)) (y := (qn y)) (show ZIn _ A0 c0 (qn x) from hst.pat (k := 3) rfl) (show ZIn _ A1 c1 (qn y) from hst.pat (k := 1) rfl) (by omega) (by omega)) ?_)
  rintro e w12 ⟨_, rfl, ⟨A9, c10, rfl, hz11⟩, hb⟩
  refine ⟨_, rfl, ?_⟩
  clear henv a; intro a henv
  replace hst := (hst.call hb).addZ hz11 ⟨nou_bk rfl, nou_bk rfl, nou_bk rfl, trivial⟩
  clear hz11
  clear hb
  refine ⟨.inr ⟨hst.kn.pick [1, 2] (rg 1 4), .inr (hst.kn.pick [] [])⟩, ?_⟩
  refine sAny_one (i := 6) (by kernel_rfl) rfl rfl (op_call henv rfl Tryd.call89 rfl (den_q (x := x) (show ZIn _ A0 c0 (qn x) from hst.pat (k := 4) rfl) (show ZIn _ B0 d0 (ql x) from hst.pat (k := 3) rfl) sx (by omega)) ?_)
  rintro e w16 ⟨_, rfl, ⟨A13, c14, rfl, hz15⟩, hb⟩
  refine ⟨_, rfl, ?_⟩
  clear henv a; intro a henv
  replace hst := (hst.call hb).addZ hz15 ⟨nou_bk rfl, nou_bk rfl, nou_bk rfl, trivial⟩
  clear hz15
  clear hb
  refine ⟨.inr ⟨hst.kn.pick [1, 2] (rg 2 4), .inr (hst.kn.pick [] [])⟩, ?_⟩
  refine sAny_one (i := 8) (by kernel_rfl) rfl rfl (op_call henv rfl Tryd.call89 rfl (den_q (x := y) (show ZIn _ A1 c1 (qn y) from hst.pat (k := 3) rfl) (show ZIn _ B1 d1 (ql y) from hst.pat (k := 2) rfl) sy (by omega)) ?_)
  rintro e w20 ⟨_, rfl, ⟨A17, c18, rfl, hz19⟩, hb⟩
  refine ⟨_, rfl, ?_⟩
  clear henv a; intro a henv
  replace hst := (hst.call hb).addZ hz19 ⟨nou_bk rfl, nou_bk rfl, nou_bk rfl, trivial⟩
  clear hz19
  clear hb
  refine ⟨.inr ⟨hst.kn.pick [1, 2] (rg 3 4), .inr (hst.kn.pick [] [])⟩, ?_⟩
  have hs21 := zl_mul (qd x) (qd y)
  refine sAny_one (i := 9) (by kernel_rfl) rfl rfl (op_call henv rfl Tryd.call84 rfl (mul_z (x := (qd x)) (y := (qd y)) (show ZIn _ A13 c14 (qd x) from hst.pat (k := 1) rfl) (show ZIn _ A17 c18 (qd y) from hst.pat (k := 0) rfl) (by omega) (by omega)) ?_)
  rintro e w25 ⟨_, rfl, ⟨A22, c23, rfl, hz24⟩, hb⟩
  refine ⟨_, rfl, ?_⟩
  clear henv a; intro a henv
  replace hst := (hst.call hb).addZ hz24 ⟨nou_bk rfl, nou_bk rfl, nou_bk rfl, trivial⟩
  clear hz24
  clear hb
  refine ⟨.inr ⟨hst.kn.pick [1, 2] (rg 4 4), .inr (hst.kn.pick [] [])⟩, ?_⟩
  refine sAny_one (i := 10) (by kernel_rfl) rfl rfl (op_call henv rfl Tryd.call116 rfl (lowest_q (p := (qn x) * (qn y)) (q := (qd x) * (qd y)) (r := x * y) (show ZIn _ A9 c10 ((qn x) * (qn y)) from hst.pat (k := 3) rfl) (show ZIn _ A22 c23 ((qd x) * (qd y)) from hst.pat (k := 0) rfl) (by omega) (by omega) (Int.mul_pos (qd_pos _) (qd_pos _)) (q_mul x y)) ?_)
  rintro e w32 ⟨_, rfl, ⟨A26, c27, B28, d29, rfl, hz30, hz31⟩, hb⟩
  refine ⟨_, rfl, ?_⟩
  clear henv a; intro a henv
  replace hst := ((hst.call hb).addZ hz30 ⟨nou_bk rfl, nou_bk rfl, nou_bk rfl, trivial⟩).addZ hz31 ⟨nou_bk rfl, nou_bk rfl, nou_bk rfl, trivial⟩
  clear hz30 hz31
  clear hb
  refine ⟨.inr ⟨hst.kn.pick [1, 2] (rg 6 4), .inr (hst.kn.pick [] [])⟩, ?_⟩
  refine sAny_one (i := 11) (by kernel_rfl) rfl rfl (op_store (k := 0) (c' := #[.bool (neg (qn (x * y))), .slice A26 (zl (qn (x * y))) c27, .bool (neg (ql (x * y))), .slice B28 (zl (ql (x * y))) d29]) henv hst (ty_anvil_ratio_Rat.size) rfl rfl rfl rfl (by simp) rfl rfl ?_)
  clear henv hst a; intro a w33 henv hst
  refine ⟨.inr ⟨hst.kn.pick [1, 2] (rg 6 4), .inl rfl⟩, ?_⟩
  refine sAny_done (by kernel_rfl) ?_ _
  refine th_n ?_
  refine wp_ret ?_
  refine leave henv (res1 Tryd.results59 (RV.cell henv ty_anvil_ratio_Rat rfl (hst.oat (k := 0) rfl) rfl)) ?_
  exact ⟨_, rfl, q_at rfl rfl (hst.pat (k := 1) rfl) (hst.pat (k := 0) rfl), hst.below⟩
set_option maxRecDepth 100000 in
set_option maxHeartbeats 1000000 in
theorem sub_q {A0 B0 : Option Addr} {c0 d0 : Nat} {A1 B1 : Option Addr} {c1 d1 : Nat} {x y : Rat} {w0 : World} (h0 : ZIn w0 A0 c0 (qn x)) (k0 : ZIn w0 B0 d0 (ql x)) (h1 : ZIn w0 A1 c1 (qn y)) (k1 : ZIn w0 B1 d1 (ql y)) {a b : Nat} (sx : Qs a x) (sy : Qs b y) (hab : a + b ≤ 40000) :
    Calls Tryd.prog 60 #[.agg #[.bool (neg (qn x)), .slice A0 (zl (qn x)) c0, .bool (neg (ql x)), .slice B0 (zl (ql x)) d0], .agg #[.bool (neg (qn y)), .slice A1 (zl (qn y)) c1, .bool (neg (ql y)), .slice B1 (zl (ql y)) d1]] w0 fun e w' => ∃ v, e = .returned v ∧ QAt w' v (x - y) ∧ Below w0.heap.size w0 w' := by
  refine enter Tryd.func60 rfl Tryd.ntmps60 rfl ?_
  intro a henv hst
  replace hst := hst.addZ h0 trivial
  replace hst := hst.addZ k0 trivial
  replace hst := hst.addZ h1 trivial
  replace hst := hst.addZ k1 trivial
  refine wp_seq ?_
  refine region_seq ?_
  refine seq_step rfl (op_box (c := #[.bool (neg (qn x)), .slice A0 (zl (qn x)) c0, .bool (neg (ql x)), .slice B0 (zl (ql x)) d0]) henv hst rfl rfl rfl ?_)
  clear henv hst a; intro a w2 g1 henv hst
  refine seq_step rfl (op_box (c := #[.bool (neg (qn y)), .slice A1 (zl (qn y)) c1, .bool (neg (ql y)), .slice B1 (zl (ql y)) d1]) henv hst rfl rfl rfl ?_)
  clear henv hst a; intro a w4 g3 henv hst
  refine seq_step rfl (op_alloc (c := #[.bool (neg (qn 0)), .slice none (zl (qn 0)) 0, .bool (neg (ql 0)), .slice none (zl (ql 0)) 0]) henv hst rfl zero_anvil_ratio_Rat qcells ?_)
  clear henv hst a; intro a w6 g5 henv hst
  refine wpList_nil ?_
  refine th_n ?_
  refine wp_seq ?_
  refine region_any (n := 5) (Sk [bk g3 #[.bool (neg (qn y)), .slice A1 (zl (qn y)) c1, .bool (neg (ql y)), .slice B1 (zl (ql y)) d1] 91, bk g1 #[.bool (neg (qn x)), .slice A0 (zl (qn x)) c0, .bool (neg (ql x)), .slice B0 (zl (ql x)) d0] 91] [pfZ B1 d1 (ql y), pfZ A1 c1 (qn y), pfZ B0 d0 (ql x), pfZ A0 c0 (qn x)] [4] []) mixed rfl henv hst ?_
  clear henv hst; intro w7 henv hst
  refine tL (i := 0) 1 2 [3, 4] rfl (by kernel_rfl) (fun _ _ _ h => h) henv rfl ty_anvil_ratio_Rat rfl hst rfl rfl rfl ?_
  clear henv a; intro a henv
  refine tL (i := 1) 0 1 [2, 3, 4] rfl (by kernel_rfl) (fun _ _ _ h => h) henv rfl ty_anvil_ratio_Rat rfl hst rfl rfl rfl ?_
  clear henv a; intro a henv
  refine sAny_one (i := 2) (by kernel_rfl) rfl rfl (op_call henv rfl Tryd.call61 rfl (neg_q (x := y) (show ZIn _ A1 c1 (qn y) from hst.pat (k := 1) rfl) (show ZIn _ B1 d1 (ql y) from hst.pat (k := 0) rfl)) ?_)
  rintro e w14 ⟨_, rfl, ⟨A8, c9, B10, d11, rfl, hz12, hz13⟩, hb⟩
  refine ⟨_, rfl, ?_⟩
  clear henv a; intro a henv
  replace hst := ((hst.call hb).addZ hz12 ⟨nou_bk rfl, nou_bk rfl, nou_bk rfl, trivial⟩).addZ hz13 ⟨nou_bk rfl, nou_bk rfl, nou_bk rfl, trivial⟩
  clear hz12 hz13
  clear hb
  refine ⟨.inr ⟨hst.kn.pick [1, 2] (rg 2 4), .inr (hst.kn.pick [] [])⟩, ?_⟩
  refine sAny_one (i := 3) (by kernel_rfl) rfl rfl (op_call henv rfl Tryd.call58 rfl (add_q (x := x) (y := -y) (show ZIn _ A0 c0 (qn x) from hst.pat (k := 5) rfl) (show ZIn _ B0 d0 (ql x) from hst.pat (k := 4) rfl) (show ZIn _ A8 c9 (qn (-y)) from hst.pat (k := 1) rfl) (show ZIn _ B10 d11 (ql (-y)) from hst.pat (k := 0) rfl) sx sy.neg (by omega)) ?_)
  rintro e w21 ⟨_, rfl, ⟨A15, c16, B17, d18, rfl, hz19, hz20⟩, hb⟩
  refine ⟨_, rfl, ?_⟩
  clear henv a; intro a henv
  replace hst := ((hst.call hb).addZ hz19 ⟨nou_bk rfl, nou_bk rfl, nou_bk rfl, trivial⟩).addZ hz20 ⟨nou_bk rfl, nou_bk rfl, nou_bk rfl, trivial⟩
  clear hz19 hz20
  clear hb
  refine ⟨.inr ⟨hst.kn.pick [1, 2] (rg 4 4), .inr (hst.kn.pick [] [])⟩, ?_⟩
  refine sAny_one (i := 4) (by kernel_rfl) rfl rfl (op_store (k := 0) (c' := #[.bool (neg (qn (x + (-y)))), .slice A15 (zl (qn (x + (-y)))) c16, .bool (neg (ql (x + (-y)))), .slice B17 (zl (ql (x + (-y)))) d18]) henv hst (ty_anvil_ratio_Rat.size) rfl rfl rfl rfl (by simp) rfl rfl ?_)
  clear henv hst a; intro a w22 henv hst
  refine ⟨.inr ⟨hst.kn.pick [1, 2] (rg 4 4), .inl rfl⟩, ?_⟩
  refine sAny_done (by kernel_rfl) ?_ _
  refine th_n ?_
  refine wp_ret ?_
  refine leave henv (res1 Tryd.results60 (RV.cell henv ty_anvil_ratio_Rat rfl (hst.oat (k := 0) rfl) rfl)) ?_
  exact ⟨_, rfl, q_at (congrArg qn (q_sub x y)) (congrArg ql (q_sub x y)) (hst.pat (k := 1) rfl) (hst.pat (k := 0) rfl), hst.below⟩
set_option maxRecDepth 100000 in
set_option maxHeartbeats 1000000 in
theorem make_q0 {A B : Option Addr} {c d : Nat} {p : Int} {w0 : World} (hx : ZIn w0 A c p) (hy : ZIn w0 B d 0) :
    Calls Tryd.prog 90 #[.agg #[.bool (neg p), .slice A (zl p) c], .agg #[.bool (neg 0), .slice B (zl 0) d]] w0 fun e w' => e = .returned (.tuple #[.agg #[.bool (neg (qn 0)), .slice none (zl (qn 0)) 0, .bool (neg (ql 0)), .slice none (zl (ql 0)) 0], .int .i64 2]) ∧ Below w0.heap.size w0 w' := by
  refine enter Tryd.func90 rfl Tryd.ntmps90 rfl ?_
  intro a henv hst
  replace hst := hst.addZ hx trivial
  replace hst := hst.addZ hy trivial
  refine wp_seq ?_
  refine region_seq ?_
  refine seq_step rfl (op_box (c := #[.bool (neg p), .slice A (zl p) c]) henv hst rfl rfl rfl ?_)
  clear henv hst a; intro a w2 g1 henv hst
  refine seq_step rfl (op_box (c := #[.bool (neg 0), .slice B (zl 0) d]) henv hst rfl rfl rfl ?_)
  clear henv hst a; intro a w4 g3 henv hst
  refine seq_step rfl (op_alloc (c := #[.bool (neg (qn 0)), .slice none (zl (qn 0)) 0, .bool (neg (ql 0)), .slice none (zl (ql 0)) 0]) henv hst rfl zero_anvil_ratio_Rat qcells ?_)
  clear henv hst a; intro a w6 g5 henv hst
  refine sv (v := .int .i64 0) henv rfl (rn_assign henv rfl) ?_
  clear henv a; intro a henv
  refine wpList_nil ?_
  refine th_n ?_
  refine wp_seq ?_
  refine wp_seq ?_
  refine region_seq ?_
  refine sv (v := .agg #[.bool (neg 0), .slice B (zl 0) d]) henv rfl (rn_load0 henv ty_anvil_integer_Int rfl (hst.oat (k := 1) rfl) rfl) ?_
  clear henv a; intro a henv
  refine seq_step rfl (op_call henv rfl Tryd.call31 rfl (sign_z (z := 0)) ?_)
  rintro e w7 ⟨rfl, hb⟩
  refine ⟨_, rfl, ?_⟩
  clear henv a; intro a henv
  replace hst := hst.call hb
  clear hb
  refine wpList_nil ?_
  refine th_n ?_
  refine wp_block ?_
  refine wp_seq ?_
  refine region_seq ?_
  refine sv (v := .bool ((0 : Int).sign == (0 : Int))) henv rfl (rn_bin henv rfl rfl rfl) ?_
  clear henv a; intro a henv
  rw [show ((0 : Int).sign == (0 : Int)) = true from (by simp)] at henv
  refine sv (v := .bool true) henv rfl (rn_assign henv rfl) ?_
  clear henv a; intro a henv
  refine wpList_nil ?_
  refine th_n ?_
  refine if_t henv rfl (rfl) ?_
  refine wp_seq ?_
  refine region_seq ?_
  refine sv (v := .agg #[.bool (neg (qn 0)), .slice none (zl (qn 0)) 0, .bool (neg (ql 0)), .slice none (zl (ql 0)) 0]) henv rfl (rn_zrat) ?_
  clear henv a; intro a henv
  refine seq_step rfl (op_store (k := 0) (c' := #[.bool (neg (qn 0)), .slice none (zl (qn 0)) 0, .bool (neg (ql 0)), .slice none (zl (ql 0)) 0]) henv hst (ty_anvil_ratio_Rat.size) rfl rfl rfl rfl (by simp) rfl rfl ?_)
  clear henv hst a; intro a w8 henv hst
  refine sv (v := .int .i64 2) henv rfl (rn_assign henv rfl) ?_
  clear henv a; intro a henv
  refine wpList_nil ?_
  refine th_n ?_
  refine wp_ret ?_
  refine bl_r (th_r ?_)
  refine leave henv (res2 Tryd.results90 (RV.cell henv ty_anvil_ratio_Rat rfl (hst.oat (k := 0) rfl) rfl) (RV.tmp henv rfl)) ?_
  exact ⟨rfl, hst.below⟩
set_option maxRecDepth 100000 in
set_option maxHeartbeats 1000000 in
theorem make_qp {A B : Option Addr} {c d : Nat} {p q : Int} {w0 : World} (hx : ZIn w0 A c p) (hy : ZIn w0 B d q) (hn : zl p ≤ 100000) (hm : zl q ≤ 100000) (h0 : 0 < q) :
    Calls Tryd.prog 90 #[.agg #[.bool (neg p), .slice A (zl p) c], .agg #[.bool (neg q), .slice B (zl q) d]] w0 fun e w' => ∃ v, e = .returned (.tuple #[v, .int .i64 0]) ∧ QAt w' v (Rat.divInt p q) ∧ Below w0.heap.size w0 w' := by
  have hsg : q.sign = 1 := Int.sign_eq_one_of_pos (by omega)
  refine enter Tryd.func90 rfl Tryd.ntmps90 rfl ?_
  intro a henv hst
  replace hst := hst.addZ hx trivial
  replace hst := hst.addZ hy trivial
  refine wp_seq ?_
  refine region_seq ?_
  refine seq_step rfl (op_box (c := #[.bool (neg p), .slice A (zl p) c]) henv hst rfl rfl rfl ?_)
  clear henv hst a; intro a w2 g1 henv hst
  refine seq_step rfl (op_box (c := #[.bool (neg q), .slice B (zl q) d]) henv hst rfl rfl rfl ?_)
  clear henv hst a; intro a w4 g3 henv hst
  refine seq_step rfl (op_alloc (c := #[.bool (neg (qn 0)), .slice none (zl (qn 0)) 0, .bool (neg (ql 0)), .slice none (zl (ql 0)) 0]) henv hst rfl zero_anvil_ratio_Rat qcells ?_)
  clear henv hst a; intro a w6 g5 henv hst
  refine sv (v := .int .i64 0) henv rfl (rn_assign henv rfl) ?_
  clear henv a; intro a henv
  refine wpList_nil ?_
  refine th_n ?_
  refine wp_seq ?_
  refine wp_seq ?_
  refine region_seq ?_
  refine sv (v := .agg #[.bool (neg q), .slice B (zl q) d]) henv rfl (rn_load0 henv ty_anvil_integer_Int rfl (hst.oat (k := 1) rfl) rfl) ?_
  clear henv a; intro a henv
  refine seq_step rfl (op_call henv rfl Tryd.call31 rfl (sign_z (z := q)) ?_)
  rintro e w7 ⟨rfl, hb⟩
  refine ⟨_, rfl, ?_⟩
  clear henv a; intro a henv
  replace hst := hst.call hb
  clear hb
  refine wpList_nil ?_
  refine th_n ?_
  refine wp_block ?_
  refine wp_seq ?_
  refine region_seq ?_
  refine sv (v := .bool (q.sign == (0 : Int))) henv rfl (rn_bin henv rfl rfl rfl) ?_
  clear henv a; intro a henv
  rw [show (q.sign == (0 : Int)) = false from (beq_eq_false_iff_ne.2 (by rw [hsg]; decide))] at henv
  refine sv (v := .bool false) henv rfl (rn_assign henv rfl) ?_
  clear henv a; intro a henv
  refine wpList_nil ?_
  refine th_n ?_
  refine if_f henv rfl (rfl) ?_
  refine wp_seq ?_
  refine region_seq ?_
  refine sv (v := .bool (q.sign == (-1))) henv rfl (rn_bin henv rfl rfl rfl) ?_
  clear henv a; intro a henv
  rw [show (q.sign == (-1)) = false from (by rw [hsg]; rfl)] at henv
  refine sv (v := .bool false) henv rfl (rn_assign henv rfl) ?_
  clear henv a; intro a henv
  refine wpList_nil ?_
  refine th_n ?_
  refine if_f henv rfl (rfl) ?_
  refine wp_skip ?_
  refine bl_n (th_n ?_)
  refine wp_seq ?_
  refine region_seq ?_
  revert a
  refine sA (v := .agg #[.bool (neg p), .slice A (zl p) c]) rfl (fun _ henv => rn_load0 henv ty_anvil_integer_Int rfl (hst.oat (k := 2) rfl) rfl) ?_
  refine sA (v := .agg #[.bool (neg q), .slice B (zl q) d]) rfl (fun _ henv => rn_load0 henv ty_anvil_integer_Int rfl (hst.oat (k := 1) rfl) rfl) ?_
  intro a henv
  refine seq_step rfl (op_call henv rfl Tryd.call116 rfl (lowest_q (p := p) (q := q) (r := Rat.divInt p q) (show ZIn _ A c p from hst.pat (k := 1) rfl) (show ZIn _ B d q from hst.pat (k := 0) rfl) (by omega) (by omega) (by omega) rfl) ?_)
  rintro e w14 ⟨_, rfl, ⟨A8, c9, B10, d11, rfl, hz12, hz13⟩, hb⟩
  refine ⟨_, rfl, ?_⟩
  clear henv a; intro a henv
  replace hst := ((hst.call hb).addZ hz12 ⟨nou_bk rfl, nou_bk rfl, nou_bk rfl, trivial⟩).addZ hz13 ⟨nou_bk rfl, nou_bk rfl, nou_bk rfl, trivial⟩
  clear hz12 hz13
  clear hb
  refine seq_step rfl (op_store (k := 0) (c' := #[.bool (neg (qn (Rat.divInt p q))), .slice A8 (zl (qn (Rat.divInt p q))) c9, .bool (neg (ql (Rat.divInt p q))), .slice B10 (zl (ql (Rat.divInt p q))) d11]) henv hst (ty_anvil_ratio_Rat.size) rfl rfl rfl rfl (by simp) rfl rfl ?_)
  clear henv hst a; intro a w15 henv hst
  refine sv (v := .int .i64 0) henv rfl (rn_assign henv rfl) ?_
  clear henv a; intro a henv
  refine wpList_nil ?_
  refine th_n ?_
  refine wp_ret ?_
  refine leave henv (res2 Tryd.results90 (RV.cell henv ty_anvil_ratio_Rat rfl (hst.oat (k := 0) rfl) rfl) (RV.tmp henv rfl)) ?_
  exact ⟨_, rfl, q_at rfl rfl (hst.pat (k := 1) rfl) (hst.pat (k := 0) rfl), hst.below⟩
set_option maxRecDepth 100000 in
set_option maxHeartbeats 1000000 in
theorem make_qn {A B : Option Addr} {c d : Nat} {p q : Int} {w0 : World} (hx : ZIn w0 A c p) (hy : ZIn w0 B d q) (hn : zl p ≤ 100000) (hm : zl q ≤ 100000) (h0 : q < 0) :
    Calls Tryd.prog 90 #[.agg #[.bool (neg p), .slice A (zl p) c], .agg #[.bool (neg q), .slice B (zl q) d]] w0 fun e w' => ∃ v, e = .returned (.tuple #[v, .int .i64 0]) ∧ QAt w' v (Rat.divInt p q) ∧ Below w0.heap.size w0 w' := by
  have hsg : q.sign = -1 := Int.sign_eq_neg_one_of_neg (by omega)
  refine enter Tryd.func90 rfl Tryd.ntmps90 rfl ?_
  intro a henv hst
  replace hst := hst.addZ hx trivial
  replace hst := hst.addZ hy trivial
  refine wp_seq ?_
  refine region_seq ?_
  refine seq_step rfl (op_box (c := #[.bool (neg p), .slice A (zl p) c]) henv hst rfl rfl rfl ?_)
  clear henv hst a; intro a w2 g1 henv hst
  refine seq_step rfl (op_box (c := #[.bool (neg q), .slice B (zl q) d]) henv hst rfl rfl rfl ?_)
  clear henv hst a; intro a w4 g3 henv hst
  refine seq_step rfl (op_alloc (c := #[.bool (neg (qn 0)), .slice none (zl (qn 0)) 0, .bool (neg (ql 0)), .slice none (zl (ql 0)) 0]) henv hst rfl zero_anvil_ratio_Rat qcells ?_)
  clear henv hst a; intro a w6 g5 henv hst
  refine sv (v := .int .i64 0) henv rfl (rn_assign henv rfl) ?_
  clear henv a; intro a henv
  refine wpList_nil ?_
  refine th_n ?_
  refine wp_seq ?_
  refine wp_seq ?_
  refine region_seq ?_
  refine sv (v := .agg #[.bool (neg q), .slice B (zl q) d]) henv rfl (rn_load0 henv ty_anvil_integer_Int rfl (hst.oat (k := 1) rfl) rfl) ?_
  clear henv a; intro a henv
  refine seq_step rfl (op_call henv rfl Tryd.call31 rfl (sign_z (z := q)) ?_)
  rintro e w7 ⟨rfl, hb⟩
  refine ⟨_, rfl, ?_⟩
  clear henv a; intro a henv
  replace hst := hst.call hb
  clear hb
  refine wpList_nil ?_
  refine th_n ?_
  refine wp_block ?_
  refine wp_seq ?_
  refine region_seq ?_
  refine sv (v := .bool (q.sign == (0 : Int))) henv rfl (rn_bin henv rfl rfl rfl) ?_
  clear henv a; intro a henv
  rw [show (q.sign == (0 : Int)) = false from (beq_eq_false_iff_ne.2 (by rw [hsg]; decide))] at henv
  refine sv (v := .bool false) henv rfl (rn_assign henv rfl) ?_
  clear henv a; intro a henv
  refine wpList_nil ?_
  refine th_n ?_
  refine if_f henv rfl (rfl) ?_
  refine wp_seq ?_
  refine region_seq ?_
  refine sv (v := .bool (q.sign == (-1))) henv rfl (rn_bin henv rfl rfl rfl) ?_
  clear henv a; intro a henv
  rw [show (q.sign == (-1)) = true from (by rw [hsg]; rfl)] at henv
  refine sv (v := .bool true) henv rfl (rn_assign henv rfl) ?_
  clear henv a; intro a henv
  refine wpList_nil ?_
  refine th_n ?_
  refine if_t henv rfl (rfl) ?_
  refine region_any (n := 6) (Sk [bk g5 #[.bool (neg (qn 0)), .slice none (zl (qn 0)) 0, .bool (neg (ql 0)), .slice none (zl (ql 0)) 0] 91] [pfZ B d q, pfZ A c p] [4, 5] [bk g3 #[.bool (neg q), .slice B (zl q) d] 36, bk g1 #[.bool (neg p), .slice A (zl p) c] 36]) mixed rfl henv hst ?_
  clear henv hst; intro w8 henv hst
  refine sAny_take (i := 0) [1, 3, 4, 5] (fun w' => w'.heap[g1]? = some (.cells #[.bool (neg p), .slice A (zl p) c] 36 (0, 0))) (v := .agg #[.bool (neg p), .slice A (zl p) c]) rfl (by kernel_rfl) (fun _ _ _ h => h) (fun _ _ hj hS => (hS.two rfl hj).oat (k := 1) rfl) henv rfl (hst.oat (k := 2) rfl) (fun w' hg => rn_load0 henv ty_anvil_integer_Int rfl hg rfl) ?_
  clear henv a; intro a henv
  refine sAny_take (i := 2) [3, 4, 5] (fun w' => w'.heap[g3]? = some (.cells #[.bool (neg q), .slice B (zl q) d] 36 (0, 0))) (v := .agg #[.bool (neg q), .slice B (zl q) d]) rfl (by kernel_rfl) (fun _ _ _ h => h) (fun _ _ hj hS => (hS.two rfl hj).oat (k := 0) rfl) henv rfl (hst.oat (k := 1) rfl) (fun w' hg => rn_load0 henv ty_anvil_integer_Int rfl hg rfl) ?_
  clear henv a; intro a henv
  have hs9 := zl_neg p
  refine sAny_one (i := 1) (by kernel_rfl) rfl rfl (op_call henv rfl Tryd.call103 rfl (neg_z (z := p) (show ZIn _ A c p from hst.pat (k := 1) rfl)) ?_)
  rintro e w13 ⟨_, rfl, ⟨A10, c11, rfl, hz12⟩, hb⟩
  refine ⟨_, rfl, ?_⟩
  clear henv a; intro a henv
  replace hst := (hst.call hb).addZ hz12 ⟨nou_bk rfl, nou_bk rfl, nou_bk rfl, trivial⟩
  clear hz12
  clear hb
  refine ⟨.inr ⟨hst.kn.pick [0] [1, 2], .inr (hst.kn.pick [1, 2] [])⟩, ?_⟩
  have hs14 := zl_neg q
  refine sAny_one (i := 3) (by kernel_rfl) rfl rfl (op_call henv rfl Tryd.call103 rfl (neg_z (z := q) (show ZIn _ B d q from hst.pat (k := 1) rfl)) ?_)
  rintro e w18 ⟨_, rfl, ⟨A15, c16, rfl, hz17⟩, hb⟩
  refine ⟨_, rfl, ?_⟩
  clear henv a; intro a henv
  replace hst := (hst.call hb).addZ hz17 ⟨nou_bk rfl, nou_bk rfl, nou_bk rfl, trivial⟩
  clear hz17
  clear hb
  refine ⟨.inr ⟨hst.kn.pick [0] [2, 3], .inr (hst.kn.pick [1, 2] [])⟩, ?_⟩
  refine sAny_one (i := 4) (by kernel_rfl) rfl rfl (op_store (k := 2) (c' := #[.bool (neg (-p)), .slice A10 (zl (-p)) c11]) henv hst (ty_anvil_integer_Int.size) rfl rfl rfl rfl (by simp) rfl rfl ?_)
  clear henv hst a; intro a w19 henv hst
  refine ⟨.inr ⟨hst.kn.pick [0] [2, 3], .inl rfl⟩, ?_⟩
  refine sAny_one (i := 5) (by kernel_rfl) rfl rfl (op_store (k := 1) (c' := #[.bool (neg (-q)), .slice A15 (zl (-q)) c16]) henv hst (ty_anvil_integer_Int.size) rfl rfl rfl rfl (by simp) rfl rfl ?_)
  clear henv hst a; intro a w20 henv hst
  refine ⟨.inr ⟨hst.kn.pick [0] [2, 3], .inl rfl⟩, ?_⟩
  refine sAny_done (by kernel_rfl) ?_ _
  refine bl_n (th_n ?_)
  refine wp_seq ?_
  refine region_seq ?_
  revert a
  refine sA (v := .agg #[.bool (neg (-p)), .slice A10 (zl (-p)) c11]) rfl (fun _ henv => rn_load0 henv ty_anvil_integer_Int rfl (hst.oat (k := 2) rfl) rfl) ?_
  refine sA (v := .agg #[.bool (neg (-q)), .slice A15 (zl (-q)) c16]) rfl (fun _ henv => rn_load0 henv ty_anvil_integer_Int rfl (hst.oat (k := 1) rfl) rfl) ?_
  intro a henv
  refine seq_step rfl (op_call henv rfl Tryd.call116 rfl (lowest_q (p := -p) (q := -q) (r := Rat.divInt p q) (show ZIn _ A10 c11 (-p) from hst.pat (k := 1) rfl) (show ZIn _ A15 c16 (-q) from hst.pat (k := 0) rfl) (by omega) (by omega) (by omega) (q_neg2 p q)) ?_)
  rintro e w27 ⟨_, rfl, ⟨A21, c22, B23, d24, rfl, hz25, hz26⟩, hb⟩
  refine ⟨_, rfl, ?_⟩
  clear henv a; intro a henv
  replace hst := ((hst.call hb).addZ hz25 ⟨nou_bk rfl, nou_bk rfl, nou_bk rfl, trivial⟩).addZ hz26 ⟨nou_bk rfl, nou_bk rfl, nou_bk rfl, trivial⟩
  clear hz25 hz26
  clear hb
  refine seq_step rfl (op_store (k := 0) (c' := #[.bool (neg (qn (Rat.divInt p q))), .slice A21 (zl (qn (Rat.divInt p q))) c22, .bool (neg (ql (Rat.divInt p q))), .slice B23 (zl (ql (Rat.divInt p q))) d24]) henv hst (ty_anvil_ratio_Rat.size) rfl rfl rfl rfl (by simp) rfl rfl ?_)
  clear henv hst a; intro a w28 henv hst
  refine sv (v := .int .i64 0) henv rfl (rn_assign henv rfl) ?_
  clear henv a; intro a henv
  refine wpList_nil ?_
  refine th_n ?_
  refine wp_ret ?_
  refine leave henv (res2 Tryd.results90 (RV.cell henv ty_anvil_ratio_Rat rfl (hst.oat (k := 0) rfl) rfl) (RV.tmp henv rfl)) ?_
  exact ⟨_, rfl, q_at rfl rfl (hst.pat (k := 1) rfl) (hst.pat (k := 0) rfl), hst.below⟩
theorem make_z0 {A B : Option Addr} {c d : Nat} {p q : Int} {w0 : World} (hx : ZIn w0 A c p) (hy : ZIn w0 B d q) (hq : q = 0) :
    Calls Tryd.prog 90 #[.agg #[.bool (neg p), .slice A (zl p) c], .agg #[.bool (neg q), .slice B (zl q) d]] w0 fun e w' => e = .returned (.tuple #[.agg #[.bool (neg (qn 0)), .slice none (zl (qn 0)) 0, .bool (neg (ql 0)), .slice none (zl (ql 0)) 0], .int .i64 2]) ∧ Below w0.heap.size w0 w' := by
  subst hq
  exact make_q0 hx hy
theorem make_q {A B : Option Addr} {c d : Nat} {p q : Int} {w0 : World} (hx : ZIn w0 A c p) (hy : ZIn w0 B d q) (hn : zl p ≤ 100000) (hm : zl q ≤ 100000) (h0 : q ≠ 0) :
    Calls Tryd.prog 90 #[.agg #[.bool (neg p), .slice A (zl p) c], .agg #[.bool (neg q), .slice B (zl q) d]] w0 fun e w' => ∃ v, e = .returned (.tuple #[v, .int .i64 0]) ∧ QAt w' v (Rat.divInt p q) ∧ Below w0.heap.size w0 w' := by
  rcases Int.lt_trichotomy q 0 with h | h | h
  · exact make_qn hx hy hn hm h
  · exact absurd h h0
  · exact make_qp hx hy hn hm h
theorem make_qr {r : Rat} {A B : Option Addr} {c d : Nat} {p q : Int} {w0 : World} (hx : ZIn w0 A c p) (hy : ZIn w0 B d q) (hn : zl p ≤ 100000) (hm : zl q ≤ 100000) (h0 : q ≠ 0) (hr : Rat.divInt p q = r) :
    Calls Tryd.prog 90 #[.agg #[.bool (neg p), .slice A (zl p) c], .agg #[.bool (neg q), .slice B (zl q) d]] w0 fun e w' => ∃ v, e = .returned (.tuple #[v, .int .i64 0]) ∧ QAt w' v r ∧ Below w0.heap.size w0 w' := by
  subst hr
  exact make_q hx hy hn hm h0
set_option maxRecDepth 100000 in
set_option maxHeartbeats 1000000 in
theorem over_q {A0 B0 : Option Addr} {c0 d0 : Nat} {A1 B1 : Option Addr} {c1 d1 : Nat} {x y : Rat} {w0 : World} (h0 : ZIn w0 A0 c0 (qn x)) (k0 : ZIn w0 B0 d0 (ql x)) (h1 : ZIn w0 A1 c1 (qn y)) (k1 : ZIn w0 B1 d1 (ql y)) {a b : Nat} (sx : Qs a x) (sy : Qs b y) (hab : a + b ≤ 40000) (hy0 : y ≠ 0) :
    Calls Tryd.prog 62 #[.agg #[.bool (neg (qn x)), .slice A0 (zl (qn x)) c0, .bool (neg (ql x)), .slice B0 (zl (ql x)) d0], .agg #[.bool (neg (qn y)), .slice A1 (zl (qn y)) c1, .bool (neg (ql y)), .slice B1 (zl (ql y)) d1]] w0 fun e w' => ∃ v, e = .returned (.tuple #[v, .int .i64 0]) ∧ QAt w' v (x / y) ∧ Below w0.heap.size w0 w' := by
  have hnx := sx.n
  have hdx := sx.d
  have hlx := sx.l
  have hny := sy.n
  have hdy := sy.d
  have hly := sy.l
  refine enter Tryd.func62 rfl Tryd.ntmps62 rfl ?_
  intro a henv hst
  replace hst := hst.addZ h0 trivial
  replace hst := hst.addZ k0 trivial
  replace hst := hst.addZ h1 trivial
  replace hst := hst.addZ k1 trivial
  refine wp_seq ?_
  refine region_seq ?_
  refine seq_step rfl (op_box (c := #[.bool (neg (qn x)), .slice A0 (zl (qn x)) c0, .bool (neg (ql x)), .slice B0 (zl (ql x)) d0]) henv hst rfl rfl rfl ?_)
  clear henv hst a; intro a w2 g1 henv hst
  refine seq_step rfl (op_box (c := #[.bool (neg (qn y)), .slice A1 (zl (qn y)) c1, .bool (neg (ql y)), .slice B1 (zl (ql y)) d1]) henv hst rfl rfl rfl ?_)
  clear henv hst a; intro a w4 g3 henv hst
  refine seq_step rfl (op_alloc (c := #[.bool (neg (qn 0)), .slice none (zl (qn 0)) 0, .bool (neg (ql 0)), .slice none (zl (ql 0)) 0]) henv hst rfl zero_anvil_ratio_Rat qcells ?_)
  clear henv hst a; intro a w6 g5 henv hst
  refine sv (v := .int .i64 0) henv rfl (rn_assign henv rfl) ?_
  clear henv a; intro a henv
  refine wpList_nil ?_
  refine th_n ?_
  refine wp_seq ?_
  refine region_any (n := 15) (Sk [bk g3 #[.bool (neg (qn y)), .slice A1 (zl (qn y)) c1, .bool (neg (ql y)), .slice B1 (zl (ql y)) d1] 91, bk g1 #[.bool (neg (qn x)), .slice A0 (zl (qn x)) c0, .bool (neg (ql x)), .slice B0 (zl (ql x)) d0] 91] [pfZ B1 d1 (ql y), pfZ A1 c1 (qn y), pfZ B0 d0 (ql x), pfZ A0 c0 (qn x)] [13] []) mixed rfl henv hst ?_
  clear henv hst; intro w7 henv hst
  refine tA (i := 0) [1, 4, 6, 9, 10, 11, 12, 13, 14] (v := .pointer (some ⟨g1, 0, none⟩)) rfl (by kernel_rfl) (fun _ _ _ h => h) henv rfl (fun _ => rn_fieldAddr henv fd_anvil_ratio_Rat_0 (ty_anvil_integer_Int.size) (by decide) rfl) ?_
  clear henv a; intro a henv
  refine sAny_take (i := 1) [4, 6, 9, 10, 11, 12, 13, 14] (fun w' => w'.heap[g1]? = some (.cells #[.bool (neg (qn x)), .slice A0 (zl (qn x)) c0, .bool (neg (ql x)), .slice B0 (zl (ql x)) d0] 91 (0, 0))) (v := .agg #[.bool (neg (qn x)), .slice A0 (zl (qn x)) c0]) rfl (by kernel_rfl) (fun _ _ _ h => h) (fun _ _ _ hS => hS.1.oat (k := 1) rfl) henv rfl (hst.oat (k := 2) rfl) (fun w' hg => rn_load henv ty_anvil_integer_Int rfl hg rfl rfl) ?_
  clear henv a; intro a henv
  refine tL (i := 2) 0 1 [3, 4, 6, 9, 10, 11, 12, 13, 14] rfl (by kernel_rfl) (fun _ _ _ h => h) henv rfl ty_anvil_ratio_Rat rfl hst rfl rfl rfl ?_
  clear henv a; intro a henv
  refine tL (i := 5) 1 2 [6, 9, 10, 11, 12, 13, 14] rfl (by kernel_rfl) (fun _ _ _ h => h) henv rfl ty_anvil_ratio_Rat rfl hst rfl rfl rfl ?_
  clear henv a; intro a henv
  refine tA (i := 7) (rg 8 7) (v := .pointer (some ⟨g3, 0, none⟩)) rfl (by kernel_rfl) (fun _ _ _ h => h) henv rfl (fun _ => rn_fieldAddr henv fd_anvil_ratio_Rat_0 (ty_anvil_integer_Int.size) (by decide) rfl) ?_
  clear henv a; intro a henv
  refine sAny_take (i := 8) [9, 10, 11, 12, 13, 14] (fun w' => w'.heap[g3]? = some (.cells #[.bool (neg (qn y)), .slice A1 (zl (qn y)) c1, .bool (neg (ql y)), .slice B1 (zl (ql y)) d1] 91 (0, 0))) (v := .agg #[.bool (neg (qn y)), .slice A1 (zl (qn y)) c1]) rfl (by kernel_rfl) (fun _ _ _ h => h) (fun _ _ _ hS => hS.1.oat (k := 0) rfl) henv rfl (hst.oat (k := 1) rfl) (fun w' hg => rn_load henv ty_anvil_integer_Int rfl hg rfl rfl) ?_
  clear henv a; intro a henv
  refine sAny_one (i := 3) (by kernel_rfl) rfl rfl (op_call henv rfl Tryd.call89 rfl (den_q (x := y) (show ZIn _ A1 c1 (qn y) from hst.pat (k := 1) rfl) (show ZIn _ B1 d1 (ql y) from hst.pat (k := 0) rfl) sy (by omega)) ?_)
  rintro e w11 ⟨_, rfl, ⟨A8, c9, rfl, hz10⟩, hb⟩
  refine ⟨_, rfl, ?_⟩
  clear henv a; intro a henv
  replace hst := (hst.call hb).addZ hz10 ⟨nou_bk rfl, nou_bk rfl, nou_bk rfl, trivial⟩
  clear hz10
  clear hb
  refine ⟨.inr ⟨hst.kn.pick [1, 2] (rg 1 4), .inr (hst.kn.pick [] [])⟩, ?_⟩
  have hs12 := zl_mul (qn x) (qd y)
  refine sAny_one (i := 4) (by kernel_rfl) rfl rfl (op_call henv rfl Tryd.call84 rfl (mul_z (x := (qn x)) (y := (qd y)) (show ZIn _ A0 c0 (qn x) from hst.pat (k := 4) rfl) (show ZIn _ A8 c9 (qd y) from hst.pat (k := 0) rfl) (by omega) (by omega)) ?_)
  rintro e w16 ⟨_, rfl, ⟨A13, c14, rfl, hz15⟩, hb⟩
  refine ⟨_, rfl, ?_⟩
  clear henv a; intro a henv
  replace hst := (hst.call hb).addZ hz15 ⟨nou_bk rfl, nou_bk rfl, nou_bk rfl, trivial⟩
  clear hz15
  clear hb
  refine ⟨.inr ⟨hst.kn.pick [1, 2] (rg 2 4), .inr (hst.kn.pick [] [])⟩, ?_⟩
  refine sAny_one (i := 6) (by kernel_rfl) rfl rfl (op_call henv rfl Tryd.call89 rfl (den_q (x := x) (show ZIn _ A0 c0 (qn x) from hst.pat (k := 5) rfl) (show ZIn _ B0 d0 (ql x) from hst.pat (k := 4) rfl) sx (by omega)) ?_)
  rintro e w20 ⟨_, rfl, ⟨A17, c18, rfl, hz19⟩, hb⟩
  refine ⟨_, rfl, ?_⟩
  clear henv a; intro a henv
  replace hst := (hst.call hb).addZ hz19 ⟨nou_bk rfl, nou_bk rfl, nou_bk rfl, trivial⟩
  clear hz19
  clear hb
  refine ⟨.inr ⟨hst.kn.pick [1, 2] (rg 3 4), .inr (hst.kn.pick [] [])⟩, ?_⟩
  have hs21 := zl_mul (qd x) (qn y)
  refine sAny_one (i := 9) (by kernel_rfl) rfl rfl (op_call henv rfl Tryd.call84 rfl (mul_z (x := (qd x)) (y := (qn y)) (show ZIn _ A17 c18 (qd x) from hst.pat (k := 0) rfl) (show ZIn _ A1 c1 (qn y) from hst.pat (k := 4) rfl) (by omega) (by omega)) ?_)
  rintro e w25 ⟨_, rfl, ⟨A22, c23, rfl, hz24⟩, hb⟩
  refine ⟨_, rfl, ?_⟩
  clear henv a; intro a henv
  replace hst := (hst.call hb).addZ hz24 ⟨nou_bk rfl, nou_bk rfl, nou_bk rfl, trivial⟩
  clear hz24
  clear hb
  refine ⟨.inr ⟨hst.kn.pick [1, 2] (rg 4 4), .inr (hst.kn.pick [] [])⟩, ?_⟩
  refine sAny_one (i := 10) (by kernel_rfl) rfl rfl (op_call henv rfl Tryd.call90 rfl (make_qr (p := (qn x) * (qd y)) (q := (qd x) * (qn y)) (r := x / y) (show ZIn _ A13 c14 ((qn x) * (qd y)) from hst.pat (k := 2) rfl) (show ZIn _ A22 c23 ((qd x) * (qn y)) from hst.pat (k := 0) rfl) (by omega) (by omega) (qdn_ne hy0) (q_over x y)) ?_)
  rintro e w32 ⟨_, rfl, ⟨A26, c27, B28, d29, rfl, hz30, hz31⟩, hb⟩
  refine ⟨_, rfl, ?_⟩
  clear henv a; intro a henv
  replace hst := ((hst.call hb).addZ hz30 ⟨nou_bk rfl, nou_bk rfl, nou_bk rfl, trivial⟩).addZ hz31 ⟨nou_bk rfl, nou_bk rfl, nou_bk rfl, trivial⟩
  clear hz30 hz31
  clear hb
  refine ⟨.inr ⟨hst.kn.pick [1, 2] (rg 6 4), .inr (hst.kn.pick [] [])⟩, ?_⟩
  refine tA (i := 11) [13, 14] (v := .agg #[.bool (neg (qn (x / y))), .slice A26 (zl (qn (x / y))) c27, .bool (neg (ql (x / y))), .slice B28 (zl (ql (x / y))) d29]) rfl (by kernel_rfl) (fun _ _ _ h => h) henv rfl (fun _ => rn_extract henv rfl rfl) ?_
  clear henv a; intro a henv
  refine tA (i := 12) [13, 14] (v := .int .i64 0) rfl (by kernel_rfl) (fun _ _ _ h => h) henv rfl (fun _ => rn_extract henv rfl rfl) ?_
  clear henv a; intro a henv
  refine sAny_one (i := 13) (by kernel_rfl) rfl rfl (op_store (k := 0) (c' := #[.bool (neg (qn (x / y))), .slice A26 (zl (qn (x / y))) c27, .bool (neg (ql (x / y))), .slice B28 (zl (ql (x / y))) d29]) henv hst (ty_anvil_ratio_Rat.size) rfl rfl rfl rfl (by simp) rfl rfl ?_)
  clear henv hst a; intro a w33 henv hst
  refine ⟨.inr ⟨hst.kn.pick [1, 2] (rg 6 4), .inl rfl⟩, ?_⟩
  refine tA (i := 14) [] (v := .int .i64 0) rfl (by kernel_rfl) (fun _ _ _ h => h) henv rfl (fun _ => rn_assign henv rfl) ?_
  clear henv a; intro a henv
  refine sAny_done (by kernel_rfl) ?_ _
  refine th_n ?_
  refine wp_ret ?_
  refine leave henv (res2 Tryd.results62 (RV.cell henv ty_anvil_ratio_Rat rfl (hst.oat (k := 0) rfl) rfl) (RV.tmp henv rfl)) ?_
  exact ⟨_, rfl, q_at rfl rfl (hst.pat (k := 1) rfl) (hst.pat (k := 0) rfl), hst.below⟩
set_option maxRecDepth 100000 in
set_option maxHeartbeats 1000000 in
theorem over_q0 {A0 B0 : Option Addr} {c0 d0 : Nat} {x : Rat} {A1 B1 : Option Addr} {c1 d1 : Nat} {w0 : World} (h0 : ZIn w0 A0 c0 (qn x)) (k0 : ZIn w0 B0 d0 (ql x)) (h1 : ZIn w0 A1 c1 (qn 0)) (k1 : ZIn w0 B1 d1 (ql 0)) {a : Nat} (sx : Qs a x) (ha : a ≤ 40000) :
    Calls Tryd.prog 62 #[.agg #[.bool (neg (qn x)), .slice A0 (zl (qn x)) c0, .bool (neg (ql x)), .slice B0 (zl (ql x)) d0], .agg #[.bool (neg (qn 0)), .slice A1 (zl (qn 0)) c1, .bool (neg (ql 0)), .slice B1 (zl (ql 0)) d1]] w0 fun e w' => e = .returned (.tuple #[.agg #[.bool (neg (qn 0)), .slice none (zl (qn 0)) 0, .bool (neg (ql 0)), .slice none (zl (ql 0)) 0], .int .i64 2]) ∧ Below w0.heap.size w0 w' := by
  have hnx := sx.n
  have hdx := sx.d
  have hlx := sx.l
  have hz0 : zl (qn 0) = 0 := zl_zero
  have hz1 : zl (qd 0) ≤ 1 := nl_le_of_lt (by decide)
  have s0 : Qs 1 0 := ⟨by decide, by decide⟩
  refine enter Tryd.func62 rfl Tryd.ntmps62 rfl ?_
  intro a henv hst
  replace hst := hst.addZ h0 trivial
  replace hst := hst.addZ k0 trivial
  replace hst := hst.addZ h1 trivial
  replace hst := hst.addZ k1 trivial
  refine wp_seq ?_
  refine region_seq ?_
  refine seq_step rfl (op_box (c := #[.bool (neg (qn x)), .slice A0 (zl (qn x)) c0, .bool (neg (ql x)), .slice B0 (zl (ql x)) d0]) henv hst rfl rfl rfl ?_)
  clear henv hst a; intro a w2 g1 henv hst
  refine seq_step rfl (op_box (c := #[.bool (neg (qn 0)), .slice A1 (zl (qn 0)) c1, .bool (neg (ql 0)), .slice B1 (zl (ql 0)) d1]) henv hst rfl rfl rfl ?_)
  clear henv hst a; intro a w4 g3 henv hst
  refine seq_step rfl (op_alloc (c := #[.bool (neg (qn 0)), .slice none (zl (qn 0)) 0, .bool (neg (ql 0)), .slice none (zl (ql 0)) 0]) henv hst rfl zero_anvil_ratio_Rat qcells ?_)
  clear henv hst a; intro a w6 g5 henv hst
  refine sv (v := .int .i64 0) henv rfl (rn_assign henv rfl) ?_
  clear henv a; intro a henv
  refine wpList_nil ?_
  refine th_n ?_
  refine wp_seq ?_
  refine region_any (n := 15) (Sk [bk g3 #[.bool (neg (qn 0)), .slice A1 (zl (qn 0)) c1, .bool (neg (ql 0)), .slice B1 (zl (ql 0)) d1] 91, bk g1 #[.bool (neg (qn x)), .slice A0 (zl (qn x)) c0, .bool (neg (ql x)), .slice B0 (zl (ql x)) d0] 91] [pfZ B1 d1 (ql 0), pfZ A1 c1 (qn 0), pfZ B0 d0 (ql x), pfZ A0 c0 (qn x)] [13] []) mixed rfl henv hst ?_
  clear henv hst; intro w7 henv hst
  refine tA (i := 0) [1, 4, 6, 9, 10, 11, 12, 13, 14] (v := .pointer (some ⟨g1, 0, none⟩)) rfl (by kernel_rfl) (fun _ _ _ h => h) henv rfl (fun _ => rn_fieldAddr henv fd_anvil_ratio_Rat_0 (ty_anvil_integer_Int.size) (by decide) rfl) ?_
  clear henv a; intro a henv
  refine sAny_take (i := 1) [4, 6, 9, 10, 11, 12, 13, 14] (fun w' => w'.heap[g1]? = some (.cells #[.bool (neg (qn x)), .slice A0 (zl (qn x)) c0, .bool (neg (ql x)), .slice B0 (zl (ql x)) d0] 91 (0, 0))) (v := .agg #[.bool (neg (qn x)), .slice A0 (zl (qn x)) c0]) rfl (by kernel_rfl) (fun _ _ _ h => h) (fun _ _ _ hS => hS.1.oat (k := 1) rfl) henv rfl (hst.oat (k := 2) rfl) (fun w' hg => rn_load henv ty_anvil_integer_Int rfl hg rfl rfl) ?_
  clear henv a; intro a henv
  refine tL (i := 2) 0 1 [3, 4, 6, 9, 10, 11, 12, 13, 14] rfl (by kernel_rfl) (fun _ _ _ h => h) henv rfl ty_anvil_ratio_Rat rfl hst rfl rfl rfl ?_
  clear henv a; intro a henv
  refine tL (i := 5) 1 2 [6, 9, 10, 11, 12, 13, 14] rfl (by kernel_rfl) (fun _ _ _ h => h) henv rfl ty_anvil_ratio_Rat rfl hst rfl rfl rfl ?_
  clear henv a; intro a henv
  refine tA (i := 7) (rg 8 7) (v := .pointer (some ⟨g3, 0, none⟩)) rfl (by kernel_rfl) (fun _ _ _ h => h) henv rfl (fun _ => rn_fieldAddr henv fd_anvil_ratio_Rat_0 (ty_anvil_integer_Int.size) (by decide) rfl) ?_
  clear henv a; intro a henv
  refine sAny_take (i := 8) [9, 10, 11, 12, 13, 14] (fun w' => w'.heap[g3]? = some (.cells #[.bool (neg (qn 0)), .slice A1 (zl (qn 0)) c1, .bool (neg (ql 0)), .slice B1 (zl (ql 0)) d1] 91 (0, 0))) (v := .agg #[.bool (neg (qn 0)), .slice A1 (zl (qn 0)) c1]) rfl (by kernel_rfl) (fun _ _ _ h => h) (fun _ _ _ hS => hS.1.oat (k := 0) rfl) henv rfl (hst.oat (k := 1) rfl) (fun w' hg => rn_load henv ty_anvil_integer_Int rfl hg rfl rfl) ?_
  clear henv a; intro a henv
  refine sAny_one (i := 3) (by kernel_rfl) rfl rfl (op_call henv rfl Tryd.call89 rfl (den_q (x := 0) (show ZIn _ A1 c1 (qn 0) from hst.pat (k := 1) rfl) (show ZIn _ B1 d1 (ql 0) from hst.pat (k := 0) rfl) s0 (by omega)) ?_)
  rintro e w11 ⟨_, rfl, ⟨A8, c9, rfl, hz10⟩, hb⟩
  refine ⟨_, rfl, ?_⟩
  clear henv a; intro a henv
  replace hst := (hst.call hb).addZ hz10 ⟨nou_bk rfl, nou_bk rfl, nou_bk rfl, trivial⟩
  clear hz10
  clear hb
  refine ⟨.inr ⟨hst.kn.pick [1, 2] (rg 1 4), .inr (hst.kn.pick [] [])⟩, ?_⟩
  have hs12 := zl_mul (qn x) (qd 0)
  refine sAny_one (i := 4) (by kernel_rfl) rfl rfl (op_call henv rfl Tryd.call84 rfl (mul_z (x := (qn x)) (y := (qd 0)) (show ZIn _ A0 c0 (qn x) from hst.pat (k := 4) rfl) (show ZIn _ A8 c9 (qd 0) from hst.pat (k := 0) rfl) (by omega) (by omega)) ?_)
  rintro e w16 ⟨_, rfl, ⟨A13, c14, rfl, hz15⟩, hb⟩
  refine ⟨_, rfl, ?_⟩
  clear henv a; intro a henv
  replace hst := (hst.call hb).addZ hz15 ⟨nou_bk rfl, nou_bk rfl, nou_bk rfl, trivial⟩
  clear hz15
  clear hb
  refine ⟨.inr ⟨hst.kn.pick [1, 2] (rg 2 4), .inr (hst.kn.pick [] [])⟩, ?_⟩
  refine sAny_one (i := 6) (by kernel_rfl) rfl rfl (op_call henv rfl Tryd.call89 rfl (den_q (x := x) (show ZIn _ A0 c0 (qn x) from hst.pat (k := 5) rfl) (show ZIn _ B0 d0 (ql x) from hst.pat (k := 4) rfl) sx (by omega)) ?_)
  rintro e w20 ⟨_, rfl, ⟨A17, c18, rfl, hz19⟩, hb⟩
  refine ⟨_, rfl, ?_⟩
  clear henv a; intro a henv
  replace hst := (hst.call hb).addZ hz19 ⟨nou_bk rfl, nou_bk rfl, nou_bk rfl, trivial⟩
  clear hz19
  clear hb
  refine ⟨.inr ⟨hst.kn.pick [1, 2] (rg 3 4), .inr (hst.kn.pick [] [])⟩, ?_⟩
  have hs21 := zl_mul (qd x) (qn 0)
  refine sAny_one (i := 9) (by kernel_rfl) rfl rfl (op_call henv rfl Tryd.call84 rfl (mul_z (x := (qd x)) (y := (qn 0)) (show ZIn _ A17 c18 (qd x) from hst.pat (k := 0) rfl) (show ZIn _ A1 c1 (qn 0) from hst.pat (k := 4) rfl) (by omega) (by omega)) ?_)
  rintro e w25 ⟨_, rfl, ⟨A22, c23, rfl, hz24⟩, hb⟩
  refine ⟨_, rfl, ?_⟩
  clear henv a; intro a henv
  replace hst := (hst.call hb).addZ hz24 ⟨nou_bk rfl, nou_bk rfl, nou_bk rfl, trivial⟩
  clear hz24
  clear hb
  refine ⟨.inr ⟨hst.kn.pick [1, 2] (rg 4 4), .inr (hst.kn.pick [] [])⟩, ?_⟩
  refine sAny_one (i := 10) (by kernel_rfl) rfl rfl (op_call henv rfl Tryd.call90 rfl (make_z0 (p := (qn x) * (qd 0)) (q := (qd x) * (qn 0)) (show ZIn _ A13 c14 ((qn x) * (qd 0)) from hst.pat (k := 2) rfl) (show ZIn _ A22 c23 ((qd x) * (qn 0)) from hst.pat (k := 0) rfl) (Int.mul_zero _)) ?_)
  rintro e w26 ⟨rfl, hb⟩
  refine ⟨_, rfl, ?_⟩
  clear henv a; intro a henv
  replace hst := hst.call hb
  clear hb
  refine ⟨.inr ⟨hst.kn.pick [1, 2] (rg 4 4), .inr (hst.kn.pick [] [])⟩, ?_⟩
  refine tA (i := 11) [13, 14] (v := .agg #[.bool (neg (qn 0)), .slice none (zl (qn 0)) 0, .bool (neg (ql 0)), .slice none (zl (ql 0)) 0]) rfl (by kernel_rfl) (fun _ _ _ h => h) henv rfl (fun _ => rn_extract henv rfl rfl) ?_
  clear henv a; intro a henv
  refine tA (i := 12) [13, 14] (v := .int .i64 2) rfl (by kernel_rfl) (fun _ _ _ h => h) henv rfl (fun _ => rn_extract henv rfl rfl) ?_
  clear henv a; intro a henv
  refine sAny_one (i := 13) (by kernel_rfl) rfl rfl (op_store (k := 0) (c' := #[.bool (neg (qn 0)), .slice none (zl (qn 0)) 0, .bool (neg (ql 0)), .slice none (zl (ql 0)) 0]) henv hst (ty_anvil_ratio_Rat.size) rfl rfl rfl rfl (by simp) rfl rfl ?_)
  clear henv hst a; intro a w27 henv hst
  refine ⟨.inr ⟨hst.kn.pick [1, 2] (rg 4 4), .inl rfl⟩, ?_⟩
  refine tA (i := 14) [] (v := .int .i64 2) rfl (by kernel_rfl) (fun _ _ _ h => h) henv rfl (fun _ => rn_assign henv rfl) ?_
  clear henv a; intro a henv
  refine sAny_done (by kernel_rfl) ?_ _
  refine th_n ?_
  refine wp_ret ?_
  refine leave henv (res2 Tryd.results62 (RV.cell henv ty_anvil_ratio_Rat rfl (hst.oat (k := 0) rfl) rfl) (RV.tmp henv rfl)) ?_
  exact ⟨rfl, hst.below⟩
set_option maxRecDepth 100000 in
set_option maxHeartbeats 1000000 in
theorem text_q1 {A0 B0 : Option Addr} {c0 d0 : Nat} {x : Rat} {w0 : World} (h0 : ZIn w0 A0 c0 (qn x)) (k0 : ZIn w0 B0 d0 (ql x)) {a : Nat} (sx : Qs a x) (ha : a ≤ 6000) (hw : ql x = 0) :
    Calls Tryd.prog 92 #[.agg #[.bool (neg (qn x)), .slice A0 (zl (qn x)) c0, .bool (neg (ql x)), .slice B0 (zl (ql x)) d0]] w0 fun e w' => e = .returned (.string ⟨(textQ x).toArray⟩) ∧ Below w0.heap.size w0 w' := by
  have hnx := sx.n
  have hdx := sx.d
  have hlx := sx.l
  have ht1 := textZ_bd (qn x)
  have ht2 := textZ_bd (qd x)
  refine enter Tryd.func92 rfl Tryd.ntmps92 rfl ?_
  intro a henv hst
  replace hst := hst.addZ h0 trivial
  replace hst := hst.addZ k0 trivial
  refine wp_seq ?_
  refine region_seq ?_
  refine seq_step rfl (op_box (c := #[.bool (neg (qn x)), .slice A0 (zl (qn x)) c0, .bool (neg (ql x)), .slice B0 (zl (ql x)) d0]) henv hst rfl rfl rfl ?_)
  clear henv hst a; intro a w2 g1 henv hst
  refine sv (v := .string ⟨#[]⟩) henv rfl (rn_assign henv rfl) ?_
  clear henv a; intro a henv
  refine wpList_nil ?_
  refine th_n ?_
  refine wp_seq ?_
  refine region_seq ?_
  revert a
  refine sA (v := .pointer (some ⟨g1, 0, none⟩)) rfl (fun _ henv => rn_fieldAddr henv fd_anvil_ratio_Rat_0 (ty_anvil_integer_Int.size) (by decide) rfl) ?_
  refine sA (v := .agg #[.bool (neg (qn x)), .slice A0 (zl (qn x)) c0]) rfl (fun _ henv => rn_load henv ty_anvil_integer_Int rfl (hst.oat (k := 0) rfl) rfl rfl) ?_
  intro a henv
  refine seq_step rfl (op_call henv rfl Tryd.call72 rfl (text_z (z := (qn x)) (show ZIn _ A0 c0 (qn x) from hst.pat (k := 1) rfl) (by omega)) ?_)
  rintro e w3 ⟨rfl, hb⟩
  refine ⟨_, rfl, ?_⟩
  clear henv a; intro a henv
  replace hst := hst.call hb
  clear hb
  refine sv (v := .string ⟨(textZ (qn x)).toArray⟩) henv rfl (rn_assign henv rfl) ?_
  clear henv a; intro a henv
  refine wpList_nil ?_
  refine th_n ?_
  refine wp_seq ?_
  refine wp_seq ?_
  refine region_seq ?_
  refine sv (v := .agg #[.bool (neg (qn x)), .slice A0 (zl (qn x)) c0, .bool (neg (ql x)), .slice B0 (zl (ql x)) d0]) henv rfl (rn_load0 henv ty_anvil_ratio_Rat rfl (hst.oat (k := 0) rfl) rfl) ?_
  clear henv a; intro a henv
  refine seq_step rfl (op_call henv rfl Tryd.call67 rfl (whole_q (x := x) (show ZIn _ A0 c0 (qn x) from hst.pat (k := 1) rfl) (show ZIn _ B0 d0 (ql x) from hst.pat (k := 0) rfl)) ?_)
  rintro e w4 ⟨rfl, hb⟩
  refine ⟨_, rfl, ?_⟩
  clear henv a; intro a henv
  replace hst := hst.call hb
  clear hb
  rw [show (decide (ql x = 0)) = true from (by simp [hw])] at henv
  refine sv (v := .bool false) henv rfl (rn_un henv rfl rfl) ?_
  clear henv a; intro a henv
  refine wpList_nil ?_
  refine th_n ?_
  refine if_f henv rfl (rfl) ?_
  refine wp_skip ?_
  refine th_n ?_
  refine wp_seq ?_
  refine region_seq ?_
  revert a
  refine mA rfl rfl ?_
  refine aA rfl rfl ?_
  intro a henv
  refine wpList_nil ?_
  refine th_n ?_
  refine wp_ret ?_
  refine leave henv (res1 Tryd.results92 (RV.tmp henv rfl)) ?_
  exact ⟨by unfold textQ; simp [hw], hst.below⟩
set_option maxRecDepth 100000 in
set_option maxHeartbeats 1000000 in
theorem text_q0 {A0 B0 : Option Addr} {c0 d0 : Nat} {x : Rat} {w0 : World} (h0 : ZIn w0 A0 c0 (qn x)) (k0 : ZIn w0 B0 d0 (ql x)) {a : Nat} (sx : Qs a x) (ha : a ≤ 6000) (hw : ¬ (ql x = 0)) :
    Calls Tryd.prog 92 #[.agg #[.bool (neg (qn x)), .slice A0 (zl (qn x)) c0, .bool (neg (ql x)), .slice B0 (zl (ql x)) d0]] w0 fun e w' => e = .returned (.string ⟨(textQ x).toArray⟩) ∧ Below w0.heap.size w0 w' := by
  have hnx := sx.n
  have hdx := sx.d
  have hlx := sx.l
  have ht1 := textZ_bd (qn x)
  have ht2 := textZ_bd (qd x)
  refine enter Tryd.func92 rfl Tryd.ntmps92 rfl ?_
  intro a henv hst
  replace hst := hst.addZ h0 trivial
  replace hst := hst.addZ k0 trivial
  refine wp_seq ?_
  refine region_seq ?_
  refine seq_step rfl (op_box (c := #[.bool (neg (qn x)), .slice A0 (zl (qn x)) c0, .bool (neg (ql x)), .slice B0 (zl (ql x)) d0]) henv hst rfl rfl rfl ?_)
  clear henv hst a; intro a w2 g1 henv hst
  refine sv (v := .string ⟨#[]⟩) henv rfl (rn_assign henv rfl) ?_
  clear henv a; intro a henv
  refine wpList_nil ?_
  refine th_n ?_
  refine wp_seq ?_
  refine region_seq ?_
  revert a
  refine sA (v := .pointer (some ⟨g1, 0, none⟩)) rfl (fun _ henv => rn_fieldAddr henv fd_anvil_ratio_Rat_0 (ty_anvil_integer_Int.size) (by decide) rfl) ?_
  refine sA (v := .agg #[.bool (neg (qn x)), .slice A0 (zl (qn x)) c0]) rfl (fun _ henv => rn_load henv ty_anvil_integer_Int rfl (hst.oat (k := 0) rfl) rfl rfl) ?_
  intro a henv
  refine seq_step rfl (op_call henv rfl Tryd.call72 rfl (text_z (z := (qn x)) (show ZIn _ A0 c0 (qn x) from hst.pat (k := 1) rfl) (by omega)) ?_)
  rintro e w3 ⟨rfl, hb⟩
  refine ⟨_, rfl, ?_⟩
  clear henv a; intro a henv
  replace hst := hst.call hb
  clear hb
  refine sv (v := .string ⟨(textZ (qn x)).toArray⟩) henv rfl (rn_assign henv rfl) ?_
  clear henv a; intro a henv
  refine wpList_nil ?_
  refine th_n ?_
  refine wp_seq ?_
  refine wp_seq ?_
  refine region_seq ?_
  refine sv (v := .agg #[.bool (neg (qn x)), .slice A0 (zl (qn x)) c0, .bool (neg (ql x)), .slice B0 (zl (ql x)) d0]) henv rfl (rn_load0 henv ty_anvil_ratio_Rat rfl (hst.oat (k := 0) rfl) rfl) ?_
  clear henv a; intro a henv
  refine seq_step rfl (op_call henv rfl Tryd.call67 rfl (whole_q (x := x) (show ZIn _ A0 c0 (qn x) from hst.pat (k := 1) rfl) (show ZIn _ B0 d0 (ql x) from hst.pat (k := 0) rfl)) ?_)
  rintro e w4 ⟨rfl, hb⟩
  refine ⟨_, rfl, ?_⟩
  clear henv a; intro a henv
  replace hst := hst.call hb
  clear hb
  rw [show (decide (ql x = 0)) = false from (by simp [hw])] at henv
  refine sv (v := .bool true) henv rfl (rn_un henv rfl rfl) ?_
  clear henv a; intro a henv
  refine wpList_nil ?_
  refine th_n ?_
  refine if_t henv rfl (rfl) ?_
  refine region_seq ?_
  revert a
  refine mA rfl rfl ?_
  refine sA (v := .agg #[.bool (neg (qn x)), .slice A0 (zl (qn x)) c0, .bool (neg (ql x)), .slice B0 (zl (ql x)) d0]) rfl (fun _ henv => rn_load0 henv ty_anvil_ratio_Rat rfl (hst.oat (k := 0) rfl) rfl) ?_
  intro a henv
  refine seq_step rfl (op_call henv rfl Tryd.call89 rfl (den_q (x := x) (show ZIn _ A0 c0 (qn x) from hst.pat (k := 1) rfl) (show ZIn _ B0 d0 (ql x) from hst.pat (k := 0) rfl) sx (by omega)) ?_)
  rintro e w8 ⟨_, rfl, ⟨A5, c6, rfl, hz7⟩, hb⟩
  refine ⟨_, rfl, ?_⟩
  clear henv a; intro a henv
  replace hst := (hst.call hb).addZ hz7 ⟨nou_bk rfl, trivial⟩
  clear hz7
  clear hb
  refine seq_step rfl (op_call henv rfl Tryd.call72 rfl (text_z (z := (qd x)) (show ZIn _ A5 c6 (qd x) from hst.pat (k := 0) rfl) (by omega)) ?_)
  rintro e w9 ⟨rfl, hb⟩
  refine ⟨_, rfl, ?_⟩
  clear henv a; intro a henv
  replace hst := hst.call hb
  clear hb
  revert a
  refine sA (v := .string ⟨(([47]) ++ (textZ (qd x))).toArray⟩) rfl (fun _ henv => rn_catS (s := [47]) (t := (textZ (qd x))) henv rfl rfl (by simp only [List.length_append, List.length_cons, List.length_nil]; omega)) ?_
  refine sA (v := .string ⟨((textZ (qn x)) ++ (([47]) ++ (textZ (qd x)))).toArray⟩) rfl (fun _ henv => rn_catS (s := (textZ (qn x))) (t := (([47]) ++ (textZ (qd x)))) henv rfl rfl (by simp only [List.length_append, List.length_cons, List.length_nil]; omega)) ?_
  refine aA rfl rfl ?_
  intro a henv
  refine wpList_nil ?_
  refine th_n ?_
  refine wp_seq ?_
  refine region_seq ?_
  revert a
  refine mA rfl rfl ?_
  refine aA rfl rfl ?_
  intro a henv
  refine wpList_nil ?_
  refine th_n ?_
  refine wp_ret ?_
  refine leave henv (res1 Tryd.results92 (RV.tmp henv rfl)) ?_
  exact ⟨by unfold textQ; simp [hw], hst.below⟩
theorem text_q {A0 B0 : Option Addr} {c0 d0 : Nat} {x : Rat} {w0 : World} (h0 : ZIn w0 A0 c0 (qn x)) (k0 : ZIn w0 B0 d0 (ql x)) {a : Nat} (sx : Qs a x) (ha : a ≤ 6000) :
    Calls Tryd.prog 92 #[.agg #[.bool (neg (qn x)), .slice A0 (zl (qn x)) c0, .bool (neg (ql x)), .slice B0 (zl (ql x)) d0]] w0 fun e w' => e = .returned (.string ⟨(textQ x).toArray⟩) ∧ Below w0.heap.size w0 w' := by
  by_cases hw : ql x = 0
  · exact text_q1 h0 k0 sx ha hw
  · exact text_q0 h0 k0 sx ha hw
end Go.Proofs.YtegglooojlheoaaDoor.W
