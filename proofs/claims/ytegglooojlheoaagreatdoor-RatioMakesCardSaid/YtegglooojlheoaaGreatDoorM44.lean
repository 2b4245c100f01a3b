/- Package anvilref03: what its functions leave, over core's Rat. Printed by pv/gen_ratio.py. No condition. -/
import Derived.Test.YtegglooojlheoaaGreatDoorM42
import Derived.Test.YtegglooojlheoaaGreatDoorM13
import Derived.Test.YtegglooojlheoaaGreatDoorM43
import Derived.Test.YtegglooojlheoaaGreatDoorM35
import Derived.Test.YtegglooojlheoaaGreatDoorM33
import Derived.Test.YtegglooojlheoaaGreatDoorM30

namespace Go.Proofs.YtegglooojlheoaaGreatDoor.W
open Go.RowKit Anv Go.Lib
theorem r_at {w : World} {A : Option Addr} {c : Nat} {a z : Int} (e : a = z) (h : RIn w A c a) : RAt w (.agg #[.bool (neg a), .slice A (dl a) c]) z := by subst e; exact ⟨_, _, rfl, h⟩
theorem y_at {w : World} {A B : Option Addr} {c d : Nat} {a b : Int} {r : Rat} (e1 : a = qn r) (e2 : b = qd r) (h1 : RIn w A c a) (h2 : RIn w B d b) : YAt w (.agg #[.bool (neg a), .slice A (dl a) c, .bool (neg b), .slice B (dl b) d]) r := by subst e1 e2; exact ⟨_, _, _, _, rfl, h1, h2⟩
theorem gcd_dlq {x y : Int} (hy : y ≠ 0) : dl (Int.gcd x y : Int) ≤ dl y := dn_mono (by
  have h := Int.le_of_dvd (a := (Int.gcd x y : Int)) (b := (y.natAbs : Int)) (by omega) (Int.dvd_natAbs.2 (Int.gcd_dvd_right x y))
  omega)
theorem gcd_dl' (x y : Int) : dl (Int.gcd x y : Int) ≤ dl x + dl y := by
  by_cases hy : y = 0
  · subst hy; rw [Int.gcd_zero_right, dl_abs]; omega
  · have := gcd_dlq (x := x) hy; omega
theorem gcd_mod_l (x y : Int) : x % (Int.gcd x y : Int) = 0 := Int.emod_eq_zero_of_dvd (Int.gcd_dvd_left x y)
theorem gcd_mod_r (x y : Int) : y % (Int.gcd x y : Int) = 0 := Int.emod_eq_zero_of_dvd (Int.gcd_dvd_right x y)
theorem same_rb {A B : Option Addr} {c d : Nat} {x y : Int} {w : World} (hx : RIn w A c x) (hy : RIn w B d y) :
    Calls Tryz.prog 52 #[.agg #[.bool (neg x), .slice A (dl x) c], .agg #[.bool (neg y), .slice B (dl y) d]] w fun e w' => e = .returned (.bool (decide (x = y))) ∧ Below w.heap.size w w' := by
  have h := same_r hx hy
  rw [show ((x - y).sign == 0) = decide (x = y) from ?_] at h
  · exact h
  · by_cases e : x = y
    · rw [e, Int.sub_self]; simp
    · rw [decide_eq_false e]
      exact beq_eq_false_iff_ne.2 fun h => e (by have := Int.sign_eq_zero_iff_zero.1 h; omega)
section
variable {N : Nat} {dq : List Deferred} {a : Act} {l : List (Nat × Value)} {w : World} {d : Nat} {ty : TypeId} {pos : String} {af : Array Edge} {gd : Option (Nat × Bool)}
theorem rn_yrat2 {x y : Operand} {p q r s : Value} (h : EnvD dq N a l) (hx : evl l x = some (.agg #[p, q])) (hy : evl l y = some (.agg #[r, s])) :
    (execOp a.eval ⟨some d, .build 41 #[(0, x), (1, y)], ty, pos, af, gd⟩).run Tryz.prog w = .ok (.value (.agg #[p, q, r, s])) w := by
  have hz : (zeroValue 41).run Tryz.prog w = .ok (.agg #[.bool false, .slice none 0 0, .bool false, .slice none 0 0]) w := by obtain ⟨i, hi, hv⟩ := zero_anvil_anvilref03_Rat; simp [zeroValue, typeInfo, hi, hv]
  simp [execOp, h.ev hx, h.ev hy, Instr.build, hz, run_underlying Tryz.underlying41, Sem.run_bind, run_sizeOf ty_anvil_anvilref02_Int.size, Instr.fill, Value.cells]
end
set_option maxRecDepth 100000 in
set_option maxHeartbeats 1000000 in
theorem make_yp {A B : Option Addr} {c d : Nat} {p q : Int} {r : Rat} {w0 : World} (hx : RIn w0 A c p) (hy : RIn w0 B d q) (hn : dl p ≤ 50000) (hm : dl q ≤ 50000) (h0 : 0 < q) (hr : Rat.divInt p q = r) :
    Calls Tryz.prog 14 #[.agg #[.bool (neg p), .slice A (dl p) c], .agg #[.bool (neg q), .slice B (dl q) d]] w0 fun e w' => ∃ v, e = .returned v ∧ YAt w' v r ∧ Below w0.heap.size w0 w' := by
  have hsg : q.sign = 1 := Int.sign_eq_one_of_pos (by omega)
  have hg0 := gcd_ne (n := p) (d := q) (by omega)
  have hgn := gcd_dlq (x := p) (y := q) (by omega)
  have hgn2 := gcd_dlq (x := -p) (y := -q) (by omega)
  have hg2 := gcd_ne (n := -p) (d := -q) (by omega)
  have hnp := dl_neg p
  have hnq := dl_neg q
  refine enter Tryz.func14 rfl Tryz.ntmps14 rfl ?_
  intro a henv hst
  replace hst := hst.addR hx trivial
  replace hst := hst.addR hy trivial
  refine wp_seq ?_
  refine region_seq ?_
  refine seq_step rfl (op_box (c := #[.bool (neg p), .slice A (dl p) c]) henv hst rfl rfl rfl ?_)
  clear henv hst a; intro a w2 g1 henv hst
  refine seq_step rfl (op_box (c := #[.bool (neg q), .slice B (dl q) d]) henv hst rfl rfl rfl ?_)
  clear henv hst a; intro a w4 g3 henv hst
  refine seq_step rfl (op_alloc (c := #[.bool false, .slice none 0 0, .bool false, .slice none 0 0]) henv hst rfl zero_anvil_anvilref03_Rat rfl ?_)
  clear henv hst a; intro a w6 g5 henv hst
  refine wpList_nil ?_
  refine th_n ?_
  refine wp_seq ?_
  refine wp_seq ?_
  refine region_seq ?_
  refine sv (v := .agg #[.bool (neg q), .slice B (dl q) d]) henv rfl (rn_load0 henv ty_anvil_anvilref02_Int rfl (hst.oat (k := 1) rfl) rfl) ?_
  clear henv a; intro a henv
  refine seq_step rfl (op_call henv rfl Tryz.call12 rfl (sign_r (z := q)) ?_)
  rintro e w7 ⟨rfl, hb⟩
  refine ⟨_, rfl, ?_⟩
  clear henv a; intro a henv
  replace hst := hst.call hb
  clear hb
  refine sv (v := .bool (decide (q.sign < (0 : Int)))) henv rfl (rn_bin henv rfl rfl rfl) ?_
  clear henv a; intro a henv
  rw [show (decide (q.sign < (0 : Int))) = false from (by rw [hsg]; rfl)] at henv
  refine wpList_nil ?_
  refine th_n ?_
  refine if_f henv rfl (rfl) ?_
  refine wp_skip ?_
  refine th_n ?_
  refine wp_seq ?_
  refine region_seq ?_
  revert a
  refine sA (v := .agg #[.bool (neg p), .slice A (dl p) c]) rfl (fun _ henv => rn_load0 henv ty_anvil_anvilref02_Int rfl (hst.oat (k := 2) rfl) rfl) ?_
  refine sA (v := .agg #[.bool (neg q), .slice B (dl q) d]) rfl (fun _ henv => rn_load0 henv ty_anvil_anvilref02_Int rfl (hst.oat (k := 1) rfl) rfl) ?_
  intro a henv
  have hs8 := gcd_dl' p q
  refine seq_step rfl (op_call henv rfl Tryz.call50 rfl (gcd_r (x := p) (y := q) (show RIn _ A c p from hst.pat (k := 1) rfl) (show RIn _ B d q from hst.pat (k := 0) rfl) (by omega) (by omega)) ?_)
  rintro e w12 ⟨_, rfl, ⟨A9, c10, rfl, hz11⟩, hb⟩
  refine ⟨_, rfl, ?_⟩
  clear henv a; intro a henv
  replace hst := (hst.call hb).addR hz11 ⟨nou_bk rfl, nou_bk rfl, nou_bk rfl, trivial⟩
  clear hz11
  clear hb
  refine seq_step rfl (op_alloc (c := #[.bool (neg 0), .slice none (dl 0) 0]) henv hst rfl zero_anvil_anvilref02_Int rcells ?_)
  clear henv hst a; intro a w14 g13 henv hst
  refine seq_step rfl (op_store (k := 0) (c' := #[.bool (neg ((Int.gcd p q : Nat) : Int)), .slice A9 (dl ((Int.gcd p q : Nat) : Int)) c10]) henv hst (ty_anvil_anvilref02_Int.size) rfl rfl rfl rfl (by simp) rfl rfl ?_)
  clear henv hst a; intro a w15 henv hst
  refine wpList_nil ?_
  refine th_n ?_
  refine wp_seq ?_
  refine region_seq ?_
  revert a
  refine sA (v := .agg #[.bool (neg p), .slice A (dl p) c]) rfl (fun _ henv => rn_load0 henv ty_anvil_anvilref02_Int rfl (hst.oat (k := 3) rfl) rfl) ?_
  refine sA (v := .agg #[.bool (neg ((Int.gcd p q : Nat) : Int)), .slice A9 (dl ((Int.gcd p q : Nat) : Int)) c10]) rfl (fun _ henv => rn_load0 henv ty_anvil_anvilref02_Int rfl (hst.oat (k := 0) rfl) rfl) ?_
  intro a henv
  have hs16 := dl_ediv p ((Int.gcd p q : Nat) : Int)
  refine seq_step rfl (op_call henv rfl Tryz.call51 rfl (over_r (x := p) (y := ((Int.gcd p q : Nat) : Int)) (show RIn _ A c p from hst.pat (k := 2) rfl) (show RIn _ A9 c10 ((Int.gcd p q : Nat) : Int) from hst.pat (k := 0) rfl) (by omega) (by omega) hg0 (gcd_mod_l _ _)) ?_)
  rintro e w20 ⟨_, rfl, ⟨A17, c18, rfl, hz19⟩, hb⟩
  refine ⟨_, rfl, ?_⟩
  clear henv a; intro a henv
  replace hst := (hst.call hb).addR hz19 ⟨nou_bk rfl, nou_bk rfl, nou_bk rfl, nou_bk rfl, trivial⟩
  clear hz19
  clear hb
  revert a
  refine mA rfl rfl ?_
  refine sA (v := .agg #[.bool (neg (p / ((Int.gcd p q : Nat) : Int))), .slice A17 (dl (p / ((Int.gcd p q : Nat) : Int))) c18]) rfl (fun _ henv => rn_extract henv rfl rfl) ?_
  refine sA (v := .bool true) rfl (fun _ henv => rn_extract henv rfl rfl) ?_
  intro a henv
  refine seq_step rfl (op_alloc (c := #[.bool (neg 0), .slice none (dl 0) 0]) henv hst rfl zero_anvil_anvilref02_Int rcells ?_)
  clear henv hst a; intro a w22 g21 henv hst
  refine seq_step rfl (op_store (k := 0) (c' := #[.bool (neg (p / ((Int.gcd p q : Nat) : Int))), .slice A17 (dl (p / ((Int.gcd p q : Nat) : Int))) c18]) henv hst (ty_anvil_anvilref02_Int.size) rfl rfl rfl rfl (by simp) rfl rfl ?_)
  clear henv hst a; intro a w23 henv hst
  refine sv (v := .bool true) henv rfl (rn_assign henv rfl) ?_
  clear henv a; intro a henv
  refine wpList_nil ?_
  refine th_n ?_
  refine wp_seq ?_
  refine region_seq ?_
  revert a
  refine sA (v := .agg #[.bool (neg q), .slice B (dl q) d]) rfl (fun _ henv => rn_load0 henv ty_anvil_anvilref02_Int rfl (hst.oat (k := 3) rfl) rfl) ?_
  refine sA (v := .agg #[.bool (neg ((Int.gcd p q : Nat) : Int)), .slice A9 (dl ((Int.gcd p q : Nat) : Int)) c10]) rfl (fun _ henv => rn_load0 henv ty_anvil_anvilref02_Int rfl (hst.oat (k := 1) rfl) rfl) ?_
  intro a henv
  have hs24 := dl_ediv q ((Int.gcd p q : Nat) : Int)
  refine seq_step rfl (op_call henv rfl Tryz.call51 rfl (over_r (x := q) (y := ((Int.gcd p q : Nat) : Int)) (show RIn _ B d q from hst.pat (k := 2) rfl) (show RIn _ A9 c10 ((Int.gcd p q : Nat) : Int) from hst.pat (k := 1) rfl) (by omega) (by omega) hg0 (gcd_mod_r _ _)) ?_)
  rintro e w28 ⟨_, rfl, ⟨A25, c26, rfl, hz27⟩, hb⟩
  refine ⟨_, rfl, ?_⟩
  clear henv a; intro a henv
  replace hst := (hst.call hb).addR hz27 ⟨nou_bk rfl, nou_bk rfl, nou_bk rfl, nou_bk rfl, nou_bk rfl, trivial⟩
  clear hz27
  clear hb
  revert a
  refine mA rfl rfl ?_
  refine sA (v := .agg #[.bool (neg (q / ((Int.gcd p q : Nat) : Int))), .slice A25 (dl (q / ((Int.gcd p q : Nat) : Int))) c26]) rfl (fun _ henv => rn_extract henv rfl rfl) ?_
  refine sA (v := .bool true) rfl (fun _ henv => rn_extract henv rfl rfl) ?_
  intro a henv
  refine seq_step rfl (op_alloc (c := #[.bool (neg 0), .slice none (dl 0) 0]) henv hst rfl zero_anvil_anvilref02_Int rcells ?_)
  clear henv hst a; intro a w30 g29 henv hst
  refine seq_step rfl (op_store (k := 0) (c' := #[.bool (neg (q / ((Int.gcd p q : Nat) : Int))), .slice A25 (dl (q / ((Int.gcd p q : Nat) : Int))) c26]) henv hst (ty_anvil_anvilref02_Int.size) rfl rfl rfl rfl (by simp) rfl rfl ?_)
  clear henv hst a; intro a w31 henv hst
  refine sv (v := .bool true) henv rfl (rn_assign henv rfl) ?_
  clear henv a; intro a henv
  refine wpList_nil ?_
  refine th_n ?_
  refine wp_seq ?_
  refine region_seq ?_
  revert a
  refine sA (v := .agg #[.bool (neg (p / ((Int.gcd p q : Nat) : Int))), .slice A17 (dl (p / ((Int.gcd p q : Nat) : Int))) c18]) rfl (fun _ henv => rn_load0 henv ty_anvil_anvilref02_Int rfl (hst.oat (k := 1) rfl) rfl) ?_
  refine sA (v := .agg #[.bool (neg (q / ((Int.gcd p q : Nat) : Int))), .slice A25 (dl (q / ((Int.gcd p q : Nat) : Int))) c26]) rfl (fun _ henv => rn_load0 henv ty_anvil_anvilref02_Int rfl (hst.oat (k := 0) rfl) rfl) ?_
  refine sA (v := .agg #[.bool (neg (p / ((Int.gcd p q : Nat) : Int))), .slice A17 (dl (p / ((Int.gcd p q : Nat) : Int))) c18, .bool (neg (q / ((Int.gcd p q : Nat) : Int))), .slice A25 (dl (q / ((Int.gcd p q : Nat) : Int))) c26]) rfl (fun _ henv => rn_yrat2 henv rfl rfl) ?_
  intro a henv
  refine seq_step rfl (op_store (k := 3) (c' := #[.bool (neg (p / ((Int.gcd p q : Nat) : Int))), .slice A17 (dl (p / ((Int.gcd p q : Nat) : Int))) c18, .bool (neg (q / ((Int.gcd p q : Nat) : Int))), .slice A25 (dl (q / ((Int.gcd p q : Nat) : Int))) c26]) henv hst (ty_anvil_anvilref03_Rat.size) rfl rfl rfl rfl (by simp) rfl rfl ?_)
  clear henv hst a; intro a w32 henv hst
  refine wpList_nil ?_
  refine th_n ?_
  refine wp_ret ?_
  refine leave henv (res1 Tryz.results14 (RV.cell henv ty_anvil_anvilref03_Rat rfl (hst.oat (k := 3) rfl) rfl)) ?_
  exact ⟨_, rfl, y_at (hr ▸ low_n h0) (hr ▸ low_d h0) (hst.pat (k := 1) rfl) (hst.pat (k := 0) rfl), hst.below⟩
set_option maxRecDepth 100000 in
set_option maxHeartbeats 1000000 in
theorem make_yn {A B : Option Addr} {c d : Nat} {p q : Int} {r : Rat} {w0 : World} (hx : RIn w0 A c p) (hy : RIn w0 B d q) (hn : dl p ≤ 50000) (hm : dl q ≤ 50000) (h0 : q < 0) (hr : Rat.divInt p q = r) :
    Calls Tryz.prog 14 #[.agg #[.bool (neg p), .slice A (dl p) c], .agg #[.bool (neg q), .slice B (dl q) d]] w0 fun e w' => ∃ v, e = .returned v ∧ YAt w' v r ∧ Below w0.heap.size w0 w' := by
  have hsg : q.sign = -1 := Int.sign_eq_neg_one_of_neg (by omega)
  have hg0 := gcd_ne (n := p) (d := q) (by omega)
  have hgn := gcd_dlq (x := p) (y := q) (by omega)
  have hgn2 := gcd_dlq (x := -p) (y := -q) (by omega)
  have hg2 := gcd_ne (n := -p) (d := -q) (by omega)
  have hnp := dl_neg p
  have hnq := dl_neg q
  refine enter Tryz.func14 rfl Tryz.ntmps14 rfl ?_
  intro a henv hst
  replace hst := hst.addR hx trivial
  replace hst := hst.addR hy trivial
  refine wp_seq ?_
  refine region_seq ?_
  refine seq_step rfl (op_box (c := #[.bool (neg p), .slice A (dl p) c]) henv hst rfl rfl rfl ?_)
  clear henv hst a; intro a w2 g1 henv hst
  refine seq_step rfl (op_box (c := #[.bool (neg q), .slice B (dl q) d]) henv hst rfl rfl rfl ?_)
  clear henv hst a; intro a w4 g3 henv hst
  refine seq_step rfl (op_alloc (c := #[.bool false, .slice none 0 0, .bool false, .slice none 0 0]) henv hst rfl zero_anvil_anvilref03_Rat rfl ?_)
  clear henv hst a; intro a w6 g5 henv hst
  refine wpList_nil ?_
  refine th_n ?_
  refine wp_seq ?_
  refine wp_seq ?_
  refine region_seq ?_
  refine sv (v := .agg #[.bool (neg q), .slice B (dl q) d]) henv rfl (rn_load0 henv ty_anvil_anvilref02_Int rfl (hst.oat (k := 1) rfl) rfl) ?_
  clear henv a; intro a henv
  refine seq_step rfl (op_call henv rfl Tryz.call12 rfl (sign_r (z := q)) ?_)
  rintro e w7 ⟨rfl, hb⟩
  refine ⟨_, rfl, ?_⟩
  clear henv a; intro a henv
  replace hst := hst.call hb
  clear hb
  refine sv (v := .bool (decide (q.sign < (0 : Int)))) henv rfl (rn_bin henv rfl rfl rfl) ?_
  clear henv a; intro a henv
  rw [show (decide (q.sign < (0 : Int))) = true from (by rw [hsg]; rfl)] at henv
  refine wpList_nil ?_
  refine th_n ?_
  refine if_t henv rfl (rfl) ?_
  refine region_any (n := 6) (Sk [bk g5 #[.bool false, .slice none 0 0, .bool false, .slice none 0 0] 41] [pfR B d q, pfR A c p] [4, 5] [bk g3 #[.bool (neg q), .slice B (dl q) d] 30, bk g1 #[.bool (neg p), .slice A (dl p) c] 30]) mixed rfl henv hst ?_
  clear henv hst; intro w8 henv hst
  refine sAny_take (i := 0) [1, 3, 4, 5] (fun w' => w'.heap[g1]? = some (.cells #[.bool (neg p), .slice A (dl p) c] 30 (0, 0))) (v := .agg #[.bool (neg p), .slice A (dl p) c]) rfl (by kernel_rfl) (fun _ _ _ h => h) (fun _ _ hj hS => (hS.two rfl hj).oat (k := 1) rfl) henv rfl (hst.oat (k := 2) rfl) (fun w' hg => rn_load0 henv ty_anvil_anvilref02_Int rfl hg rfl) ?_
  clear henv a; intro a henv
  refine sAny_take (i := 2) [3, 4, 5] (fun w' => w'.heap[g3]? = some (.cells #[.bool (neg q), .slice B (dl q) d] 30 (0, 0))) (v := .agg #[.bool (neg q), .slice B (dl q) d]) rfl (by kernel_rfl) (fun _ _ _ h => h) (fun _ _ hj hS => (hS.two rfl hj).oat (k := 0) rfl) henv rfl (hst.oat (k := 1) rfl) (fun w' hg => rn_load0 henv ty_anvil_anvilref02_Int rfl hg rfl) ?_
  clear henv a; intro a henv
  have hs9 := dl_neg p
  refine sAny_one (i := 1) (by kernel_rfl) rfl rfl (op_call henv rfl Tryz.call49 rfl (neg_r (z := p) (show RIn _ A c p from hst.pat (k := 1) rfl)) ?_)
  rintro e w13 ⟨_, rfl, ⟨A10, c11, rfl, hz12⟩, hb⟩
  refine ⟨_, rfl, ?_⟩
  clear henv a; intro a henv
  replace hst := (hst.call hb).addR hz12 ⟨nou_bk rfl, nou_bk rfl, nou_bk rfl, trivial⟩
  clear hz12
  clear hb
  refine ⟨.inr ⟨hst.kn.pick [0] [1, 2], .inr (hst.kn.pick [1, 2] [])⟩, ?_⟩
  have hs14 := dl_neg q
  refine sAny_one (i := 3) (by kernel_rfl) rfl rfl (op_call henv rfl Tryz.call49 rfl (neg_r (z := q) (show RIn _ B d q from hst.pat (k := 1) rfl)) ?_)
  rintro e w18 ⟨_, rfl, ⟨A15, c16, rfl, hz17⟩, hb⟩
  refine ⟨_, rfl, ?_⟩
  clear henv a; intro a henv
  replace hst := (hst.call hb).addR hz17 ⟨nou_bk rfl, nou_bk rfl, nou_bk rfl, trivial⟩
  clear hz17
  clear hb
  refine ⟨.inr ⟨hst.kn.pick [0] [2, 3], .inr (hst.kn.pick [1, 2] [])⟩, ?_⟩
  refine sAny_one (i := 4) (by kernel_rfl) rfl rfl (op_store (k := 2) (c' := #[.bool (neg (-p)), .slice A10 (dl (-p)) c11]) henv hst (ty_anvil_anvilref02_Int.size) rfl rfl rfl rfl (by simp) rfl rfl ?_)
  clear henv hst a; intro a w19 henv hst
  refine ⟨.inr ⟨hst.kn.pick [0] [2, 3], .inl rfl⟩, ?_⟩
  refine sAny_one (i := 5) (by kernel_rfl) rfl rfl (op_store (k := 1) (c' := #[.bool (neg (-q)), .slice A15 (dl (-q)) c16]) henv hst (ty_anvil_anvilref02_Int.size) rfl rfl rfl rfl (by simp) rfl rfl ?_)
  clear henv hst a; intro a w20 henv hst
  refine ⟨.inr ⟨hst.kn.pick [0] [2, 3], .inl rfl⟩, ?_⟩
  refine sAny_done (by kernel_rfl) ?_ _
  refine th_n ?_
  refine wp_seq ?_
  refine region_seq ?_
  revert a
  refine sA (v := .agg #[.bool (neg (-p)), .slice A10 (dl (-p)) c11]) rfl (fun _ henv => rn_load0 henv ty_anvil_anvilref02_Int rfl (hst.oat (k := 2) rfl) rfl) ?_
  refine sA (v := .agg #[.bool (neg (-q)), .slice A15 (dl (-q)) c16]) rfl (fun _ henv => rn_load0 henv ty_anvil_anvilref02_Int rfl (hst.oat (k := 1) rfl) rfl) ?_
  intro a henv
  have hs21 := gcd_dl' (-p) (-q)
  refine seq_step rfl (op_call henv rfl Tryz.call50 rfl (gcd_r (x := -p) (y := -q) (show RIn _ A10 c11 (-p) from hst.pat (k := 1) rfl) (show RIn _ A15 c16 (-q) from hst.pat (k := 0) rfl) (by omega) (by omega)) ?_)
  rintro e w25 ⟨_, rfl, ⟨A22, c23, rfl, hz24⟩, hb⟩
  refine ⟨_, rfl, ?_⟩
  clear henv a; intro a henv
  replace hst := (hst.call hb).addR hz24 ⟨nou_bk rfl, nou_bk rfl, nou_bk rfl, trivial⟩
  clear hz24
  clear hb
  refine seq_step rfl (op_alloc (c := #[.bool (neg 0), .slice none (dl 0) 0]) henv hst rfl zero_anvil_anvilref02_Int rcells ?_)
  clear henv hst a; intro a w27 g26 henv hst
  refine seq_step rfl (op_store (k := 0) (c' := #[.bool (neg ((Int.gcd (-p) (-q) : Nat) : Int)), .slice A22 (dl ((Int.gcd (-p) (-q) : Nat) : Int)) c23]) henv hst (ty_anvil_anvilref02_Int.size) rfl rfl rfl rfl (by simp) rfl rfl ?_)
  clear henv hst a; intro a w28 henv hst
  refine wpList_nil ?_
  refine th_n ?_
  refine wp_seq ?_
  refine region_seq ?_
  revert a
  refine sA (v := .agg #[.bool (neg (-p)), .slice A10 (dl (-p)) c11]) rfl (fun _ henv => rn_load0 henv ty_anvil_anvilref02_Int rfl (hst.oat (k := 3) rfl) rfl) ?_
  refine sA (v := .agg #[.bool (neg ((Int.gcd (-p) (-q) : Nat) : Int)), .slice A22 (dl ((Int.gcd (-p) (-q) : Nat) : Int)) c23]) rfl (fun _ henv => rn_load0 henv ty_anvil_anvilref02_Int rfl (hst.oat (k := 0) rfl) rfl) ?_
  intro a henv
  have hs29 := dl_ediv (-p) ((Int.gcd (-p) (-q) : Nat) : Int)
  refine seq_step rfl (op_call henv rfl Tryz.call51 rfl (over_r (x := -p) (y := ((Int.gcd (-p) (-q) : Nat) : Int)) (show RIn _ A10 c11 (-p) from hst.pat (k := 2) rfl) (show RIn _ A22 c23 ((Int.gcd (-p) (-q) : Nat) : Int) from hst.pat (k := 0) rfl) (by omega) (by omega) hg2 (gcd_mod_l _ _)) ?_)
  rintro e w33 ⟨_, rfl, ⟨A30, c31, rfl, hz32⟩, hb⟩
  refine ⟨_, rfl, ?_⟩
  clear henv a; intro a henv
  replace hst := (hst.call hb).addR hz32 ⟨nou_bk rfl, nou_bk rfl, nou_bk rfl, nou_bk rfl, trivial⟩
  clear hz32
  clear hb
  revert a
  refine mA rfl rfl ?_
  refine sA (v := .agg #[.bool (neg ((-p) / ((Int.gcd (-p) (-q) : Nat) : Int))), .slice A30 (dl ((-p) / ((Int.gcd (-p) (-q) : Nat) : Int))) c31]) rfl (fun _ henv => rn_extract henv rfl rfl) ?_
  refine sA (v := .bool true) rfl (fun _ henv => rn_extract henv rfl rfl) ?_
  intro a henv
  refine seq_step rfl (op_alloc (c := #[.bool (neg 0), .slice none (dl 0) 0]) henv hst rfl zero_anvil_anvilref02_Int rcells ?_)
  clear henv hst a; intro a w35 g34 henv hst
  refine seq_step rfl (op_store (k := 0) (c' := #[.bool (neg ((-p) / ((Int.gcd (-p) (-q) : Nat) : Int))), .slice A30 (dl ((-p) / ((Int.gcd (-p) (-q) : Nat) : Int))) c31]) henv hst (ty_anvil_anvilref02_Int.size) rfl rfl rfl rfl (by simp) rfl rfl ?_)
  clear henv hst a; intro a w36 henv hst
  refine sv (v := .bool true) henv rfl (rn_assign henv rfl) ?_
  clear henv a; intro a henv
  refine wpList_nil ?_
  refine th_n ?_
  refine wp_seq ?_
  refine region_seq ?_
  revert a
  refine sA (v := .agg #[.bool (neg (-q)), .slice A15 (dl (-q)) c16]) rfl (fun _ henv => rn_load0 henv ty_anvil_anvilref02_Int rfl (hst.oat (k := 3) rfl) rfl) ?_
  refine sA (v := .agg #[.bool (neg ((Int.gcd (-p) (-q) : Nat) : Int)), .slice A22 (dl ((Int.gcd (-p) (-q) : Nat) : Int)) c23]) rfl (fun _ henv => rn_load0 henv ty_anvil_anvilref02_Int rfl (hst.oat (k := 1) rfl) rfl) ?_
  intro a henv
  have hs37 := dl_ediv (-q) ((Int.gcd (-p) (-q) : Nat) : Int)
  refine seq_step rfl (op_call henv rfl Tryz.call51 rfl (over_r (x := -q) (y := ((Int.gcd (-p) (-q) : Nat) : Int)) (show RIn _ A15 c16 (-q) from hst.pat (k := 2) rfl) (show RIn _ A22 c23 ((Int.gcd (-p) (-q) : Nat) : Int) from hst.pat (k := 1) rfl) (by omega) (by omega) hg2 (gcd_mod_r _ _)) ?_)
  rintro e w41 ⟨_, rfl, ⟨A38, c39, rfl, hz40⟩, hb⟩
  refine ⟨_, rfl, ?_⟩
  clear henv a; intro a henv
  replace hst := (hst.call hb).addR hz40 ⟨nou_bk rfl, nou_bk rfl, nou_bk rfl, nou_bk rfl, nou_bk rfl, trivial⟩
  clear hz40
  clear hb
  revert a
  refine mA rfl rfl ?_
  refine sA (v := .agg #[.bool (neg ((-q) / ((Int.gcd (-p) (-q) : Nat) : Int))), .slice A38 (dl ((-q) / ((Int.gcd (-p) (-q) : Nat) : Int))) c39]) rfl (fun _ henv => rn_extract henv rfl rfl) ?_
  refine sA (v := .bool true) rfl (fun _ henv => rn_extract henv rfl rfl) ?_
  intro a henv
  refine seq_step rfl (op_alloc (c := #[.bool (neg 0), .slice none (dl 0) 0]) henv hst rfl zero_anvil_anvilref02_Int rcells ?_)
  clear henv hst a; intro a w43 g42 henv hst
  refine seq_step rfl (op_store (k := 0) (c' := #[.bool (neg ((-q) / ((Int.gcd (-p) (-q) : Nat) : Int))), .slice A38 (dl ((-q) / ((Int.gcd (-p) (-q) : Nat) : Int))) c39]) henv hst (ty_anvil_anvilref02_Int.size) rfl rfl rfl rfl (by simp) rfl rfl ?_)
  clear henv hst a; intro a w44 henv hst
  refine sv (v := .bool true) henv rfl (rn_assign henv rfl) ?_
  clear henv a; intro a henv
  refine wpList_nil ?_
  refine th_n ?_
  refine wp_seq ?_
  refine region_seq ?_
  revert a
  refine sA (v := .agg #[.bool (neg ((-p) / ((Int.gcd (-p) (-q) : Nat) : Int))), .slice A30 (dl ((-p) / ((Int.gcd (-p) (-q) : Nat) : Int))) c31]) rfl (fun _ henv => rn_load0 henv ty_anvil_anvilref02_Int rfl (hst.oat (k := 1) rfl) rfl) ?_
  refine sA (v := .agg #[.bool (neg ((-q) / ((Int.gcd (-p) (-q) : Nat) : Int))), .slice A38 (dl ((-q) / ((Int.gcd (-p) (-q) : Nat) : Int))) c39]) rfl (fun _ henv => rn_load0 henv ty_anvil_anvilref02_Int rfl (hst.oat (k := 0) rfl) rfl) ?_
  refine sA (v := .agg #[.bool (neg ((-p) / ((Int.gcd (-p) (-q) : Nat) : Int))), .slice A30 (dl ((-p) / ((Int.gcd (-p) (-q) : Nat) : Int))) c31, .bool (neg ((-q) / ((Int.gcd (-p) (-q) : Nat) : Int))), .slice A38 (dl ((-q) / ((Int.gcd (-p) (-q) : Nat) : Int))) c39]) rfl (fun _ henv => rn_yrat2 henv rfl rfl) ?_
  intro a henv
  refine seq_step rfl (op_store (k := 3) (c' := #[.bool (neg ((-p) / ((Int.gcd (-p) (-q) : Nat) : Int))), .slice A30 (dl ((-p) / ((Int.gcd (-p) (-q) : Nat) : Int))) c31, .bool (neg ((-q) / ((Int.gcd (-p) (-q) : Nat) : Int))), .slice A38 (dl ((-q) / ((Int.gcd (-p) (-q) : Nat) : Int))) c39]) henv hst (ty_anvil_anvilref03_Rat.size) rfl rfl rfl rfl (by simp) rfl rfl ?_)
  clear henv hst a; intro a w45 henv hst
  refine wpList_nil ?_
  refine th_n ?_
  refine wp_ret ?_
  refine leave henv (res1 Tryz.results14 (RV.cell henv ty_anvil_anvilref03_Rat rfl (hst.oat (k := 3) rfl) rfl)) ?_
  exact ⟨_, rfl, y_at ((low_n (by omega)).trans (congrArg qn ((q_neg2 p q).trans hr))) ((low_d (by omega)).trans (congrArg qd ((q_neg2 p q).trans hr))) (hst.pat (k := 1) rfl) (hst.pat (k := 0) rfl), hst.below⟩
theorem make_y {A B : Option Addr} {c d : Nat} {p q : Int} {r : Rat} {w0 : World} (hx : RIn w0 A c p) (hy : RIn w0 B d q) (hn : dl p ≤ 50000) (hm : dl q ≤ 50000) (h0 : q ≠ 0) (hr : Rat.divInt p q = r) :
    Calls Tryz.prog 14 #[.agg #[.bool (neg p), .slice A (dl p) c], .agg #[.bool (neg q), .slice B (dl q) d]] w0 fun e w' => ∃ v, e = .returned v ∧ YAt w' v r ∧ Below w0.heap.size w0 w' := by
  rcases Int.lt_trichotomy q 0 with h | h | h
  · exact make_yn hx hy hn hm h hr
  · exact absurd h h0
  · exact make_yp hx hy hn hm h hr
set_option maxRecDepth 100000 in
set_option maxHeartbeats 1000000 in
theorem of_int_y {A : Option Addr} {c : Nat} {z : Int} {w0 : World} (hx : RIn w0 A c z) :
    Calls Tryz.prog 11 #[.agg #[.bool (neg z), .slice A (dl z) c]] w0 fun e w' => ∃ v, e = .returned v ∧ YAt w' v (z : Rat) ∧ Below w0.heap.size w0 w' := by
  refine enter Tryz.func11 rfl Tryz.ntmps11 rfl ?_
  intro a henv hst
  replace hst := hst.addR hx trivial
  refine wp_seq ?_
  refine region_seq ?_
  refine seq_step rfl (op_box (c := #[.bool (neg z), .slice A (dl z) c]) henv hst rfl rfl rfl ?_)
  clear henv hst a; intro a w2 g1 henv hst
  refine seq_step rfl (op_alloc (c := #[.bool false, .slice none 0 0, .bool false, .slice none 0 0]) henv hst rfl zero_anvil_anvilref03_Rat rfl ?_)
  clear henv hst a; intro a w4 g3 henv hst
  refine wpList_nil ?_
  refine th_n ?_
  refine wp_seq ?_
  refine region_any (n := 4) (Sk [bk g1 #[.bool (neg z), .slice A (dl z) c] 30] [pfR A c z] [3] []) mixed rfl henv hst ?_
  clear henv hst; intro w5 henv hst
  refine tL (i := 0) 0 1 [2, 3] rfl (by kernel_rfl) (fun _ _ _ h => h) henv rfl ty_anvil_anvilref02_Int rfl hst rfl rfl rfl ?_
  clear henv a; intro a henv
  refine sAny_one (i := 1) (by kernel_rfl) rfl rfl (op_call henv rfl Tryz.call48 rfl (of_r (n := (1 : Int)) (by decide) (by decide)) ?_)
  rintro e w9 ⟨_, rfl, ⟨A6, c7, rfl, hz8⟩, hb⟩
  refine ⟨_, rfl, ?_⟩
  clear henv a; intro a henv
  replace hst := (hst.call hb).addR hz8 ⟨nou_bk rfl, nou_bk rfl, trivial⟩
  clear hz8
  clear hb
  refine ⟨.inr ⟨hst.kn.pick [1] [1], .inr (hst.kn.pick [] [])⟩, ?_⟩
  refine tA (i := 2) [3] (v := .agg #[.bool (neg z), .slice A (dl z) c, .bool (neg 1), .slice A6 (dl 1) c7]) rfl (by kernel_rfl) (fun _ _ _ h => h) henv rfl (fun _ => rn_yrat2 henv rfl rfl) ?_
  clear henv a; intro a henv
  refine sAny_one (i := 3) (by kernel_rfl) rfl rfl (op_store (k := 0) (c' := #[.bool (neg z), .slice A (dl z) c, .bool (neg 1), .slice A6 (dl 1) c7]) henv hst (ty_anvil_anvilref03_Rat.size) rfl rfl rfl rfl (by simp) rfl rfl ?_)
  clear henv hst a; intro a w10 henv hst
  refine ⟨.inr ⟨hst.kn.pick [1] [1], .inl rfl⟩, ?_⟩
  refine sAny_done (by kernel_rfl) ?_ _
  refine th_n ?_
  refine wp_ret ?_
  refine leave henv (res1 Tryz.results11 (RV.cell henv ty_anvil_anvilref03_Rat rfl (hst.oat (k := 0) rfl) rfl)) ?_
  exact ⟨_, rfl, y_at rfl rfl (hst.pat (k := 1) rfl) (hst.pat (k := 0) rfl), hst.below⟩
set_option maxRecDepth 100000 in
set_option maxHeartbeats 1000000 in
theorem zero_y {w0 : World} :
    Calls Tryz.prog 13 #[] w0 fun e w' => ∃ v, e = .returned v ∧ YAt w' v 0 ∧ Below w0.heap.size w0 w' := by
  refine enter Tryz.func13 rfl Tryz.ntmps13 rfl ?_
  intro a henv hst
  refine wp_seq ?_
  refine region_seq ?_
  refine seq_step rfl (op_alloc (c := #[.bool false, .slice none 0 0, .bool false, .slice none 0 0]) henv hst rfl zero_anvil_anvilref03_Rat rfl ?_)
  clear henv hst a; intro a w2 g1 henv hst
  refine wpList_nil ?_
  refine th_n ?_
  refine wp_seq ?_
  refine region_seq ?_
  refine seq_step rfl (op_call henv rfl Tryz.call48 rfl (of_r (n := (0 : Int)) (by decide) (by decide)) ?_)
  rintro e w6 ⟨_, rfl, ⟨A3, c4, rfl, hz5⟩, hb⟩
  refine ⟨_, rfl, ?_⟩
  clear henv a; intro a henv
  replace hst := (hst.call hb).addR hz5 ⟨nou_bk rfl, trivial⟩
  clear hz5
  clear hb
  refine seq_step rfl (op_call henv rfl Tryz.call11 rfl (of_int_y (z := 0) (show RIn _ A3 c4 0 from hst.pat (k := 0) rfl)) ?_)
  rintro e w13 ⟨_, rfl, ⟨A7, c8, B9, d10, rfl, hz11, hz12⟩, hb⟩
  refine ⟨_, rfl, ?_⟩
  clear henv a; intro a henv
  replace hst := ((hst.call hb).addR hz11 ⟨nou_bk rfl, trivial⟩).addR hz12 ⟨nou_bk rfl, trivial⟩
  clear hz11 hz12
  clear hb
  refine seq_step rfl (op_store (k := 0) (c' := #[.bool (neg (qn ((0 : Int) : Rat))), .slice A7 (dl (qn ((0 : Int) : Rat))) c8, .bool (neg (qd ((0 : Int) : Rat))), .slice B9 (dl (qd ((0 : Int) : Rat))) d10]) henv hst (ty_anvil_anvilref03_Rat.size) rfl rfl rfl rfl (by simp) rfl rfl ?_)
  clear henv hst a; intro a w14 henv hst
  refine wpList_nil ?_
  refine th_n ?_
  refine wp_ret ?_
  refine leave henv (res1 Tryz.results13 (RV.cell henv ty_anvil_anvilref03_Rat rfl (hst.oat (k := 0) rfl) rfl)) ?_
  exact ⟨_, rfl, y_at rfl rfl (hst.pat (k := 1) rfl) (hst.pat (k := 0) rfl), hst.below⟩
set_option maxRecDepth 100000 in
set_option maxHeartbeats 1000000 in
theorem sign_y {A0 B0 : Option Addr} {c0 d0 : Nat} {x : Rat} {w0 : World} (h0 : RIn w0 A0 c0 (qn x)) (k0 : RIn w0 B0 d0 (qd x)) :
    Calls Tryz.prog 16 #[.agg #[.bool (neg (qn x)), .slice A0 (dl (qn x)) c0, .bool (neg (qd x)), .slice B0 (dl (qd x)) d0]] w0 fun e w' => e = .returned (.int .i64 (qn x).sign) ∧ Below w0.heap.size w0 w' := by
  refine enter Tryz.func16 rfl Tryz.ntmps16 rfl ?_
  intro a henv hst
  replace hst := hst.addR h0 trivial
  replace hst := hst.addR k0 trivial
  refine wp_seq ?_
  refine region_seq ?_
  refine seq_step rfl (op_box (c := #[.bool (neg (qn x)), .slice A0 (dl (qn x)) c0, .bool (neg (qd x)), .slice B0 (dl (qd x)) d0]) henv hst rfl rfl rfl ?_)
  clear henv hst a; intro a w2 g1 henv hst
  refine sv (v := .int .i64 0) henv rfl (rn_assign henv rfl) ?_
  clear henv a; intro a henv
  refine wpList_nil ?_
  refine th_n ?_
  refine wp_seq ?_
  refine region_seq ?_
  revert a
  refine sA (v := .pointer (some ⟨g1, 0, none⟩)) rfl (fun _ henv => rn_fieldAddr henv fd_anvil_anvilref03_Rat_0 (ty_anvil_anvilref02_Int.size) (by decide) rfl) ?_
  refine sA (v := .agg #[.bool (neg (qn x)), .slice A0 (dl (qn x)) c0]) rfl (fun _ henv => rn_load henv ty_anvil_anvilref02_Int rfl (hst.oat (k := 0) rfl) rfl rfl) ?_
  intro a henv
  refine seq_step rfl (op_call henv rfl Tryz.call12 rfl (sign_r (z := (qn x))) ?_)
  rintro e w3 ⟨rfl, hb⟩
  refine ⟨_, rfl, ?_⟩
  clear henv a; intro a henv
  replace hst := hst.call hb
  clear hb
  refine sv (v := .int .i64 ((qn x).sign)) henv rfl (rn_assign henv rfl) ?_
  clear henv a; intro a henv
  refine wpList_nil ?_
  refine th_n ?_
  refine wp_ret ?_
  refine leave henv (res1 Tryz.results16 (RV.tmp henv rfl)) ?_
  exact ⟨rfl, hst.below⟩
set_option maxRecDepth 100000 in
set_option maxHeartbeats 1000000 in
theorem whole_y {A0 B0 : Option Addr} {c0 d0 : Nat} {x : Rat} {w0 : World} (h0 : RIn w0 A0 c0 (qn x)) (k0 : RIn w0 B0 d0 (qd x)) :
    Calls Tryz.prog 18 #[.agg #[.bool (neg (qn x)), .slice A0 (dl (qn x)) c0, .bool (neg (qd x)), .slice B0 (dl (qd x)) d0]] w0 fun e w' => e = .returned (.bool (decide (ql x = 0))) ∧ Below w0.heap.size w0 w' := by
  refine enter Tryz.func18 rfl Tryz.ntmps18 rfl ?_
  intro a henv hst
  replace hst := hst.addR h0 trivial
  replace hst := hst.addR k0 trivial
  refine wp_seq ?_
  refine region_seq ?_
  refine seq_step rfl (op_box (c := #[.bool (neg (qn x)), .slice A0 (dl (qn x)) c0, .bool (neg (qd x)), .slice B0 (dl (qd x)) d0]) henv hst rfl rfl rfl ?_)
  clear henv hst a; intro a w2 g1 henv hst
  refine sv (v := .bool false) henv rfl (rn_assign henv rfl) ?_
  clear henv a; intro a henv
  refine wpList_nil ?_
  refine th_n ?_
  refine wp_seq ?_
  refine region_any (n := 5) (Sk [bk g1 #[.bool (neg (qn x)), .slice A0 (dl (qn x)) c0, .bool (neg (qd x)), .slice B0 (dl (qd x)) d0] 41] [pfR B0 d0 (qd x), pfR A0 c0 (qn x)] [] []) mixed rfl henv hst ?_
  clear henv hst; intro w3 henv hst
  refine tA (i := 0) [1, 3, 4] (v := .pointer (some ⟨g1, 2, none⟩)) rfl (by kernel_rfl) (fun _ _ _ h => h) henv rfl (fun _ => rn_fieldAddr henv fd_anvil_anvilref03_Rat_1 (ty_anvil_anvilref02_Int.size) (by decide) rfl) ?_
  clear henv a; intro a henv
  refine sAny_take (i := 1) [3, 4] (fun w' => w'.heap[g1]? = some (.cells #[.bool (neg (qn x)), .slice A0 (dl (qn x)) c0, .bool (neg (qd x)), .slice B0 (dl (qd x)) d0] 41 (0, 0))) (v := .agg #[.bool (neg (qd x)), .slice B0 (dl (qd x)) d0]) rfl (by kernel_rfl) (fun _ _ _ h => h) (fun _ _ _ hS => hS.1.oat (k := 0) rfl) henv rfl (hst.oat (k := 0) rfl) (fun w' hg => rn_load henv ty_anvil_anvilref02_Int rfl hg rfl rfl) ?_
  clear henv a; intro a henv
  refine sAny_one (i := 2) (by kernel_rfl) rfl rfl (op_call henv rfl Tryz.call48 rfl (of_r (n := (1 : Int)) (by decide) (by decide)) ?_)
  rintro e w7 ⟨_, rfl, ⟨A4, c5, rfl, hz6⟩, hb⟩
  refine ⟨_, rfl, ?_⟩
  clear henv a; intro a henv
  replace hst := (hst.call hb).addR hz6 ⟨nou_bk rfl, trivial⟩
  clear hz6
  clear hb
  refine ⟨.inr ⟨hst.kn.pick [0] [1, 2], .inr (hst.kn.pick [] [])⟩, ?_⟩
  refine sAny_one (i := 3) (by kernel_rfl) rfl rfl (op_call henv rfl Tryz.call52 rfl (same_rb (x := (qd x)) (y := 1) (show RIn _ B0 d0 (qd x) from hst.pat (k := 1) rfl) (show RIn _ A4 c5 1 from hst.pat (k := 0) rfl)) ?_)
  rintro e w8 ⟨rfl, hb⟩
  refine ⟨_, rfl, ?_⟩
  clear henv a; intro a henv
  replace hst := hst.call hb
  clear hb
  refine ⟨.inr ⟨hst.kn.pick [0] [1, 2], .inr (hst.kn.pick [] [])⟩, ?_⟩
  refine tA (i := 4) [] (v := .bool (decide ((qd x) = 1))) rfl (by kernel_rfl) (fun _ _ _ h => h) henv rfl (fun _ => rn_assign henv rfl) ?_
  clear henv a; intro a henv
  refine sAny_done (by kernel_rfl) ?_ _
  refine th_n ?_
  refine wp_ret ?_
  refine leave henv (res1 Tryz.results18 (RV.tmp henv rfl)) ?_
  exact ⟨by rw [show (decide (qd x = 1)) = decide (ql x = 0) from by unfold ql qd; congr 1; apply propext; omega], hst.below⟩
set_option maxRecDepth 100000 in
set_option maxHeartbeats 1000000 in
theorem floor_y {A0 B0 : Option Addr} {c0 d0 : Nat} {x : Rat} {w0 : World} (h0 : RIn w0 A0 c0 (qn x)) (k0 : RIn w0 B0 d0 (qd x)) {a : Nat} (sx : Qs a x) (ha : a ≤ 10000) :
    Calls Tryz.prog 22 #[.agg #[.bool (neg (qn x)), .slice A0 (dl (qn x)) c0, .bool (neg (qd x)), .slice B0 (dl (qd x)) d0]] w0 fun e w' => ∃ v, e = .returned v ∧ RAt w' v x.floor ∧ Below w0.heap.size w0 w' := by
  have hnx := sx.n
  have hdx := sx.d
  have hlx := sx.l
  have enx := dl_zl (qn x)
  have edx := dl_zl (qd x)
  refine enter Tryz.func22 rfl Tryz.ntmps22 rfl ?_
  intro a henv hst
  replace hst := hst.addR h0 trivial
  replace hst := hst.addR k0 trivial
  refine wp_seq ?_
  refine region_seq ?_
  refine seq_step rfl (op_box (c := #[.bool (neg (qn x)), .slice A0 (dl (qn x)) c0, .bool (neg (qd x)), .slice B0 (dl (qd x)) d0]) henv hst rfl rfl rfl ?_)
  clear henv hst a; intro a w2 g1 henv hst
  refine seq_step rfl (op_alloc (c := #[.bool (neg 0), .slice none (dl 0) 0]) henv hst rfl zero_anvil_anvilref02_Int rcells ?_)
  clear henv hst a; intro a w4 g3 henv hst
  refine wpList_nil ?_
  refine th_n ?_
  refine wp_seq ?_
  refine region_seq ?_
  revert a
  refine sA (v := .pointer (some ⟨g1, 0, none⟩)) rfl (fun _ henv => rn_fieldAddr henv fd_anvil_anvilref03_Rat_0 (ty_anvil_anvilref02_Int.size) (by decide) rfl) ?_
  refine sA (v := .agg #[.bool (neg (qn x)), .slice A0 (dl (qn x)) c0]) rfl (fun _ henv => rn_load henv ty_anvil_anvilref02_Int rfl (hst.oat (k := 1) rfl) rfl rfl) ?_
  refine sA (v := .pointer (some ⟨g1, 2, none⟩)) rfl (fun _ henv => rn_fieldAddr henv fd_anvil_anvilref03_Rat_1 (ty_anvil_anvilref02_Int.size) (by decide) rfl) ?_
  refine sA (v := .agg #[.bool (neg (qd x)), .slice B0 (dl (qd x)) d0]) rfl (fun _ henv => rn_load henv ty_anvil_anvilref02_Int rfl (hst.oat (k := 1) rfl) rfl rfl) ?_
  intro a henv
  refine seq_step rfl (op_call henv rfl Tryz.call56 rfl (divmod_r (x := (qn x)) (y := (qd x)) (show RIn _ A0 c0 (qn x) from hst.pat (k := 1) rfl) (show RIn _ B0 d0 (qd x) from hst.pat (k := 0) rfl) (by omega) (by omega) (qd_ne _)) ?_)
  rintro e w11 ⟨_, _, rfl, ⟨A5, c6, rfl, hz7⟩, ⟨A8, c9, rfl, hz10⟩, hb⟩
  refine ⟨_, rfl, ?_⟩
  clear henv a; intro a henv
  replace hst := ((hst.call hb).addR hz7 ⟨nou_bk rfl, nou_bk rfl, trivial⟩).addR hz10 ⟨nou_bk rfl, nou_bk rfl, trivial⟩
  clear hz7 hz10
  clear hb
  revert a
  refine mA rfl rfl ?_
  refine sA (v := .agg #[.bool (neg ((qn x) / (qd x))), .slice A5 (dl ((qn x) / (qd x))) c6]) rfl (fun _ henv => rn_extract henv rfl rfl) ?_
  refine sA (v := .agg #[.bool (neg ((qn x) % (qd x))), .slice A8 (dl ((qn x) % (qd x))) c9]) rfl (fun _ henv => rn_extract henv rfl rfl) ?_
  intro a henv
  refine seq_step rfl (op_alloc (c := #[.bool (neg 0), .slice none (dl 0) 0]) henv hst rfl zero_anvil_anvilref02_Int rcells ?_)
  clear henv hst a; intro a w13 g12 henv hst
  refine seq_step rfl (op_alloc (c := #[.bool (neg 0), .slice none (dl 0) 0]) henv hst rfl zero_anvil_anvilref02_Int rcells ?_)
  clear henv hst a; intro a w15 g14 henv hst
  refine seq_step rfl (op_store (k := 1) (c' := #[.bool (neg ((qn x) / (qd x))), .slice A5 (dl ((qn x) / (qd x))) c6]) henv hst (ty_anvil_anvilref02_Int.size) rfl rfl rfl rfl (by simp) rfl rfl ?_)
  clear henv hst a; intro a w16 henv hst
  refine seq_step rfl (op_store (k := 0) (c' := #[.bool (neg ((qn x) % (qd x))), .slice A8 (dl ((qn x) % (qd x))) c9]) henv hst (ty_anvil_anvilref02_Int.size) rfl rfl rfl rfl (by simp) rfl rfl ?_)
  clear henv hst a; intro a w17 henv hst
  refine wpList_nil ?_
  refine th_n ?_
  refine wp_seq ?_
  refine region_seq ?_
  refine sv (v := .agg #[.bool (neg ((qn x) / (qd x))), .slice A5 (dl ((qn x) / (qd x))) c6]) henv rfl (rn_load0 henv ty_anvil_anvilref02_Int rfl (hst.oat (k := 1) rfl) rfl) ?_
  clear henv a; intro a henv
  refine seq_step rfl (op_store (k := 2) (c' := #[.bool (neg ((qn x) / (qd x))), .slice A5 (dl ((qn x) / (qd x))) c6]) henv hst (ty_anvil_anvilref02_Int.size) rfl rfl rfl rfl (by simp) rfl rfl ?_)
  clear henv hst a; intro a w18 henv hst
  refine wpList_nil ?_
  refine th_n ?_
  refine wp_ret ?_
  refine leave henv (res1 Tryz.results22 (RV.cell henv ty_anvil_anvilref02_Int rfl (hst.oat (k := 2) rfl) rfl)) ?_
  exact ⟨_, rfl, r_at (q_floor _) (hst.pat (k := 1) rfl), hst.below⟩
set_option maxRecDepth 100000 in
set_option maxHeartbeats 1000000 in
theorem text_y1 {A0 B0 : Option Addr} {c0 d0 : Nat} {x : Rat} {w0 : World} (h0 : RIn w0 A0 c0 (qn x)) (k0 : RIn w0 B0 d0 (qd x)) {a : Nat} (sx : Qs a x) (ha : a ≤ 6000) (hw : ql x = 0) :
    Calls Tryz.prog 24 #[.agg #[.bool (neg (qn x)), .slice A0 (dl (qn x)) c0, .bool (neg (qd x)), .slice B0 (dl (qd x)) d0]] w0 fun e w' => e = .returned (.string ⟨(textQ x).toArray⟩) ∧ Below w0.heap.size w0 w' := by
  have hnx := sx.n
  have hdx := sx.d
  have hlx := sx.l
  have enx := dl_zl (qn x)
  have edx := dl_zl (qd x)
  have ht1 := textZ_bd (qn x)
  have ht2 := textZ_bd (qd x)
  refine enter Tryz.func24 rfl Tryz.ntmps24 rfl ?_
  intro a henv hst
  replace hst := hst.addR h0 trivial
  replace hst := hst.addR k0 trivial
  refine wp_seq ?_
  refine region_seq ?_
  refine seq_step rfl (op_box (c := #[.bool (neg (qn x)), .slice A0 (dl (qn x)) c0, .bool (neg (qd x)), .slice B0 (dl (qd x)) d0]) henv hst rfl rfl rfl ?_)
  clear henv hst a; intro a w2 g1 henv hst
  refine sv (v := .string ⟨#[]⟩) henv rfl (rn_assign henv rfl) ?_
  clear henv a; intro a henv
  refine wpList_nil ?_
  refine th_n ?_
  refine wp_seq ?_
  refine wp_seq ?_
  refine region_seq ?_
  refine sv (v := .agg #[.bool (neg (qn x)), .slice A0 (dl (qn x)) c0, .bool (neg (qd x)), .slice B0 (dl (qd x)) d0]) henv rfl (rn_load0 henv ty_anvil_anvilref03_Rat rfl (hst.oat (k := 0) rfl) rfl) ?_
  clear henv a; intro a henv
  refine seq_step rfl (op_call henv rfl Tryz.call18 rfl (whole_y (x := x) (show RIn _ A0 c0 (qn x) from hst.pat (k := 1) rfl) (show RIn _ B0 d0 (qd x) from hst.pat (k := 0) rfl)) ?_)
  rintro e w3 ⟨rfl, hb⟩
  refine ⟨_, rfl, ?_⟩
  clear henv a; intro a henv
  replace hst := hst.call hb
  clear hb
  rw [show (decide (ql x = 0)) = true from (by simp [hw])] at henv
  refine wpList_nil ?_
  refine th_n ?_
  refine if_t henv rfl (rfl) ?_
  refine wp_seq ?_
  refine region_seq ?_
  revert a
  refine sA (v := .pointer (some ⟨g1, 0, none⟩)) rfl (fun _ henv => rn_fieldAddr henv fd_anvil_anvilref03_Rat_0 (ty_anvil_anvilref02_Int.size) (by decide) rfl) ?_
  refine sA (v := .agg #[.bool (neg (qn x)), .slice A0 (dl (qn x)) c0]) rfl (fun _ henv => rn_load henv ty_anvil_anvilref02_Int rfl (hst.oat (k := 0) rfl) rfl rfl) ?_
  intro a henv
  refine seq_step rfl (op_call henv rfl Tryz.call21 rfl (text_r (z := (qn x)) (show RIn _ A0 c0 (qn x) from hst.pat (k := 1) rfl) (by omega)) ?_)
  rintro e w4 ⟨rfl, hb⟩
  refine ⟨_, rfl, ?_⟩
  clear henv a; intro a henv
  replace hst := hst.call hb
  clear hb
  refine sv (v := .string ⟨(textZ (qn x)).toArray⟩) henv rfl (rn_assign henv rfl) ?_
  clear henv a; intro a henv
  refine wpList_nil ?_
  refine th_n ?_
  refine wp_ret ?_
  refine th_r ?_
  refine leave henv (res1 Tryz.results24 (RV.tmp henv rfl)) ?_
  exact ⟨by unfold textQ; simp [hw], hst.below⟩
set_option maxRecDepth 100000 in
set_option maxHeartbeats 1000000 in
theorem text_y0 {A0 B0 : Option Addr} {c0 d0 : Nat} {x : Rat} {w0 : World} (h0 : RIn w0 A0 c0 (qn x)) (k0 : RIn w0 B0 d0 (qd x)) {a : Nat} (sx : Qs a x) (ha : a ≤ 6000) (hw : ¬ (ql x = 0)) :
    Calls Tryz.prog 24 #[.agg #[.bool (neg (qn x)), .slice A0 (dl (qn x)) c0, .bool (neg (qd x)), .slice B0 (dl (qd x)) d0]] w0 fun e w' => e = .returned (.string ⟨(textQ x).toArray⟩) ∧ Below w0.heap.size w0 w' := by
  have hnx := sx.n
  have hdx := sx.d
  have hlx := sx.l
  have enx := dl_zl (qn x)
  have edx := dl_zl (qd x)
  have ht1 := textZ_bd (qn x)
  have ht2 := textZ_bd (qd x)
  refine enter Tryz.func24 rfl Tryz.ntmps24 rfl ?_
  intro a henv hst
  replace hst := hst.addR h0 trivial
  replace hst := hst.addR k0 trivial
  refine wp_seq ?_
  refine region_seq ?_
  refine seq_step rfl (op_box (c := #[.bool (neg (qn x)), .slice A0 (dl (qn x)) c0, .bool (neg (qd x)), .slice B0 (dl (qd x)) d0]) henv hst rfl rfl rfl ?_)
  clear henv hst a; intro a w2 g1 henv hst
  refine sv (v := .string ⟨#[]⟩) henv rfl (rn_assign henv rfl) ?_
  clear henv a; intro a henv
  refine wpList_nil ?_
  refine th_n ?_
  refine wp_seq ?_
  refine wp_seq ?_
  refine region_seq ?_
  refine sv (v := .agg #[.bool (neg (qn x)), .slice A0 (dl (qn x)) c0, .bool (neg (qd x)), .slice B0 (dl (qd x)) d0]) henv rfl (rn_load0 henv ty_anvil_anvilref03_Rat rfl (hst.oat (k := 0) rfl) rfl) ?_
  clear henv a; intro a henv
  refine seq_step rfl (op_call henv rfl Tryz.call18 rfl (whole_y (x := x) (show RIn _ A0 c0 (qn x) from hst.pat (k := 1) rfl) (show RIn _ B0 d0 (qd x) from hst.pat (k := 0) rfl)) ?_)
  rintro e w3 ⟨rfl, hb⟩
  refine ⟨_, rfl, ?_⟩
  clear henv a; intro a henv
  replace hst := hst.call hb
  clear hb
  rw [show (decide (ql x = 0)) = false from (by simp [hw])] at henv
  refine wpList_nil ?_
  refine th_n ?_
  refine if_f henv rfl (rfl) ?_
  refine wp_skip ?_
  refine th_n ?_
  refine wp_seq ?_
  refine region_any (n := 9) (Sk [bk g1 #[.bool (neg (qn x)), .slice A0 (dl (qn x)) c0, .bool (neg (qd x)), .slice B0 (dl (qd x)) d0] 41] [pfR B0 d0 (qd x), pfR A0 c0 (qn x)] [] []) mixed rfl henv hst ?_
  clear henv hst; intro w4 henv hst
  refine tA (i := 0) [1, 2, 3, 6, 7, 8] (v := .pointer (some ⟨g1, 0, none⟩)) rfl (by kernel_rfl) (fun _ _ _ h => h) henv rfl (fun _ => rn_fieldAddr henv fd_anvil_anvilref03_Rat_0 (ty_anvil_anvilref02_Int.size) (by decide) rfl) ?_
  clear henv a; intro a henv
  refine sAny_take (i := 1) [2, 3, 6, 7, 8] (fun w' => w'.heap[g1]? = some (.cells #[.bool (neg (qn x)), .slice A0 (dl (qn x)) c0, .bool (neg (qd x)), .slice B0 (dl (qd x)) d0] 41 (0, 0))) (v := .agg #[.bool (neg (qn x)), .slice A0 (dl (qn x)) c0]) rfl (by kernel_rfl) (fun _ _ _ h => h) (fun _ _ _ hS => hS.1.oat (k := 0) rfl) henv rfl (hst.oat (k := 0) rfl) (fun w' hg => rn_load henv ty_anvil_anvilref02_Int rfl hg rfl rfl) ?_
  clear henv a; intro a henv
  refine tA (i := 4) (rg 5 4) (v := .pointer (some ⟨g1, 2, none⟩)) rfl (by kernel_rfl) (fun _ _ _ h => h) henv rfl (fun _ => rn_fieldAddr henv fd_anvil_anvilref03_Rat_1 (ty_anvil_anvilref02_Int.size) (by decide) rfl) ?_
  clear henv a; intro a henv
  refine sAny_take (i := 5) [6, 7, 8] (fun w' => w'.heap[g1]? = some (.cells #[.bool (neg (qn x)), .slice A0 (dl (qn x)) c0, .bool (neg (qd x)), .slice B0 (dl (qd x)) d0] 41 (0, 0))) (v := .agg #[.bool (neg (qd x)), .slice B0 (dl (qd x)) d0]) rfl (by kernel_rfl) (fun _ _ _ h => h) (fun _ _ _ hS => hS.1.oat (k := 0) rfl) henv rfl (hst.oat (k := 0) rfl) (fun w' hg => rn_load henv ty_anvil_anvilref02_Int rfl hg rfl rfl) ?_
  clear henv a; intro a henv
  refine sAny_one (i := 2) (by kernel_rfl) rfl rfl (op_call henv rfl Tryz.call21 rfl (text_r (z := (qn x)) (show RIn _ A0 c0 (qn x) from hst.pat (k := 1) rfl) (by omega)) ?_)
  rintro e w5 ⟨rfl, hb⟩
  refine ⟨_, rfl, ?_⟩
  clear henv a; intro a henv
  replace hst := hst.call hb
  clear hb
  refine ⟨.inr ⟨hst.kn.pick [0] [0, 1], .inr (hst.kn.pick [] [])⟩, ?_⟩
  refine tA (i := 3) [7, 8] (v := .string ⟨((textZ (qn x)) ++ ([47])).toArray⟩) rfl (by kernel_rfl) (fun _ _ _ h => h) henv rfl (fun _ => rn_catS (s := (textZ (qn x))) (t := [47]) henv rfl rfl (by simp only [List.length_append, List.length_cons, List.length_nil]; omega)) ?_
  clear henv a; intro a henv
  refine sAny_one (i := 6) (by kernel_rfl) rfl rfl (op_call henv rfl Tryz.call21 rfl (text_r (z := (qd x)) (show RIn _ B0 d0 (qd x) from hst.pat (k := 0) rfl) (by omega)) ?_)
  rintro e w6 ⟨rfl, hb⟩
  refine ⟨_, rfl, ?_⟩
  clear henv a; intro a henv
  replace hst := hst.call hb
  clear hb
  refine ⟨.inr ⟨hst.kn.pick [0] [0, 1], .inr (hst.kn.pick [] [])⟩, ?_⟩
  refine tA (i := 7) [8] (v := .string ⟨(((textZ (qn x)) ++ ([47])) ++ (textZ (qd x))).toArray⟩) rfl (by kernel_rfl) (fun _ _ _ h => h) henv rfl (fun _ => rn_catS (s := ((textZ (qn x)) ++ ([47]))) (t := (textZ (qd x))) henv rfl rfl (by simp only [List.length_append, List.length_cons, List.length_nil]; omega)) ?_
  clear henv a; intro a henv
  refine tA (i := 8) [] (v := .string ⟨(((textZ (qn x)) ++ ([47])) ++ (textZ (qd x))).toArray⟩) rfl (by kernel_rfl) (fun _ _ _ h => h) henv rfl (fun _ => rn_assign henv rfl) ?_
  clear henv a; intro a henv
  refine sAny_done (by kernel_rfl) ?_ _
  refine th_n ?_
  refine wp_ret ?_
  refine leave henv (res1 Tryz.results24 (RV.tmp henv rfl)) ?_
  exact ⟨by unfold textQ; simp [hw], hst.below⟩
theorem text_y {A0 B0 : Option Addr} {c0 d0 : Nat} {x : Rat} {w0 : World} (h0 : RIn w0 A0 c0 (qn x)) (k0 : RIn w0 B0 d0 (qd x)) {a : Nat} (sx : Qs a x) (ha : a ≤ 6000) :
    Calls Tryz.prog 24 #[.agg #[.bool (neg (qn x)), .slice A0 (dl (qn x)) c0, .bool (neg (qd x)), .slice B0 (dl (qd x)) d0]] w0 fun e w' => e = .returned (.string ⟨(textQ x).toArray⟩) ∧ Below w0.heap.size w0 w' := by
  by_cases hw : ql x = 0
  · exact text_y1 h0 k0 sx ha hw
  · exact text_y0 h0 k0 sx ha hw
end Go.Proofs.YtegglooojlheoaaGreatDoor.W

/- The laws of anvillaw03: their helpers. Printed by pv/gen_qlaw.py. No condition. -/
namespace Go.Proofs.YtegglooojlheoaaGreatDoor.W
open Go.RowKit Anv Go.Lib
theorem qs_zero : Qs 1 0 := ⟨by decide, by decide⟩
theorem qs_w : Qs 1 (mkRat (-3) 2) := ⟨by decide, by decide⟩
theorem qs_3 : Qs 1 ((3 : Int) : Rat) := ⟨by decide, by decide⟩
theorem qs_intz {k : Nat} {z : Int} (h : zl z ≤ k) : Qs (k + 1) (z : Rat) := Qs.int (lt32_zl h)
theorem floor_sz {k : Nat} {r : Rat} (h : Qs k r) : zl r.floor ≤ k := by
  rw [← q_floor]
  exact Nat.le_trans (zl_ediv _ _) h.n
def RdAs (s : List UInt8) (z p q b : Int) : Prop := ∀ w0 : World,
    (Calls Tryz.prog 43 #[.string ⟨s.toArray⟩] w0 fun e w' => ∃ v, e = .returned (.tuple #[v, .agg #[.int .i64 p, .int .i64 q]]) ∧ ZAt w' v z ∧ Below w0.heap.size w0 w') ∧
    (Calls Tryz.prog 42 #[.string ⟨s.toArray⟩] w0 fun e w' => ∃ v, e = .returned (.tuple #[v, .int .i64 b]) ∧ RAt w' v z ∧ Below w0.heap.size w0 w')
theorem zin_at (w : World) : ZAt w (.agg #[.bool (neg 0), .slice none (zl 0) 0]) 0 := ⟨_, _, rfl, zin_none _⟩
theorem rin_at (w : World) : RAt w (.agg #[.bool (neg 0), .slice none (dl 0) 0]) 0 := ⟨_, _, rfl, rin_none _⟩
theorem reads_as (t : List UInt8) (h : t.length ≤ 60000) : ∃ z p q b : Int, RdAs t z p q b ∧ zl z ≤ t.length + 1 := by
  have h00 : zl 0 ≤ t.length + 1 := by rw [zl_zero]; omega
  rcases sign_cases t with h45 | ⟨d, rfl⟩
  · rcases read_cases 0 t with ⟨b, hfb⟩ | hfb
    · exact ⟨0, 6, (b : Nat), (b : Nat), fun w0 => ⟨(iread_fb0 h45 (by omega) hfb).mono fun _ _ ⟨he, hB⟩ => ⟨_, he, zin_at _, hB⟩, (rread_fb0 h45 (by omega) hfb).mono fun _ _ ⟨he, hB⟩ => ⟨_, he, rin_at _, hB⟩⟩, h00⟩
    · exact ⟨_, 0, 0, -1, fun w0 => ⟨iread_ok0 h45 (by omega) hfb, rread_ok0 h45 hfb (by omega)⟩, zl_num0 (digits_of hfb.ok)⟩
  · rw [List.length_cons] at h
    rcases read_cases 1 d with ⟨b, hfb⟩ | hfb
    · exact ⟨0, 6, (b + 1 : Nat), (b + 1 : Nat), fun w0 => ⟨(iread_fb1 (by omega) hfb).mono fun _ _ ⟨he, hB⟩ => ⟨_, he, zin_at _, hB⟩, (rread_fb1 (by omega) hfb).mono fun _ _ ⟨he, hB⟩ => ⟨_, he, rin_at _, hB⟩⟩, h00⟩
    · exact ⟨_, 0, 0, -1, fun w0 => ⟨iread_ok1 (by omega) hfb, rread_ok1 hfb (by omega)⟩, by have := zl_num1 (digits_of hfb.ok); rw [List.length_cons]; omega⟩
set_option maxRecDepth 100000 in
theorem qlong_one1 {s t : List UInt8} {w0 : World} (h : 300 < s.length) :
    Calls Tryz.prog 41 #[.agg #[.string ⟨s.toArray⟩, .string ⟨t.toArray⟩]] w0 fun e w' => e = .returned (.bool true) ∧ Below w0.heap.size w0 w' := by
  refine enter Tryz.func41 rfl Tryz.ntmps41 rfl ?_
  intro a henv hst
  refine wp_seq ?_
  refine region_seq ?_
  refine seq_step rfl (op_box (c := #[.string ⟨s.toArray⟩, .string ⟨t.toArray⟩]) henv hst rfl rfl rfl ?_)
  clear henv hst a; intro a w2 g1 henv hst
  refine sv (v := .bool false) henv rfl (rn_assign henv rfl) ?_
  clear henv a; intro a henv
  refine wpList_nil ?_
  refine th_n ?_
  refine wp_seq ?_
  refine region_seq ?_
  revert a
  refine sA (v := .pointer (some ⟨g1, 0, none⟩)) rfl (fun _ henv => rn_fieldAddr henv fd_anvil_anvillaw03_Frac_0 (ty_string.size) (by decide) rfl) ?_
  refine sA (v := .string ⟨s.toArray⟩) rfl (fun _ henv => rn_load1 henv ty_string rfl (hst.oat (k := 0) rfl) rfl) ?_
  refine sA (v := .int .i64 (s.length : Nat)) rfl (fun _ henv => rn_lenS henv Tryz.underlying9 rfl) ?_
  refine sA (v := .bool (decide (((s.length : Nat) : Int) > (300 : Int)))) rfl (fun _ henv => rn_bin henv rfl rfl rfl) ?_
  intro a henv
  rw [show (decide (((s.length : Nat) : Int) > (300 : Int))) = true from decide_eq_true (by omega)] at henv
  revert a
  refine mA rfl rfl ?_
  refine kA rfl rfl rfl rfl rfl ?_
  refine kA rfl rfl rfl rfl rfl ?_
  refine kA rfl rfl rfl rfl rfl ?_
  refine kA rfl rfl rfl rfl rfl ?_
  refine sA (v := .bool true) rfl (fun _ henv => rn_pick henv rfl rfl) ?_
  refine aA rfl rfl ?_
  intro a henv
  refine wpList_nil ?_
  refine th_n ?_
  refine wp_ret ?_
  refine leave henv (res1 Tryz.results41 (RV.tmp henv rfl)) ?_
  exact ⟨rfl, hst.below⟩
set_option maxRecDepth 100000 in
theorem qlong_one0 {s t : List UInt8} {w0 : World} (h : ¬ 300 < s.length) :
    Calls Tryz.prog 41 #[.agg #[.string ⟨s.toArray⟩, .string ⟨t.toArray⟩]] w0 fun e w' => e = .returned (.bool (decide (((t.length : Nat) : Int) > (300 : Int)))) ∧ Below w0.heap.size w0 w' := by
  refine enter Tryz.func41 rfl Tryz.ntmps41 rfl ?_
  intro a henv hst
  refine wp_seq ?_
  refine region_seq ?_
  refine seq_step rfl (op_box (c := #[.string ⟨s.toArray⟩, .string ⟨t.toArray⟩]) henv hst rfl rfl rfl ?_)
  clear henv hst a; intro a w2 g1 henv hst
  refine sv (v := .bool false) henv rfl (rn_assign henv rfl) ?_
  clear henv a; intro a henv
  refine wpList_nil ?_
  refine th_n ?_
  refine wp_seq ?_
  refine region_seq ?_
  revert a
  refine sA (v := .pointer (some ⟨g1, 0, none⟩)) rfl (fun _ henv => rn_fieldAddr henv fd_anvil_anvillaw03_Frac_0 (ty_string.size) (by decide) rfl) ?_
  refine sA (v := .string ⟨s.toArray⟩) rfl (fun _ henv => rn_load1 henv ty_string rfl (hst.oat (k := 0) rfl) rfl) ?_
  refine sA (v := .int .i64 (s.length : Nat)) rfl (fun _ henv => rn_lenS henv Tryz.underlying9 rfl) ?_
  refine sA (v := .bool (decide (((s.length : Nat) : Int) > (300 : Int)))) rfl (fun _ henv => rn_bin henv rfl rfl rfl) ?_
  intro a henv
  rw [show (decide (((s.length : Nat) : Int) > (300 : Int))) = false from decide_eq_false (by omega)] at henv
  revert a
  refine mA rfl rfl ?_
  refine gA (v := .pointer (some ⟨g1, 1, none⟩)) rfl rfl rfl rfl (fun _ henv => rn_fieldAddr henv fd_anvil_anvillaw03_Frac_1 (ty_string.size) (by decide) rfl) ?_
  refine gA (v := .string ⟨t.toArray⟩) rfl rfl rfl rfl (fun _ henv => rn_load1 henv ty_string rfl (hst.oat (k := 0) rfl) rfl) ?_
  refine gA (v := .int .i64 (t.length : Nat)) rfl rfl rfl rfl (fun _ henv => rn_lenS henv Tryz.underlying9 rfl) ?_
  refine gA (v := .bool (decide (((t.length : Nat) : Int) > (300 : Int)))) rfl rfl rfl rfl (fun _ henv => rn_bin henv rfl rfl rfl) ?_
  refine sA (v := .bool (decide (((t.length : Nat) : Int) > (300 : Int)))) rfl (fun _ henv => rn_pick henv rfl rfl) ?_
  refine aA rfl rfl ?_
  intro a henv
  refine wpList_nil ?_
  refine th_n ?_
  refine wp_ret ?_
  refine leave henv (res1 Tryz.results41 (RV.tmp henv rfl)) ?_
  exact ⟨rfl, hst.below⟩
def Lg (e : FE) : Prop := 300 < e.1.length ∨ 300 < e.2.length
theorem qlong_one {s t : List UInt8} {w0 : World} :
    Calls Tryz.prog 41 #[.agg #[.string ⟨s.toArray⟩, .string ⟨t.toArray⟩]] w0 fun e w' => ∃ b : Bool, e = .returned (.bool b) ∧ (b = true ↔ Lg (s, t)) ∧ Below w0.heap.size w0 w' := by
  by_cases h : 300 < s.length
  · exact (qlong_one1 h).mono fun _ _ ⟨he, hB⟩ => ⟨_, he, ⟨fun _ => .inl h, fun _ => rfl⟩, hB⟩
  · refine (qlong_one0 h).mono fun _ _ ⟨he, hB⟩ => ⟨_, he, ⟨fun hd => .inr (show 300 < t.length by have := of_decide_eq_true hd; omega), fun hd => ?_⟩, hB⟩
    rcases hd with hd | hd
    · exact absurd hd h
    · exact decide_eq_true (by have : 300 < t.length := hd; omega)
set_option maxRecDepth 100000 in
set_option maxHeartbeats 4000000 in
theorem qlong_index {A : Option Addr} {n c : Nat} {es : List FE} {w0 : World} (hr : (pfRow fF FF 2 A n c es).P w0) :
    Calls Tryz.prog 63 #[.slice A n c, .func (.func 41) #[] #[]] w0 fun e w' => ∃ r : Int, e = .returned (.int .i64 r) ∧ (0 ≤ r ↔ ∃ e ∈ es, Lg e) ∧ Below w0.heap.size w0 w' := by
  refine enter Tryz.func63 rfl Tryz.ntmps63 rfl ?_
  intro a henv hst
  have hlen := hr.2.1
  have hbig := Nat.le_trans hr.1.cap hr.1.big
  unfold maxLen at hbig
  replace hst := hst.argRow hr
  clear hr
  refine wp_seq ?_
  refine region_seq ?_
  refine sv (v := .int .i64 0) henv rfl (rn_assign henv rfl) ?_
  clear henv a; intro a henv
  refine wpList_nil ?_
  refine th_n ?_
  refine wp_seq ?_
  refine wp_seq ?_
  refine region_seq ?_
  revert a
  refine mA rfl rfl ?_
  refine sA (v := .int .i64 (n : Nat)) rfl (fun _ henv => rn_len henv Tryz.underlying66 rfl) ?_
  refine mA rfl rfl ?_
  intro a henv
  refine wpList_nil ?_
  refine th_n ?_
  refine wp_block ?_
  refine wp_loop_ghost (fun mz a w => ∃ j : Nat, n - j = mz ∧ Env 19 a [(0, .slice A n c), (1, .func (.func 41) #[] #[]), (7, .int .i64 (n : Nat)), (8, .int .i64 (j : Nat))] ∧ St w0 w [] [pfRow fF FF 2 A n c es] ∧ j ≤ n ∧ (∀ i e, i < j → es[i]? = some e → ¬ Lg e)) _ ⟨0, rfl, henv.sub ⟨rfl, rfl, rfl, rfl, trivial⟩, hst.pick [] [0] (by decide), (Nat.zero_le _), (fun i _ hi => absurd hi (Nat.not_lt_zero _))⟩ ?_
  clear henv hst a
  rintro mz a w1 ⟨j, rfl, henv, hst, hj, hz⟩
  refine wp_seq ?_
  refine region_seq ?_
  refine sv (v := .bool (decide (((j : Nat) : Int) < ((n : Nat) : Int)))) henv rfl (rn_bin henv rfl rfl rfl) ?_
  clear henv a; intro a henv
  refine wpList_nil ?_
  refine th_n ?_
  refine wp_seq ?_
  refine if_split henv rfl (fun hc2 => ?_) (fun hc2 => ?_)
  · have hlt : j < n := by have := of_decide_eq_true hc2; omega
    obtain ⟨⟨s, t⟩, he⟩ : ∃ e, es[j]? = some e := ⟨_, List.getElem?_eq_getElem (by omega)⟩
    refine wp_skip ?_
    refine th_n ?_
    refine wp_seq ?_
    refine wp_block ?_
    refine wp_seq ?_
    refine region_seq ?_
    revert a
    refine mA rfl rfl ?_
    refine aA rfl rfl ?_
    intro a henv
    refine wpList_nil ?_
    refine th_n ?_
    refine wp_seq ?_
    refine region_seq ?_
    revert a
    refine mA rfl rfl ?_
    refine mA rfl rfl ?_
    refine mA rfl rfl ?_
    refine sA (v := .pointer (some ⟨ab A, ao A + j * 2, none⟩)) rfl (fun _ henv => rn_idxR (i := j) henv Tryz.underlying66 (ty_anvil_anvillaw03_Frac.size) rfl rfl (by omega) rfl (show (pfRow fF FF 2 A n c es).P _ from (hst.pat (k := 0) rfl)).1) ?_
    refine sA (v := .agg #[.string ⟨s.toArray⟩, .string ⟨t.toArray⟩]) rfl (fun _ henv => rn_loadE (i := j) (e := (s, t)) henv ty_anvil_anvillaw03_Frac rfl rfl fF_len (show (pfRow fF FF 2 A n c es).P _ from (hst.pat (k := 0) rfl)).1 (by omega) he rfl) ?_
    intro a henv
    refine seq_step rfl (op_callv henv rfl Tryz.call41 rfl rfl (qlong_one (s := s) (t := t)) ?_)
    rintro e w3 ⟨b, rfl, hb1, hb⟩
    refine ⟨_, rfl, ?_⟩
    clear henv a; intro a henv
    replace hst := hst.call hb
    clear hb
    refine wpList_nil ?_
    refine th_n ?_
    refine if_split henv rfl (fun hc4 => ?_) (fun hc4 => ?_)
    · have hyes := hb1.1 hc4
      refine wp_seq ?_
      refine region_seq ?_
      revert a
      refine mA rfl rfl ?_
      refine aA rfl rfl ?_
      intro a henv
      refine wpList_nil ?_
      refine th_n ?_
      refine wp_ret ?_
      refine bl_r (th_r (th_r (bl_r (th_r ?_))))
      refine leave henv (res1 Tryz.results63 (RV.tmp henv rfl)) ?_
      exact ⟨_, rfl, ⟨fun _ => ⟨_, List.mem_of_getElem? he, hyes⟩, fun _ => by omega⟩, hst.below⟩
    · have hno : ¬ Lg (s, t) := fun h1 => by rw [hb1.2 h1] at hc4; cases hc4
      refine wp_skip ?_
      refine bl_n (th_n ?_)
      refine region_seq ?_
      revert a
      refine sA (v := .int .i64 (j + 1 : Nat)) rfl (fun _ henv => rn_add henv rfl rfl (by rw [IntWalk.i64_in _ (by omega)]; omega)) ?_
      refine mA rfl rfl ?_
      intro a henv
      refine wpList_nil ?_
      exact th_n ⟨_, (by omega), ⟨j + 1, rfl, henv.sub ⟨rfl, rfl, rfl, rfl, trivial⟩, hst.pick [] [0] (by decide), (by omega), (fun i e hi h1 => by rcases Nat.lt_or_ge i j with h2 | h2; exact hz i e h2 h1; obtain rfl : i = j := (by omega); rw [he] at h1; cases h1; exact hno)⟩⟩
  · obtain rfl : j = n := by have := of_decide_eq_false hc2; omega
    refine wp_exit ?_
    refine th_x (th_x (bl_x (th_n ?_)))
    refine wp_seq ?_
    refine region_seq ?_
    refine sv (v := .int .i64 (-1)) henv rfl (rn_assign henv rfl) ?_
    clear henv a; intro a henv
    refine wpList_nil ?_
    refine th_n ?_
    refine wp_ret ?_
    refine leave henv (res1 Tryz.results63 (RV.tmp henv rfl)) ?_
    exact ⟨_, rfl, ⟨fun h => by omega, fun ⟨e, h1, h2⟩ => by obtain ⟨i, hi⟩ := List.getElem?_of_mem h1; exact absurd h2 (hz i e (by have := (List.getElem?_eq_some_iff.1 hi).1; omega) hi)⟩, hst.below⟩
set_option maxRecDepth 100000 in
theorem qlong_contains {A : Option Addr} {n c : Nat} {es : List FE} {w0 : World} (hr : (pfRow fF FF 2 A n c es).P w0) :
    Calls Tryz.prog 40 #[.slice A n c, .func (.func 41) #[] #[]] w0 fun e w' => ∃ b : Bool, e = .returned (.bool b) ∧ (b = true ↔ ∃ e ∈ es, Lg e) ∧ Below w0.heap.size w0 w' := by
  refine enter Tryz.func40 rfl Tryz.ntmps40 rfl ?_
  intro a henv hst
  have hlen := hr.2.1
  have hbig := Nat.le_trans hr.1.cap hr.1.big
  unfold maxLen at hbig
  replace hst := hst.argRow hr
  clear hr
  refine wp_seq ?_
  refine region_seq ?_
  refine sv (v := .bool false) henv rfl (rn_assign henv rfl) ?_
  clear henv a; intro a henv
  refine wpList_nil ?_
  refine th_n ?_
  refine wp_seq ?_
  refine region_seq ?_
  revert a
  refine mA rfl rfl ?_
  refine mA rfl rfl ?_
  intro a henv
  refine seq_step rfl (op_call henv rfl Tryz.call63 rfl (qlong_index (hst.pat (k := 0) rfl)) ?_)
  rintro e w1 ⟨r, rfl, hr, hb⟩
  refine ⟨_, rfl, ?_⟩
  clear henv a; intro a henv
  replace hst := hst.call hb
  clear hb
  revert a
  refine sA (v := .bool (decide (r ≥ (0 : Int)))) rfl (fun _ henv => rn_bin henv rfl rfl rfl) ?_
  refine aA rfl rfl ?_
  intro a henv
  refine wpList_nil ?_
  refine th_n ?_
  refine wp_ret ?_
  refine leave henv (res1 Tryz.results40 (RV.tmp henv rfl)) ?_
  exact ⟨_, rfl, (by rw [gt_iff r]; exact hr), hst.below⟩
set_option maxRecDepth 100000 in
theorem qlong_many {A : Option Addr} {n c : Nat} {es : List FE} {w0 : World} (hr : (pfRow fF FF 2 A n c es).P w0) (hn : 12 < n) :
    Calls Tryz.prog 6 #[.slice A n c] w0 fun e w' => e = .returned (.bool true) ∧ Below w0.heap.size w0 w' := by
  refine enter Tryz.func6 rfl Tryz.ntmps6 rfl ?_
  intro a henv hst
  have hlen := hr.2.1
  have hbig := Nat.le_trans hr.1.cap hr.1.big
  unfold maxLen at hbig
  replace hst := hst.argRow hr
  clear hr
  refine wp_seq ?_
  refine region_seq ?_
  refine sv (v := .bool false) henv rfl (rn_assign henv rfl) ?_
  clear henv a; intro a henv
  refine wpList_nil ?_
  refine th_n ?_
  refine wp_seq ?_
  refine region_seq ?_
  revert a
  refine mA rfl rfl ?_
  refine sA (v := .int .i64 (n : Nat)) rfl (fun _ henv => rn_len henv Tryz.underlying66 rfl) ?_
  refine sA (v := .bool (decide (((n : Nat) : Int) > (12 : Int)))) rfl (fun _ henv => rn_bin henv rfl rfl rfl) ?_
  intro a henv
  rw [show (decide (((n : Nat) : Int) > (12 : Int))) = true from decide_eq_true (by omega)] at henv
  revert a
  refine mA rfl rfl ?_
  refine kA rfl rfl rfl rfl rfl ?_
  refine kA rfl rfl rfl rfl rfl ?_
  refine sA (v := .bool true) rfl (fun _ henv => rn_pick henv rfl rfl) ?_
  refine aA rfl rfl ?_
  intro a henv
  refine wpList_nil ?_
  refine th_n ?_
  refine wp_ret ?_
  refine leave henv (res1 Tryz.results6 (RV.tmp henv rfl)) ?_
  exact ⟨rfl, hst.below⟩
set_option maxRecDepth 100000 in
theorem qlong_few {A : Option Addr} {n c : Nat} {es : List FE} {w0 : World} (hr : (pfRow fF FF 2 A n c es).P w0) (hn : n ≤ 12) :
    Calls Tryz.prog 6 #[.slice A n c] w0 fun e w' => ∃ b : Bool, e = .returned (.bool b) ∧ (b = true ↔ ∃ e ∈ es, Lg e) ∧ Below w0.heap.size w0 w' := by
  refine enter Tryz.func6 rfl Tryz.ntmps6 rfl ?_
  intro a henv hst
  have hlen := hr.2.1
  have hbig := Nat.le_trans hr.1.cap hr.1.big
  unfold maxLen at hbig
  replace hst := hst.argRow hr
  clear hr
  refine wp_seq ?_
  refine region_seq ?_
  refine sv (v := .bool false) henv rfl (rn_assign henv rfl) ?_
  clear henv a; intro a henv
  refine wpList_nil ?_
  refine th_n ?_
  refine wp_seq ?_
  refine region_seq ?_
  revert a
  refine mA rfl rfl ?_
  refine sA (v := .int .i64 (n : Nat)) rfl (fun _ henv => rn_len henv Tryz.underlying66 rfl) ?_
  refine sA (v := .bool (decide (((n : Nat) : Int) > (12 : Int)))) rfl (fun _ henv => rn_bin henv rfl rfl rfl) ?_
  intro a henv
  rw [show (decide (((n : Nat) : Int) > (12 : Int))) = false from decide_eq_false (by omega)] at henv
  revert a
  refine mA rfl rfl ?_
  refine gA (v := .slice A n c) rfl rfl rfl rfl (fun _ henv => rn_move henv rfl) ?_
  intro a henv
  refine seq_g rfl henv rfl rfl (op_call henv rfl Tryz.call40 rfl (qlong_contains (hst.pat (k := 0) rfl)) ?_)
  rintro e w1 ⟨b, rfl, hb1, hb⟩
  refine ⟨_, rfl, ?_⟩
  clear henv a; intro a henv
  replace hst := hst.call hb
  clear hb
  revert a
  refine sA (v := .bool b) rfl (fun _ henv => rn_pick henv rfl rfl) ?_
  refine aA rfl rfl ?_
  intro a henv
  refine wpList_nil ?_
  refine th_n ?_
  refine wp_ret ?_
  refine leave henv (res1 Tryz.results6 (RV.tmp henv rfl)) ?_
  exact ⟨_, rfl, hb1, hst.below⟩
theorem qlong_no {A : Option Addr} {n c : Nat} {es : List FE} {w0 : World} (hr : (pfRow fF FF 2 A n c es).P w0) (hn : n ≤ 12) (hs : ∀ e ∈ es, ¬ Lg e) :
    Calls Tryz.prog 6 #[.slice A n c] w0 fun e w' => e = .returned (.bool false) ∧ Below w0.heap.size w0 w' := by
  refine (qlong_few hr hn).mono ?_
  rintro e w' ⟨b, rfl, hb, hB⟩
  cases b with
  | false => exact ⟨rfl, hB⟩
  | true => obtain ⟨e, he, h⟩ := hb.1 rfl; exact absurd h (hs e he)
theorem qlong_yes {A : Option Addr} {n c : Nat} {es : List FE} {w0 : World} (hr : (pfRow fF FF 2 A n c es).P w0) (hs : ∃ e ∈ es, Lg e) :
    Calls Tryz.prog 6 #[.slice A n c] w0 fun e w' => e = .returned (.bool true) ∧ Below w0.heap.size w0 w' := by
  rcases Nat.lt_or_ge 12 n with hn | hn
  · exact qlong_many hr hn
  refine (qlong_few hr hn).mono ?_
  rintro e w' ⟨b, rfl, hb, hB⟩
  obtain rfl := hb.2 hs
  exact ⟨rfl, hB⟩
set_option maxRecDepth 100000 in
set_option maxHeartbeats 1000000 in
theorem is_qy {A0 B0 A1 B1 : Option Addr} {c0 d0 c1 d1 : Nat} {r : Rat} {w0 : World} (h0 : ZIn w0 A0 c0 (qn r)) (k0 : ZIn w0 B0 d0 (ql r)) (h1 : RIn w0 A1 c1 (qn r)) (k1 : RIn w0 B1 d1 (qd r)) {k : Nat} (sr : Qs k r) (hk : k ≤ 6000) :
    Calls Tryz.prog 9 #[.agg #[.bool (neg (qn r)), .slice A0 (zl (qn r)) c0, .bool (neg (ql r)), .slice B0 (zl (ql r)) d0], .agg #[.bool (neg (qn r)), .slice A1 (dl (qn r)) c1, .bool (neg (qd r)), .slice B1 (dl (qd r)) d1]] w0 fun e w' => e = .returned (.bool true) ∧ Below w0.heap.size w0 w' := by
  have hnr := sr.n
  have hdr := sr.d
  have enr := dl_zl (qn r)
  have edr := dl_zl (qd r)
  refine enter Tryz.func9 rfl Tryz.ntmps9 rfl ?_
  intro a henv hst
  replace hst := hst.addZ h0 trivial
  replace hst := hst.addZ k0 trivial
  replace hst := hst.addR h1 trivial
  replace hst := hst.addR k1 trivial
  refine wp_seq ?_
  refine region_seq ?_
  refine seq_step rfl (op_box (c := #[.bool (neg (qn r)), .slice A0 (zl (qn r)) c0, .bool (neg (ql r)), .slice B0 (zl (ql r)) d0]) henv hst rfl rfl rfl ?_)
  clear henv hst a; intro a w2 g1 henv hst
  refine seq_step rfl (op_box (c := #[.bool (neg (qn r)), .slice A1 (dl (qn r)) c1, .bool (neg (qd r)), .slice B1 (dl (qd r)) d1]) henv hst rfl rfl rfl ?_)
  clear henv hst a; intro a w4 g3 henv hst
  refine sv (v := .bool false) henv rfl (rn_assign henv rfl) ?_
  clear henv a; intro a henv
  refine wpList_nil ?_
  refine th_n ?_
  refine wp_seq ?_
  refine region_any (n := 17) (Sk [bk g3 #[.bool (neg (qn r)), .slice A1 (dl (qn r)) c1, .bool (neg (qd r)), .slice B1 (dl (qd r)) d1] 41, bk g1 #[.bool (neg (qn r)), .slice A0 (zl (qn r)) c0, .bool (neg (ql r)), .slice B0 (zl (ql r)) d0] 34] [pfR B1 d1 (qd r), pfR A1 c1 (qn r), pfZ B0 d0 (ql r), pfZ A0 c0 (qn r)] [] []) mixed rfl henv hst ?_
  clear henv hst; intro w5 henv hst
  refine tL (i := 0) 1 1 [1, 2, 5, 6, 7, 8, 9, 10, 11, 12, 13, 14, 15, 16] rfl (by kernel_rfl) (fun _ _ _ h => h) henv rfl ty_anvil_ratio_Rat rfl hst rfl rfl rfl ?_
  clear henv a; intro a henv
  refine tA (i := 3) (rg 4 13) (v := .pointer (some ⟨g3, 0, none⟩)) rfl (by kernel_rfl) (fun _ _ _ h => h) henv rfl (fun _ => rn_fieldAddr henv fd_anvil_anvilref03_Rat_0 (ty_anvil_anvilref02_Int.size) (by decide) rfl) ?_
  clear henv a; intro a henv
  refine sAny_take (i := 4) [5, 6, 7, 8, 9, 10, 11, 12, 13, 14, 15, 16] (fun w' => w'.heap[g3]? = some (.cells #[.bool (neg (qn r)), .slice A1 (dl (qn r)) c1, .bool (neg (qd r)), .slice B1 (dl (qd r)) d1] 41 (0, 0))) (v := .agg #[.bool (neg (qn r)), .slice A1 (dl (qn r)) c1]) rfl (by kernel_rfl) (fun _ _ _ h => h) (fun _ _ _ hS => hS.1.oat (k := 0) rfl) henv rfl (hst.oat (k := 0) rfl) (fun w' hg => rn_load henv ty_anvil_anvilref02_Int rfl hg rfl rfl) ?_
  clear henv a; intro a henv
  refine sAny_one (i := 1) (by kernel_rfl) rfl rfl (op_call henv rfl Tryz.call47 rfl (num_q (x := r) (show ZIn _ A0 c0 (qn r) from hst.pat (k := 3) rfl) (show ZIn _ B0 d0 (ql r) from hst.pat (k := 2) rfl)) ?_)
  rintro e w9 ⟨_, rfl, ⟨A6, c7, rfl, hz8⟩, hb⟩
  refine ⟨_, rfl, ?_⟩
  clear henv a; intro a henv
  replace hst := (hst.call hb).addZ hz8 ⟨nou_bk rfl, nou_bk rfl, trivial⟩
  clear hz8
  clear hb
  refine ⟨.inr ⟨hst.kn.pick [0, 1] (rg 1 4), .inr (hst.kn.pick [] [])⟩, ?_⟩
  refine sAny_one (i := 2) (by kernel_rfl) rfl rfl (op_call henv rfl Tryz.call20 rfl (text_z (z := (qn r)) (show ZIn _ A6 c7 (qn r) from hst.pat (k := 0) rfl) (by omega)) ?_)
  rintro e w10 ⟨rfl, hb⟩
  refine ⟨_, rfl, ?_⟩
  clear henv a; intro a henv
  replace hst := hst.call hb
  clear hb
  refine ⟨.inr ⟨hst.kn.pick [0, 1] (rg 1 4), .inr (hst.kn.pick [] [])⟩, ?_⟩
  refine sAny_one (i := 5) (by kernel_rfl) rfl rfl (op_call henv rfl Tryz.call21 rfl (text_r (z := (qn r)) (show RIn _ A1 c1 (qn r) from hst.pat (k := 2) rfl) (by omega)) ?_)
  rintro e w11 ⟨rfl, hb⟩
  refine ⟨_, rfl, ?_⟩
  clear henv a; intro a henv
  replace hst := hst.call hb
  clear hb
  refine ⟨.inr ⟨hst.kn.pick [0, 1] (rg 1 4), .inr (hst.kn.pick [] [])⟩, ?_⟩
  refine tA (i := 6) (rg 7 10) (v := .bool (decide ((textZ (qn r)) = (textZ (qn r))))) rfl (by kernel_rfl) (fun _ _ _ h => h) henv rfl (fun _ => rn_eqls (s := (textZ (qn r))) (t := (textZ (qn r))) henv rfl rfl) ?_
  clear henv a; intro a henv
  rw [show (decide ((textZ (qn r)) = (textZ (qn r)))) = true from decide_eq_true rfl] at henv
  refine tM (i := 7) (rg 8 9) rfl (by kernel_rfl) (fun _ _ _ h => h) henv rfl rfl ?_
  clear henv a; intro a henv
  refine tLg (i := 8) 1 1 [9, 10, 13, 14, 15, 16] rfl (by kernel_rfl) (fun _ _ _ h => h) henv rfl rfl rfl rfl ty_anvil_ratio_Rat rfl hst rfl rfl rfl ?_
  clear henv a; intro a henv
  refine tAg (i := 11) (rg 12 5) (v := .pointer (some ⟨g3, 2, none⟩)) rfl (by kernel_rfl) (fun _ _ _ h => h) henv rfl rfl rfl rfl (fun _ => rn_fieldAddr henv fd_anvil_anvilref03_Rat_1 (ty_anvil_anvilref02_Int.size) (by decide) rfl) ?_
  clear henv a; intro a henv
  refine sAny_takeg (i := 12) [13, 14, 15, 16] (fun w' => w'.heap[g3]? = some (.cells #[.bool (neg (qn r)), .slice A1 (dl (qn r)) c1, .bool (neg (qd r)), .slice B1 (dl (qd r)) d1] 41 (0, 0))) (v := .agg #[.bool (neg (qd r)), .slice B1 (dl (qd r)) d1]) rfl (by kernel_rfl) (fun _ _ _ h => h) (fun _ _ _ hS => hS.1.oat (k := 0) rfl) henv rfl rfl rfl rfl (hst.oat (k := 0) rfl) (fun w' hg => rn_load henv ty_anvil_anvilref02_Int rfl hg rfl rfl) ?_
  clear henv a; intro a henv
  refine sAny_oneg (i := 9) (by kernel_rfl) rfl rfl henv rfl rfl rfl (op_call henv rfl Tryz.call39 rfl (den_q (x := r) (show ZIn _ A0 c0 (qn r) from hst.pat (k := 4) rfl) (show ZIn _ B0 d0 (ql r) from hst.pat (k := 3) rfl) sr (by omega)) ?_)
  rintro e w15 ⟨_, rfl, ⟨A12, c13, rfl, hz14⟩, hb⟩
  refine ⟨_, rfl, ?_⟩
  clear henv a; intro a henv
  replace hst := (hst.call hb).addZ hz14 ⟨nou_bk rfl, nou_bk rfl, trivial⟩
  clear hz14
  clear hb
  refine ⟨.inr ⟨hst.kn.pick [0, 1] (rg 2 4), .inr (hst.kn.pick [] [])⟩, ?_⟩
  refine sAny_oneg (i := 10) (by kernel_rfl) rfl rfl henv rfl rfl rfl (op_call henv rfl Tryz.call20 rfl (text_z (z := (qd r)) (show ZIn _ A12 c13 (qd r) from hst.pat (k := 0) rfl) (by omega)) ?_)
  rintro e w16 ⟨rfl, hb⟩
  refine ⟨_, rfl, ?_⟩
  clear henv a; intro a henv
  replace hst := hst.call hb
  clear hb
  refine ⟨.inr ⟨hst.kn.pick [0, 1] (rg 2 4), .inr (hst.kn.pick [] [])⟩, ?_⟩
  refine sAny_oneg (i := 13) (by kernel_rfl) rfl rfl henv rfl rfl rfl (op_call henv rfl Tryz.call21 rfl (text_r (z := (qd r)) (show RIn _ B1 d1 (qd r) from hst.pat (k := 2) rfl) (by omega)) ?_)
  rintro e w17 ⟨rfl, hb⟩
  refine ⟨_, rfl, ?_⟩
  clear henv a; intro a henv
  replace hst := hst.call hb
  clear hb
  refine ⟨.inr ⟨hst.kn.pick [0, 1] (rg 2 4), .inr (hst.kn.pick [] [])⟩, ?_⟩
  refine tAg (i := 14) [15, 16] (v := .bool (decide ((textZ (qd r)) = (textZ (qd r))))) rfl (by kernel_rfl) (fun _ _ _ h => h) henv rfl rfl rfl rfl (fun _ => rn_eqls (s := (textZ (qd r))) (t := (textZ (qd r))) henv rfl rfl) ?_
  clear henv a; intro a henv
  rw [show (decide ((textZ (qd r)) = (textZ (qd r)))) = true from decide_eq_true rfl] at henv
  refine tA (i := 15) [16] (v := .bool true) rfl (by kernel_rfl) (fun _ _ _ h => h) henv rfl (fun _ => rn_pick henv rfl rfl) ?_
  clear henv a; intro a henv
  refine tA (i := 16) [] (v := .bool true) rfl (by kernel_rfl) (fun _ _ _ h => h) henv rfl (fun _ => rn_assign henv rfl) ?_
  clear henv a; intro a henv
  refine sAny_done (by kernel_rfl) ?_ _
  refine th_n ?_
  refine wp_ret ?_
  refine leave henv (res1 Tryz.results9 (RV.tmp henv rfl)) ?_
  exact ⟨rfl, hst.below⟩
set_option maxRecDepth 100000 in
set_option maxHeartbeats 2000000 in
theorem qworks {w0 : World} :
    Calls Tryz.prog 5 #[] w0 fun e w' => e = .returned (.bool true) ∧ Below w0.heap.size w0 w' := by
  have h6 : zl 6 ≤ 1 := nl_le_of_lt (by decide)
  have h4 : zl (-4) ≤ 1 := nl_le_of_lt (by decide)
  refine enter Tryz.func5 rfl Tryz.ntmps5 rfl ?_
  intro a henv hst
  refine wp_seq ?_
  refine region_seq ?_
  refine sv (v := .bool false) henv rfl (rn_assign henv rfl) ?_
  clear henv a; intro a henv
  refine wpList_nil ?_
  refine th_n ?_
  refine wp_seq ?_
  refine region_seq ?_
  refine seq_step rfl (op_call henv rfl Tryz.call38 rfl (of_z (n := (6 : Int)) (by decide) (by decide)) ?_)
  rintro e w4 ⟨_, rfl, ⟨A1, c2, rfl, hz3⟩, hb⟩
  refine ⟨_, rfl, ?_⟩
  clear henv a; intro a henv
  replace hst := (hst.call hb).addZ hz3 trivial
  clear hz3
  clear hb
  refine seq_step rfl (op_call henv rfl Tryz.call38 rfl (of_z (n := (-4 : Int)) (by decide) (by decide)) ?_)
  rintro e w8 ⟨_, rfl, ⟨A5, c6, rfl, hz7⟩, hb⟩
  refine ⟨_, rfl, ?_⟩
  clear henv a; intro a henv
  replace hst := (hst.call hb).addZ hz7 trivial
  clear hz7
  clear hb
  refine seq_step rfl (op_call henv rfl Tryz.call8 rfl (make_qr (p := 6) (q := -4) (r := mkRat (-3) 2) (show ZIn _ A1 c2 6 from hst.pat (k := 1) rfl) (show ZIn _ A5 c6 (-4) from hst.pat (k := 0) rfl) (by omega) (by omega) (by decide) (by decide +kernel)) ?_)
  rintro e w15 ⟨_, rfl, ⟨A9, c10, B11, d12, rfl, hz13, hz14⟩, hb⟩
  refine ⟨_, rfl, ?_⟩
  clear henv a; intro a henv
  replace hst := ((hst.call hb).addZ hz13 trivial).addZ hz14 trivial
  clear hz13 hz14
  clear hb
  revert a
  refine mA rfl rfl ?_
  refine sA (v := .agg #[.bool (neg (qn (mkRat (-3) 2))), .slice A9 (zl (qn (mkRat (-3) 2))) c10, .bool (neg (ql (mkRat (-3) 2))), .slice B11 (zl (ql (mkRat (-3) 2))) d12]) rfl (fun _ henv => rn_extract henv rfl rfl) ?_
  refine sA (v := .int .i64 0) rfl (fun _ henv => rn_extract henv rfl rfl) ?_
  intro a henv
  refine seq_step rfl (op_alloc (c := #[.bool (neg (qn 0)), .slice none (zl (qn 0)) 0, .bool (neg (ql 0)), .slice none (zl (ql 0)) 0]) henv hst rfl zero_anvil_ratio_Rat qcells ?_)
  clear henv hst a; intro a w17 g16 henv hst
  refine seq_step rfl (op_store (k := 0) (c' := #[.bool (neg (qn (mkRat (-3) 2))), .slice A9 (zl (qn (mkRat (-3) 2))) c10, .bool (neg (ql (mkRat (-3) 2))), .slice B11 (zl (ql (mkRat (-3) 2))) d12]) henv hst (ty_anvil_ratio_Rat.size) rfl rfl rfl rfl (by simp) rfl rfl ?_)
  clear henv hst a; intro a w18 henv hst
  refine sv (v := .int .i64 0) henv rfl (rn_assign henv rfl) ?_
  clear henv a; intro a henv
  refine wpList_nil ?_
  refine th_n ?_
  refine wp_seq ?_
  refine cut (fun a w => ∃ A20 : Option Addr, ∃ c21 : Nat, ∃ A24 : Option Addr, ∃ c25 : Nat, ∃ B26 : Option Addr, ∃ d27 : Nat, ∃ A31 : Option Addr, ∃ c32 : Nat, ∃ B33 : Option Addr, ∃ d34 : Nat, ∃ g38 : Nat, Env 59 a [(0, .bool false), (7, .agg #[.bool (neg 6), .slice A1 (zl 6) c2]), (8, .agg #[.bool (neg (-4)), .slice A5 (zl (-4)) c6]), (9, .tuple #[.agg #[.bool (neg (qn (mkRat (-3) 2))), .slice A9 (zl (qn (mkRat (-3) 2))) c10, .bool (neg (ql (mkRat (-3) 2))), .slice B11 (zl (ql (mkRat (-3) 2))) d12], .int .i64 0]), (6, .tuple #[.agg #[.bool (neg (qn (mkRat (-3) 2))), .slice A9 (zl (qn (mkRat (-3) 2))) c10, .bool (neg (ql (mkRat (-3) 2))), .slice B11 (zl (ql (mkRat (-3) 2))) d12], .int .i64 0]), (10, .agg #[.bool (neg (qn (mkRat (-3) 2))), .slice A9 (zl (qn (mkRat (-3) 2))) c10, .bool (neg (ql (mkRat (-3) 2))), .slice B11 (zl (ql (mkRat (-3) 2))) d12]), (11, .int .i64 0), (1, .pointer (some ⟨g16, 0, none⟩)), (2, .int .i64 0), (3, .pointer (some ⟨g38, 0, none⟩)), (4, .int .i64 0)] ∧ St w0 w [bk g38 #[.bool (neg (qn ((mkRat (-3) 2) / ((3 : Int) : Rat)))), .slice A31 (zl (qn ((mkRat (-3) 2) / ((3 : Int) : Rat)))) c32, .bool (neg (ql ((mkRat (-3) 2) / ((3 : Int) : Rat)))), .slice B33 (zl (ql ((mkRat (-3) 2) / ((3 : Int) : Rat)))) d34] 34, bk g16 #[.bool (neg (qn (mkRat (-3) 2))), .slice A9 (zl (qn (mkRat (-3) 2))) c10, .bool (neg (ql (mkRat (-3) 2))), .slice B11 (zl (ql (mkRat (-3) 2))) d12] 34] [pfZ B33 d34 (ql ((mkRat (-3) 2) / ((3 : Int) : Rat))), pfZ A31 c32 (qn ((mkRat (-3) 2) / ((3 : Int) : Rat))), pfZ B26 d27 (ql ((3 : Int) : Rat)), pfZ A24 c25 (qn ((3 : Int) : Rat)), pfZ A20 c21 3, pfZ B11 d12 (ql (mkRat (-3) 2)), pfZ A9 c10 (qn (mkRat (-3) 2)), pfZ A5 c6 (-4), pfZ A1 c2 6]) ?_ ?_
  · refine region_any (n := 10) (Sk [bk g16 #[.bool (neg (qn (mkRat (-3) 2))), .slice A9 (zl (qn (mkRat (-3) 2))) c10, .bool (neg (ql (mkRat (-3) 2))), .slice B11 (zl (ql (mkRat (-3) 2))) d12] 34] [pfZ B11 d12 (ql (mkRat (-3) 2)), pfZ A9 c10 (qn (mkRat (-3) 2)), pfZ A5 c6 (-4), pfZ A1 c2 6] [8] []) mixed rfl henv hst ?_
    clear henv hst; intro w19 henv hst
    refine tL (i := 0) 0 0 [3, 4, 5, 6, 8, 9] rfl (by kernel_rfl) (fun _ _ _ h => h) henv rfl ty_anvil_ratio_Rat rfl hst rfl rfl rfl ?_
    clear henv a; intro a henv
    refine sAny_all (rs := [1, 7]) (by kernel_rfl) (by simp) ?_
    simp only [List.forall_mem_cons, List.not_mem_nil, false_implies, implies_true, and_true]
    refine ⟨?_, ?_⟩
    · refine ⟨_, rfl, rfl, op_call henv rfl Tryz.call38 rfl (of_z (n := (3 : Int)) (by decide) (by decide)) ?_⟩
      rintro e w23 ⟨_, rfl, ⟨A20, c21, rfl, hz22⟩, hb⟩
      refine ⟨_, rfl, ?_⟩
      clear henv a; intro a henv
      replace hst := (hst.call hb).addZ hz22 ⟨nou_bk rfl, trivial⟩
      clear hz22
      clear hb
      refine ⟨.inr ⟨hst.kn.pick [0] (rg 1 4), .inr (hst.kn.pick [] [])⟩, ?_⟩
      refine sAny_all (rs := [2, 7]) (by kernel_rfl) (by simp) ?_
      simp only [List.forall_mem_cons, List.not_mem_nil, false_implies, implies_true, and_true]
      refine ⟨?_, ?_⟩
      · refine ⟨_, rfl, rfl, op_call henv rfl Tryz.call10 rfl (of_int_q (z := 3) (show ZIn _ A20 c21 3 from hst.pat (k := 0) rfl)) ?_⟩
        rintro e w30 ⟨_, rfl, ⟨A24, c25, B26, d27, rfl, hz28, hz29⟩, hb⟩
        refine ⟨_, rfl, ?_⟩
        clear henv a; intro a henv
        replace hst := ((hst.call hb).addZ hz28 ⟨nou_bk rfl, trivial⟩).addZ hz29 ⟨nou_bk rfl, trivial⟩
        clear hz28 hz29
        clear hb
        refine ⟨.inr ⟨hst.kn.pick [0] (rg 3 4), .inr (hst.kn.pick [] [])⟩, ?_⟩
        refine sAny_all (rs := [3, 7]) (by kernel_rfl) (by simp) ?_
        simp only [List.forall_mem_cons, List.not_mem_nil, false_implies, implies_true, and_true]
        refine ⟨?_, ?_⟩
        · refine ⟨_, rfl, rfl, op_call henv rfl Tryz.call36 rfl (over_q (x := mkRat (-3) 2) (y := ((3 : Int) : Rat)) (show ZIn _ A9 c10 (qn (mkRat (-3) 2)) from hst.pat (k := 4) rfl) (show ZIn _ B11 d12 (ql (mkRat (-3) 2)) from hst.pat (k := 3) rfl) (show ZIn _ A24 c25 (qn ((3 : Int) : Rat)) from hst.pat (k := 1) rfl) (show ZIn _ B26 d27 (ql ((3 : Int) : Rat)) from hst.pat (k := 0) rfl) qs_w qs_3 (by omega) (by decide)) ?_⟩
          rintro e w37 ⟨_, rfl, ⟨A31, c32, B33, d34, rfl, hz35, hz36⟩, hb⟩
          refine ⟨_, rfl, ?_⟩
          clear henv a; intro a henv
          replace hst := ((hst.call hb).addZ hz35 ⟨nou_bk rfl, trivial⟩).addZ hz36 ⟨nou_bk rfl, trivial⟩
          clear hz35 hz36
          clear hb
          refine ⟨.inr ⟨hst.kn.pick [0] (rg 5 4), .inr (hst.kn.pick [] [])⟩, ?_⟩
          refine tM (i := 4) [5, 6, 8, 9] rfl (by kernel_rfl) (fun _ _ _ h => h) henv rfl rfl ?_
          clear henv a; intro a henv
          refine tA (i := 5) [8, 9] (v := .agg #[.bool (neg (qn ((mkRat (-3) 2) / ((3 : Int) : Rat)))), .slice A31 (zl (qn ((mkRat (-3) 2) / ((3 : Int) : Rat)))) c32, .bool (neg (ql ((mkRat (-3) 2) / ((3 : Int) : Rat)))), .slice B33 (zl (ql ((mkRat (-3) 2) / ((3 : Int) : Rat)))) d34]) rfl (by kernel_rfl) (fun _ _ _ h => h) henv rfl (fun _ => rn_extract henv rfl rfl) ?_
          clear henv a; intro a henv
          refine tA (i := 6) [9] (v := .int .i64 0) rfl (by kernel_rfl) (fun _ _ _ h => h) henv rfl (fun _ => rn_extract henv rfl rfl) ?_
          clear henv a; intro a henv
          refine sAny_one (i := 7) (by kernel_rfl) rfl rfl (op_alloc (c := #[.bool (neg (qn 0)), .slice none (zl (qn 0)) 0, .bool (neg (ql 0)), .slice none (zl (ql 0)) 0]) henv hst rfl zero_anvil_ratio_Rat qcells ?_)
          clear henv hst a; intro a w39 g38 henv hst
          refine ⟨.inr ⟨hst.kn.pick [1] (rg 5 4), .inr (hst.kn.pick [] [])⟩, ?_⟩
          refine sAny_one (i := 8) (by kernel_rfl) rfl rfl (op_store (k := 0) (c' := #[.bool (neg (qn ((mkRat (-3) 2) / ((3 : Int) : Rat)))), .slice A31 (zl (qn ((mkRat (-3) 2) / ((3 : Int) : Rat)))) c32, .bool (neg (ql ((mkRat (-3) 2) / ((3 : Int) : Rat)))), .slice B33 (zl (ql ((mkRat (-3) 2) / ((3 : Int) : Rat)))) d34]) henv hst (ty_anvil_ratio_Rat.size) rfl rfl rfl rfl (by simp) rfl rfl ?_)
          clear henv hst a; intro a w40 henv hst
          refine ⟨.inr ⟨hst.kn.pick [1] (rg 5 4), .inl rfl⟩, ?_⟩
          refine tA (i := 9) [] (v := .int .i64 0) rfl (by kernel_rfl) (fun _ _ _ h => h) henv rfl (fun _ => rn_assign henv rfl) ?_
          clear henv a; intro a henv
          refine sAny_done (by kernel_rfl) ?_ _
          exact th_n ⟨A20, c21, A24, c25, B26, d27, A31, c32, B33, d34, g38, henv.sub ⟨rfl, rfl, rfl, rfl, rfl, rfl, rfl, rfl, rfl, rfl, rfl, trivial⟩, hst.pick [0, 1] [0, 1, 2, 3, 4, 5, 6, 7, 8] (by decide)⟩
        · refine ⟨_, rfl, rfl, op_alloc (c := #[.bool (neg (qn 0)), .slice none (zl (qn 0)) 0, .bool (neg (ql 0)), .slice none (zl (ql 0)) 0]) henv hst rfl zero_anvil_ratio_Rat qcells ?_⟩
          clear henv hst a; intro a w42 g41 henv hst
          refine ⟨.inr ⟨hst.kn.pick [1] (rg 3 4), .inr (hst.kn.pick [] [])⟩, ?_⟩
          refine sAny_one (i := 3) (by kernel_rfl) rfl rfl (op_call henv rfl Tryz.call36 rfl (over_q (x := mkRat (-3) 2) (y := ((3 : Int) : Rat)) (show ZIn _ A9 c10 (qn (mkRat (-3) 2)) from hst.pat (k := 4) rfl) (show ZIn _ B11 d12 (ql (mkRat (-3) 2)) from hst.pat (k := 3) rfl) (show ZIn _ A24 c25 (qn ((3 : Int) : Rat)) from hst.pat (k := 1) rfl) (show ZIn _ B26 d27 (ql ((3 : Int) : Rat)) from hst.pat (k := 0) rfl) qs_w qs_3 (by omega) (by decide)) ?_)
          rintro e w49 ⟨_, rfl, ⟨A43, c44, B45, d46, rfl, hz47, hz48⟩, hb⟩
          refine ⟨_, rfl, ?_⟩
          clear henv a; intro a henv
          replace hst := ((hst.call hb).addZ hz47 ⟨nou_bk rfl, nou_bk rfl, trivial⟩).addZ hz48 ⟨nou_bk rfl, nou_bk rfl, trivial⟩
          clear hz47 hz48
          clear hb
          refine ⟨.inr ⟨hst.kn.pick [1] (rg 5 4), .inr (hst.kn.pick [] [])⟩, ?_⟩
          refine tM (i := 4) [5, 6, 8, 9] rfl (by kernel_rfl) (fun _ _ _ h => h) henv rfl rfl ?_
          clear henv a; intro a henv
          refine tA (i := 5) [8, 9] (v := .agg #[.bool (neg (qn ((mkRat (-3) 2) / ((3 : Int) : Rat)))), .slice A43 (zl (qn ((mkRat (-3) 2) / ((3 : Int) : Rat)))) c44, .bool (neg (ql ((mkRat (-3) 2) / ((3 : Int) : Rat)))), .slice B45 (zl (ql ((mkRat (-3) 2) / ((3 : Int) : Rat)))) d46]) rfl (by kernel_rfl) (fun _ _ _ h => h) henv rfl (fun _ => rn_extract henv rfl rfl) ?_
          clear henv a; intro a henv
          refine tA (i := 6) [9] (v := .int .i64 0) rfl (by kernel_rfl) (fun _ _ _ h => h) henv rfl (fun _ => rn_extract henv rfl rfl) ?_
          clear henv a; intro a henv
          refine sAny_one (i := 8) (by kernel_rfl) rfl rfl (op_store (k := 0) (c' := #[.bool (neg (qn ((mkRat (-3) 2) / ((3 : Int) : Rat)))), .slice A43 (zl (qn ((mkRat (-3) 2) / ((3 : Int) : Rat)))) c44, .bool (neg (ql ((mkRat (-3) 2) / ((3 : Int) : Rat)))), .slice B45 (zl (ql ((mkRat (-3) 2) / ((3 : Int) : Rat)))) d46]) henv hst (ty_anvil_ratio_Rat.size) rfl rfl rfl rfl (by simp) rfl rfl ?_)
          clear henv hst a; intro a w50 henv hst
          refine ⟨.inr ⟨hst.kn.pick [1] (rg 5 4), .inl rfl⟩, ?_⟩
          refine tA (i := 9) [] (v := .int .i64 0) rfl (by kernel_rfl) (fun _ _ _ h => h) henv rfl (fun _ => rn_assign henv rfl) ?_
          clear henv a; intro a henv
          refine sAny_done (by kernel_rfl) ?_ _
          exact th_n ⟨A20, c21, A24, c25, B26, d27, A43, c44, B45, d46, g41, henv.sub ⟨rfl, rfl, rfl, rfl, rfl, rfl, rfl, rfl, rfl, rfl, rfl, trivial⟩, hst.pick [0, 1] [0, 1, 2, 3, 4, 5, 6, 7, 8] (by decide)⟩
      · refine ⟨_, rfl, rfl, op_alloc (c := #[.bool (neg (qn 0)), .slice none (zl (qn 0)) 0, .bool (neg (ql 0)), .slice none (zl (ql 0)) 0]) henv hst rfl zero_anvil_ratio_Rat qcells ?_⟩
        clear henv hst a; intro a w52 g51 henv hst
        refine ⟨.inr ⟨hst.kn.pick [1] (rg 1 4), .inr (hst.kn.pick [] [])⟩, ?_⟩
        refine sAny_one (i := 2) (by kernel_rfl) rfl rfl (op_call henv rfl Tryz.call10 rfl (of_int_q (z := 3) (show ZIn _ A20 c21 3 from hst.pat (k := 0) rfl)) ?_)
        rintro e w59 ⟨_, rfl, ⟨A53, c54, B55, d56, rfl, hz57, hz58⟩, hb⟩
        refine ⟨_, rfl, ?_⟩
        clear henv a; intro a henv
        replace hst := ((hst.call hb).addZ hz57 ⟨nou_bk rfl, nou_bk rfl, trivial⟩).addZ hz58 ⟨nou_bk rfl, nou_bk rfl, trivial⟩
        clear hz57 hz58
        clear hb
        refine ⟨.inr ⟨hst.kn.pick [1] (rg 3 4), .inr (hst.kn.pick [] [])⟩, ?_⟩
        refine sAny_one (i := 3) (by kernel_rfl) rfl rfl (op_call henv rfl Tryz.call36 rfl (over_q (x := mkRat (-3) 2) (y := ((3 : Int) : Rat)) (show ZIn _ A9 c10 (qn (mkRat (-3) 2)) from hst.pat (k := 4) rfl) (show ZIn _ B11 d12 (ql (mkRat (-3) 2)) from hst.pat (k := 3) rfl) (show ZIn _ A53 c54 (qn ((3 : Int) : Rat)) from hst.pat (k := 1) rfl) (show ZIn _ B55 d56 (ql ((3 : Int) : Rat)) from hst.pat (k := 0) rfl) qs_w qs_3 (by omega) (by decide)) ?_)
        rintro e w66 ⟨_, rfl, ⟨A60, c61, B62, d63, rfl, hz64, hz65⟩, hb⟩
        refine ⟨_, rfl, ?_⟩
        clear henv a; intro a henv
        replace hst := ((hst.call hb).addZ hz64 ⟨nou_bk rfl, nou_bk rfl, trivial⟩).addZ hz65 ⟨nou_bk rfl, nou_bk rfl, trivial⟩
        clear hz64 hz65
        clear hb
        refine ⟨.inr ⟨hst.kn.pick [1] (rg 5 4), .inr (hst.kn.pick [] [])⟩, ?_⟩
        refine tM (i := 4) [5, 6, 8, 9] rfl (by kernel_rfl) (fun _ _ _ h => h) henv rfl rfl ?_
        clear henv a; intro a henv
        refine tA (i := 5) [8, 9] (v := .agg #[.bool (neg (qn ((mkRat (-3) 2) / ((3 : Int) : Rat)))), .slice A60 (zl (qn ((mkRat (-3) 2) / ((3 : Int) : Rat)))) c61, .bool (neg (ql ((mkRat (-3) 2) / ((3 : Int) : Rat)))), .slice B62 (zl (ql ((mkRat (-3) 2) / ((3 : Int) : Rat)))) d63]) rfl (by kernel_rfl) (fun _ _ _ h => h) henv rfl (fun _ => rn_extract henv rfl rfl) ?_
        clear henv a; intro a henv
        refine tA (i := 6) [9] (v := .int .i64 0) rfl (by kernel_rfl) (fun _ _ _ h => h) henv rfl (fun _ => rn_extract henv rfl rfl) ?_
        clear henv a; intro a henv
        refine sAny_one (i := 8) (by kernel_rfl) rfl rfl (op_store (k := 0) (c' := #[.bool (neg (qn ((mkRat (-3) 2) / ((3 : Int) : Rat)))), .slice A60 (zl (qn ((mkRat (-3) 2) / ((3 : Int) : Rat)))) c61, .bool (neg (ql ((mkRat (-3) 2) / ((3 : Int) : Rat)))), .slice B62 (zl (ql ((mkRat (-3) 2) / ((3 : Int) : Rat)))) d63]) henv hst (ty_anvil_ratio_Rat.size) rfl rfl rfl rfl (by simp) rfl rfl ?_)
        clear henv hst a; intro a w67 henv hst
        refine ⟨.inr ⟨hst.kn.pick [1] (rg 5 4), .inl rfl⟩, ?_⟩
        refine tA (i := 9) [] (v := .int .i64 0) rfl (by kernel_rfl) (fun _ _ _ h => h) henv rfl (fun _ => rn_assign henv rfl) ?_
        clear henv a; intro a henv
        refine sAny_done (by kernel_rfl) ?_ _
        exact th_n ⟨A20, c21, A53, c54, B55, d56, A60, c61, B62, d63, g51, henv.sub ⟨rfl, rfl, rfl, rfl, rfl, rfl, rfl, rfl, rfl, rfl, rfl, trivial⟩, hst.pick [0, 1] [0, 1, 2, 3, 4, 5, 6, 7, 8] (by decide)⟩
    · refine ⟨_, rfl, rfl, op_alloc (c := #[.bool (neg (qn 0)), .slice none (zl (qn 0)) 0, .bool (neg (ql 0)), .slice none (zl (ql 0)) 0]) henv hst rfl zero_anvil_ratio_Rat qcells ?_⟩
      clear henv hst a; intro a w69 g68 henv hst
      refine ⟨.inr ⟨hst.kn.pick [1] (rg 0 4), .inr (hst.kn.pick [] [])⟩, ?_⟩
      refine sAny_one (i := 1) (by kernel_rfl) rfl rfl (op_call henv rfl Tryz.call38 rfl (of_z (n := (3 : Int)) (by decide) (by decide)) ?_)
      rintro e w73 ⟨_, rfl, ⟨A70, c71, rfl, hz72⟩, hb⟩
      refine ⟨_, rfl, ?_⟩
      clear henv a; intro a henv
      replace hst := (hst.call hb).addZ hz72 ⟨nou_bk rfl, nou_bk rfl, trivial⟩
      clear hz72
      clear hb
      refine ⟨.inr ⟨hst.kn.pick [1] (rg 1 4), .inr (hst.kn.pick [] [])⟩, ?_⟩
      refine sAny_one (i := 2) (by kernel_rfl) rfl rfl (op_call henv rfl Tryz.call10 rfl (of_int_q (z := 3) (show ZIn _ A70 c71 3 from hst.pat (k := 0) rfl)) ?_)
      rintro e w80 ⟨_, rfl, ⟨A74, c75, B76, d77, rfl, hz78, hz79⟩, hb⟩
      refine ⟨_, rfl, ?_⟩
      clear henv a; intro a henv
      replace hst := ((hst.call hb).addZ hz78 ⟨nou_bk rfl, nou_bk rfl, trivial⟩).addZ hz79 ⟨nou_bk rfl, nou_bk rfl, trivial⟩
      clear hz78 hz79
      clear hb
      refine ⟨.inr ⟨hst.kn.pick [1] (rg 3 4), .inr (hst.kn.pick [] [])⟩, ?_⟩
      refine sAny_one (i := 3) (by kernel_rfl) rfl rfl (op_call henv rfl Tryz.call36 rfl (over_q (x := mkRat (-3) 2) (y := ((3 : Int) : Rat)) (show ZIn _ A9 c10 (qn (mkRat (-3) 2)) from hst.pat (k := 4) rfl) (show ZIn _ B11 d12 (ql (mkRat (-3) 2)) from hst.pat (k := 3) rfl) (show ZIn _ A74 c75 (qn ((3 : Int) : Rat)) from hst.pat (k := 1) rfl) (show ZIn _ B76 d77 (ql ((3 : Int) : Rat)) from hst.pat (k := 0) rfl) qs_w qs_3 (by omega) (by decide)) ?_)
      rintro e w87 ⟨_, rfl, ⟨A81, c82, B83, d84, rfl, hz85, hz86⟩, hb⟩
      refine ⟨_, rfl, ?_⟩
      clear henv a; intro a henv
      replace hst := ((hst.call hb).addZ hz85 ⟨nou_bk rfl, nou_bk rfl, trivial⟩).addZ hz86 ⟨nou_bk rfl, nou_bk rfl, trivial⟩
      clear hz85 hz86
      clear hb
      refine ⟨.inr ⟨hst.kn.pick [1] (rg 5 4), .inr (hst.kn.pick [] [])⟩, ?_⟩
      refine tM (i := 4) [5, 6, 8, 9] rfl (by kernel_rfl) (fun _ _ _ h => h) henv rfl rfl ?_
      clear henv a; intro a henv
      refine tA (i := 5) [8, 9] (v := .agg #[.bool (neg (qn ((mkRat (-3) 2) / ((3 : Int) : Rat)))), .slice A81 (zl (qn ((mkRat (-3) 2) / ((3 : Int) : Rat)))) c82, .bool (neg (ql ((mkRat (-3) 2) / ((3 : Int) : Rat)))), .slice B83 (zl (ql ((mkRat (-3) 2) / ((3 : Int) : Rat)))) d84]) rfl (by kernel_rfl) (fun _ _ _ h => h) henv rfl (fun _ => rn_extract henv rfl rfl) ?_
      clear henv a; intro a henv
      refine tA (i := 6) [9] (v := .int .i64 0) rfl (by kernel_rfl) (fun _ _ _ h => h) henv rfl (fun _ => rn_extract henv rfl rfl) ?_
      clear henv a; intro a henv
      refine sAny_one (i := 8) (by kernel_rfl) rfl rfl (op_store (k := 0) (c' := #[.bool (neg (qn ((mkRat (-3) 2) / ((3 : Int) : Rat)))), .slice A81 (zl (qn ((mkRat (-3) 2) / ((3 : Int) : Rat)))) c82, .bool (neg (ql ((mkRat (-3) 2) / ((3 : Int) : Rat)))), .slice B83 (zl (ql ((mkRat (-3) 2) / ((3 : Int) : Rat)))) d84]) henv hst (ty_anvil_ratio_Rat.size) rfl rfl rfl rfl (by simp) rfl rfl ?_)
      clear henv hst a; intro a w88 henv hst
      refine ⟨.inr ⟨hst.kn.pick [1] (rg 5 4), .inl rfl⟩, ?_⟩
      refine tA (i := 9) [] (v := .int .i64 0) rfl (by kernel_rfl) (fun _ _ _ h => h) henv rfl (fun _ => rn_assign henv rfl) ?_
      clear henv a; intro a henv
      refine sAny_done (by kernel_rfl) ?_ _
      exact th_n ⟨A70, c71, A74, c75, B76, d77, A81, c82, B83, d84, g68, henv.sub ⟨rfl, rfl, rfl, rfl, rfl, rfl, rfl, rfl, rfl, rfl, rfl, trivial⟩, hst.pick [0, 1] [0, 1, 2, 3, 4, 5, 6, 7, 8] (by decide)⟩
  clear henv hst a
  rintro a w89 ⟨A20, c21, A24, c25, B26, d27, A31, c32, B33, d34, g38, henv, hst⟩
  refine wp_seq ?_
  refine region_seq ?_
  revert a
  refine sA (v := .agg #[.bool (neg (qn ((mkRat (-3) 2) / ((3 : Int) : Rat)))), .slice A31 (zl (qn ((mkRat (-3) 2) / ((3 : Int) : Rat)))) c32, .bool (neg (ql ((mkRat (-3) 2) / ((3 : Int) : Rat)))), .slice B33 (zl (ql ((mkRat (-3) 2) / ((3 : Int) : Rat)))) d34]) rfl (fun _ henv => rn_load0 henv ty_anvil_ratio_Rat rfl (hst.oat (k := 0) rfl) rfl) ?_
  refine sA (v := .agg #[.bool (neg (qn (mkRat (-3) 2))), .slice A9 (zl (qn (mkRat (-3) 2))) c10, .bool (neg (ql (mkRat (-3) 2))), .slice B11 (zl (ql (mkRat (-3) 2))) d12]) rfl (fun _ henv => rn_load0 henv ty_anvil_ratio_Rat rfl (hst.oat (k := 1) rfl) rfl) ?_
  intro a henv
  have hq96 : Qs 4 (((mkRat (-3) 2) / ((3 : Int) : Rat)) + (mkRat (-3) 2)) := by have h := (Qs.over qs_w qs_3 (by decide)).add qs_w; exact h
  refine seq_step rfl (op_call henv rfl Tryz.call30 rfl (add_q (x := (mkRat (-3) 2) / ((3 : Int) : Rat)) (y := mkRat (-3) 2) (show ZIn _ A31 c32 (qn ((mkRat (-3) 2) / ((3 : Int) : Rat))) from hst.pat (k := 1) rfl) (show ZIn _ B33 d34 (ql ((mkRat (-3) 2) / ((3 : Int) : Rat))) from hst.pat (k := 0) rfl) (show ZIn _ A9 c10 (qn (mkRat (-3) 2)) from hst.pat (k := 6) rfl) (show ZIn _ B11 d12 (ql (mkRat (-3) 2)) from hst.pat (k := 5) rfl) (Qs.over qs_w qs_3 (by decide)) qs_w (by omega)) ?_)
  rintro e w97 ⟨_, rfl, ⟨A90, c91, B92, d93, rfl, hz94, hz95⟩, hb⟩
  refine ⟨_, rfl, ?_⟩
  clear henv a; intro a henv
  replace hst := ((hst.call hb).addZ hz94 ⟨nou_bk rfl, nou_bk rfl, trivial⟩).addZ hz95 ⟨nou_bk rfl, nou_bk rfl, trivial⟩
  clear hz94 hz95
  clear hb
  refine seq_step rfl (op_alloc (c := #[.bool (neg (qn 0)), .slice none (zl (qn 0)) 0, .bool (neg (ql 0)), .slice none (zl (ql 0)) 0]) henv hst rfl zero_anvil_ratio_Rat qcells ?_)
  clear henv hst a; intro a w99 g98 henv hst
  refine seq_step rfl (op_store (k := 0) (c' := #[.bool (neg (qn (((mkRat (-3) 2) / ((3 : Int) : Rat)) + (mkRat (-3) 2)))), .slice A90 (zl (qn (((mkRat (-3) 2) / ((3 : Int) : Rat)) + (mkRat (-3) 2)))) c91, .bool (neg (ql (((mkRat (-3) 2) / ((3 : Int) : Rat)) + (mkRat (-3) 2)))), .slice B92 (zl (ql (((mkRat (-3) 2) / ((3 : Int) : Rat)) + (mkRat (-3) 2)))) d93]) henv hst (ty_anvil_ratio_Rat.size) rfl rfl rfl rfl (by simp) rfl rfl ?_)
  clear henv hst a; intro a w100 henv hst
  refine wpList_nil ?_
  refine th_n ?_
  refine wp_seq ?_
  refine region_seq ?_
  revert a
  refine mA rfl rfl ?_
  refine sA (v := .bool true) rfl (fun _ henv => rn_bin henv rfl rfl rfl) ?_
  refine mA rfl rfl ?_
  refine gA (v := .int .i64 0) rfl rfl rfl rfl (fun _ henv => rn_move henv rfl) ?_
  refine gA (v := .bool true) rfl rfl rfl rfl (fun _ henv => rn_bin henv rfl rfl rfl) ?_
  refine sA (v := .bool true) rfl (fun _ henv => rn_pick henv rfl rfl) ?_
  refine mA rfl rfl ?_
  refine gA (v := .agg #[.bool (neg (qn (mkRat (-3) 2))), .slice A9 (zl (qn (mkRat (-3) 2))) c10, .bool (neg (ql (mkRat (-3) 2))), .slice B11 (zl (ql (mkRat (-3) 2))) d12]) rfl rfl rfl rfl (fun _ henv => rn_load0 henv ty_anvil_ratio_Rat rfl (hst.oat (k := 2) rfl) rfl) ?_
  intro a henv
  refine seq_g rfl henv rfl rfl (op_call henv rfl Tryz.call23 rfl (text_q (x := mkRat (-3) 2) (show ZIn _ A9 c10 (qn (mkRat (-3) 2)) from hst.pat (k := 8) rfl) (show ZIn _ B11 d12 (ql (mkRat (-3) 2)) from hst.pat (k := 7) rfl) qs_w (by omega)) ?_)
  rintro e w101 ⟨rfl, hb⟩
  refine ⟨_, rfl, ?_⟩
  clear henv a; intro a henv
  replace hst := hst.call hb
  clear hb
  refine seq_g rfl henv rfl rfl (op_val (v := .bool (decide ((textQ (mkRat (-3) 2)) = [45, 51, 47, 50]))) henv rfl (rn_eqls (s := (textQ (mkRat (-3) 2))) (t := [45, 51, 47, 50]) henv rfl rfl) ?_)
  clear henv a; intro a henv
  rw [show (decide ((textQ (mkRat (-3) 2)) = [45, 51, 47, 50])) = true from decide_eq_true (by decide +kernel)] at henv
  revert a
  refine sA (v := .bool true) rfl (fun _ henv => rn_pick henv rfl rfl) ?_
  refine mA rfl rfl ?_
  refine gA (v := .agg #[.bool (neg (qn ((mkRat (-3) 2) / ((3 : Int) : Rat)))), .slice A31 (zl (qn ((mkRat (-3) 2) / ((3 : Int) : Rat)))) c32, .bool (neg (ql ((mkRat (-3) 2) / ((3 : Int) : Rat)))), .slice B33 (zl (ql ((mkRat (-3) 2) / ((3 : Int) : Rat)))) d34]) rfl rfl rfl rfl (fun _ henv => rn_load0 henv ty_anvil_ratio_Rat rfl (hst.oat (k := 1) rfl) rfl) ?_
  intro a henv
  refine seq_g rfl henv rfl rfl (op_call henv rfl Tryz.call23 rfl (text_q (x := (mkRat (-3) 2) / ((3 : Int) : Rat)) (show ZIn _ A31 c32 (qn ((mkRat (-3) 2) / ((3 : Int) : Rat))) from hst.pat (k := 3) rfl) (show ZIn _ B33 d34 (ql ((mkRat (-3) 2) / ((3 : Int) : Rat))) from hst.pat (k := 2) rfl) (Qs.over qs_w qs_3 (by decide)) (by omega)) ?_)
  rintro e w102 ⟨rfl, hb⟩
  refine ⟨_, rfl, ?_⟩
  clear henv a; intro a henv
  replace hst := hst.call hb
  clear hb
  refine seq_g rfl henv rfl rfl (op_val (v := .bool (decide ((textQ ((mkRat (-3) 2) / ((3 : Int) : Rat))) = [45, 49, 47, 50]))) henv rfl (rn_eqls (s := (textQ ((mkRat (-3) 2) / ((3 : Int) : Rat)))) (t := [45, 49, 47, 50]) henv rfl rfl) ?_)
  clear henv a; intro a henv
  rw [show (decide ((textQ ((mkRat (-3) 2) / ((3 : Int) : Rat))) = [45, 49, 47, 50])) = true from decide_eq_true (by decide +kernel)] at henv
  revert a
  refine sA (v := .bool true) rfl (fun _ henv => rn_pick henv rfl rfl) ?_
  refine mA rfl rfl ?_
  refine gA (v := .agg #[.bool (neg (qn (((mkRat (-3) 2) / ((3 : Int) : Rat)) + (mkRat (-3) 2)))), .slice A90 (zl (qn (((mkRat (-3) 2) / ((3 : Int) : Rat)) + (mkRat (-3) 2)))) c91, .bool (neg (ql (((mkRat (-3) 2) / ((3 : Int) : Rat)) + (mkRat (-3) 2)))), .slice B92 (zl (ql (((mkRat (-3) 2) / ((3 : Int) : Rat)) + (mkRat (-3) 2)))) d93]) rfl rfl rfl rfl (fun _ henv => rn_load0 henv ty_anvil_ratio_Rat rfl (hst.oat (k := 0) rfl) rfl) ?_
  intro a henv
  refine seq_g rfl henv rfl rfl (op_call henv rfl Tryz.call23 rfl (text_q (x := ((mkRat (-3) 2) / ((3 : Int) : Rat)) + (mkRat (-3) 2)) (show ZIn _ A90 c91 (qn (((mkRat (-3) 2) / ((3 : Int) : Rat)) + (mkRat (-3) 2))) from hst.pat (k := 1) rfl) (show ZIn _ B92 d93 (ql (((mkRat (-3) 2) / ((3 : Int) : Rat)) + (mkRat (-3) 2))) from hst.pat (k := 0) rfl) hq96 (by omega)) ?_)
  rintro e w103 ⟨rfl, hb⟩
  refine ⟨_, rfl, ?_⟩
  clear henv a; intro a henv
  replace hst := hst.call hb
  clear hb
  refine seq_g rfl henv rfl rfl (op_val (v := .bool (decide ((textQ (((mkRat (-3) 2) / ((3 : Int) : Rat)) + (mkRat (-3) 2))) = [45, 50]))) henv rfl (rn_eqls (s := (textQ (((mkRat (-3) 2) / ((3 : Int) : Rat)) + (mkRat (-3) 2)))) (t := [45, 50]) henv rfl rfl) ?_)
  clear henv a; intro a henv
  rw [show (decide ((textQ (((mkRat (-3) 2) / ((3 : Int) : Rat)) + (mkRat (-3) 2))) = [45, 50])) = true from decide_eq_true (by decide +kernel)] at henv
  revert a
  refine sA (v := .bool true) rfl (fun _ henv => rn_pick henv rfl rfl) ?_
  refine mA rfl rfl ?_
  refine gA (v := .agg #[.bool (neg (qn (((mkRat (-3) 2) / ((3 : Int) : Rat)) + (mkRat (-3) 2)))), .slice A90 (zl (qn (((mkRat (-3) 2) / ((3 : Int) : Rat)) + (mkRat (-3) 2)))) c91, .bool (neg (ql (((mkRat (-3) 2) / ((3 : Int) : Rat)) + (mkRat (-3) 2)))), .slice B92 (zl (ql (((mkRat (-3) 2) / ((3 : Int) : Rat)) + (mkRat (-3) 2)))) d93]) rfl rfl rfl rfl (fun _ henv => rn_load0 henv ty_anvil_ratio_Rat rfl (hst.oat (k := 0) rfl) rfl) ?_
  intro a henv
  refine seq_g rfl henv rfl rfl (op_call henv rfl Tryz.call17 rfl (whole_q (x := ((mkRat (-3) 2) / ((3 : Int) : Rat)) + (mkRat (-3) 2)) (show ZIn _ A90 c91 (qn (((mkRat (-3) 2) / ((3 : Int) : Rat)) + (mkRat (-3) 2))) from hst.pat (k := 1) rfl) (show ZIn _ B92 d93 (ql (((mkRat (-3) 2) / ((3 : Int) : Rat)) + (mkRat (-3) 2))) from hst.pat (k := 0) rfl)) ?_)
  rintro e w104 ⟨rfl, hb⟩
  refine ⟨_, rfl, ?_⟩
  clear henv a; intro a henv
  replace hst := hst.call hb
  clear hb
  rw [show (decide (ql (((mkRat (-3) 2) / ((3 : Int) : Rat)) + (mkRat (-3) 2)) = 0)) = true from decide_eq_true (by decide +kernel)] at henv
  revert a
  refine sA (v := .bool true) rfl (fun _ henv => rn_pick henv rfl rfl) ?_
  refine mA rfl rfl ?_
  refine gA (v := .agg #[.bool (neg (qn (((mkRat (-3) 2) / ((3 : Int) : Rat)) + (mkRat (-3) 2)))), .slice A90 (zl (qn (((mkRat (-3) 2) / ((3 : Int) : Rat)) + (mkRat (-3) 2)))) c91, .bool (neg (ql (((mkRat (-3) 2) / ((3 : Int) : Rat)) + (mkRat (-3) 2)))), .slice B92 (zl (ql (((mkRat (-3) 2) / ((3 : Int) : Rat)) + (mkRat (-3) 2)))) d93]) rfl rfl rfl rfl (fun _ henv => rn_load0 henv ty_anvil_ratio_Rat rfl (hst.oat (k := 0) rfl) rfl) ?_
  intro a henv
  have hs108 := hq96.d
  refine seq_g rfl henv rfl rfl (op_call henv rfl Tryz.call39 rfl (den_q (x := ((mkRat (-3) 2) / ((3 : Int) : Rat)) + (mkRat (-3) 2)) (show ZIn _ A90 c91 (qn (((mkRat (-3) 2) / ((3 : Int) : Rat)) + (mkRat (-3) 2))) from hst.pat (k := 1) rfl) (show ZIn _ B92 d93 (ql (((mkRat (-3) 2) / ((3 : Int) : Rat)) + (mkRat (-3) 2))) from hst.pat (k := 0) rfl) hq96 (by omega)) ?_)
  rintro e w109 ⟨_, rfl, ⟨A105, c106, rfl, hz107⟩, hb⟩
  refine ⟨_, rfl, ?_⟩
  clear henv a; intro a henv
  replace hst := (hst.call hb).addZ hz107 ⟨nou_bk rfl, nou_bk rfl, nou_bk rfl, trivial⟩
  clear hz107
  clear hb
  refine seq_g rfl henv rfl rfl (op_call henv rfl Tryz.call20 rfl (text_z (z := (qd (((mkRat (-3) 2) / ((3 : Int) : Rat)) + (mkRat (-3) 2)))) (show ZIn _ A105 c106 (qd (((mkRat (-3) 2) / ((3 : Int) : Rat)) + (mkRat (-3) 2))) from hst.pat (k := 0) rfl) (by omega)) ?_)
  rintro e w110 ⟨rfl, hb⟩
  refine ⟨_, rfl, ?_⟩
  clear henv a; intro a henv
  replace hst := hst.call hb
  clear hb
  refine seq_g rfl henv rfl rfl (op_val (v := .bool (decide ((textZ (qd (((mkRat (-3) 2) / ((3 : Int) : Rat)) + (mkRat (-3) 2)))) = [49]))) henv rfl (rn_eqls (s := (textZ (qd (((mkRat (-3) 2) / ((3 : Int) : Rat)) + (mkRat (-3) 2))))) (t := [49]) henv rfl rfl) ?_)
  clear henv a; intro a henv
  rw [show (decide ((textZ (qd (((mkRat (-3) 2) / ((3 : Int) : Rat)) + (mkRat (-3) 2)))) = [49])) = true from decide_eq_true (by decide +kernel)] at henv
  revert a
  refine sA (v := .bool true) rfl (fun _ henv => rn_pick henv rfl rfl) ?_
  refine mA rfl rfl ?_
  refine gA (v := .agg #[.bool (neg (qn (mkRat (-3) 2))), .slice A9 (zl (qn (mkRat (-3) 2))) c10, .bool (neg (ql (mkRat (-3) 2))), .slice B11 (zl (ql (mkRat (-3) 2))) d12]) rfl rfl rfl rfl (fun _ henv => rn_load0 henv ty_anvil_ratio_Rat rfl (hst.oat (k := 2) rfl) rfl) ?_
  intro a henv
  have hs114 : zl (mkRat (-3) 2).floor ≤ 1 := floor_sz qs_w
  refine seq_g rfl henv rfl rfl (op_call henv rfl Tryz.call19 rfl (floor_q (x := mkRat (-3) 2) (show ZIn _ A9 c10 (qn (mkRat (-3) 2)) from hst.pat (k := 9) rfl) (show ZIn _ B11 d12 (ql (mkRat (-3) 2)) from hst.pat (k := 8) rfl) qs_w (by omega)) ?_)
  rintro e w115 ⟨_, rfl, ⟨A111, c112, rfl, hz113⟩, hb⟩
  refine ⟨_, rfl, ?_⟩
  clear henv a; intro a henv
  replace hst := (hst.call hb).addZ hz113 ⟨nou_bk rfl, nou_bk rfl, nou_bk rfl, trivial⟩
  clear hz113
  clear hb
  refine seq_g rfl henv rfl rfl (op_call henv rfl Tryz.call20 rfl (text_z (z := (mkRat (-3) 2).floor) (show ZIn _ A111 c112 ((mkRat (-3) 2).floor) from hst.pat (k := 0) rfl) (by omega)) ?_)
  rintro e w116 ⟨rfl, hb⟩
  refine ⟨_, rfl, ?_⟩
  clear henv a; intro a henv
  replace hst := hst.call hb
  clear hb
  refine seq_g rfl henv rfl rfl (op_val (v := .bool (decide ((textZ ((mkRat (-3) 2).floor)) = [45, 50]))) henv rfl (rn_eqls (s := (textZ ((mkRat (-3) 2).floor))) (t := [45, 50]) henv rfl rfl) ?_)
  clear henv a; intro a henv
  rw [show (decide ((textZ ((mkRat (-3) 2).floor)) = [45, 50])) = true from decide_eq_true (by decide +kernel)] at henv
  revert a
  refine sA (v := .bool true) rfl (fun _ henv => rn_pick henv rfl rfl) ?_
  refine aA rfl rfl ?_
  intro a henv
  refine wpList_nil ?_
  refine th_n ?_
  refine wp_ret ?_
  refine leave henv (res1 Tryz.results5 (RV.tmp henv rfl)) ?_
  exact ⟨rfl, hst.below⟩
set_option maxRecDepth 100000 in
set_option maxHeartbeats 2000000 in
theorem numbers_ok {s t : List UInt8} {z y ps qs bs pt qt bt : Int} {w0 : World} (hs : RdAs s z ps qs bs) (ht : RdAs t y pt qt bt) (u1 : bs < 0) (u2 : bt < 0) :
    Calls Tryz.prog 7 #[.agg #[.string ⟨s.toArray⟩, .string ⟨t.toArray⟩]] w0 fun e w' => ∃ v1 v2 u1 u2, e = .returned (.tuple #[v1, v2, u1, u2, .bool true]) ∧ ZAt w' v1 z ∧ ZAt w' v2 y ∧ RAt w' u1 z ∧ RAt w' u2 y ∧ Below w0.heap.size w0 w' := by
  refine enter Tryz.func7 rfl Tryz.ntmps7 rfl ?_
  intro a henv hst
  refine wp_seq ?_
  refine region_seq ?_
  refine seq_step rfl (op_box (c := #[.string ⟨s.toArray⟩, .string ⟨t.toArray⟩]) henv hst rfl rfl rfl ?_)
  clear henv hst a; intro a w2 g1 henv hst
  refine seq_step rfl (op_alloc (c := #[.bool (neg 0), .slice none (zl 0) 0]) henv hst rfl zero_anvil_integer_Int zcells ?_)
  clear henv hst a; intro a w4 g3 henv hst
  refine seq_step rfl (op_alloc (c := #[.bool (neg 0), .slice none (zl 0) 0]) henv hst rfl zero_anvil_integer_Int zcells ?_)
  clear henv hst a; intro a w6 g5 henv hst
  refine seq_step rfl (op_alloc (c := #[.bool (neg 0), .slice none (dl 0) 0]) henv hst rfl zero_anvil_anvilref02_Int rcells ?_)
  clear henv hst a; intro a w8 g7 henv hst
  refine seq_step rfl (op_alloc (c := #[.bool (neg 0), .slice none (dl 0) 0]) henv hst rfl zero_anvil_anvilref02_Int rcells ?_)
  clear henv hst a; intro a w10 g9 henv hst
  refine sv (v := .bool false) henv rfl (rn_assign henv rfl) ?_
  clear henv a; intro a henv
  refine wpList_nil ?_
  refine th_n ?_
  refine wp_seq ?_
  refine region_seq ?_
  revert a
  refine sA (v := .pointer (some ⟨g1, 0, none⟩)) rfl (fun _ henv => rn_fieldAddr henv fd_anvil_anvillaw03_Frac_0 (ty_string.size) (by decide) rfl) ?_
  refine sA (v := .string ⟨s.toArray⟩) rfl (fun _ henv => rn_load1 henv ty_string rfl (hst.oat (k := 4) rfl) rfl) ?_
  intro a henv
  refine seq_step rfl (op_call henv rfl Tryz.call42 rfl (hs _).2 ?_)
  rintro e w14 ⟨_, rfl, ⟨A11, c12, rfl, hz13⟩, hb⟩
  refine ⟨_, rfl, ?_⟩
  clear henv a; intro a henv
  replace hst := (hst.call hb).addR hz13 ⟨nou_bk rfl, nou_bk rfl, nou_bk rfl, nou_bk rfl, nou_bk rfl, trivial⟩
  clear hz13
  clear hb
  revert a
  refine mA rfl rfl ?_
  refine sA (v := .agg #[.bool (neg z), .slice A11 (dl z) c12]) rfl (fun _ henv => rn_extract henv rfl rfl) ?_
  refine sA (v := .int .i64 bs) rfl (fun _ henv => rn_extract henv rfl rfl) ?_
  intro a henv
  refine seq_step rfl (op_alloc (c := #[.bool (neg 0), .slice none (dl 0) 0]) henv hst rfl zero_anvil_anvilref02_Int rcells ?_)
  clear henv hst a; intro a w16 g15 henv hst
  refine seq_step rfl (op_store (k := 0) (c' := #[.bool (neg z), .slice A11 (dl z) c12]) henv hst (ty_anvil_anvilref02_Int.size) rfl rfl rfl rfl (by simp) rfl rfl ?_)
  clear henv hst a; intro a w17 henv hst
  refine sv (v := .int .i64 bs) henv rfl (rn_assign henv rfl) ?_
  clear henv a; intro a henv
  refine wpList_nil ?_
  refine th_n ?_
  refine wp_seq ?_
  refine region_seq ?_
  revert a
  refine sA (v := .pointer (some ⟨g1, 1, none⟩)) rfl (fun _ henv => rn_fieldAddr henv fd_anvil_anvillaw03_Frac_1 (ty_string.size) (by decide) rfl) ?_
  refine sA (v := .string ⟨t.toArray⟩) rfl (fun _ henv => rn_load1 henv ty_string rfl (hst.oat (k := 5) rfl) rfl) ?_
  intro a henv
  refine seq_step rfl (op_call henv rfl Tryz.call42 rfl (ht _).2 ?_)
  rintro e w21 ⟨_, rfl, ⟨A18, c19, rfl, hz20⟩, hb⟩
  refine ⟨_, rfl, ?_⟩
  clear henv a; intro a henv
  replace hst := (hst.call hb).addR hz20 ⟨nou_bk rfl, nou_bk rfl, nou_bk rfl, nou_bk rfl, nou_bk rfl, nou_bk rfl, trivial⟩
  clear hz20
  clear hb
  revert a
  refine mA rfl rfl ?_
  refine sA (v := .agg #[.bool (neg y), .slice A18 (dl y) c19]) rfl (fun _ henv => rn_extract henv rfl rfl) ?_
  refine sA (v := .int .i64 bt) rfl (fun _ henv => rn_extract henv rfl rfl) ?_
  intro a henv
  refine seq_step rfl (op_alloc (c := #[.bool (neg 0), .slice none (dl 0) 0]) henv hst rfl zero_anvil_anvilref02_Int rcells ?_)
  clear henv hst a; intro a w23 g22 henv hst
  refine seq_step rfl (op_store (k := 0) (c' := #[.bool (neg y), .slice A18 (dl y) c19]) henv hst (ty_anvil_anvilref02_Int.size) rfl rfl rfl rfl (by simp) rfl rfl ?_)
  clear henv hst a; intro a w24 henv hst
  refine sv (v := .int .i64 bt) henv rfl (rn_assign henv rfl) ?_
  clear henv a; intro a henv
  refine wpList_nil ?_
  refine th_n ?_
  refine wp_seq ?_
  refine wp_seq ?_
  refine region_seq ?_
  revert a
  refine mA rfl rfl ?_
  refine sA (v := .bool (decide (bs ≥ (0 : Int)))) rfl (fun _ henv => rn_bin henv rfl rfl rfl) ?_
  intro a henv
  rw [show (decide (bs ≥ (0 : Int))) = false from decide_eq_false (by omega)] at henv
  revert a
  refine mA rfl rfl ?_
  refine gA (v := .int .i64 bt) rfl rfl rfl rfl (fun _ henv => rn_move henv rfl) ?_
  refine gA (v := .bool (decide (bt ≥ (0 : Int)))) rfl rfl rfl rfl (fun _ henv => rn_bin henv rfl rfl rfl) ?_
  intro a henv
  rw [show (decide (bt ≥ (0 : Int))) = false from decide_eq_false (by omega)] at henv
  refine sv (v := .bool false) henv rfl (rn_pick henv rfl rfl) ?_
  clear henv a; intro a henv
  refine wpList_nil ?_
  refine th_n ?_
  refine if_f henv rfl (rfl) ?_
  refine wp_skip ?_
  refine th_n ?_
  refine wp_seq ?_
  refine region_seq ?_
  revert a
  refine sA (v := .pointer (some ⟨g1, 0, none⟩)) rfl (fun _ henv => rn_fieldAddr henv fd_anvil_anvillaw03_Frac_0 (ty_string.size) (by decide) rfl) ?_
  refine sA (v := .string ⟨s.toArray⟩) rfl (fun _ henv => rn_load1 henv ty_string rfl (hst.oat (k := 6) rfl) rfl) ?_
  intro a henv
  refine seq_step rfl (op_call henv rfl Tryz.call43 rfl (hs _).1 ?_)
  rintro e w28 ⟨_, rfl, ⟨A25, c26, rfl, hz27⟩, hb⟩
  refine ⟨_, rfl, ?_⟩
  clear henv a; intro a henv
  replace hst := (hst.call hb).addZ hz27 ⟨nou_bk rfl, nou_bk rfl, nou_bk rfl, nou_bk rfl, nou_bk rfl, nou_bk rfl, nou_bk rfl, trivial⟩
  clear hz27
  clear hb
  revert a
  refine mA rfl rfl ?_
  refine sA (v := .agg #[.bool (neg z), .slice A25 (zl z) c26]) rfl (fun _ henv => rn_extract henv rfl rfl) ?_
  refine sA (v := .agg #[.int .i64 ps, .int .i64 qs]) rfl (fun _ henv => rn_extract henv rfl rfl) ?_
  intro a henv
  refine seq_step rfl (op_alloc (c := #[.bool (neg 0), .slice none (zl 0) 0]) henv hst rfl zero_anvil_integer_Int zcells ?_)
  clear henv hst a; intro a w30 g29 henv hst
  refine seq_step rfl (op_alloc (c := #[.int .i64 0, .int .i64 0]) henv hst rfl zero_anvil_api_Spot rfl ?_)
  clear henv hst a; intro a w32 g31 henv hst
  refine seq_step rfl (op_store (k := 1) (c' := #[.bool (neg z), .slice A25 (zl z) c26]) henv hst (ty_anvil_integer_Int.size) rfl rfl rfl rfl (by simp) rfl rfl ?_)
  clear henv hst a; intro a w33 henv hst
  refine seq_step rfl (op_store (k := 0) (c' := #[.int .i64 ps, .int .i64 qs]) henv hst (ty_anvil_api_Spot.size) rfl rfl rfl rfl (by simp) rfl rfl ?_)
  clear henv hst a; intro a w34 henv hst
  refine wpList_nil ?_
  refine th_n ?_
  refine wp_seq ?_
  refine region_seq ?_
  revert a
  refine sA (v := .pointer (some ⟨g1, 1, none⟩)) rfl (fun _ henv => rn_fieldAddr henv fd_anvil_anvillaw03_Frac_1 (ty_string.size) (by decide) rfl) ?_
  refine sA (v := .string ⟨t.toArray⟩) rfl (fun _ henv => rn_load1 henv ty_string rfl (hst.oat (k := 8) rfl) rfl) ?_
  intro a henv
  refine seq_step rfl (op_call henv rfl Tryz.call43 rfl (ht _).1 ?_)
  rintro e w38 ⟨_, rfl, ⟨A35, c36, rfl, hz37⟩, hb⟩
  refine ⟨_, rfl, ?_⟩
  clear henv a; intro a henv
  replace hst := (hst.call hb).addZ hz37 ⟨nou_bk rfl, nou_bk rfl, nou_bk rfl, nou_bk rfl, nou_bk rfl, nou_bk rfl, nou_bk rfl, nou_bk rfl, nou_bk rfl, trivial⟩
  clear hz37
  clear hb
  revert a
  refine mA rfl rfl ?_
  refine sA (v := .agg #[.bool (neg y), .slice A35 (zl y) c36]) rfl (fun _ henv => rn_extract henv rfl rfl) ?_
  refine sA (v := .agg #[.int .i64 pt, .int .i64 qt]) rfl (fun _ henv => rn_extract henv rfl rfl) ?_
  intro a henv
  refine seq_step rfl (op_alloc (c := #[.bool (neg 0), .slice none (zl 0) 0]) henv hst rfl zero_anvil_integer_Int zcells ?_)
  clear henv hst a; intro a w40 g39 henv hst
  refine seq_step rfl (op_alloc (c := #[.int .i64 0, .int .i64 0]) henv hst rfl zero_anvil_api_Spot rfl ?_)
  clear henv hst a; intro a w42 g41 henv hst
  refine seq_step rfl (op_store (k := 1) (c' := #[.bool (neg y), .slice A35 (zl y) c36]) henv hst (ty_anvil_integer_Int.size) rfl rfl rfl rfl (by simp) rfl rfl ?_)
  clear henv hst a; intro a w43 henv hst
  refine seq_step rfl (op_store (k := 0) (c' := #[.int .i64 pt, .int .i64 qt]) henv hst (ty_anvil_api_Spot.size) rfl rfl rfl rfl (by simp) rfl rfl ?_)
  clear henv hst a; intro a w44 henv hst
  refine wpList_nil ?_
  refine th_n ?_
  refine wp_seq ?_
  refine region_any (n := 9) (Sk [bk g41 #[.int .i64 pt, .int .i64 qt] 71, bk g39 #[.bool (neg y), .slice A35 (zl y) c36] 28, bk g31 #[.int .i64 ps, .int .i64 qs] 71, bk g29 #[.bool (neg z), .slice A25 (zl z) c26] 28, bk g22 #[.bool (neg y), .slice A18 (dl y) c19] 30, bk g15 #[.bool (neg z), .slice A11 (dl z) c12] 30, bk g1 #[.string ⟨s.toArray⟩, .string ⟨t.toArray⟩] 23] [pfZ A35 c36 y, pfZ A25 c26 z, pfR A18 c19 y, pfR A11 c12 z] [4, 5, 6, 7] []) mixed rfl henv hst ?_
  clear henv hst; intro w45 henv hst
  refine tL (i := 0) 3 3 (rg 4 5) rfl (by kernel_rfl) (fun _ _ _ h => h) henv rfl ty_anvil_integer_Int rfl hst rfl rfl rfl ?_
  clear henv a; intro a henv
  refine tL (i := 1) 1 1 (rg 5 4) rfl (by kernel_rfl) (fun _ _ _ h => h) henv rfl ty_anvil_integer_Int rfl hst rfl rfl rfl ?_
  clear henv a; intro a henv
  refine tL (i := 2) 5 5 [6, 7, 8] rfl (by kernel_rfl) (fun _ _ _ h => h) henv rfl ty_anvil_anvilref02_Int rfl hst rfl rfl rfl ?_
  clear henv a; intro a henv
  refine tL (i := 3) 4 4 [7, 8] rfl (by kernel_rfl) (fun _ _ _ h => h) henv rfl ty_anvil_anvilref02_Int rfl hst rfl rfl rfl ?_
  clear henv a; intro a henv
  refine sAny_one (i := 4) (by kernel_rfl) rfl rfl (op_store (k := 9) (c' := #[.bool (neg z), .slice A25 (zl z) c26]) henv hst (ty_anvil_integer_Int.size) rfl rfl rfl rfl (by simp) rfl rfl ?_)
  clear henv hst a; intro a w46 henv hst
  refine ⟨.inr ⟨hst.kn.pick [0, 1, 2, 3, 4, 5, 10] (rg 0 4), .inl rfl⟩, ?_⟩
  refine sAny_one (i := 5) (by kernel_rfl) rfl rfl (op_store (k := 8) (c' := #[.bool (neg y), .slice A35 (zl y) c36]) henv hst (ty_anvil_integer_Int.size) rfl rfl rfl rfl (by simp) rfl rfl ?_)
  clear henv hst a; intro a w47 henv hst
  refine ⟨.inr ⟨hst.kn.pick [0, 1, 2, 3, 4, 5, 10] (rg 0 4), .inl rfl⟩, ?_⟩
  refine sAny_one (i := 6) (by kernel_rfl) rfl rfl (op_store (k := 7) (c' := #[.bool (neg z), .slice A11 (dl z) c12]) henv hst (ty_anvil_anvilref02_Int.size) rfl rfl rfl rfl (by simp) rfl rfl ?_)
  clear henv hst a; intro a w48 henv hst
  refine ⟨.inr ⟨hst.kn.pick [0, 1, 2, 3, 4, 5, 10] (rg 0 4), .inl rfl⟩, ?_⟩
  refine sAny_one (i := 7) (by kernel_rfl) rfl rfl (op_store (k := 6) (c' := #[.bool (neg y), .slice A18 (dl y) c19]) henv hst (ty_anvil_anvilref02_Int.size) rfl rfl rfl rfl (by simp) rfl rfl ?_)
  clear henv hst a; intro a w49 henv hst
  refine ⟨.inr ⟨hst.kn.pick [0, 1, 2, 3, 4, 5, 10] (rg 0 4), .inl rfl⟩, ?_⟩
  refine tA (i := 8) [] (v := .bool true) rfl (by kernel_rfl) (fun _ _ _ h => h) henv rfl (fun _ => rn_assign henv rfl) ?_
  clear henv a; intro a henv
  refine sAny_done (by kernel_rfl) ?_ _
  refine th_n ?_
  refine wp_ret ?_
  refine leave henv (res5 Tryz.results7 (RV.cell henv ty_anvil_integer_Int rfl (hst.oat (k := 9) rfl) rfl) (RV.cell henv ty_anvil_integer_Int rfl (hst.oat (k := 8) rfl) rfl) (RV.cell henv ty_anvil_anvilref02_Int rfl (hst.oat (k := 7) rfl) rfl) (RV.cell henv ty_anvil_anvilref02_Int rfl (hst.oat (k := 6) rfl) rfl) (RV.tmp henv rfl)) ?_
  exact ⟨_, _, _, _, rfl, z_at rfl (hst.pat (k := 1) rfl), z_at rfl (hst.pat (k := 0) rfl), r_at rfl (hst.pat (k := 3) rfl), r_at rfl (hst.pat (k := 2) rfl), hst.below⟩
set_option maxRecDepth 100000 in
set_option maxHeartbeats 2000000 in
theorem numbers_no1 {s t : List UInt8} {z y ps qs bs pt qt bt : Int} {w0 : World} (hs : RdAs s z ps qs bs) (ht : RdAs t y pt qt bt) (u1 : 0 ≤ bs) :
    Calls Tryz.prog 7 #[.agg #[.string ⟨s.toArray⟩, .string ⟨t.toArray⟩]] w0 fun e w' => ∃ v1 v2 u1 u2, e = .returned (.tuple #[v1, v2, u1, u2, .bool false]) ∧ ZAt w' v1 0 ∧ ZAt w' v2 0 ∧ RAt w' u1 z ∧ RAt w' u2 y ∧ Below w0.heap.size w0 w' := by
  refine enter Tryz.func7 rfl Tryz.ntmps7 rfl ?_
  intro a henv hst
  replace hst := hst.addZ (zin_none _) trivial
  refine wp_seq ?_
  refine region_seq ?_
  refine seq_step rfl (op_box (c := #[.string ⟨s.toArray⟩, .string ⟨t.toArray⟩]) henv hst rfl rfl rfl ?_)
  clear henv hst a; intro a w2 g1 henv hst
  refine seq_step rfl (op_alloc (c := #[.bool (neg 0), .slice none (zl 0) 0]) henv hst rfl zero_anvil_integer_Int zcells ?_)
  clear henv hst a; intro a w4 g3 henv hst
  refine seq_step rfl (op_alloc (c := #[.bool (neg 0), .slice none (zl 0) 0]) henv hst rfl zero_anvil_integer_Int zcells ?_)
  clear henv hst a; intro a w6 g5 henv hst
  refine seq_step rfl (op_alloc (c := #[.bool (neg 0), .slice none (dl 0) 0]) henv hst rfl zero_anvil_anvilref02_Int rcells ?_)
  clear henv hst a; intro a w8 g7 henv hst
  refine seq_step rfl (op_alloc (c := #[.bool (neg 0), .slice none (dl 0) 0]) henv hst rfl zero_anvil_anvilref02_Int rcells ?_)
  clear henv hst a; intro a w10 g9 henv hst
  refine sv (v := .bool false) henv rfl (rn_assign henv rfl) ?_
  clear henv a; intro a henv
  refine wpList_nil ?_
  refine th_n ?_
  refine wp_seq ?_
  refine region_seq ?_
  revert a
  refine sA (v := .pointer (some ⟨g1, 0, none⟩)) rfl (fun _ henv => rn_fieldAddr henv fd_anvil_anvillaw03_Frac_0 (ty_string.size) (by decide) rfl) ?_
  refine sA (v := .string ⟨s.toArray⟩) rfl (fun _ henv => rn_load1 henv ty_string rfl (hst.oat (k := 4) rfl) rfl) ?_
  intro a henv
  refine seq_step rfl (op_call henv rfl Tryz.call42 rfl (hs _).2 ?_)
  rintro e w14 ⟨_, rfl, ⟨A11, c12, rfl, hz13⟩, hb⟩
  refine ⟨_, rfl, ?_⟩
  clear henv a; intro a henv
  replace hst := (hst.call hb).addR hz13 ⟨nou_bk rfl, nou_bk rfl, nou_bk rfl, nou_bk rfl, nou_bk rfl, trivial⟩
  clear hz13
  clear hb
  revert a
  refine mA rfl rfl ?_
  refine sA (v := .agg #[.bool (neg z), .slice A11 (dl z) c12]) rfl (fun _ henv => rn_extract henv rfl rfl) ?_
  refine sA (v := .int .i64 bs) rfl (fun _ henv => rn_extract henv rfl rfl) ?_
  intro a henv
  refine seq_step rfl (op_alloc (c := #[.bool (neg 0), .slice none (dl 0) 0]) henv hst rfl zero_anvil_anvilref02_Int rcells ?_)
  clear henv hst a; intro a w16 g15 henv hst
  refine seq_step rfl (op_store (k := 0) (c' := #[.bool (neg z), .slice A11 (dl z) c12]) henv hst (ty_anvil_anvilref02_Int.size) rfl rfl rfl rfl (by simp) rfl rfl ?_)
  clear henv hst a; intro a w17 henv hst
  refine sv (v := .int .i64 bs) henv rfl (rn_assign henv rfl) ?_
  clear henv a; intro a henv
  refine wpList_nil ?_
  refine th_n ?_
  refine wp_seq ?_
  refine region_seq ?_
  revert a
  refine sA (v := .pointer (some ⟨g1, 1, none⟩)) rfl (fun _ henv => rn_fieldAddr henv fd_anvil_anvillaw03_Frac_1 (ty_string.size) (by decide) rfl) ?_
  refine sA (v := .string ⟨t.toArray⟩) rfl (fun _ henv => rn_load1 henv ty_string rfl (hst.oat (k := 5) rfl) rfl) ?_
  intro a henv
  refine seq_step rfl (op_call henv rfl Tryz.call42 rfl (ht _).2 ?_)
  rintro e w21 ⟨_, rfl, ⟨A18, c19, rfl, hz20⟩, hb⟩
  refine ⟨_, rfl, ?_⟩
  clear henv a; intro a henv
  replace hst := (hst.call hb).addR hz20 ⟨nou_bk rfl, nou_bk rfl, nou_bk rfl, nou_bk rfl, nou_bk rfl, nou_bk rfl, trivial⟩
  clear hz20
  clear hb
  revert a
  refine mA rfl rfl ?_
  refine sA (v := .agg #[.bool (neg y), .slice A18 (dl y) c19]) rfl (fun _ henv => rn_extract henv rfl rfl) ?_
  refine sA (v := .int .i64 bt) rfl (fun _ henv => rn_extract henv rfl rfl) ?_
  intro a henv
  refine seq_step rfl (op_alloc (c := #[.bool (neg 0), .slice none (dl 0) 0]) henv hst rfl zero_anvil_anvilref02_Int rcells ?_)
  clear henv hst a; intro a w23 g22 henv hst
  refine seq_step rfl (op_store (k := 0) (c' := #[.bool (neg y), .slice A18 (dl y) c19]) henv hst (ty_anvil_anvilref02_Int.size) rfl rfl rfl rfl (by simp) rfl rfl ?_)
  clear henv hst a; intro a w24 henv hst
  refine sv (v := .int .i64 bt) henv rfl (rn_assign henv rfl) ?_
  clear henv a; intro a henv
  refine wpList_nil ?_
  refine th_n ?_
  refine wp_seq ?_
  refine wp_seq ?_
  refine region_seq ?_
  revert a
  refine mA rfl rfl ?_
  refine sA (v := .bool (decide (bs ≥ (0 : Int)))) rfl (fun _ henv => rn_bin henv rfl rfl rfl) ?_
  intro a henv
  rw [show (decide (bs ≥ (0 : Int))) = true from decide_eq_true (by omega)] at henv
  revert a
  refine mA rfl rfl ?_
  refine kA rfl rfl rfl rfl rfl ?_
  refine kA rfl rfl rfl rfl rfl ?_
  refine sA (v := .bool true) rfl (fun _ henv => rn_pick henv rfl rfl) ?_
  intro a henv
  refine wpList_nil ?_
  refine th_n ?_
  refine if_t henv rfl (rfl) ?_
  refine wp_seq ?_
  refine region_any (n := 9) (Sk [bk g22 #[.bool (neg y), .slice A18 (dl y) c19] 30, bk g15 #[.bool (neg z), .slice A11 (dl z) c12] 30, bk g1 #[.string ⟨s.toArray⟩, .string ⟨t.toArray⟩] 23] [pfR A18 c19 y, pfR A11 c12 z, pfZ none 0 0] [4, 5, 6, 7] []) mixed rfl henv hst ?_
  clear henv hst; intro w25 henv hst
  refine tA (i := 0) (rg 4 5) (v := .agg #[.bool (neg 0), .slice none (zl 0) 0]) rfl (by kernel_rfl) (fun _ _ _ h => h) henv rfl (fun _ => rn_zint Tryz.underlying28 zero_anvil_integer_Int (by intro f hf; simp at hf; rcases hf with rfl | rfl <;> exact ⟨_, rfl⟩)) ?_
  clear henv a; intro a henv
  refine tA (i := 1) (rg 5 4) (v := .agg #[.bool (neg 0), .slice none (zl 0) 0]) rfl (by kernel_rfl) (fun _ _ _ h => h) henv rfl (fun _ => rn_zint Tryz.underlying28 zero_anvil_integer_Int (by intro f hf; simp at hf; rcases hf with rfl | rfl <;> exact ⟨_, rfl⟩)) ?_
  clear henv a; intro a henv
  refine tL (i := 2) 1 1 [6, 7, 8] rfl (by kernel_rfl) (fun _ _ _ h => h) henv rfl ty_anvil_anvilref02_Int rfl hst rfl rfl rfl ?_
  clear henv a; intro a henv
  refine tL (i := 3) 0 0 [7, 8] rfl (by kernel_rfl) (fun _ _ _ h => h) henv rfl ty_anvil_anvilref02_Int rfl hst rfl rfl rfl ?_
  clear henv a; intro a henv
  refine sAny_one (i := 4) (by kernel_rfl) rfl rfl (op_store (k := 5) (c' := #[.bool (neg 0), .slice none (zl 0) 0]) henv hst (ty_anvil_integer_Int.size) rfl rfl rfl rfl (by simp) rfl rfl ?_)
  clear henv hst a; intro a w26 henv hst
  refine ⟨.inr ⟨hst.kn.pick [0, 1, 6] [0, 1, 2], .inl rfl⟩, ?_⟩
  refine sAny_one (i := 5) (by kernel_rfl) rfl rfl (op_store (k := 4) (c' := #[.bool (neg 0), .slice none (zl 0) 0]) henv hst (ty_anvil_integer_Int.size) rfl rfl rfl rfl (by simp) rfl rfl ?_)
  clear henv hst a; intro a w27 henv hst
  refine ⟨.inr ⟨hst.kn.pick [0, 1, 6] [0, 1, 2], .inl rfl⟩, ?_⟩
  refine sAny_one (i := 6) (by kernel_rfl) rfl rfl (op_store (k := 3) (c' := #[.bool (neg z), .slice A11 (dl z) c12]) henv hst (ty_anvil_anvilref02_Int.size) rfl rfl rfl rfl (by simp) rfl rfl ?_)
  clear henv hst a; intro a w28 henv hst
  refine ⟨.inr ⟨hst.kn.pick [0, 1, 6] [0, 1, 2], .inl rfl⟩, ?_⟩
  refine sAny_one (i := 7) (by kernel_rfl) rfl rfl (op_store (k := 2) (c' := #[.bool (neg y), .slice A18 (dl y) c19]) henv hst (ty_anvil_anvilref02_Int.size) rfl rfl rfl rfl (by simp) rfl rfl ?_)
  clear henv hst a; intro a w29 henv hst
  refine ⟨.inr ⟨hst.kn.pick [0, 1, 6] [0, 1, 2], .inl rfl⟩, ?_⟩
  refine tA (i := 8) [] (v := .bool false) rfl (by kernel_rfl) (fun _ _ _ h => h) henv rfl (fun _ => rn_assign henv rfl) ?_
  clear henv a; intro a henv
  refine sAny_done (by kernel_rfl) ?_ _
  refine th_n ?_
  refine wp_ret ?_
  refine th_r ?_
  refine leave henv (res5 Tryz.results7 (RV.cell henv ty_anvil_integer_Int rfl (hst.oat (k := 5) rfl) rfl) (RV.cell henv ty_anvil_integer_Int rfl (hst.oat (k := 4) rfl) rfl) (RV.cell henv ty_anvil_anvilref02_Int rfl (hst.oat (k := 3) rfl) rfl) (RV.cell henv ty_anvil_anvilref02_Int rfl (hst.oat (k := 2) rfl) rfl) (RV.tmp henv rfl)) ?_
  exact ⟨_, _, _, _, rfl, z_at rfl (hst.pat (k := 2) rfl), z_at rfl (hst.pat (k := 2) rfl), r_at rfl (hst.pat (k := 1) rfl), r_at rfl (hst.pat (k := 0) rfl), hst.below⟩
set_option maxRecDepth 100000 in
set_option maxHeartbeats 2000000 in
theorem numbers_no2 {s t : List UInt8} {z y ps qs bs pt qt bt : Int} {w0 : World} (hs : RdAs s z ps qs bs) (ht : RdAs t y pt qt bt) (u1 : bs < 0) (u2 : 0 ≤ bt) :
    Calls Tryz.prog 7 #[.agg #[.string ⟨s.toArray⟩, .string ⟨t.toArray⟩]] w0 fun e w' => ∃ v1 v2 u1 u2, e = .returned (.tuple #[v1, v2, u1, u2, .bool false]) ∧ ZAt w' v1 0 ∧ ZAt w' v2 0 ∧ RAt w' u1 z ∧ RAt w' u2 y ∧ Below w0.heap.size w0 w' := by
  refine enter Tryz.func7 rfl Tryz.ntmps7 rfl ?_
  intro a henv hst
  replace hst := hst.addZ (zin_none _) trivial
  refine wp_seq ?_
  refine region_seq ?_
  refine seq_step rfl (op_box (c := #[.string ⟨s.toArray⟩, .string ⟨t.toArray⟩]) henv hst rfl rfl rfl ?_)
  clear henv hst a; intro a w2 g1 henv hst
  refine seq_step rfl (op_alloc (c := #[.bool (neg 0), .slice none (zl 0) 0]) henv hst rfl zero_anvil_integer_Int zcells ?_)
  clear henv hst a; intro a w4 g3 henv hst
  refine seq_step rfl (op_alloc (c := #[.bool (neg 0), .slice none (zl 0) 0]) henv hst rfl zero_anvil_integer_Int zcells ?_)
  clear henv hst a; intro a w6 g5 henv hst
  refine seq_step rfl (op_alloc (c := #[.bool (neg 0), .slice none (dl 0) 0]) henv hst rfl zero_anvil_anvilref02_Int rcells ?_)
  clear henv hst a; intro a w8 g7 henv hst
  refine seq_step rfl (op_alloc (c := #[.bool (neg 0), .slice none (dl 0) 0]) henv hst rfl zero_anvil_anvilref02_Int rcells ?_)
  clear henv hst a; intro a w10 g9 henv hst
  refine sv (v := .bool false) henv rfl (rn_assign henv rfl) ?_
  clear henv a; intro a henv
  refine wpList_nil ?_
  refine th_n ?_
  refine wp_seq ?_
  refine region_seq ?_
  revert a
  refine sA (v := .pointer (some ⟨g1, 0, none⟩)) rfl (fun _ henv => rn_fieldAddr henv fd_anvil_anvillaw03_Frac_0 (ty_string.size) (by decide) rfl) ?_
  refine sA (v := .string ⟨s.toArray⟩) rfl (fun _ henv => rn_load1 henv ty_string rfl (hst.oat (k := 4) rfl) rfl) ?_
  intro a henv
  refine seq_step rfl (op_call henv rfl Tryz.call42 rfl (hs _).2 ?_)
  rintro e w14 ⟨_, rfl, ⟨A11, c12, rfl, hz13⟩, hb⟩
  refine ⟨_, rfl, ?_⟩
  clear henv a; intro a henv
  replace hst := (hst.call hb).addR hz13 ⟨nou_bk rfl, nou_bk rfl, nou_bk rfl, nou_bk rfl, nou_bk rfl, trivial⟩
  clear hz13
  clear hb
  revert a
  refine mA rfl rfl ?_
  refine sA (v := .agg #[.bool (neg z), .slice A11 (dl z) c12]) rfl (fun _ henv => rn_extract henv rfl rfl) ?_
  refine sA (v := .int .i64 bs) rfl (fun _ henv => rn_extract henv rfl rfl) ?_
  intro a henv
  refine seq_step rfl (op_alloc (c := #[.bool (neg 0), .slice none (dl 0) 0]) henv hst rfl zero_anvil_anvilref02_Int rcells ?_)
  clear henv hst a; intro a w16 g15 henv hst
  refine seq_step rfl (op_store (k := 0) (c' := #[.bool (neg z), .slice A11 (dl z) c12]) henv hst (ty_anvil_anvilref02_Int.size) rfl rfl rfl rfl (by simp) rfl rfl ?_)
  clear henv hst a; intro a w17 henv hst
  refine sv (v := .int .i64 bs) henv rfl (rn_assign henv rfl) ?_
  clear henv a; intro a henv
  refine wpList_nil ?_
  refine th_n ?_
  refine wp_seq ?_
  refine region_seq ?_
  revert a
  refine sA (v := .pointer (some ⟨g1, 1, none⟩)) rfl (fun _ henv => rn_fieldAddr henv fd_anvil_anvillaw03_Frac_1 (ty_string.size) (by decide) rfl) ?_
  refine sA (v := .string ⟨t.toArray⟩) rfl (fun _ henv => rn_load1 henv ty_string rfl (hst.oat (k := 5) rfl) rfl) ?_
  intro a henv
  refine seq_step rfl (op_call henv rfl Tryz.call42 rfl (ht _).2 ?_)
  rintro e w21 ⟨_, rfl, ⟨A18, c19, rfl, hz20⟩, hb⟩
  refine ⟨_, rfl, ?_⟩
  clear henv a; intro a henv
  replace hst := (hst.call hb).addR hz20 ⟨nou_bk rfl, nou_bk rfl, nou_bk rfl, nou_bk rfl, nou_bk rfl, nou_bk rfl, trivial⟩
  clear hz20
  clear hb
  revert a
  refine mA rfl rfl ?_
  refine sA (v := .agg #[.bool (neg y), .slice A18 (dl y) c19]) rfl (fun _ henv => rn_extract henv rfl rfl) ?_
  refine sA (v := .int .i64 bt) rfl (fun _ henv => rn_extract henv rfl rfl) ?_
  intro a henv
  refine seq_step rfl (op_alloc (c := #[.bool (neg 0), .slice none (dl 0) 0]) henv hst rfl zero_anvil_anvilref02_Int rcells ?_)
  clear henv hst a; intro a w23 g22 henv hst
  refine seq_step rfl (op_store (k := 0) (c' := #[.bool (neg y), .slice A18 (dl y) c19]) henv hst (ty_anvil_anvilref02_Int.size) rfl rfl rfl rfl (by simp) rfl rfl ?_)
  clear henv hst a; intro a w24 henv hst
  refine sv (v := .int .i64 bt) henv rfl (rn_assign henv rfl) ?_
  clear henv a; intro a henv
  refine wpList_nil ?_
  refine th_n ?_
  refine wp_seq ?_
  refine wp_seq ?_
  refine region_seq ?_
  revert a
  refine mA rfl rfl ?_
  refine sA (v := .bool (decide (bs ≥ (0 : Int)))) rfl (fun _ henv => rn_bin henv rfl rfl rfl) ?_
  intro a henv
  rw [show (decide (bs ≥ (0 : Int))) = false from decide_eq_false (by omega)] at henv
  revert a
  refine mA rfl rfl ?_
  refine gA (v := .int .i64 bt) rfl rfl rfl rfl (fun _ henv => rn_move henv rfl) ?_
  refine gA (v := .bool (decide (bt ≥ (0 : Int)))) rfl rfl rfl rfl (fun _ henv => rn_bin henv rfl rfl rfl) ?_
  intro a henv
  rw [show (decide (bt ≥ (0 : Int))) = true from decide_eq_true (by omega)] at henv
  refine sv (v := .bool true) henv rfl (rn_pick henv rfl rfl) ?_
  clear henv a; intro a henv
  refine wpList_nil ?_
  refine th_n ?_
  refine if_t henv rfl (rfl) ?_
  refine wp_seq ?_
  refine region_any (n := 9) (Sk [bk g22 #[.bool (neg y), .slice A18 (dl y) c19] 30, bk g15 #[.bool (neg z), .slice A11 (dl z) c12] 30, bk g1 #[.string ⟨s.toArray⟩, .string ⟨t.toArray⟩] 23] [pfR A18 c19 y, pfR A11 c12 z, pfZ none 0 0] [4, 5, 6, 7] []) mixed rfl henv hst ?_
  clear henv hst; intro w25 henv hst
  refine tA (i := 0) (rg 4 5) (v := .agg #[.bool (neg 0), .slice none (zl 0) 0]) rfl (by kernel_rfl) (fun _ _ _ h => h) henv rfl (fun _ => rn_zint Tryz.underlying28 zero_anvil_integer_Int (by intro f hf; simp at hf; rcases hf with rfl | rfl <;> exact ⟨_, rfl⟩)) ?_
  clear henv a; intro a henv
  refine tA (i := 1) (rg 5 4) (v := .agg #[.bool (neg 0), .slice none (zl 0) 0]) rfl (by kernel_rfl) (fun _ _ _ h => h) henv rfl (fun _ => rn_zint Tryz.underlying28 zero_anvil_integer_Int (by intro f hf; simp at hf; rcases hf with rfl | rfl <;> exact ⟨_, rfl⟩)) ?_
  clear henv a; intro a henv
  refine tL (i := 2) 1 1 [6, 7, 8] rfl (by kernel_rfl) (fun _ _ _ h => h) henv rfl ty_anvil_anvilref02_Int rfl hst rfl rfl rfl ?_
  clear henv a; intro a henv
  refine tL (i := 3) 0 0 [7, 8] rfl (by kernel_rfl) (fun _ _ _ h => h) henv rfl ty_anvil_anvilref02_Int rfl hst rfl rfl rfl ?_
  clear henv a; intro a henv
  refine sAny_one (i := 4) (by kernel_rfl) rfl rfl (op_store (k := 5) (c' := #[.bool (neg 0), .slice none (zl 0) 0]) henv hst (ty_anvil_integer_Int.size) rfl rfl rfl rfl (by simp) rfl rfl ?_)
  clear henv hst a; intro a w26 henv hst
  refine ⟨.inr ⟨hst.kn.pick [0, 1, 6] [0, 1, 2], .inl rfl⟩, ?_⟩
  refine sAny_one (i := 5) (by kernel_rfl) rfl rfl (op_store (k := 4) (c' := #[.bool (neg 0), .slice none (zl 0) 0]) henv hst (ty_anvil_integer_Int.size) rfl rfl rfl rfl (by simp) rfl rfl ?_)
  clear henv hst a; intro a w27 henv hst
  refine ⟨.inr ⟨hst.kn.pick [0, 1, 6] [0, 1, 2], .inl rfl⟩, ?_⟩
  refine sAny_one (i := 6) (by kernel_rfl) rfl rfl (op_store (k := 3) (c' := #[.bool (neg z), .slice A11 (dl z) c12]) henv hst (ty_anvil_anvilref02_Int.size) rfl rfl rfl rfl (by simp) rfl rfl ?_)
  clear henv hst a; intro a w28 henv hst
  refine ⟨.inr ⟨hst.kn.pick [0, 1, 6] [0, 1, 2], .inl rfl⟩, ?_⟩
  refine sAny_one (i := 7) (by kernel_rfl) rfl rfl (op_store (k := 2) (c' := #[.bool (neg y), .slice A18 (dl y) c19]) henv hst (ty_anvil_anvilref02_Int.size) rfl rfl rfl rfl (by simp) rfl rfl ?_)
  clear henv hst a; intro a w29 henv hst
  refine ⟨.inr ⟨hst.kn.pick [0, 1, 6] [0, 1, 2], .inl rfl⟩, ?_⟩
  refine tA (i := 8) [] (v := .bool false) rfl (by kernel_rfl) (fun _ _ _ h => h) henv rfl (fun _ => rn_assign henv rfl) ?_
  clear henv a; intro a henv
  refine sAny_done (by kernel_rfl) ?_ _
  refine th_n ?_
  refine wp_ret ?_
  refine th_r ?_
  refine leave henv (res5 Tryz.results7 (RV.cell henv ty_anvil_integer_Int rfl (hst.oat (k := 5) rfl) rfl) (RV.cell henv ty_anvil_integer_Int rfl (hst.oat (k := 4) rfl) rfl) (RV.cell henv ty_anvil_anvilref02_Int rfl (hst.oat (k := 3) rfl) rfl) (RV.cell henv ty_anvil_anvilref02_Int rfl (hst.oat (k := 2) rfl) rfl) (RV.tmp henv rfl)) ?_
  exact ⟨_, _, _, _, rfl, z_at rfl (hst.pat (k := 2) rfl), z_at rfl (hst.pat (k := 2) rfl), r_at rfl (hst.pat (k := 1) rfl), r_at rfl (hst.pat (k := 0) rfl), hst.below⟩
theorem numbers_no {s t : List UInt8} {z y ps qs bs pt qt bt : Int} {w0 : World} (hs : RdAs s z ps qs bs) (ht : RdAs t y pt qt bt) (g : ¬ (bs < 0 ∧ bt < 0)) :
    Calls Tryz.prog 7 #[.agg #[.string ⟨s.toArray⟩, .string ⟨t.toArray⟩]] w0 fun e w' => ∃ v1 v2 u1 u2, e = .returned (.tuple #[v1, v2, u1, u2, .bool false]) ∧ ZAt w' v1 0 ∧ ZAt w' v2 0 ∧ RAt w' u1 z ∧ RAt w' u2 y ∧ Below w0.heap.size w0 w' := by
  rcases Int.lt_or_le bs 0 with h | h
  · rcases Int.lt_or_le bt 0 with h2 | h2
    · exact absurd ⟨h, h2⟩ g
    · exact numbers_no2 hs ht h h2
  · exact numbers_no1 hs ht h
end Go.Proofs.YtegglooojlheoaaGreatDoor.W

/- RatioMakes, RatioReckons: the laws' walks. Printed by pv/gen_qlaw2.py. No condition. -/
namespace Go.Proofs.YtegglooojlheoaaGreatDoor.W
open Go.RowKit Anv Go.Lib
set_option maxRecDepth 100000 in
set_option maxHeartbeats 8000000 in
theorem qmakes_long {s t : List UInt8} {w0 : World} (hl : Lg (s, t)) :
    Calls Tryz.prog 3 #[.agg #[.string ⟨s.toArray⟩, .string ⟨t.toArray⟩]] w0 fun e w' => e = .returned (.bool true) ∧ Below w0.heap.size w0 w' := by
  refine enter Tryz.func3 rfl Tryz.ntmps3 rfl ?_
  intro a henv hst
  refine wp_seq ?_
  refine region_seq ?_
  refine seq_step rfl (op_box (c := #[.string ⟨s.toArray⟩, .string ⟨t.toArray⟩]) henv hst rfl rfl rfl ?_)
  clear henv hst a; intro a w2 g1 henv hst
  refine sv (v := .bool false) henv rfl (rn_assign henv rfl) ?_
  clear henv a; intro a henv
  refine wpList_nil ?_
  refine th_n ?_
  refine wp_seq ?_
  refine wp_seq ?_
  refine region_seq ?_
  refine seq_step rfl (op_call henv rfl Tryz.call5 rfl (qworks) ?_)
  rintro e w3 ⟨rfl, hb⟩
  refine ⟨_, rfl, ?_⟩
  clear henv a; intro a henv
  replace hst := hst.call hb
  clear hb
  refine sv (v := .bool false) henv rfl (rn_un henv rfl rfl) ?_
  clear henv a; intro a henv
  refine wpList_nil ?_
  refine th_n ?_
  refine if_f henv rfl (rfl) ?_
  refine wp_skip ?_
  refine th_n ?_
  refine wp_seq ?_
  refine wp_seq ?_
  refine region_seq ?_
  refine sv (v := .agg #[.string ⟨s.toArray⟩, .string ⟨t.toArray⟩]) henv rfl (rn_load0 henv ty_anvil_anvillaw03_Frac rfl (hst.oat (k := 0) rfl) rfl) ?_
  clear henv a; intro a henv
  refine seq_step rfl (op_buildSlice (z := 2) (pv := #[(0, .agg #[.string ⟨s.toArray⟩, .string ⟨t.toArray⟩])]) (c := #[.string ⟨s.toArray⟩, .string ⟨t.toArray⟩]) henv hst rfl Tryz.underlying66 (ty_anvil_anvillaw03_Frac.size) zero_anvil_anvillaw03_Frac (by decide) (by decide) rfl (by kernel_rfl) ?_)
  clear henv hst a; intro a w5 g4 henv hst
  replace hst := hst.giveBk (f := fF) (F := FF) (k := 0) (n := 1) (es := [(s, t)]) rfl rfl fF_len rfl (by decide) (esT_P (fun _ => rfl) _ _) (fun _ _ _ _ => esT_foot (fun _ => rfl))
  refine seq_step rfl (op_call henv rfl Tryz.call6 rfl (qlong_yes (hst.pat (k := 0) rfl) (by exact ⟨_, List.mem_cons_self .., hl⟩)) ?_)
  rintro e w6 ⟨rfl, hb⟩
  refine ⟨_, rfl, ?_⟩
  clear henv a; intro a henv
  replace hst := hst.call hb
  clear hb
  refine wpList_nil ?_
  refine th_n ?_
  refine if_t henv rfl (rfl) ?_
  refine wp_seq ?_
  refine region_seq ?_
  refine sv (v := .bool true) henv rfl (rn_assign henv rfl) ?_
  clear henv a; intro a henv
  refine wpList_nil ?_
  refine th_n ?_
  refine wp_ret ?_
  refine th_r ?_
  refine leave henv (res1 Tryz.results3 (RV.tmp henv rfl)) ?_
  exact ⟨rfl, hst.below⟩
set_option maxRecDepth 100000 in
set_option maxHeartbeats 8000000 in
theorem qmakes_no {s t : List UInt8} {z y ps qs bs pt qt bt : Int} {w0 : World} (hs : RdAs s z ps qs bs) (ht : RdAs t y pt qt bt) (hl : ¬ Lg (s, t)) (g : ¬ (bs < 0 ∧ bt < 0)) :
    Calls Tryz.prog 3 #[.agg #[.string ⟨s.toArray⟩, .string ⟨t.toArray⟩]] w0 fun e w' => e = .returned (.bool true) ∧ Below w0.heap.size w0 w' := by
  refine enter Tryz.func3 rfl Tryz.ntmps3 rfl ?_
  intro a henv hst
  refine wp_seq ?_
  refine region_seq ?_
  refine seq_step rfl (op_box (c := #[.string ⟨s.toArray⟩, .string ⟨t.toArray⟩]) henv hst rfl rfl rfl ?_)
  clear henv hst a; intro a w2 g1 henv hst
  refine sv (v := .bool false) henv rfl (rn_assign henv rfl) ?_
  clear henv a; intro a henv
  refine wpList_nil ?_
  refine th_n ?_
  refine wp_seq ?_
  refine wp_seq ?_
  refine region_seq ?_
  refine seq_step rfl (op_call henv rfl Tryz.call5 rfl (qworks) ?_)
  rintro e w3 ⟨rfl, hb⟩
  refine ⟨_, rfl, ?_⟩
  clear henv a; intro a henv
  replace hst := hst.call hb
  clear hb
  refine sv (v := .bool false) henv rfl (rn_un henv rfl rfl) ?_
  clear henv a; intro a henv
  refine wpList_nil ?_
  refine th_n ?_
  refine if_f henv rfl (rfl) ?_
  refine wp_skip ?_
  refine th_n ?_
  refine wp_seq ?_
  refine wp_seq ?_
  refine region_seq ?_
  refine sv (v := .agg #[.string ⟨s.toArray⟩, .string ⟨t.toArray⟩]) henv rfl (rn_load0 henv ty_anvil_anvillaw03_Frac rfl (hst.oat (k := 0) rfl) rfl) ?_
  clear henv a; intro a henv
  refine seq_step rfl (op_buildSlice (z := 2) (pv := #[(0, .agg #[.string ⟨s.toArray⟩, .string ⟨t.toArray⟩])]) (c := #[.string ⟨s.toArray⟩, .string ⟨t.toArray⟩]) henv hst rfl Tryz.underlying66 (ty_anvil_anvillaw03_Frac.size) zero_anvil_anvillaw03_Frac (by decide) (by decide) rfl (by kernel_rfl) ?_)
  clear henv hst a; intro a w5 g4 henv hst
  replace hst := hst.giveBk (f := fF) (F := FF) (k := 0) (n := 1) (es := [(s, t)]) rfl rfl fF_len rfl (by decide) (esT_P (fun _ => rfl) _ _) (fun _ _ _ _ => esT_foot (fun _ => rfl))
  refine seq_step rfl (op_call henv rfl Tryz.call6 rfl (qlong_no (hst.pat (k := 0) rfl) (by decide) (by intro e he; simp at he; subst he; exact hl)) ?_)
  rintro e w6 ⟨rfl, hb⟩
  refine ⟨_, rfl, ?_⟩
  clear henv a; intro a henv
  replace hst := hst.call hb
  clear hb
  refine wpList_nil ?_
  refine th_n ?_
  refine if_f henv rfl (rfl) ?_
  refine wp_skip ?_
  refine th_n ?_
  refine wp_seq ?_
  refine region_seq ?_
  refine sv (v := .agg #[.string ⟨s.toArray⟩, .string ⟨t.toArray⟩]) henv rfl (rn_load0 henv ty_anvil_anvillaw03_Frac rfl (hst.oat (k := 0) rfl) rfl) ?_
  clear henv a; intro a henv
  refine seq_step rfl (op_call henv rfl Tryz.call7 rfl (numbers_no hs ht g) ?_)
  rintro e w19 ⟨_, _, _, _, rfl, ⟨A7, c8, rfl, hz9⟩, ⟨A10, c11, rfl, hz12⟩, ⟨A13, c14, rfl, hz15⟩, ⟨A16, c17, rfl, hz18⟩, hb⟩
  refine ⟨_, rfl, ?_⟩
  clear henv a; intro a henv
  replace hst := ((((hst.call hb).addZ hz9 ⟨nou_bk rfl, trivial⟩).addZ hz12 ⟨nou_bk rfl, trivial⟩).addR hz15 ⟨nou_bk rfl, trivial⟩).addR hz18 ⟨nou_bk rfl, trivial⟩
  clear hz9 hz12 hz15 hz18
  clear hb
  revert a
  refine mA rfl rfl ?_
  refine sA (v := .agg #[.bool (neg 0), .slice A7 (zl 0) c8]) rfl (fun _ henv => rn_extract henv rfl rfl) ?_
  refine sA (v := .agg #[.bool (neg 0), .slice A10 (zl 0) c11]) rfl (fun _ henv => rn_extract henv rfl rfl) ?_
  refine sA (v := .agg #[.bool (neg z), .slice A13 (dl z) c14]) rfl (fun _ henv => rn_extract henv rfl rfl) ?_
  refine sA (v := .agg #[.bool (neg y), .slice A16 (dl y) c17]) rfl (fun _ henv => rn_extract henv rfl rfl) ?_
  refine sA (v := .bool false) rfl (fun _ henv => rn_extract henv rfl rfl) ?_
  intro a henv
  refine seq_step rfl (op_alloc (c := #[.bool (neg 0), .slice none (zl 0) 0]) henv hst rfl zero_anvil_integer_Int zcells ?_)
  clear henv hst a; intro a w21 g20 henv hst
  refine seq_step rfl (op_alloc (c := #[.bool (neg 0), .slice none (zl 0) 0]) henv hst rfl zero_anvil_integer_Int zcells ?_)
  clear henv hst a; intro a w23 g22 henv hst
  refine seq_step rfl (op_alloc (c := #[.bool (neg 0), .slice none (dl 0) 0]) henv hst rfl zero_anvil_anvilref02_Int rcells ?_)
  clear henv hst a; intro a w25 g24 henv hst
  refine seq_step rfl (op_alloc (c := #[.bool (neg 0), .slice none (dl 0) 0]) henv hst rfl zero_anvil_anvilref02_Int rcells ?_)
  clear henv hst a; intro a w27 g26 henv hst
  refine seq_step rfl (op_store (k := 3) (c' := #[.bool (neg 0), .slice A7 (zl 0) c8]) henv hst (ty_anvil_integer_Int.size) rfl rfl rfl rfl (by simp) rfl rfl ?_)
  clear henv hst a; intro a w28 henv hst
  refine seq_step rfl (op_store (k := 2) (c' := #[.bool (neg 0), .slice A10 (zl 0) c11]) henv hst (ty_anvil_integer_Int.size) rfl rfl rfl rfl (by simp) rfl rfl ?_)
  clear henv hst a; intro a w29 henv hst
  refine seq_step rfl (op_store (k := 1) (c' := #[.bool (neg z), .slice A13 (dl z) c14]) henv hst (ty_anvil_anvilref02_Int.size) rfl rfl rfl rfl (by simp) rfl rfl ?_)
  clear henv hst a; intro a w30 henv hst
  refine seq_step rfl (op_store (k := 0) (c' := #[.bool (neg y), .slice A16 (dl y) c17]) henv hst (ty_anvil_anvilref02_Int.size) rfl rfl rfl rfl (by simp) rfl rfl ?_)
  clear henv hst a; intro a w31 henv hst
  refine sv (v := .bool false) henv rfl (rn_assign henv rfl) ?_
  clear henv a; intro a henv
  refine wpList_nil ?_
  refine th_n ?_
  refine wp_seq ?_
  refine wp_seq ?_
  refine region_seq ?_
  revert a
  refine mA rfl rfl ?_
  refine sA (v := .bool true) rfl (fun _ henv => rn_un henv rfl rfl) ?_
  intro a henv
  refine wpList_nil ?_
  refine th_n ?_
  refine if_t henv rfl (rfl) ?_
  refine wp_seq ?_
  refine region_seq ?_
  refine sv (v := .bool true) henv rfl (rn_assign henv rfl) ?_
  clear henv a; intro a henv
  refine wpList_nil ?_
  refine th_n ?_
  refine wp_ret ?_
  refine th_r ?_
  refine leave henv (res1 Tryz.results3 (RV.tmp henv rfl)) ?_
  exact ⟨rfl, hst.below⟩
set_option maxRecDepth 100000 in
set_option maxHeartbeats 8000000 in
theorem qmakes_zero {s t : List UInt8} {z y ps qs bs pt qt bt : Int} {w0 : World} (hs : RdAs s z ps qs bs) (ht : RdAs t y pt qt bt) (hl : ¬ Lg (s, t)) (u1 : bs < 0) (u2 : bt < 0) (hy0 : y = 0) (bz : zl z ≤ 400) (by_ : zl y ≤ 400) :
    Calls Tryz.prog 3 #[.agg #[.string ⟨s.toArray⟩, .string ⟨t.toArray⟩]] w0 fun e w' => e = .returned (.bool true) ∧ Below w0.heap.size w0 w' := by
  have swz : Qs 401 (z : Rat) := qs_intz (k := 400) bz
  have edz := dl_zl z
  have edy := dl_zl y
  refine enter Tryz.func3 rfl Tryz.ntmps3 rfl ?_
  intro a henv hst
  refine wp_seq ?_
  refine region_seq ?_
  refine seq_step rfl (op_box (c := #[.string ⟨s.toArray⟩, .string ⟨t.toArray⟩]) henv hst rfl rfl rfl ?_)
  clear henv hst a; intro a w2 g1 henv hst
  refine sv (v := .bool false) henv rfl (rn_assign henv rfl) ?_
  clear henv a; intro a henv
  refine wpList_nil ?_
  refine th_n ?_
  refine wp_seq ?_
  refine wp_seq ?_
  refine region_seq ?_
  refine seq_step rfl (op_call henv rfl Tryz.call5 rfl (qworks) ?_)
  rintro e w3 ⟨rfl, hb⟩
  refine ⟨_, rfl, ?_⟩
  clear henv a; intro a henv
  replace hst := hst.call hb
  clear hb
  refine sv (v := .bool false) henv rfl (rn_un henv rfl rfl) ?_
  clear henv a; intro a henv
  refine wpList_nil ?_
  refine th_n ?_
  refine if_f henv rfl (rfl) ?_
  refine wp_skip ?_
  refine th_n ?_
  refine wp_seq ?_
  refine wp_seq ?_
  refine region_seq ?_
  refine sv (v := .agg #[.string ⟨s.toArray⟩, .string ⟨t.toArray⟩]) henv rfl (rn_load0 henv ty_anvil_anvillaw03_Frac rfl (hst.oat (k := 0) rfl) rfl) ?_
  clear henv a; intro a henv
  refine seq_step rfl (op_buildSlice (z := 2) (pv := #[(0, .agg #[.string ⟨s.toArray⟩, .string ⟨t.toArray⟩])]) (c := #[.string ⟨s.toArray⟩, .string ⟨t.toArray⟩]) henv hst rfl Tryz.underlying66 (ty_anvil_anvillaw03_Frac.size) zero_anvil_anvillaw03_Frac (by decide) (by decide) rfl (by kernel_rfl) ?_)
  clear henv hst a; intro a w5 g4 henv hst
  replace hst := hst.giveBk (f := fF) (F := FF) (k := 0) (n := 1) (es := [(s, t)]) rfl rfl fF_len rfl (by decide) (esT_P (fun _ => rfl) _ _) (fun _ _ _ _ => esT_foot (fun _ => rfl))
  refine seq_step rfl (op_call henv rfl Tryz.call6 rfl (qlong_no (hst.pat (k := 0) rfl) (by decide) (by intro e he; simp at he; subst he; exact hl)) ?_)
  rintro e w6 ⟨rfl, hb⟩
  refine ⟨_, rfl, ?_⟩
  clear henv a; intro a henv
  replace hst := hst.call hb
  clear hb
  refine wpList_nil ?_
  refine th_n ?_
  refine if_f henv rfl (rfl) ?_
  refine wp_skip ?_
  refine th_n ?_
  refine wp_seq ?_
  refine region_seq ?_
  refine sv (v := .agg #[.string ⟨s.toArray⟩, .string ⟨t.toArray⟩]) henv rfl (rn_load0 henv ty_anvil_anvillaw03_Frac rfl (hst.oat (k := 0) rfl) rfl) ?_
  clear henv a; intro a henv
  refine seq_step rfl (op_call henv rfl Tryz.call7 rfl (numbers_ok hs ht u1 u2) ?_)
  rintro e w19 ⟨_, _, _, _, rfl, ⟨A7, c8, rfl, hz9⟩, ⟨A10, c11, rfl, hz12⟩, ⟨A13, c14, rfl, hz15⟩, ⟨A16, c17, rfl, hz18⟩, hb⟩
  refine ⟨_, rfl, ?_⟩
  clear henv a; intro a henv
  replace hst := ((((hst.call hb).addZ hz9 ⟨nou_bk rfl, trivial⟩).addZ hz12 ⟨nou_bk rfl, trivial⟩).addR hz15 ⟨nou_bk rfl, trivial⟩).addR hz18 ⟨nou_bk rfl, trivial⟩
  clear hz9 hz12 hz15 hz18
  clear hb
  revert a
  refine mA rfl rfl ?_
  refine sA (v := .agg #[.bool (neg z), .slice A7 (zl z) c8]) rfl (fun _ henv => rn_extract henv rfl rfl) ?_
  refine sA (v := .agg #[.bool (neg y), .slice A10 (zl y) c11]) rfl (fun _ henv => rn_extract henv rfl rfl) ?_
  refine sA (v := .agg #[.bool (neg z), .slice A13 (dl z) c14]) rfl (fun _ henv => rn_extract henv rfl rfl) ?_
  refine sA (v := .agg #[.bool (neg y), .slice A16 (dl y) c17]) rfl (fun _ henv => rn_extract henv rfl rfl) ?_
  refine sA (v := .bool true) rfl (fun _ henv => rn_extract henv rfl rfl) ?_
  intro a henv
  refine seq_step rfl (op_alloc (c := #[.bool (neg 0), .slice none (zl 0) 0]) henv hst rfl zero_anvil_integer_Int zcells ?_)
  clear henv hst a; intro a w21 g20 henv hst
  refine seq_step rfl (op_alloc (c := #[.bool (neg 0), .slice none (zl 0) 0]) henv hst rfl zero_anvil_integer_Int zcells ?_)
  clear henv hst a; intro a w23 g22 henv hst
  refine seq_step rfl (op_alloc (c := #[.bool (neg 0), .slice none (dl 0) 0]) henv hst rfl zero_anvil_anvilref02_Int rcells ?_)
  clear henv hst a; intro a w25 g24 henv hst
  refine seq_step rfl (op_alloc (c := #[.bool (neg 0), .slice none (dl 0) 0]) henv hst rfl zero_anvil_anvilref02_Int rcells ?_)
  clear henv hst a; intro a w27 g26 henv hst
  refine seq_step rfl (op_store (k := 3) (c' := #[.bool (neg z), .slice A7 (zl z) c8]) henv hst (ty_anvil_integer_Int.size) rfl rfl rfl rfl (by simp) rfl rfl ?_)
  clear henv hst a; intro a w28 henv hst
  refine seq_step rfl (op_store (k := 2) (c' := #[.bool (neg y), .slice A10 (zl y) c11]) henv hst (ty_anvil_integer_Int.size) rfl rfl rfl rfl (by simp) rfl rfl ?_)
  clear henv hst a; intro a w29 henv hst
  refine seq_step rfl (op_store (k := 1) (c' := #[.bool (neg z), .slice A13 (dl z) c14]) henv hst (ty_anvil_anvilref02_Int.size) rfl rfl rfl rfl (by simp) rfl rfl ?_)
  clear henv hst a; intro a w30 henv hst
  refine seq_step rfl (op_store (k := 0) (c' := #[.bool (neg y), .slice A16 (dl y) c17]) henv hst (ty_anvil_anvilref02_Int.size) rfl rfl rfl rfl (by simp) rfl rfl ?_)
  clear henv hst a; intro a w31 henv hst
  refine sv (v := .bool true) henv rfl (rn_assign henv rfl) ?_
  clear henv a; intro a henv
  refine wpList_nil ?_
  refine th_n ?_
  refine wp_seq ?_
  refine wp_seq ?_
  refine region_seq ?_
  revert a
  refine mA rfl rfl ?_
  refine sA (v := .bool false) rfl (fun _ henv => rn_un henv rfl rfl) ?_
  intro a henv
  refine wpList_nil ?_
  refine th_n ?_
  refine if_f henv rfl (rfl) ?_
  refine wp_skip ?_
  refine th_n ?_
  refine wp_seq ?_
  refine region_seq ?_
  revert a
  refine sA (v := .agg #[.bool (neg z), .slice A7 (zl z) c8]) rfl (fun _ henv => rn_load0 henv ty_anvil_integer_Int rfl (hst.oat (k := 3) rfl) rfl) ?_
  refine sA (v := .agg #[.bool (neg y), .slice A10 (zl y) c11]) rfl (fun _ henv => rn_load0 henv ty_anvil_integer_Int rfl (hst.oat (k := 2) rfl) rfl) ?_
  intro a henv
  refine seq_step rfl (op_call henv rfl Tryz.call8 rfl (make_z0 (p := z) (q := y) (show ZIn _ A7 c8 z from hst.pat (k := 3) rfl) (show ZIn _ A10 c11 y from hst.pat (k := 2) rfl) hy0) ?_)
  rintro e w32 ⟨rfl, hb⟩
  refine ⟨_, rfl, ?_⟩
  clear henv a; intro a henv
  replace hst := hst.call hb
  replace hst := (hst.addZ (show ZIn _ none 0 (qn 0) from zin_none _) ⟨nou_bk rfl, nou_bk rfl, nou_bk rfl, nou_bk rfl, nou_bk rfl, trivial⟩).addZ (show ZIn _ none 0 (ql 0) from zin_none _) ⟨nou_bk rfl, nou_bk rfl, nou_bk rfl, nou_bk rfl, nou_bk rfl, trivial⟩
  clear hb
  revert a
  refine mA rfl rfl ?_
  refine sA (v := .agg #[.bool (neg (qn 0)), .slice none (zl (qn 0)) 0, .bool (neg (ql 0)), .slice none (zl (ql 0)) 0]) rfl (fun _ henv => rn_extract henv rfl rfl) ?_
  refine sA (v := .int .i64 2) rfl (fun _ henv => rn_extract henv rfl rfl) ?_
  intro a henv
  refine seq_step rfl (op_alloc (c := #[.bool (neg (qn 0)), .slice none (zl (qn 0)) 0, .bool (neg (ql 0)), .slice none (zl (ql 0)) 0]) henv hst rfl zero_anvil_ratio_Rat qcells ?_)
  clear henv hst a; intro a w34 g33 henv hst
  refine seq_step rfl (op_store (k := 0) (c' := #[.bool (neg (qn 0)), .slice none (zl (qn 0)) 0, .bool (neg (ql 0)), .slice none (zl (ql 0)) 0]) henv hst (ty_anvil_ratio_Rat.size) rfl rfl rfl rfl (by simp) rfl rfl ?_)
  clear henv hst a; intro a w35 henv hst
  refine sv (v := .int .i64 2) henv rfl (rn_assign henv rfl) ?_
  clear henv a; intro a henv
  refine wpList_nil ?_
  refine th_n ?_
  refine wp_seq ?_
  refine wp_seq ?_
  refine region_any (n := 6) (Sk [bk g33 #[.bool (neg (qn 0)), .slice none (zl (qn 0)) 0, .bool (neg (ql 0)), .slice none (zl (ql 0)) 0] 34, bk g26 #[.bool (neg y), .slice A16 (dl y) c17] 30, bk g24 #[.bool (neg z), .slice A13 (dl z) c14] 30, bk g22 #[.bool (neg y), .slice A10 (zl y) c11] 28, bk g20 #[.bool (neg z), .slice A7 (zl z) c8] 28, bk g1 #[.string ⟨s.toArray⟩, .string ⟨t.toArray⟩] 23] [pfZ none 0 (ql 0), pfZ none 0 (qn 0), pfR A16 c17 y, pfR A13 c14 z, pfZ A10 c11 y, pfZ A7 c8 z, pfRow fF FF 2 (some ⟨g4, 0, none⟩) 1 1 ([(s, t)]), pfRd 2 (some ⟨g4, 0, none⟩) 1 1 (fl fF [(s, t)])] [] []) mixed rfl henv hst ?_
  clear henv hst; intro w36 henv hst
  refine tL (i := 0) 4 4 [1, 3, 4, 5] rfl (by kernel_rfl) (fun _ _ _ h => h) henv rfl ty_anvil_integer_Int rfl hst rfl rfl rfl ?_
  clear henv a; intro a henv
  refine tL (i := 2) 2 2 [3, 4, 5] rfl (by kernel_rfl) (fun _ _ _ h => h) henv rfl ty_anvil_anvilref02_Int rfl hst rfl rfl rfl ?_
  clear henv a; intro a henv
  refine sAny_one (i := 1) (by kernel_rfl) rfl rfl (op_call henv rfl Tryz.call10 rfl (of_int_q (z := z) (show ZIn _ A7 c8 z from hst.pat (k := 5) rfl)) ?_)
  rintro e w43 ⟨_, rfl, ⟨A37, c38, B39, d40, rfl, hz41, hz42⟩, hb⟩
  refine ⟨_, rfl, ?_⟩
  clear henv a; intro a henv
  replace hst := ((hst.call hb).addZ hz41 ⟨nou_bk rfl, nou_bk rfl, nou_bk rfl, nou_bk rfl, nou_bk rfl, nou_bk rfl, trivial⟩).addZ hz42 ⟨nou_bk rfl, nou_bk rfl, nou_bk rfl, nou_bk rfl, nou_bk rfl, nou_bk rfl, trivial⟩
  clear hz41 hz42
  clear hb
  refine ⟨.inr ⟨hst.kn.pick (rg 0 6) (rg 2 8), .inr (hst.kn.pick [] [])⟩, ?_⟩
  refine sAny_one (i := 3) (by kernel_rfl) rfl rfl (op_call henv rfl Tryz.call11 rfl (of_int_y (z := z) (show RIn _ A13 c14 z from hst.pat (k := 5) rfl)) ?_)
  rintro e w50 ⟨_, rfl, ⟨A44, c45, B46, d47, rfl, hz48, hz49⟩, hb⟩
  refine ⟨_, rfl, ?_⟩
  clear henv a; intro a henv
  replace hst := ((hst.call hb).addR hz48 ⟨nou_bk rfl, nou_bk rfl, nou_bk rfl, nou_bk rfl, nou_bk rfl, nou_bk rfl, trivial⟩).addR hz49 ⟨nou_bk rfl, nou_bk rfl, nou_bk rfl, nou_bk rfl, nou_bk rfl, nou_bk rfl, trivial⟩
  clear hz48 hz49
  clear hb
  refine ⟨.inr ⟨hst.kn.pick (rg 0 6) (rg 4 8), .inr (hst.kn.pick [] [])⟩, ?_⟩
  refine sAny_one (i := 4) (by kernel_rfl) rfl rfl (op_call henv rfl Tryz.call9 rfl (is_qy (r := (z : Rat)) (show ZIn _ A37 c38 (qn (z : Rat)) from hst.pat (k := 3) rfl) (show ZIn _ B39 d40 (ql (z : Rat)) from hst.pat (k := 2) rfl) (show RIn _ A44 c45 (qn (z : Rat)) from hst.pat (k := 1) rfl) (show RIn _ B46 d47 (qd (z : Rat)) from hst.pat (k := 0) rfl) swz (by omega)) ?_)
  rintro e w51 ⟨rfl, hb⟩
  refine ⟨_, rfl, ?_⟩
  clear henv a; intro a henv
  replace hst := hst.call hb
  clear hb
  refine ⟨.inr ⟨hst.kn.pick (rg 0 6) (rg 4 8), .inr (hst.kn.pick [] [])⟩, ?_⟩
  refine tA (i := 5) [] (v := .bool false) rfl (by kernel_rfl) (fun _ _ _ h => h) henv rfl (fun _ => rn_un henv rfl rfl) ?_
  clear henv a; intro a henv
  refine sAny_done (by kernel_rfl) ?_ _
  refine th_n ?_
  refine if_f henv rfl (rfl) ?_
  refine wp_skip ?_
  refine th_n ?_
  refine wp_seq ?_
  refine wp_seq ?_
  refine region_seq ?_
  refine sv (v := .agg #[.bool (neg y), .slice A16 (dl y) c17]) henv rfl (rn_load0 henv ty_anvil_anvilref02_Int rfl (hst.oat (k := 1) rfl) rfl) ?_
  clear henv a; intro a henv
  refine seq_step rfl (op_call henv rfl Tryz.call12 rfl (sign_r (z := y)) ?_)
  rintro e w52 ⟨rfl, hb⟩
  refine ⟨_, rfl, ?_⟩
  clear henv a; intro a henv
  replace hst := hst.call hb
  clear hb
  refine sv (v := .bool (y.sign == (0 : Int))) henv rfl (rn_bin henv rfl rfl rfl) ?_
  clear henv a; intro a henv
  rw [show (y.sign == (0 : Int)) = true from (by rw [hy0]; rfl)] at henv
  refine wpList_nil ?_
  refine th_n ?_
  refine if_t henv rfl (rfl) ?_
  refine wp_seq ?_
  refine region_any (n := 8) (Sk [bk g33 #[.bool (neg (qn 0)), .slice none (zl (qn 0)) 0, .bool (neg (ql 0)), .slice none (zl (ql 0)) 0] 34, bk g26 #[.bool (neg y), .slice A16 (dl y) c17] 30, bk g24 #[.bool (neg z), .slice A13 (dl z) c14] 30, bk g22 #[.bool (neg y), .slice A10 (zl y) c11] 28, bk g20 #[.bool (neg z), .slice A7 (zl z) c8] 28, bk g1 #[.string ⟨s.toArray⟩, .string ⟨t.toArray⟩] 23] [pfR B46 d47 (qd (z : Rat)), pfR A44 c45 (qn (z : Rat)), pfZ B39 d40 (ql (z : Rat)), pfZ A37 c38 (qn (z : Rat)), pfZ none 0 (ql 0), pfZ none 0 (qn 0), pfR A16 c17 y, pfR A13 c14 z, pfZ A10 c11 y, pfZ A7 c8 z, pfRow fF FF 2 (some ⟨g4, 0, none⟩) 1 1 ([(s, t)]), pfRd 2 (some ⟨g4, 0, none⟩) 1 1 (fl fF [(s, t)])] [] []) mixed rfl henv hst ?_
  clear henv hst; intro w53 henv hst
  refine tM (i := 0) (rg 1 7) rfl (by kernel_rfl) (fun _ _ _ h => h) henv rfl rfl ?_
  clear henv a; intro a henv
  refine tA (i := 1) (rg 2 6) (v := .bool true) rfl (by kernel_rfl) (fun _ _ _ h => h) henv rfl (fun _ => rn_bin henv rfl rfl rfl) ?_
  clear henv a; intro a henv
  refine tM (i := 2) (rg 3 5) rfl (by kernel_rfl) (fun _ _ _ h => h) henv rfl rfl ?_
  clear henv a; intro a henv
  refine tLg (i := 3) 0 0 [5, 6, 7] rfl (by kernel_rfl) (fun _ _ _ h => h) henv rfl rfl rfl rfl ty_anvil_ratio_Rat rfl hst rfl rfl rfl ?_
  clear henv a; intro a henv
  refine sAny_oneg (i := 4) (by kernel_rfl) rfl rfl henv rfl rfl rfl (op_call henv rfl Tryz.call13 rfl (zero_y) ?_)
  rintro e w60 ⟨_, rfl, ⟨A54, c55, B56, d57, rfl, hz58, hz59⟩, hb⟩
  refine ⟨_, rfl, ?_⟩
  clear henv a; intro a henv
  replace hst := ((hst.call hb).addR hz58 ⟨nou_bk rfl, nou_bk rfl, nou_bk rfl, nou_bk rfl, nou_bk rfl, nou_bk rfl, trivial⟩).addR hz59 ⟨nou_bk rfl, nou_bk rfl, nou_bk rfl, nou_bk rfl, nou_bk rfl, nou_bk rfl, trivial⟩
  clear hz58 hz59
  clear hb
  refine ⟨.inr ⟨hst.kn.pick (rg 0 6) (rg 2 12), .inr (hst.kn.pick [] [])⟩, ?_⟩
  refine sAny_oneg (i := 5) (by kernel_rfl) rfl rfl henv rfl rfl rfl (op_call henv rfl Tryz.call9 rfl (is_qy (r := 0) (show ZIn _ none 0 (qn 0) from hst.pat (k := 7) rfl) (show ZIn _ none 0 (ql 0) from hst.pat (k := 6) rfl) (show RIn _ A54 c55 (qn 0) from hst.pat (k := 1) rfl) (show RIn _ B56 d57 (qd 0) from hst.pat (k := 0) rfl) qs_zero (by omega)) ?_)
  rintro e w61 ⟨rfl, hb⟩
  refine ⟨_, rfl, ?_⟩
  clear henv a; intro a henv
  replace hst := hst.call hb
  clear hb
  refine ⟨.inr ⟨hst.kn.pick (rg 0 6) (rg 2 12), .inr (hst.kn.pick [] [])⟩, ?_⟩
  refine tA (i := 6) [7] (v := .bool true) rfl (by kernel_rfl) (fun _ _ _ h => h) henv rfl (fun _ => rn_pick henv rfl rfl) ?_
  clear henv a; intro a henv
  refine tA (i := 7) [] (v := .bool true) rfl (by kernel_rfl) (fun _ _ _ h => h) henv rfl (fun _ => rn_assign henv rfl) ?_
  clear henv a; intro a henv
  refine sAny_done (by kernel_rfl) ?_ _
  refine th_n ?_
  refine wp_ret ?_
  refine th_r ?_
  refine leave henv (res1 Tryz.results3 (RV.tmp henv rfl)) ?_
  exact ⟨rfl, hst.below⟩
set_option maxRecDepth 100000 in
set_option maxHeartbeats 8000000 in
theorem qmakes_ok {s t : List UInt8} {z y ps qs bs pt qt bt : Int} {w0 : World} (hs : RdAs s z ps qs bs) (ht : RdAs t y pt qt bt) (hl : ¬ Lg (s, t)) (u1 : bs < 0) (u2 : bt < 0) (hy0 : y ≠ 0) (bz : zl z ≤ 400) (by_ : zl y ≤ 400) :
    Calls Tryz.prog 3 #[.agg #[.string ⟨s.toArray⟩, .string ⟨t.toArray⟩]] w0 fun e w' => e = .returned (.bool true) ∧ Below w0.heap.size w0 w' := by
  have swz : Qs 401 (z : Rat) := qs_intz (k := 400) bz
  have edz := dl_zl z
  have edy := dl_zl y
  have swr : Qs 400 (Rat.divInt z y) := qs_make bz by_ hy0
  refine enter Tryz.func3 rfl Tryz.ntmps3 rfl ?_
  intro a henv hst
  refine wp_seq ?_
  refine region_seq ?_
  refine seq_step rfl (op_box (c := #[.string ⟨s.toArray⟩, .string ⟨t.toArray⟩]) henv hst rfl rfl rfl ?_)
  clear henv hst a; intro a w2 g1 henv hst
  refine sv (v := .bool false) henv rfl (rn_assign henv rfl) ?_
  clear henv a; intro a henv
  refine wpList_nil ?_
  refine th_n ?_
  refine wp_seq ?_
  refine wp_seq ?_
  refine region_seq ?_
  refine seq_step rfl (op_call henv rfl Tryz.call5 rfl (qworks) ?_)
  rintro e w3 ⟨rfl, hb⟩
  refine ⟨_, rfl, ?_⟩
  clear henv a; intro a henv
  replace hst := hst.call hb
  clear hb
  refine sv (v := .bool false) henv rfl (rn_un henv rfl rfl) ?_
  clear henv a; intro a henv
  refine wpList_nil ?_
  refine th_n ?_
  refine if_f henv rfl (rfl) ?_
  refine wp_skip ?_
  refine th_n ?_
  refine wp_seq ?_
  refine wp_seq ?_
  refine region_seq ?_
  refine sv (v := .agg #[.string ⟨s.toArray⟩, .string ⟨t.toArray⟩]) henv rfl (rn_load0 henv ty_anvil_anvillaw03_Frac rfl (hst.oat (k := 0) rfl) rfl) ?_
  clear henv a; intro a henv
  refine seq_step rfl (op_buildSlice (z := 2) (pv := #[(0, .agg #[.string ⟨s.toArray⟩, .string ⟨t.toArray⟩])]) (c := #[.string ⟨s.toArray⟩, .string ⟨t.toArray⟩]) henv hst rfl Tryz.underlying66 (ty_anvil_anvillaw03_Frac.size) zero_anvil_anvillaw03_Frac (by decide) (by decide) rfl (by kernel_rfl) ?_)
  clear henv hst a; intro a w5 g4 henv hst
  replace hst := hst.giveBk (f := fF) (F := FF) (k := 0) (n := 1) (es := [(s, t)]) rfl rfl fF_len rfl (by decide) (esT_P (fun _ => rfl) _ _) (fun _ _ _ _ => esT_foot (fun _ => rfl))
  refine seq_step rfl (op_call henv rfl Tryz.call6 rfl (qlong_no (hst.pat (k := 0) rfl) (by decide) (by intro e he; simp at he; subst he; exact hl)) ?_)
  rintro e w6 ⟨rfl, hb⟩
  refine ⟨_, rfl, ?_⟩
  clear henv a; intro a henv
  replace hst := hst.call hb
  clear hb
  refine wpList_nil ?_
  refine th_n ?_
  refine if_f henv rfl (rfl) ?_
  refine wp_skip ?_
  refine th_n ?_
  refine wp_seq ?_
  refine region_seq ?_
  refine sv (v := .agg #[.string ⟨s.toArray⟩, .string ⟨t.toArray⟩]) henv rfl (rn_load0 henv ty_anvil_anvillaw03_Frac rfl (hst.oat (k := 0) rfl) rfl) ?_
  clear henv a; intro a henv
  refine seq_step rfl (op_call henv rfl Tryz.call7 rfl (numbers_ok hs ht u1 u2) ?_)
  rintro e w19 ⟨_, _, _, _, rfl, ⟨A7, c8, rfl, hz9⟩, ⟨A10, c11, rfl, hz12⟩, ⟨A13, c14, rfl, hz15⟩, ⟨A16, c17, rfl, hz18⟩, hb⟩
  refine ⟨_, rfl, ?_⟩
  clear henv a; intro a henv
  replace hst := ((((hst.call hb).addZ hz9 ⟨nou_bk rfl, trivial⟩).addZ hz12 ⟨nou_bk rfl, trivial⟩).addR hz15 ⟨nou_bk rfl, trivial⟩).addR hz18 ⟨nou_bk rfl, trivial⟩
  clear hz9 hz12 hz15 hz18
  clear hb
  revert a
  refine mA rfl rfl ?_
  refine sA (v := .agg #[.bool (neg z), .slice A7 (zl z) c8]) rfl (fun _ henv => rn_extract henv rfl rfl) ?_
  refine sA (v := .agg #[.bool (neg y), .slice A10 (zl y) c11]) rfl (fun _ henv => rn_extract henv rfl rfl) ?_
  refine sA (v := .agg #[.bool (neg z), .slice A13 (dl z) c14]) rfl (fun _ henv => rn_extract henv rfl rfl) ?_
  refine sA (v := .agg #[.bool (neg y), .slice A16 (dl y) c17]) rfl (fun _ henv => rn_extract henv rfl rfl) ?_
  refine sA (v := .bool true) rfl (fun _ henv => rn_extract henv rfl rfl) ?_
  intro a henv
  refine seq_step rfl (op_alloc (c := #[.bool (neg 0), .slice none (zl 0) 0]) henv hst rfl zero_anvil_integer_Int zcells ?_)
  clear henv hst a; intro a w21 g20 henv hst
  refine seq_step rfl (op_alloc (c := #[.bool (neg 0), .slice none (zl 0) 0]) henv hst rfl zero_anvil_integer_Int zcells ?_)
  clear henv hst a; intro a w23 g22 henv hst
  refine seq_step rfl (op_alloc (c := #[.bool (neg 0), .slice none (dl 0) 0]) henv hst rfl zero_anvil_anvilref02_Int rcells ?_)
  clear henv hst a; intro a w25 g24 henv hst
  refine seq_step rfl (op_alloc (c := #[.bool (neg 0), .slice none (dl 0) 0]) henv hst rfl zero_anvil_anvilref02_Int rcells ?_)
  clear henv hst a; intro a w27 g26 henv hst
  refine seq_step rfl (op_store (k := 3) (c' := #[.bool (neg z), .slice A7 (zl z) c8]) henv hst (ty_anvil_integer_Int.size) rfl rfl rfl rfl (by simp) rfl rfl ?_)
  clear henv hst a; intro a w28 henv hst
  refine seq_step rfl (op_store (k := 2) (c' := #[.bool (neg y), .slice A10 (zl y) c11]) henv hst (ty_anvil_integer_Int.size) rfl rfl rfl rfl (by simp) rfl rfl ?_)
  clear henv hst a; intro a w29 henv hst
  refine seq_step rfl (op_store (k := 1) (c' := #[.bool (neg z), .slice A13 (dl z) c14]) henv hst (ty_anvil_anvilref02_Int.size) rfl rfl rfl rfl (by simp) rfl rfl ?_)
  clear henv hst a; intro a w30 henv hst
  refine seq_step rfl (op_store (k := 0) (c' := #[.bool (neg y), .slice A16 (dl y) c17]) henv hst (ty_anvil_anvilref02_Int.size) rfl rfl rfl rfl (by simp) rfl rfl ?_)
  clear henv hst a; intro a w31 henv hst
  refine sv (v := .bool true) henv rfl (rn_assign henv rfl) ?_
  clear henv a; intro a henv
  refine wpList_nil ?_
  refine th_n ?_
  refine wp_seq ?_
  refine wp_seq ?_
  refine region_seq ?_
  revert a
  refine mA rfl rfl ?_
  refine sA (v := .bool false) rfl (fun _ henv => rn_un henv rfl rfl) ?_
  intro a henv
  refine wpList_nil ?_
  refine th_n ?_
  refine if_f henv rfl (rfl) ?_
  refine wp_skip ?_
  refine th_n ?_
  refine wp_seq ?_
  refine region_seq ?_
  revert a
  refine sA (v := .agg #[.bool (neg z), .slice A7 (zl z) c8]) rfl (fun _ henv => rn_load0 henv ty_anvil_integer_Int rfl (hst.oat (k := 3) rfl) rfl) ?_
  refine sA (v := .agg #[.bool (neg y), .slice A10 (zl y) c11]) rfl (fun _ henv => rn_load0 henv ty_anvil_integer_Int rfl (hst.oat (k := 2) rfl) rfl) ?_
  intro a henv
  refine seq_step rfl (op_call henv rfl Tryz.call8 rfl (make_qr (p := z) (q := y) (r := Rat.divInt z y) (show ZIn _ A7 c8 z from hst.pat (k := 3) rfl) (show ZIn _ A10 c11 y from hst.pat (k := 2) rfl) (by omega) (by omega) hy0 rfl) ?_)
  rintro e w38 ⟨_, rfl, ⟨A32, c33, B34, d35, rfl, hz36, hz37⟩, hb⟩
  refine ⟨_, rfl, ?_⟩
  clear henv a; intro a henv
  replace hst := ((hst.call hb).addZ hz36 ⟨nou_bk rfl, nou_bk rfl, nou_bk rfl, nou_bk rfl, nou_bk rfl, trivial⟩).addZ hz37 ⟨nou_bk rfl, nou_bk rfl, nou_bk rfl, nou_bk rfl, nou_bk rfl, trivial⟩
  clear hz36 hz37
  clear hb
  revert a
  refine mA rfl rfl ?_
  refine sA (v := .agg #[.bool (neg (qn (Rat.divInt z y))), .slice A32 (zl (qn (Rat.divInt z y))) c33, .bool (neg (ql (Rat.divInt z y))), .slice B34 (zl (ql (Rat.divInt z y))) d35]) rfl (fun _ henv => rn_extract henv rfl rfl) ?_
  refine sA (v := .int .i64 0) rfl (fun _ henv => rn_extract henv rfl rfl) ?_
  intro a henv
  refine seq_step rfl (op_alloc (c := #[.bool (neg (qn 0)), .slice none (zl (qn 0)) 0, .bool (neg (ql 0)), .slice none (zl (ql 0)) 0]) henv hst rfl zero_anvil_ratio_Rat qcells ?_)
  clear henv hst a; intro a w40 g39 henv hst
  refine seq_step rfl (op_store (k := 0) (c' := #[.bool (neg (qn (Rat.divInt z y))), .slice A32 (zl (qn (Rat.divInt z y))) c33, .bool (neg (ql (Rat.divInt z y))), .slice B34 (zl (ql (Rat.divInt z y))) d35]) henv hst (ty_anvil_ratio_Rat.size) rfl rfl rfl rfl (by simp) rfl rfl ?_)
  clear henv hst a; intro a w41 henv hst
  refine sv (v := .int .i64 0) henv rfl (rn_assign henv rfl) ?_
  clear henv a; intro a henv
  refine wpList_nil ?_
  refine th_n ?_
  refine wp_seq ?_
  refine wp_seq ?_
  refine region_any (n := 6) (Sk [bk g39 #[.bool (neg (qn (Rat.divInt z y))), .slice A32 (zl (qn (Rat.divInt z y))) c33, .bool (neg (ql (Rat.divInt z y))), .slice B34 (zl (ql (Rat.divInt z y))) d35] 34, bk g26 #[.bool (neg y), .slice A16 (dl y) c17] 30, bk g24 #[.bool (neg z), .slice A13 (dl z) c14] 30, bk g22 #[.bool (neg y), .slice A10 (zl y) c11] 28, bk g20 #[.bool (neg z), .slice A7 (zl z) c8] 28, bk g1 #[.string ⟨s.toArray⟩, .string ⟨t.toArray⟩] 23] [pfZ B34 d35 (ql (Rat.divInt z y)), pfZ A32 c33 (qn (Rat.divInt z y)), pfR A16 c17 y, pfR A13 c14 z, pfZ A10 c11 y, pfZ A7 c8 z, pfRow fF FF 2 (some ⟨g4, 0, none⟩) 1 1 ([(s, t)]), pfRd 2 (some ⟨g4, 0, none⟩) 1 1 (fl fF [(s, t)])] [] []) mixed rfl henv hst ?_
  clear henv hst; intro w42 henv hst
  refine tL (i := 0) 4 4 [1, 3, 4, 5] rfl (by kernel_rfl) (fun _ _ _ h => h) henv rfl ty_anvil_integer_Int rfl hst rfl rfl rfl ?_
  clear henv a; intro a henv
  refine tL (i := 2) 2 2 [3, 4, 5] rfl (by kernel_rfl) (fun _ _ _ h => h) henv rfl ty_anvil_anvilref02_Int rfl hst rfl rfl rfl ?_
  clear henv a; intro a henv
  refine sAny_one (i := 1) (by kernel_rfl) rfl rfl (op_call henv rfl Tryz.call10 rfl (of_int_q (z := z) (show ZIn _ A7 c8 z from hst.pat (k := 5) rfl)) ?_)
  rintro e w49 ⟨_, rfl, ⟨A43, c44, B45, d46, rfl, hz47, hz48⟩, hb⟩
  refine ⟨_, rfl, ?_⟩
  clear henv a; intro a henv
  replace hst := ((hst.call hb).addZ hz47 ⟨nou_bk rfl, nou_bk rfl, nou_bk rfl, nou_bk rfl, nou_bk rfl, nou_bk rfl, trivial⟩).addZ hz48 ⟨nou_bk rfl, nou_bk rfl, nou_bk rfl, nou_bk rfl, nou_bk rfl, nou_bk rfl, trivial⟩
  clear hz47 hz48
  clear hb
  refine ⟨.inr ⟨hst.kn.pick (rg 0 6) (rg 2 8), .inr (hst.kn.pick [] [])⟩, ?_⟩
  refine sAny_one (i := 3) (by kernel_rfl) rfl rfl (op_call henv rfl Tryz.call11 rfl (of_int_y (z := z) (show RIn _ A13 c14 z from hst.pat (k := 5) rfl)) ?_)
  rintro e w56 ⟨_, rfl, ⟨A50, c51, B52, d53, rfl, hz54, hz55⟩, hb⟩
  refine ⟨_, rfl, ?_⟩
  clear henv a; intro a henv
  replace hst := ((hst.call hb).addR hz54 ⟨nou_bk rfl, nou_bk rfl, nou_bk rfl, nou_bk rfl, nou_bk rfl, nou_bk rfl, trivial⟩).addR hz55 ⟨nou_bk rfl, nou_bk rfl, nou_bk rfl, nou_bk rfl, nou_bk rfl, nou_bk rfl, trivial⟩
  clear hz54 hz55
  clear hb
  refine ⟨.inr ⟨hst.kn.pick (rg 0 6) (rg 4 8), .inr (hst.kn.pick [] [])⟩, ?_⟩
  refine sAny_one (i := 4) (by kernel_rfl) rfl rfl (op_call henv rfl Tryz.call9 rfl (is_qy (r := (z : Rat)) (show ZIn _ A43 c44 (qn (z : Rat)) from hst.pat (k := 3) rfl) (show ZIn _ B45 d46 (ql (z : Rat)) from hst.pat (k := 2) rfl) (show RIn _ A50 c51 (qn (z : Rat)) from hst.pat (k := 1) rfl) (show RIn _ B52 d53 (qd (z : Rat)) from hst.pat (k := 0) rfl) swz (by omega)) ?_)
  rintro e w57 ⟨rfl, hb⟩
  refine ⟨_, rfl, ?_⟩
  clear henv a; intro a henv
  replace hst := hst.call hb
  clear hb
  refine ⟨.inr ⟨hst.kn.pick (rg 0 6) (rg 4 8), .inr (hst.kn.pick [] [])⟩, ?_⟩
  refine tA (i := 5) [] (v := .bool false) rfl (by kernel_rfl) (fun _ _ _ h => h) henv rfl (fun _ => rn_un henv rfl rfl) ?_
  clear henv a; intro a henv
  refine sAny_done (by kernel_rfl) ?_ _
  refine th_n ?_
  refine if_f henv rfl (rfl) ?_
  refine wp_skip ?_
  refine th_n ?_
  refine wp_seq ?_
  refine wp_seq ?_
  refine region_seq ?_
  refine sv (v := .agg #[.bool (neg y), .slice A16 (dl y) c17]) henv rfl (rn_load0 henv ty_anvil_anvilref02_Int rfl (hst.oat (k := 1) rfl) rfl) ?_
  clear henv a; intro a henv
  refine seq_step rfl (op_call henv rfl Tryz.call12 rfl (sign_r (z := y)) ?_)
  rintro e w58 ⟨rfl, hb⟩
  refine ⟨_, rfl, ?_⟩
  clear henv a; intro a henv
  replace hst := hst.call hb
  clear hb
  refine sv (v := .bool (y.sign == (0 : Int))) henv rfl (rn_bin henv rfl rfl rfl) ?_
  clear henv a; intro a henv
  rw [show (y.sign == (0 : Int)) = false from (beq_eq_false_iff_ne.2 fun e => hy0 (Int.sign_eq_zero_iff_zero.1 e))] at henv
  refine wpList_nil ?_
  refine th_n ?_
  refine if_f henv rfl (rfl) ?_
  refine wp_skip ?_
  refine th_n ?_
  refine wp_seq ?_
  refine region_seq ?_
  revert a
  refine sA (v := .agg #[.bool (neg z), .slice A13 (dl z) c14]) rfl (fun _ henv => rn_load0 henv ty_anvil_anvilref02_Int rfl (hst.oat (k := 2) rfl) rfl) ?_
  refine sA (v := .agg #[.bool (neg y), .slice A16 (dl y) c17]) rfl (fun _ henv => rn_load0 henv ty_anvil_anvilref02_Int rfl (hst.oat (k := 1) rfl) rfl) ?_
  intro a henv
  refine seq_step rfl (op_call henv rfl Tryz.call14 rfl (make_y (p := z) (q := y) (r := Rat.divInt z y) (show RIn _ A13 c14 z from hst.pat (k := 7) rfl) (show RIn _ A16 c17 y from hst.pat (k := 6) rfl) (by omega) (by omega) hy0 rfl) ?_)
  rintro e w65 ⟨_, rfl, ⟨A59, c60, B61, d62, rfl, hz63, hz64⟩, hb⟩
  refine ⟨_, rfl, ?_⟩
  clear henv a; intro a henv
  replace hst := ((hst.call hb).addR hz63 ⟨nou_bk rfl, nou_bk rfl, nou_bk rfl, nou_bk rfl, nou_bk rfl, nou_bk rfl, trivial⟩).addR hz64 ⟨nou_bk rfl, nou_bk rfl, nou_bk rfl, nou_bk rfl, nou_bk rfl, nou_bk rfl, trivial⟩
  clear hz63 hz64
  clear hb
  refine seq_step rfl (op_alloc (c := #[.bool false, .slice none 0 0, .bool false, .slice none 0 0]) henv hst rfl zero_anvil_anvilref03_Rat rfl ?_)
  clear henv hst a; intro a w67 g66 henv hst
  refine seq_step rfl (op_store (k := 0) (c' := #[.bool (neg (qn (Rat.divInt z y))), .slice A59 (dl (qn (Rat.divInt z y))) c60, .bool (neg (qd (Rat.divInt z y))), .slice B61 (dl (qd (Rat.divInt z y))) d62]) henv hst (ty_anvil_anvilref03_Rat.size) rfl rfl rfl rfl (by simp) rfl rfl ?_)
  clear henv hst a; intro a w68 henv hst
  refine wpList_nil ?_
  refine th_n ?_
  refine wp_seq ?_
  refine region_any (n := 38) (Sk [bk g66 #[.bool (neg (qn (Rat.divInt z y))), .slice A59 (dl (qn (Rat.divInt z y))) c60, .bool (neg (qd (Rat.divInt z y))), .slice B61 (dl (qd (Rat.divInt z y))) d62] 41, bk g39 #[.bool (neg (qn (Rat.divInt z y))), .slice A32 (zl (qn (Rat.divInt z y))) c33, .bool (neg (ql (Rat.divInt z y))), .slice B34 (zl (ql (Rat.divInt z y))) d35] 34, bk g26 #[.bool (neg y), .slice A16 (dl y) c17] 30, bk g24 #[.bool (neg z), .slice A13 (dl z) c14] 30, bk g22 #[.bool (neg y), .slice A10 (zl y) c11] 28, bk g20 #[.bool (neg z), .slice A7 (zl z) c8] 28, bk g1 #[.string ⟨s.toArray⟩, .string ⟨t.toArray⟩] 23] [pfR B61 d62 (qd (Rat.divInt z y)), pfR A59 c60 (qn (Rat.divInt z y)), pfR B52 d53 (qd (z : Rat)), pfR A50 c51 (qn (z : Rat)), pfZ B45 d46 (ql (z : Rat)), pfZ A43 c44 (qn (z : Rat)), pfZ B34 d35 (ql (Rat.divInt z y)), pfZ A32 c33 (qn (Rat.divInt z y)), pfR A16 c17 y, pfR A13 c14 z, pfZ A10 c11 y, pfZ A7 c8 z, pfRow fF FF 2 (some ⟨g4, 0, none⟩) 1 1 ([(s, t)]), pfRd 2 (some ⟨g4, 0, none⟩) 1 1 (fl fF [(s, t)])] [] []) mixed rfl henv hst ?_
  clear henv hst; intro w69 henv hst
  refine tM (i := 0) (rg 1 37) rfl (by kernel_rfl) (fun _ _ _ h => h) henv rfl rfl ?_
  clear henv a; intro a henv
  refine tA (i := 1) (rg 2 36) (v := .bool true) rfl (by kernel_rfl) (fun _ _ _ h => h) henv rfl (fun _ => rn_bin henv rfl rfl rfl) ?_
  clear henv a; intro a henv
  refine tM (i := 2) (rg 3 35) rfl (by kernel_rfl) (fun _ _ _ h => h) henv rfl rfl ?_
  clear henv a; intro a henv
  refine tLg (i := 3) 1 1 (rg 5 33) rfl (by kernel_rfl) (fun _ _ _ h => h) henv rfl rfl rfl rfl ty_anvil_ratio_Rat rfl hst rfl rfl rfl ?_
  clear henv a; intro a henv
  refine tLg (i := 4) 0 0 (rg 5 33) rfl (by kernel_rfl) (fun _ _ _ h => h) henv rfl rfl rfl rfl ty_anvil_anvilref03_Rat rfl hst rfl rfl rfl ?_
  clear henv a; intro a henv
  refine sAny_oneg (i := 5) (by kernel_rfl) rfl rfl henv rfl rfl rfl (op_call henv rfl Tryz.call9 rfl (is_qy (r := Rat.divInt z y) (show ZIn _ A32 c33 (qn (Rat.divInt z y)) from hst.pat (k := 7) rfl) (show ZIn _ B34 d35 (ql (Rat.divInt z y)) from hst.pat (k := 6) rfl) (show RIn _ A59 c60 (qn (Rat.divInt z y)) from hst.pat (k := 1) rfl) (show RIn _ B61 d62 (qd (Rat.divInt z y)) from hst.pat (k := 0) rfl) swr (by omega)) ?_)
  rintro e w70 ⟨rfl, hb⟩
  refine ⟨_, rfl, ?_⟩
  clear henv a; intro a henv
  replace hst := hst.call hb
  clear hb
  refine ⟨.inr ⟨hst.kn.pick (rg 0 7) (rg 0 14), .inr (hst.kn.pick [] [])⟩, ?_⟩
  refine tA (i := 6) (rg 7 31) (v := .bool true) rfl (by kernel_rfl) (fun _ _ _ h => h) henv rfl (fun _ => rn_pick henv rfl rfl) ?_
  clear henv a; intro a henv
  refine tM (i := 7) (rg 8 30) rfl (by kernel_rfl) (fun _ _ _ h => h) henv rfl rfl ?_
  clear henv a; intro a henv
  refine tLg (i := 8) 1 1 [9, 11, 12, 13, 14, 15, 16, 17, 18, 19, 20, 21, 22, 23, 24, 25, 26, 27, 28, 29, 30, 31, 32, 33, 34, 35, 36, 37] rfl (by kernel_rfl) (fun _ _ _ h => h) henv rfl rfl rfl rfl ty_anvil_ratio_Rat rfl hst rfl rfl rfl ?_
  clear henv a; intro a henv
  refine tLg (i := 10) 0 0 (rg 11 27) rfl (by kernel_rfl) (fun _ _ _ h => h) henv rfl rfl rfl rfl ty_anvil_anvilref03_Rat rfl hst rfl rfl rfl ?_
  clear henv a; intro a henv
  refine sAny_oneg (i := 9) (by kernel_rfl) rfl rfl henv rfl rfl rfl (op_call henv rfl Tryz.call15 rfl (sign_q (x := Rat.divInt z y) (show ZIn _ A32 c33 (qn (Rat.divInt z y)) from hst.pat (k := 7) rfl) (show ZIn _ B34 d35 (ql (Rat.divInt z y)) from hst.pat (k := 6) rfl)) ?_)
  rintro e w71 ⟨rfl, hb⟩
  refine ⟨_, rfl, ?_⟩
  clear henv a; intro a henv
  replace hst := hst.call hb
  clear hb
  refine ⟨.inr ⟨hst.kn.pick (rg 0 7) (rg 0 14), .inr (hst.kn.pick [] [])⟩, ?_⟩
  refine sAny_oneg (i := 11) (by kernel_rfl) rfl rfl henv rfl rfl rfl (op_call henv rfl Tryz.call16 rfl (sign_y (x := Rat.divInt z y) (show RIn _ A59 c60 (qn (Rat.divInt z y)) from hst.pat (k := 1) rfl) (show RIn _ B61 d62 (qd (Rat.divInt z y)) from hst.pat (k := 0) rfl)) ?_)
  rintro e w72 ⟨rfl, hb⟩
  refine ⟨_, rfl, ?_⟩
  clear henv a; intro a henv
  replace hst := hst.call hb
  clear hb
  refine ⟨.inr ⟨hst.kn.pick (rg 0 7) (rg 0 14), .inr (hst.kn.pick [] [])⟩, ?_⟩
  refine tAg (i := 12) (rg 13 25) (v := .bool ((qn (Rat.divInt z y)).sign == (qn (Rat.divInt z y)).sign)) rfl (by kernel_rfl) (fun _ _ _ h => h) henv rfl rfl rfl rfl (fun _ => rn_bin henv rfl rfl rfl) ?_
  clear henv a; intro a henv
  rw [show ((qn (Rat.divInt z y)).sign == (qn (Rat.divInt z y)).sign) = true from (beq_self_eq_true _)] at henv
  refine tA (i := 13) (rg 14 24) (v := .bool true) rfl (by kernel_rfl) (fun _ _ _ h => h) henv rfl (fun _ => rn_pick henv rfl rfl) ?_
  clear henv a; intro a henv
  refine tM (i := 14) (rg 15 23) rfl (by kernel_rfl) (fun _ _ _ h => h) henv rfl rfl ?_
  clear henv a; intro a henv
  refine tLg (i := 15) 1 1 [16, 18, 19, 20, 21, 22, 23, 24, 25, 26, 27, 28, 29, 30, 31, 32, 33, 34, 35, 36, 37] rfl (by kernel_rfl) (fun _ _ _ h => h) henv rfl rfl rfl rfl ty_anvil_ratio_Rat rfl hst rfl rfl rfl ?_
  clear henv a; intro a henv
  refine tLg (i := 17) 0 0 (rg 18 20) rfl (by kernel_rfl) (fun _ _ _ h => h) henv rfl rfl rfl rfl ty_anvil_anvilref03_Rat rfl hst rfl rfl rfl ?_
  clear henv a; intro a henv
  refine sAny_oneg (i := 16) (by kernel_rfl) rfl rfl henv rfl rfl rfl (op_call henv rfl Tryz.call17 rfl (whole_q (x := Rat.divInt z y) (show ZIn _ A32 c33 (qn (Rat.divInt z y)) from hst.pat (k := 7) rfl) (show ZIn _ B34 d35 (ql (Rat.divInt z y)) from hst.pat (k := 6) rfl)) ?_)
  rintro e w73 ⟨rfl, hb⟩
  refine ⟨_, rfl, ?_⟩
  clear henv a; intro a henv
  replace hst := hst.call hb
  clear hb
  refine ⟨.inr ⟨hst.kn.pick (rg 0 7) (rg 0 14), .inr (hst.kn.pick [] [])⟩, ?_⟩
  refine sAny_oneg (i := 18) (by kernel_rfl) rfl rfl henv rfl rfl rfl (op_call henv rfl Tryz.call18 rfl (whole_y (x := Rat.divInt z y) (show RIn _ A59 c60 (qn (Rat.divInt z y)) from hst.pat (k := 1) rfl) (show RIn _ B61 d62 (qd (Rat.divInt z y)) from hst.pat (k := 0) rfl)) ?_)
  rintro e w74 ⟨rfl, hb⟩
  refine ⟨_, rfl, ?_⟩
  clear henv a; intro a henv
  replace hst := hst.call hb
  clear hb
  refine ⟨.inr ⟨hst.kn.pick (rg 0 7) (rg 0 14), .inr (hst.kn.pick [] [])⟩, ?_⟩
  refine tAg (i := 19) (rg 20 18) (v := .bool ((decide (ql (Rat.divInt z y) = 0)) == (decide (ql (Rat.divInt z y) = 0)))) rfl (by kernel_rfl) (fun _ _ _ h => h) henv rfl rfl rfl rfl (fun _ => rn_eqlb henv Tryz.underlying4 rfl rfl) ?_
  clear henv a; intro a henv
  rw [show ((decide (ql (Rat.divInt z y) = 0)) == (decide (ql (Rat.divInt z y) = 0))) = true from (beq_self_eq_true _)] at henv
  refine tA (i := 20) (rg 21 17) (v := .bool true) rfl (by kernel_rfl) (fun _ _ _ h => h) henv rfl (fun _ => rn_pick henv rfl rfl) ?_
  clear henv a; intro a henv
  refine tM (i := 21) (rg 22 16) rfl (by kernel_rfl) (fun _ _ _ h => h) henv rfl rfl ?_
  clear henv a; intro a henv
  refine tLg (i := 22) 1 1 [23, 24, 26, 27, 28, 29, 30, 31, 32, 33, 34, 35, 36, 37] rfl (by kernel_rfl) (fun _ _ _ h => h) henv rfl rfl rfl rfl ty_anvil_ratio_Rat rfl hst rfl rfl rfl ?_
  clear henv a; intro a henv
  refine tLg (i := 25) 0 0 (rg 26 12) rfl (by kernel_rfl) (fun _ _ _ h => h) henv rfl rfl rfl rfl ty_anvil_anvilref03_Rat rfl hst rfl rfl rfl ?_
  clear henv a; intro a henv
  have hs78 : zl (Rat.divInt z y).floor ≤ 400 := floor_sz swr
  refine sAny_oneg (i := 23) (by kernel_rfl) rfl rfl henv rfl rfl rfl (op_call henv rfl Tryz.call19 rfl (floor_q (x := Rat.divInt z y) (show ZIn _ A32 c33 (qn (Rat.divInt z y)) from hst.pat (k := 7) rfl) (show ZIn _ B34 d35 (ql (Rat.divInt z y)) from hst.pat (k := 6) rfl) swr (by omega)) ?_)
  rintro e w79 ⟨_, rfl, ⟨A75, c76, rfl, hz77⟩, hb⟩
  refine ⟨_, rfl, ?_⟩
  clear henv a; intro a henv
  replace hst := (hst.call hb).addZ hz77 ⟨nou_bk rfl, nou_bk rfl, nou_bk rfl, nou_bk rfl, nou_bk rfl, nou_bk rfl, nou_bk rfl, trivial⟩
  clear hz77
  clear hb
  refine ⟨.inr ⟨hst.kn.pick (rg 0 7) (rg 1 14), .inr (hst.kn.pick [] [])⟩, ?_⟩
  refine sAny_oneg (i := 24) (by kernel_rfl) rfl rfl henv rfl rfl rfl (op_call henv rfl Tryz.call20 rfl (text_z (z := (Rat.divInt z y).floor) (show ZIn _ A75 c76 ((Rat.divInt z y).floor) from hst.pat (k := 0) rfl) (by omega)) ?_)
  rintro e w80 ⟨rfl, hb⟩
  refine ⟨_, rfl, ?_⟩
  clear henv a; intro a henv
  replace hst := hst.call hb
  clear hb
  refine ⟨.inr ⟨hst.kn.pick (rg 0 7) (rg 1 14), .inr (hst.kn.pick [] [])⟩, ?_⟩
  have hs84 := dl_le2 (floor_sz swr)
  refine sAny_oneg (i := 26) (by kernel_rfl) rfl rfl henv rfl rfl rfl (op_call henv rfl Tryz.call22 rfl (floor_y (x := Rat.divInt z y) (show RIn _ A59 c60 (qn (Rat.divInt z y)) from hst.pat (k := 2) rfl) (show RIn _ B61 d62 (qd (Rat.divInt z y)) from hst.pat (k := 1) rfl) swr (by omega)) ?_)
  rintro e w85 ⟨_, rfl, ⟨A81, c82, rfl, hz83⟩, hb⟩
  refine ⟨_, rfl, ?_⟩
  clear henv a; intro a henv
  replace hst := (hst.call hb).addR hz83 ⟨nou_bk rfl, nou_bk rfl, nou_bk rfl, nou_bk rfl, nou_bk rfl, nou_bk rfl, nou_bk rfl, trivial⟩
  clear hz83
  clear hb
  refine ⟨.inr ⟨hst.kn.pick (rg 0 7) (rg 2 14), .inr (hst.kn.pick [] [])⟩, ?_⟩
  refine sAny_oneg (i := 27) (by kernel_rfl) rfl rfl henv rfl rfl rfl (op_call henv rfl Tryz.call21 rfl (text_r (z := (Rat.divInt z y).floor) (show RIn _ A81 c82 ((Rat.divInt z y).floor) from hst.pat (k := 0) rfl) (by omega)) ?_)
  rintro e w86 ⟨rfl, hb⟩
  refine ⟨_, rfl, ?_⟩
  clear henv a; intro a henv
  replace hst := hst.call hb
  clear hb
  refine ⟨.inr ⟨hst.kn.pick (rg 0 7) (rg 2 14), .inr (hst.kn.pick [] [])⟩, ?_⟩
  refine tAg (i := 28) (rg 29 9) (v := .bool (decide ((textZ ((Rat.divInt z y).floor)) = (textZ ((Rat.divInt z y).floor))))) rfl (by kernel_rfl) (fun _ _ _ h => h) henv rfl rfl rfl rfl (fun _ => rn_eqls (s := (textZ ((Rat.divInt z y).floor))) (t := (textZ ((Rat.divInt z y).floor))) henv rfl rfl) ?_
  clear henv a; intro a henv
  rw [show (decide ((textZ ((Rat.divInt z y).floor)) = (textZ ((Rat.divInt z y).floor)))) = true from decide_eq_true rfl] at henv
  refine tA (i := 29) (rg 30 8) (v := .bool true) rfl (by kernel_rfl) (fun _ _ _ h => h) henv rfl (fun _ => rn_pick henv rfl rfl) ?_
  clear henv a; intro a henv
  refine tM (i := 30) (rg 31 7) rfl (by kernel_rfl) (fun _ _ _ h => h) henv rfl rfl ?_
  clear henv a; intro a henv
  refine tLg (i := 31) 1 1 [32, 34, 35, 36, 37] rfl (by kernel_rfl) (fun _ _ _ h => h) henv rfl rfl rfl rfl ty_anvil_ratio_Rat rfl hst rfl rfl rfl ?_
  clear henv a; intro a henv
  refine tLg (i := 33) 0 0 (rg 34 4) rfl (by kernel_rfl) (fun _ _ _ h => h) henv rfl rfl rfl rfl ty_anvil_anvilref03_Rat rfl hst rfl rfl rfl ?_
  clear henv a; intro a henv
  refine sAny_oneg (i := 32) (by kernel_rfl) rfl rfl henv rfl rfl rfl (op_call henv rfl Tryz.call23 rfl (text_q (x := Rat.divInt z y) (show ZIn _ A32 c33 (qn (Rat.divInt z y)) from hst.pat (k := 9) rfl) (show ZIn _ B34 d35 (ql (Rat.divInt z y)) from hst.pat (k := 8) rfl) swr (by omega)) ?_)
  rintro e w87 ⟨rfl, hb⟩
  refine ⟨_, rfl, ?_⟩
  clear henv a; intro a henv
  replace hst := hst.call hb
  clear hb
  refine ⟨.inr ⟨hst.kn.pick (rg 0 7) (rg 2 14), .inr (hst.kn.pick [] [])⟩, ?_⟩
  refine sAny_oneg (i := 34) (by kernel_rfl) rfl rfl henv rfl rfl rfl (op_call henv rfl Tryz.call24 rfl (text_y (x := Rat.divInt z y) (show RIn _ A59 c60 (qn (Rat.divInt z y)) from hst.pat (k := 3) rfl) (show RIn _ B61 d62 (qd (Rat.divInt z y)) from hst.pat (k := 2) rfl) swr (by omega)) ?_)
  rintro e w88 ⟨rfl, hb⟩
  refine ⟨_, rfl, ?_⟩
  clear henv a; intro a henv
  replace hst := hst.call hb
  clear hb
  refine ⟨.inr ⟨hst.kn.pick (rg 0 7) (rg 2 14), .inr (hst.kn.pick [] [])⟩, ?_⟩
  refine tAg (i := 35) [36, 37] (v := .bool (decide ((textQ (Rat.divInt z y)) = (textQ (Rat.divInt z y))))) rfl (by kernel_rfl) (fun _ _ _ h => h) henv rfl rfl rfl rfl (fun _ => rn_eqls (s := (textQ (Rat.divInt z y))) (t := (textQ (Rat.divInt z y))) henv rfl rfl) ?_
  clear henv a; intro a henv
  rw [show (decide ((textQ (Rat.divInt z y)) = (textQ (Rat.divInt z y)))) = true from decide_eq_true rfl] at henv
  refine tA (i := 36) [37] (v := .bool true) rfl (by kernel_rfl) (fun _ _ _ h => h) henv rfl (fun _ => rn_pick henv rfl rfl) ?_
  clear henv a; intro a henv
  refine tA (i := 37) [] (v := .bool true) rfl (by kernel_rfl) (fun _ _ _ h => h) henv rfl (fun _ => rn_assign henv rfl) ?_
  clear henv a; intro a henv
  refine sAny_done (by kernel_rfl) ?_ _
  refine th_n ?_
  refine wp_ret ?_
  refine leave henv (res1 Tryz.results3 (RV.tmp henv rfl)) ?_
  exact ⟨rfl, hst.below⟩
theorem qmakes {s t : List UInt8} {w0 : World} :
    Calls Tryz.prog 3 #[.agg #[.string ⟨s.toArray⟩, .string ⟨t.toArray⟩]] w0 fun e w' => e = .returned (.bool true) ∧ Below w0.heap.size w0 w' := by
  by_cases hl : Lg (s, t)
  · exact qmakes_long hl
  have h1 : s.length ≤ 300 := Nat.not_lt.1 fun h => hl (.inl h)
  have h2 : t.length ≤ 300 := Nat.not_lt.1 fun h => hl (.inr h)
  obtain ⟨z, ps, qs, bs, hs, bz⟩ := reads_as s (by omega)
  obtain ⟨y, pt, qt, bt, ht, by_⟩ := reads_as t (by omega)
  by_cases g : bs < 0 ∧ bt < 0
  · by_cases hy0 : y = 0
    · exact qmakes_zero hs ht hl g.1 g.2 hy0 (by omega) (by omega)
    · exact qmakes_ok hs ht hl g.1 g.2 hy0 (by omega) (by omega)
  · exact qmakes_no hs ht hl g
def RatAs (s t : List UInt8) (x : Rat) : Prop := ∀ w0 : World,
    Calls Tryz.prog 25 #[.agg #[.string ⟨s.toArray⟩, .string ⟨t.toArray⟩]] w0 fun e w' => (∃ v u, e = .returned (.tuple #[v, u, .bool true]) ∧ QAt w' v x ∧ YAt w' u x) ∧ Below w0.heap.size w0 w'
def RatNo (s t : List UInt8) : Prop := ∀ w0 : World,
    Calls Tryz.prog 25 #[.agg #[.string ⟨s.toArray⟩, .string ⟨t.toArray⟩]] w0 fun e w' => e = .returned (.tuple #[.agg #[.bool (neg (qn 0)), .slice none (zl (qn 0)) 0, .bool (neg (ql 0)), .slice none (zl (ql 0)) 0], .agg #[.bool (neg 0), .slice none (dl 0) 0, .bool (neg 0), .slice none (dl 0) 0], .bool false]) ∧ Below w0.heap.size w0 w'
end Go.Proofs.YtegglooojlheoaaGreatDoor.W
