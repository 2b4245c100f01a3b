/- Package anvilref03: what its functions leave, over core's Rat. Printed by pv/gen_ratio.py. No condition. -/
import Derived.Test.YtegglooojlheoaaDoorM46
import Derived.Test.YtegglooojlheoaaDoorM15
import Derived.Test.YtegglooojlheoaaDoorM47
import Derived.Test.YtegglooojlheoaaDoorM39
import Derived.Test.YtegglooojlheoaaDoorM36
import Derived.Test.YtegglooojlheoaaDoorM31

set_option maxRecDepth 100000
set_option maxHeartbeats 4000000
namespace Go.Proofs.YtegglooojlheoaaDoor.W
open Go.RowKit Anv Go.Lib
theorem r_at {w : World} {A : Option Addr} {c : Nat} {a z : Int} (e : a = z) (h : RIn w A c a) : RAt w (.agg #[.bool (neg a), .slice A (dl a) c]) z := by subst e; exact ⟨_, _, rfl, h⟩
theorem y_at {w : World} {A B : Option Addr} {c d : Nat} {a b : Int} {r : Rat} (e1 : a = qn r) (e2 : b = qd r) (h1 : RIn w A c a) (h2 : RIn w B d b) : YAt w (.agg #[.bool (neg a), .slice A (dl a) c, .bool (neg b), .slice B (dl b) d]) r := by subst e1 e2; exact ⟨_, _, _, _, rfl, h1, h2⟩
theorem gcd_dlq {x y : Int} (hy : y ≠ 0) : dl (Int.gcd x y : Int) ≤ dl y := dn_mono (by
 have h := Int.le_of_dvd (a := (Int.gcd x y : Int)) (b := (y.natAbs : Int)) (by omega) (Int.dvd_natAbs.2 (Int.gcd_dvd_right x y))
 omega)
theorem gcd_dl' (x y : Int) : dl (Int.gcd x y : Int) ≤ dl x + dl y := by
 by_cases hy : y = 0
 ·subst hy; rw [Int.gcd_zero_right, dl_abs]; omega
 ·have := gcd_dlq (x := x) hy; omega
theorem gcd_mod_l (x y : Int) : x % (Int.gcd x y : Int) = 0 := Int.emod_eq_zero_of_dvd (Int.gcd_dvd_left x y)
theorem gcd_mod_r (x y : Int) : y % (Int.gcd x y : Int) = 0 := Int.emod_eq_zero_of_dvd (Int.gcd_dvd_right x y)
section
variable {N : Nat} {dq : List Deferred} {a : Act} {l : List (Nat × Value)} {w : World} {d : Nat} {ty : TypeId} {pos : String} {af : Array Edge} {gd : Option (Nat × Bool)}
theorem rn_yrat0 : (execOp a.eval ⟨some d, .build 108 #[], ty, pos, af, gd⟩).run Tryd.prog w = .ok (.value (.agg #[.bool (neg 0), .slice none (dl 0) 0, .bool (neg 0), .slice none (dl 0) 0])) w := by
 rw [neg_zero, dl_zero]
 have hz : (zeroValue 108).run Tryd.prog w = .ok (.agg #[.bool false, .slice none 0 0, .bool false, .slice none 0 0]) w := by obtain ⟨i, hi, hv⟩ := zero_anvil_anvilref03_Rat; simp [zeroValue, typeInfo, hi, hv]
 simp [execOp, Instr.build, hz, run_underlying Tryd.underlying108, Sem.run_bind, run_sizeOf ty_anvil_anvilref02_Int.size, Instr.fill, Value.cells]
theorem rn_yrat2 {x y : Operand} {p q r s : Value} (h : EnvD dq N a l) (hx : evl l x = some (.agg #[p, q])) (hy : evl l y = some (.agg #[r, s])) :
  (execOp a.eval ⟨some d, .build 108 #[(0, x), (1, y)], ty, pos, af, gd⟩).run Tryd.prog w = .ok (.value (.agg #[p, q, r, s])) w := by
 have hz : (zeroValue 108).run Tryd.prog w = .ok (.agg #[.bool false, .slice none 0 0, .bool false, .slice none 0 0]) w := by obtain ⟨i, hi, hv⟩ := zero_anvil_anvilref03_Rat; simp [zeroValue, typeInfo, hi, hv]
 simp [execOp, h.ev hx, h.ev hy, Instr.build, hz, run_underlying Tryd.underlying108, Sem.run_bind, run_sizeOf ty_anvil_anvilref02_Int.size, Instr.fill, Value.cells]
end
theorem make_yp {A B : Option Addr} {c d : Nat} {p q : Int} {r : Rat} {w0 : World} (hx : RIn w0 A c p) (hy : RIn w0 B d q) (hn : dl p ≤ 50000) (hm : dl q ≤ 50000) (h0 : 0 < q) (hr : Rat.divInt p q = r) :
  Calls Tryd.prog 121 #[.agg #[.bool (neg p), .slice A (dl p) c], .agg #[.bool (neg q), .slice B (dl q) d]] w0 fun e w' => ∃ v, e = .returned v ∧ YAt w' v r ∧ Below w0.heap.size w0 w' := by
 have hsg : q.sign = 1 := Int.sign_eq_one_of_pos (by omega)
 have hg0 := gcd_ne (n := p) (d := q) (by omega)
 have hgn := gcd_dlq (x := p) (y := q) (by omega)
 have hgn2 := gcd_dlq (x := -p) (y := -q) (by omega)
 have hg2 := gcd_ne (n := -p) (d := -q) (by omega)
 have hnp := dl_neg p
 have hnq := dl_neg q
 refine enter Tryd.func121 rfl Tryd.ntmps121 rfl ?_
 intro a η σ
 replace σ := σ.addR hx trivial
 replace σ := σ.addR hy trivial
 refine wp_seq (region_seq ?_)
 refine seq_step rfl (op_box (c := #[.bool (neg p), .slice A (dl p) c]) η σ rfl rfl rfl ?_)
 clear η σ a; intro a w2 g1 η σ
 refine seq_step rfl (op_box (c := #[.bool (neg q), .slice B (dl q) d]) η σ rfl rfl rfl ?_)
 clear η σ a; intro a w4 g3 η σ
 refine seq_step rfl (op_alloc (c := #[.bool false, .slice none 0 0, .bool false, .slice none 0 0]) η σ rfl zero_anvil_anvilref03_Rat rfl ?_)
 clear η σ a; intro a w6 g5 η σ
 refine wpList_nil (th_n (wp_seq (wp_seq (region_seq ?_))))
 refine sv (v := .agg #[.bool (neg q), .slice B (dl q) d]) η rfl (rn_load0 η ty_anvil_anvilref02_Int rfl (σ.oat (k := 1) rfl) rfl) ?_
 clear η a; intro a η
 refine seq_step rfl (op_call η rfl Tryd.call82 rfl (sign_r (z := q)) ?_)
 rintro e w7 ⟨rfl, hb⟩
 refine ⟨_, rfl, ?_⟩
 clear η a; intro a η
 replace σ := σ.call hb
 clear hb
 refine sv (v := .bool (decide (q.sign < (0 : Int)))) η rfl (rn_bin η rfl rfl rfl) ?_
 clear η a; intro a η
 rw [show (decide (q.sign < (0 : Int))) = false from (by rw [hsg]; rfl)] at η
 refine wpList_nil (th_n ?_)
 refine if_f η rfl (rfl) ?_
 refine wp_skip (th_n (wp_seq (region_seq ?_)))
 revert a
 refine sA (v := .agg #[.bool (neg p), .slice A (dl p) c]) rfl (fun _ η => rn_load0 η ty_anvil_anvilref02_Int rfl (σ.oat (k := 2) rfl) rfl) ?_
 refine sA (v := .agg #[.bool (neg q), .slice B (dl q) d]) rfl (fun _ η => rn_load0 η ty_anvil_anvilref02_Int rfl (σ.oat (k := 1) rfl) rfl) ?_
 intro a η
 have hs8 := gcd_dl' p q
 refine seq_step rfl (op_call η rfl Tryd.call123 rfl (gcd_r (x := p) (y := q) (show RIn _ A c p from σ.pat (k := 1) rfl) (show RIn _ B d q from σ.pat (k := 0) rfl) (by omega) (by omega)) ?_)
 rintro e w12 ⟨_, rfl, ⟨A9, c10, rfl, hz11⟩, hb⟩
 refine ⟨_, rfl, ?_⟩
 clear η a; intro a η
 replace σ := (σ.call hb).addR hz11 ⟨nou_bk rfl, nou_bk rfl, nou_bk rfl, trivial⟩
 clear hz11
 clear hb
 refine seq_step rfl (op_alloc (c := #[.bool (neg 0), .slice none (dl 0) 0]) η σ rfl zero_anvil_anvilref02_Int rcells ?_)
 clear η σ a; intro a w14 g13 η σ
 refine seq_step rfl (op_store (k := 0) (c' := #[.bool (neg ((Int.gcd p q : Nat) : Int)), .slice A9 (dl ((Int.gcd p q : Nat) : Int)) c10]) η σ (ty_anvil_anvilref02_Int.size) rfl rfl rfl rfl (by simp) rfl rfl ?_)
 clear η σ a; intro a w15 η σ
 refine wpList_nil (th_n (wp_seq (region_seq ?_)))
 revert a
 refine sA (v := .agg #[.bool (neg p), .slice A (dl p) c]) rfl (fun _ η => rn_load0 η ty_anvil_anvilref02_Int rfl (σ.oat (k := 3) rfl) rfl) ?_
 refine sA (v := .agg #[.bool (neg ((Int.gcd p q : Nat) : Int)), .slice A9 (dl ((Int.gcd p q : Nat) : Int)) c10]) rfl (fun _ η => rn_load0 η ty_anvil_anvilref02_Int rfl (σ.oat (k := 0) rfl) rfl) ?_
 intro a η
 have hs16 := dl_ediv p ((Int.gcd p q : Nat) : Int)
 refine seq_step rfl (op_call η rfl Tryd.call122 rfl (over_r (x := p) (y := ((Int.gcd p q : Nat) : Int)) (show RIn _ A c p from σ.pat (k := 2) rfl) (show RIn _ A9 c10 ((Int.gcd p q : Nat) : Int) from σ.pat (k := 0) rfl) (by omega) (by omega) hg0 (gcd_mod_l _ _)) ?_)
 rintro e w20 ⟨_, rfl, ⟨A17, c18, rfl, hz19⟩, hb⟩
 refine ⟨_, rfl, ?_⟩
 clear η a; intro a η
 replace σ := (σ.call hb).addR hz19 ⟨nou_bk rfl, nou_bk rfl, nou_bk rfl, nou_bk rfl, trivial⟩
 clear hz19
 clear hb
 revert a
 refine mA rfl rfl ?_
 refine sA (v := .agg #[.bool (neg (p / ((Int.gcd p q : Nat) : Int))), .slice A17 (dl (p / ((Int.gcd p q : Nat) : Int))) c18]) rfl (fun _ η => rn_extract η rfl rfl) ?_
 refine sA (v := .bool true) rfl (fun _ η => rn_extract η rfl rfl) ?_
 intro a η
 refine seq_step rfl (op_alloc (c := #[.bool (neg 0), .slice none (dl 0) 0]) η σ rfl zero_anvil_anvilref02_Int rcells ?_)
 clear η σ a; intro a w22 g21 η σ
 refine seq_step rfl (op_store (k := 0) (c' := #[.bool (neg (p / ((Int.gcd p q : Nat) : Int))), .slice A17 (dl (p / ((Int.gcd p q : Nat) : Int))) c18]) η σ (ty_anvil_anvilref02_Int.size) rfl rfl rfl rfl (by simp) rfl rfl ?_)
 clear η σ a; intro a w23 η σ
 refine sv (v := .bool true) η rfl (rn_assign η rfl) ?_
 clear η a; intro a η
 refine wpList_nil (th_n (wp_seq (region_seq ?_)))
 revert a
 refine sA (v := .agg #[.bool (neg q), .slice B (dl q) d]) rfl (fun _ η => rn_load0 η ty_anvil_anvilref02_Int rfl (σ.oat (k := 3) rfl) rfl) ?_
 refine sA (v := .agg #[.bool (neg ((Int.gcd p q : Nat) : Int)), .slice A9 (dl ((Int.gcd p q : Nat) : Int)) c10]) rfl (fun _ η => rn_load0 η ty_anvil_anvilref02_Int rfl (σ.oat (k := 1) rfl) rfl) ?_
 intro a η
 have hs24 := dl_ediv q ((Int.gcd p q : Nat) : Int)
 refine seq_step rfl (op_call η rfl Tryd.call122 rfl (over_r (x := q) (y := ((Int.gcd p q : Nat) : Int)) (show RIn _ B d q from σ.pat (k := 2) rfl) (show RIn _ A9 c10 ((Int.gcd p q : Nat) : Int) from σ.pat (k := 1) rfl) (by omega) (by omega) hg0 (gcd_mod_r _ _)) ?_)
 rintro e w28 ⟨_, rfl, ⟨A25, c26, rfl, hz27⟩, hb⟩
 refine ⟨_, rfl, ?_⟩
 clear η a; intro a η
 replace σ := (σ.call hb).addR hz27 ⟨nou_bk rfl, nou_bk rfl, nou_bk rfl, nou_bk rfl, nou_bk rfl, trivial⟩
 clear hz27
 clear hb
 revert a
 refine mA rfl rfl ?_
 refine sA (v := .agg #[.bool (neg (q / ((Int.gcd p q : Nat) : Int))), .slice A25 (dl (q / ((Int.gcd p q : Nat) : Int))) c26]) rfl (fun _ η => rn_extract η rfl rfl) ?_
 refine sA (v := .bool true) rfl (fun _ η => rn_extract η rfl rfl) ?_
 intro a η
 refine seq_step rfl (op_alloc (c := #[.bool (neg 0), .slice none (dl 0) 0]) η σ rfl zero_anvil_anvilref02_Int rcells ?_)
 clear η σ a; intro a w30 g29 η σ
 refine seq_step rfl (op_store (k := 0) (c' := #[.bool (neg (q / ((Int.gcd p q : Nat) : Int))), .slice A25 (dl (q / ((Int.gcd p q : Nat) : Int))) c26]) η σ (ty_anvil_anvilref02_Int.size) rfl rfl rfl rfl (by simp) rfl rfl ?_)
 clear η σ a; intro a w31 η σ
 refine sv (v := .bool true) η rfl (rn_assign η rfl) ?_
 clear η a; intro a η
 refine wpList_nil (th_n (wp_seq (region_seq ?_)))
 revert a
 refine sA (v := .agg #[.bool (neg (p / ((Int.gcd p q : Nat) : Int))), .slice A17 (dl (p / ((Int.gcd p q : Nat) : Int))) c18]) rfl (fun _ η => rn_load0 η ty_anvil_anvilref02_Int rfl (σ.oat (k := 1) rfl) rfl) ?_
 refine sA (v := .agg #[.bool (neg (q / ((Int.gcd p q : Nat) : Int))), .slice A25 (dl (q / ((Int.gcd p q : Nat) : Int))) c26]) rfl (fun _ η => rn_load0 η ty_anvil_anvilref02_Int rfl (σ.oat (k := 0) rfl) rfl) ?_
 refine sA (v := .agg #[.bool (neg (p / ((Int.gcd p q : Nat) : Int))), .slice A17 (dl (p / ((Int.gcd p q : Nat) : Int))) c18, .bool (neg (q / ((Int.gcd p q : Nat) : Int))), .slice A25 (dl (q / ((Int.gcd p q : Nat) : Int))) c26]) rfl (fun _ η => rn_yrat2 η rfl rfl) ?_
 intro a η
 refine seq_step rfl (op_store (k := 3) (c' := #[.bool (neg (p / ((Int.gcd p q : Nat) : Int))), .slice A17 (dl (p / ((Int.gcd p q : Nat) : Int))) c18, .bool (neg (q / ((Int.gcd p q : Nat) : Int))), .slice A25 (dl (q / ((Int.gcd p q : Nat) : Int))) c26]) η σ (ty_anvil_anvilref03_Rat.size) rfl rfl rfl rfl (by simp) rfl rfl ?_)
 clear η σ a; intro a w32 η σ
 refine wpList_nil (th_n (wp_ret ?_))
 refine leave η (res1 Tryd.results121 (RV.cell η ty_anvil_anvilref03_Rat rfl (σ.oat (k := 3) rfl) rfl)) ?_
 exact ⟨_, rfl, y_at (hr ▸ low_n h0) (hr ▸ low_d h0) (σ.pat (k := 1) rfl) (σ.pat (k := 0) rfl), σ.below⟩
theorem make_yn {A B : Option Addr} {c d : Nat} {p q : Int} {r : Rat} {w0 : World} (hx : RIn w0 A c p) (hy : RIn w0 B d q) (hn : dl p ≤ 50000) (hm : dl q ≤ 50000) (h0 : q < 0) (hr : Rat.divInt p q = r) :
  Calls Tryd.prog 121 #[.agg #[.bool (neg p), .slice A (dl p) c], .agg #[.bool (neg q), .slice B (dl q) d]] w0 fun e w' => ∃ v, e = .returned v ∧ YAt w' v r ∧ Below w0.heap.size w0 w' := by
 have hsg : q.sign = -1 := Int.sign_eq_neg_one_of_neg (by omega)
 have hg0 := gcd_ne (n := p) (d := q) (by omega)
 have hgn := gcd_dlq (x := p) (y := q) (by omega)
 have hgn2 := gcd_dlq (x := -p) (y := -q) (by omega)
 have hg2 := gcd_ne (n := -p) (d := -q) (by omega)
 have hnp := dl_neg p
 have hnq := dl_neg q
 refine enter Tryd.func121 rfl Tryd.ntmps121 rfl ?_
 intro a η σ
 replace σ := σ.addR hx trivial
 replace σ := σ.addR hy trivial
 refine wp_seq (region_seq ?_)
 refine seq_step rfl (op_box (c := #[.bool (neg p), .slice A (dl p) c]) η σ rfl rfl rfl ?_)
 clear η σ a; intro a w2 g1 η σ
 refine seq_step rfl (op_box (c := #[.bool (neg q), .slice B (dl q) d]) η σ rfl rfl rfl ?_)
 clear η σ a; intro a w4 g3 η σ
 refine seq_step rfl (op_alloc (c := #[.bool false, .slice none 0 0, .bool false, .slice none 0 0]) η σ rfl zero_anvil_anvilref03_Rat rfl ?_)
 clear η σ a; intro a w6 g5 η σ
 refine wpList_nil (th_n (wp_seq (wp_seq (region_seq ?_))))
 refine sv (v := .agg #[.bool (neg q), .slice B (dl q) d]) η rfl (rn_load0 η ty_anvil_anvilref02_Int rfl (σ.oat (k := 1) rfl) rfl) ?_
 clear η a; intro a η
 refine seq_step rfl (op_call η rfl Tryd.call82 rfl (sign_r (z := q)) ?_)
 rintro e w7 ⟨rfl, hb⟩
 refine ⟨_, rfl, ?_⟩
 clear η a; intro a η
 replace σ := σ.call hb
 clear hb
 refine sv (v := .bool (decide (q.sign < (0 : Int)))) η rfl (rn_bin η rfl rfl rfl) ?_
 clear η a; intro a η
 rw [show (decide (q.sign < (0 : Int))) = true from (by rw [hsg]; rfl)] at η
 refine wpList_nil (th_n ?_)
 refine if_t η rfl (rfl) ?_
 refine region_any (n := 6) (Sk [bk g5 #[.bool false, .slice none 0 0, .bool false, .slice none 0 0] 108] [pfR B d q, pfR A c p] [4, 5] [bk g3 #[.bool (neg q), .slice B (dl q) d] 39, bk g1 #[.bool (neg p), .slice A (dl p) c] 39]) mixed rfl η σ ?_
 clear η σ; intro w8 η σ
 refine sAny_take (i := 0) [1, 3, 4, 5] (fun w' => w'.heap[g1]? = some (.cells #[.bool (neg p), .slice A (dl p) c] 39 (0, 0))) (v := .agg #[.bool (neg p), .slice A (dl p) c]) rfl (by kernel_rfl) (fun _ _ _ h => h) (fun _ _ hj hS => (hS.two rfl hj).oat (k := 1) rfl) η rfl (σ.oat (k := 2) rfl) (fun w' hg => rn_load0 η ty_anvil_anvilref02_Int rfl hg rfl) ?_
 clear η a; intro a η
 refine sAny_take (i := 2) [3, 4, 5] (fun w' => w'.heap[g3]? = some (.cells #[.bool (neg q), .slice B (dl q) d] 39 (0, 0))) (v := .agg #[.bool (neg q), .slice B (dl q) d]) rfl (by kernel_rfl) (fun _ _ _ h => h) (fun _ _ hj hS => (hS.two rfl hj).oat (k := 0) rfl) η rfl (σ.oat (k := 1) rfl) (fun w' hg => rn_load0 η ty_anvil_anvilref02_Int rfl hg rfl) ?_
 clear η a; intro a η
 have hs9 := dl_neg p
 refine sAny_one (i := 1) (by kernel_rfl) rfl rfl (op_call η rfl Tryd.call128 rfl (neg_r (z := p) (show RIn _ A c p from σ.pat (k := 1) rfl)) ?_)
 rintro e w13 ⟨_, rfl, ⟨A10, c11, rfl, hz12⟩, hb⟩
 refine ⟨_, rfl, ?_⟩
 clear η a; intro a η
 replace σ := (σ.call hb).addR hz12 ⟨nou_bk rfl, nou_bk rfl, nou_bk rfl, trivial⟩
 clear hz12
 clear hb
 refine ⟨.inr ⟨σ.kn.pick [0] [1, 2], .inr (σ.kn.pick [1, 2] [])⟩, ?_⟩
 have hs14 := dl_neg q
 refine sAny_one (i := 3) (by kernel_rfl) rfl rfl (op_call η rfl Tryd.call128 rfl (neg_r (z := q) (show RIn _ B d q from σ.pat (k := 1) rfl)) ?_)
 rintro e w18 ⟨_, rfl, ⟨A15, c16, rfl, hz17⟩, hb⟩
 refine ⟨_, rfl, ?_⟩
 clear η a; intro a η
 replace σ := (σ.call hb).addR hz17 ⟨nou_bk rfl, nou_bk rfl, nou_bk rfl, trivial⟩
 clear hz17
 clear hb
 refine ⟨.inr ⟨σ.kn.pick [0] [2, 3], .inr (σ.kn.pick [1, 2] [])⟩, ?_⟩
 refine sAny_one (i := 4) (by kernel_rfl) rfl rfl (op_store (k := 2) (c' := #[.bool (neg (-p)), .slice A10 (dl (-p)) c11]) η σ (ty_anvil_anvilref02_Int.size) rfl rfl rfl rfl (by simp) rfl rfl ?_)
 clear η σ a; intro a w19 η σ
 refine ⟨.inr ⟨σ.kn.pick [0] [2, 3], .inl rfl⟩, ?_⟩
 refine sAny_one (i := 5) (by kernel_rfl) rfl rfl (op_store (k := 1) (c' := #[.bool (neg (-q)), .slice A15 (dl (-q)) c16]) η σ (ty_anvil_anvilref02_Int.size) rfl rfl rfl rfl (by simp) rfl rfl ?_)
 clear η σ a; intro a w20 η σ
 refine ⟨.inr ⟨σ.kn.pick [0] [2, 3], .inl rfl⟩, ?_⟩
 refine sAny_done (by kernel_rfl) ?_ _
 refine th_n (wp_seq (region_seq ?_))
 revert a
 refine sA (v := .agg #[.bool (neg (-p)), .slice A10 (dl (-p)) c11]) rfl (fun _ η => rn_load0 η ty_anvil_anvilref02_Int rfl (σ.oat (k := 2) rfl) rfl) ?_
 refine sA (v := .agg #[.bool (neg (-q)), .slice A15 (dl (-q)) c16]) rfl (fun _ η => rn_load0 η ty_anvil_anvilref02_Int rfl (σ.oat (k := 1) rfl) rfl) ?_
 intro a η
 have hs21 := gcd_dl' (-p) (-q)
 refine seq_step rfl (op_call η rfl Tryd.call123 rfl (gcd_r (x := -p) (y := -q) (show RIn _ A10 c11 (-p) from σ.pat (k := 1) rfl) (show RIn _ A15 c16 (-q) from σ.pat (k := 0) rfl) (by omega) (by omega)) ?_)
 rintro e w25 ⟨_, rfl, ⟨A22, c23, rfl, hz24⟩, hb⟩
 refine ⟨_, rfl, ?_⟩
 clear η a; intro a η
 replace σ := (σ.call hb).addR hz24 ⟨nou_bk rfl, nou_bk rfl, nou_bk rfl, trivial⟩
 clear hz24
 clear hb
 refine seq_step rfl (op_alloc (c := #[.bool (neg 0), .slice none (dl 0) 0]) η σ rfl zero_anvil_anvilref02_Int rcells ?_)
 clear η σ a; intro a w27 g26 η σ
 refine seq_step rfl (op_store (k := 0) (c' := #[.bool (neg ((Int.gcd (-p) (-q) : Nat) : Int)), .slice A22 (dl ((Int.gcd (-p) (-q) : Nat) : Int)) c23]) η σ (ty_anvil_anvilref02_Int.size) rfl rfl rfl rfl (by simp) rfl rfl ?_)
 clear η σ a; intro a w28 η σ
 refine wpList_nil (th_n (wp_seq (region_seq ?_)))
 revert a
 refine sA (v := .agg #[.bool (neg (-p)), .slice A10 (dl (-p)) c11]) rfl (fun _ η => rn_load0 η ty_anvil_anvilref02_Int rfl (σ.oat (k := 3) rfl) rfl) ?_
 refine sA (v := .agg #[.bool (neg ((Int.gcd (-p) (-q) : Nat) : Int)), .slice A22 (dl ((Int.gcd (-p) (-q) : Nat) : Int)) c23]) rfl (fun _ η => rn_load0 η ty_anvil_anvilref02_Int rfl (σ.oat (k := 0) rfl) rfl) ?_
 intro a η
 have hs29 := dl_ediv (-p) ((Int.gcd (-p) (-q) : Nat) : Int)
 refine seq_step rfl (op_call η rfl Tryd.call122 rfl (over_r (x := -p) (y := ((Int.gcd (-p) (-q) : Nat) : Int)) (show RIn _ A10 c11 (-p) from σ.pat (k := 2) rfl) (show RIn _ A22 c23 ((Int.gcd (-p) (-q) : Nat) : Int) from σ.pat (k := 0) rfl) (by omega) (by omega) hg2 (gcd_mod_l _ _)) ?_)
 rintro e w33 ⟨_, rfl, ⟨A30, c31, rfl, hz32⟩, hb⟩
 refine ⟨_, rfl, ?_⟩
 clear η a; intro a η
 replace σ := (σ.call hb).addR hz32 ⟨nou_bk rfl, nou_bk rfl, nou_bk rfl, nou_bk rfl, trivial⟩
 clear hz32
 clear hb
 revert a
 refine mA rfl rfl ?_
 refine sA (v := .agg #[.bool (neg ((-p) / ((Int.gcd (-p) (-q) : Nat) : Int))), .slice A30 (dl ((-p) / ((Int.gcd (-p) (-q) : Nat) : Int))) c31]) rfl (fun _ η => rn_extract η rfl rfl) ?_
 refine sA (v := .bool true) rfl (fun _ η => rn_extract η rfl rfl) ?_
 intro a η
 refine seq_step rfl (op_alloc (c := #[.bool (neg 0), .slice none (dl 0) 0]) η σ rfl zero_anvil_anvilref02_Int rcells ?_)
 clear η σ a; intro a w35 g34 η σ
 refine seq_step rfl (op_store (k := 0) (c' := #[.bool (neg ((-p) / ((Int.gcd (-p) (-q) : Nat) : Int))), .slice A30 (dl ((-p) / ((Int.gcd (-p) (-q) : Nat) : Int))) c31]) η σ (ty_anvil_anvilref02_Int.size) rfl rfl rfl rfl (by simp) rfl rfl ?_)
 clear η σ a; intro a w36 η σ
 refine sv (v := .bool true) η rfl (rn_assign η rfl) ?_
 clear η a; intro a η
 refine wpList_nil (th_n (wp_seq (region_seq ?_)))
 revert a
 refine sA (v := .agg #[.bool (neg (-q)), .slice A15 (dl (-q)) c16]) rfl (fun _ η => rn_load0 η ty_anvil_anvilref02_Int rfl (σ.oat (k := 3) rfl) rfl) ?_
 refine sA (v := .agg #[.bool (neg ((Int.gcd (-p) (-q) : Nat) : Int)), .slice A22 (dl ((Int.gcd (-p) (-q) : Nat) : Int)) c23]) rfl (fun _ η => rn_load0 η ty_anvil_anvilref02_Int rfl (σ.oat (k := 1) rfl) rfl) ?_
 intro a η
 have hs37 := dl_ediv (-q) ((Int.gcd (-p) (-q) : Nat) : Int)
 refine seq_step rfl (op_call η rfl Tryd.call122 rfl (over_r (x := -q) (y := ((Int.gcd (-p) (-q) : Nat) : Int)) (show RIn _ A15 c16 (-q) from σ.pat (k := 2) rfl) (show RIn _ A22 c23 ((Int.gcd (-p) (-q) : Nat) : Int) from σ.pat (k := 1) rfl) (by omega) (by omega) hg2 (gcd_mod_r _ _)) ?_)
 rintro e w41 ⟨_, rfl, ⟨A38, c39, rfl, hz40⟩, hb⟩
 refine ⟨_, rfl, ?_⟩
 clear η a; intro a η
 replace σ := (σ.call hb).addR hz40 ⟨nou_bk rfl, nou_bk rfl, nou_bk rfl, nou_bk rfl, nou_bk rfl, trivial⟩
 clear hz40
 clear hb
 revert a
 refine mA rfl rfl ?_
 refine sA (v := .agg #[.bool (neg ((-q) / ((Int.gcd (-p) (-q) : Nat) : Int))), .slice A38 (dl ((-q) / ((Int.gcd (-p) (-q) : Nat) : Int))) c39]) rfl (fun _ η => rn_extract η rfl rfl) ?_
 refine sA (v := .bool true) rfl (fun _ η => rn_extract η rfl rfl) ?_
 intro a η
 refine seq_step rfl (op_alloc (c := #[.bool (neg 0), .slice none (dl 0) 0]) η σ rfl zero_anvil_anvilref02_Int rcells ?_)
 clear η σ a; intro a w43 g42 η σ
 refine seq_step rfl (op_store (k := 0) (c' := #[.bool (neg ((-q) / ((Int.gcd (-p) (-q) : Nat) : Int))), .slice A38 (dl ((-q) / ((Int.gcd (-p) (-q) : Nat) : Int))) c39]) η σ (ty_anvil_anvilref02_Int.size) rfl rfl rfl rfl (by simp) rfl rfl ?_)
 clear η σ a; intro a w44 η σ
 refine sv (v := .bool true) η rfl (rn_assign η rfl) ?_
 clear η a; intro a η
 refine wpList_nil (th_n (wp_seq (region_seq ?_)))
 revert a
 refine sA (v := .agg #[.bool (neg ((-p) / ((Int.gcd (-p) (-q) : Nat) : Int))), .slice A30 (dl ((-p) / ((Int.gcd (-p) (-q) : Nat) : Int))) c31]) rfl (fun _ η => rn_load0 η ty_anvil_anvilref02_Int rfl (σ.oat (k := 1) rfl) rfl) ?_
 refine sA (v := .agg #[.bool (neg ((-q) / ((Int.gcd (-p) (-q) : Nat) : Int))), .slice A38 (dl ((-q) / ((Int.gcd (-p) (-q) : Nat) : Int))) c39]) rfl (fun _ η => rn_load0 η ty_anvil_anvilref02_Int rfl (σ.oat (k := 0) rfl) rfl) ?_
 refine sA (v := .agg #[.bool (neg ((-p) / ((Int.gcd (-p) (-q) : Nat) : Int))), .slice A30 (dl ((-p) / ((Int.gcd (-p) (-q) : Nat) : Int))) c31, .bool (neg ((-q) / ((Int.gcd (-p) (-q) : Nat) : Int))), .slice A38 (dl ((-q) / ((Int.gcd (-p) (-q) : Nat) : Int))) c39]) rfl (fun _ η => rn_yrat2 η rfl rfl) ?_
 intro a η
 refine seq_step rfl (op_store (k := 3) (c' := #[.bool (neg ((-p) / ((Int.gcd (-p) (-q) : Nat) : Int))), .slice A30 (dl ((-p) / ((Int.gcd (-p) (-q) : Nat) : Int))) c31, .bool (neg ((-q) / ((Int.gcd (-p) (-q) : Nat) : Int))), .slice A38 (dl ((-q) / ((Int.gcd (-p) (-q) : Nat) : Int))) c39]) η σ (ty_anvil_anvilref03_Rat.size) rfl rfl rfl rfl (by simp) rfl rfl ?_)
 clear η σ a; intro a w45 η σ
 refine wpList_nil (th_n (wp_ret ?_))
 refine leave η (res1 Tryd.results121 (RV.cell η ty_anvil_anvilref03_Rat rfl (σ.oat (k := 3) rfl) rfl)) ?_
 exact ⟨_, rfl, y_at ((low_n (by omega)).trans (congrArg qn ((q_neg2 p q).trans hr))) ((low_d (by omega)).trans (congrArg qd ((q_neg2 p q).trans hr))) (σ.pat (k := 1) rfl) (σ.pat (k := 0) rfl), σ.below⟩
theorem make_y {A B : Option Addr} {c d : Nat} {p q : Int} {r : Rat} {w0 : World} (hx : RIn w0 A c p) (hy : RIn w0 B d q) (hn : dl p ≤ 50000) (hm : dl q ≤ 50000) (h0 : q ≠ 0) (hr : Rat.divInt p q = r) :
  Calls Tryd.prog 121 #[.agg #[.bool (neg p), .slice A (dl p) c], .agg #[.bool (neg q), .slice B (dl q) d]] w0 fun e w' => ∃ v, e = .returned v ∧ YAt w' v r ∧ Below w0.heap.size w0 w' := by
 rcases Int.lt_trichotomy q 0 with h | h | h
 ·exact make_yn hx hy hn hm h hr
 ·exact absurd h h0
 ·exact make_yp hx hy hn hm h hr
theorem of_int_y {A : Option Addr} {c : Nat} {z : Int} {w0 : World} (hx : RIn w0 A c z) :
  Calls Tryd.prog 154 #[.agg #[.bool (neg z), .slice A (dl z) c]] w0 fun e w' => ∃ v, e = .returned v ∧ YAt w' v (z : Rat) ∧ Below w0.heap.size w0 w' := by
 refine enter Tryd.func154 rfl Tryd.ntmps154 rfl ?_
 intro a η σ
 replace σ := σ.addR hx trivial
 refine wp_seq (region_seq ?_)
 refine seq_step rfl (op_box (c := #[.bool (neg z), .slice A (dl z) c]) η σ rfl rfl rfl ?_)
 clear η σ a; intro a w2 g1 η σ
 refine seq_step rfl (op_alloc (c := #[.bool false, .slice none 0 0, .bool false, .slice none 0 0]) η σ rfl zero_anvil_anvilref03_Rat rfl ?_)
 clear η σ a; intro a w4 g3 η σ
 refine wpList_nil (th_n (wp_seq ?_))
 refine region_any (n := 4) (Sk [bk g1 #[.bool (neg z), .slice A (dl z) c] 39] [pfR A c z] [3] []) mixed rfl η σ ?_
 clear η σ; intro w5 η σ
 refine tL (i := 0) 0 1 [2, 3] rfl (by kernel_rfl) (fun _ _ _ h => h) η rfl ty_anvil_anvilref02_Int rfl σ rfl rfl rfl ?_
 clear η a; intro a η
 refine sAny_one (i := 1) (by kernel_rfl) rfl rfl (op_call η rfl Tryd.call29 rfl (of_r (n := (1 : Int)) (by decide) (by decide)) ?_)
 rintro e w9 ⟨_, rfl, ⟨A6, c7, rfl, hz8⟩, hb⟩
 refine ⟨_, rfl, ?_⟩
 clear η a; intro a η
 replace σ := (σ.call hb).addR hz8 ⟨nou_bk rfl, nou_bk rfl, trivial⟩
 clear hz8
 clear hb
 refine ⟨.inr ⟨σ.kn.pick [1] [1], .inr (σ.kn.pick [] [])⟩, ?_⟩
 refine tA (i := 2) [3] (v := .agg #[.bool (neg z), .slice A (dl z) c, .bool (neg 1), .slice A6 (dl 1) c7]) rfl (by kernel_rfl) (fun _ _ _ h => h) η rfl (fun _ => rn_yrat2 η rfl rfl) ?_
 clear η a; intro a η
 refine sAny_one (i := 3) (by kernel_rfl) rfl rfl (op_store (k := 0) (c' := #[.bool (neg z), .slice A (dl z) c, .bool (neg 1), .slice A6 (dl 1) c7]) η σ (ty_anvil_anvilref03_Rat.size) rfl rfl rfl rfl (by simp) rfl rfl ?_)
 clear η σ a; intro a w10 η σ
 refine ⟨.inr ⟨σ.kn.pick [1] [1], .inl rfl⟩, ?_⟩
 refine sAny_done (by kernel_rfl) ?_ _
 refine th_n (wp_ret ?_)
 refine leave η (res1 Tryd.results154 (RV.cell η ty_anvil_anvilref03_Rat rfl (σ.oat (k := 0) rfl) rfl)) ?_
 exact ⟨_, rfl, y_at rfl rfl (σ.pat (k := 1) rfl) (σ.pat (k := 0) rfl), σ.below⟩
theorem zero_y {w0 : World} :
  Calls Tryd.prog 126 #[] w0 fun e w' => ∃ v, e = .returned v ∧ YAt w' v 0 ∧ Below w0.heap.size w0 w' := by
 refine enter Tryd.func126 rfl Tryd.ntmps126 rfl ?_
 intro a η σ
 refine wp_seq (region_seq ?_)
 refine seq_step rfl (op_alloc (c := #[.bool false, .slice none 0 0, .bool false, .slice none 0 0]) η σ rfl zero_anvil_anvilref03_Rat rfl ?_)
 clear η σ a; intro a w2 g1 η σ
 refine wpList_nil (th_n (wp_seq (region_seq ?_)))
 refine seq_step rfl (op_call η rfl Tryd.call29 rfl (of_r (n := (0 : Int)) (by decide) (by decide)) ?_)
 rintro e w6 ⟨_, rfl, ⟨A3, c4, rfl, hz5⟩, hb⟩
 refine ⟨_, rfl, ?_⟩
 clear η a; intro a η
 replace σ := (σ.call hb).addR hz5 ⟨nou_bk rfl, trivial⟩
 clear hz5
 clear hb
 refine seq_step rfl (op_call η rfl Tryd.call154 rfl (of_int_y (z := 0) (show RIn _ A3 c4 0 from σ.pat (k := 0) rfl)) ?_)
 rintro e w13 ⟨_, rfl, ⟨A7, c8, B9, d10, rfl, hz11, hz12⟩, hb⟩
 refine ⟨_, rfl, ?_⟩
 clear η a; intro a η
 replace σ := ((σ.call hb).addR hz11 ⟨nou_bk rfl, trivial⟩).addR hz12 ⟨nou_bk rfl, trivial⟩
 clear hz11 hz12
 clear hb
 refine seq_step rfl (op_store (k := 0) (c' := #[.bool (neg (qn ((0 : Int) : Rat))), .slice A7 (dl (qn ((0 : Int) : Rat))) c8, .bool (neg (qd ((0 : Int) : Rat))), .slice B9 (dl (qd ((0 : Int) : Rat))) d10]) η σ (ty_anvil_anvilref03_Rat.size) rfl rfl rfl rfl (by simp) rfl rfl ?_)
 clear η σ a; intro a w14 η σ
 refine wpList_nil (th_n (wp_ret ?_))
 refine leave η (res1 Tryd.results126 (RV.cell η ty_anvil_anvilref03_Rat rfl (σ.oat (k := 0) rfl) rfl)) ?_
 exact ⟨_, rfl, y_at rfl rfl (σ.pat (k := 1) rfl) (σ.pat (k := 0) rfl), σ.below⟩
theorem add_y {A0 B0 : Option Addr} {c0 d0 : Nat} {A1 B1 : Option Addr} {c1 d1 : Nat} {x y : Rat} {w0 : World} (h0 : RIn w0 A0 c0 (qn x)) (k0 : RIn w0 B0 d0 (qd x)) (h1 : RIn w0 A1 c1 (qn y)) (k1 : RIn w0 B1 d1 (qd y)) {a b : Nat} (sx : Qs a x) (sy : Qs b y) (hab : a + b ≤ 10000) :
  Calls Tryd.prog 127 #[.agg #[.bool (neg (qn x)), .slice A0 (dl (qn x)) c0, .bool (neg (qd x)), .slice B0 (dl (qd x)) d0], .agg #[.bool (neg (qn y)), .slice A1 (dl (qn y)) c1, .bool (neg (qd y)), .slice B1 (dl (qd y)) d1]] w0 fun e w' => ∃ v, e = .returned v ∧ YAt w' v (x + y) ∧ Below w0.heap.size w0 w' := by
 have hnx := sx.n
 have hdx := sx.d
 have hlx := sx.l
 have enx := dl_zl (qn x)
 have edx := dl_zl (qd x)
 have hny := sy.n
 have hdy := sy.d
 have hly := sy.l
 have eny := dl_zl (qn y)
 have edy := dl_zl (qd y)
 refine enter Tryd.func127 rfl Tryd.ntmps127 rfl ?_
 intro a η σ
 replace σ := σ.addR h0 trivial
 replace σ := σ.addR k0 trivial
 replace σ := σ.addR h1 trivial
 replace σ := σ.addR k1 trivial
 refine wp_seq (region_seq ?_)
 refine seq_step rfl (op_box (c := #[.bool (neg (qn x)), .slice A0 (dl (qn x)) c0, .bool (neg (qd x)), .slice B0 (dl (qd x)) d0]) η σ rfl rfl rfl ?_)
 clear η σ a; intro a w2 g1 η σ
 refine seq_step rfl (op_box (c := #[.bool (neg (qn y)), .slice A1 (dl (qn y)) c1, .bool (neg (qd y)), .slice B1 (dl (qd y)) d1]) η σ rfl rfl rfl ?_)
 clear η σ a; intro a w4 g3 η σ
 refine seq_step rfl (op_alloc (c := #[.bool false, .slice none 0 0, .bool false, .slice none 0 0]) η σ rfl zero_anvil_anvilref03_Rat rfl ?_)
 clear η σ a; intro a w6 g5 η σ
 refine wpList_nil (th_n (wp_seq ?_))
 refine region_any (n := 18) (Sk [bk g3 #[.bool (neg (qn y)), .slice A1 (dl (qn y)) c1, .bool (neg (qd y)), .slice B1 (dl (qd y)) d1] 108, bk g1 #[.bool (neg (qn x)), .slice A0 (dl (qn x)) c0, .bool (neg (qd x)), .slice B0 (dl (qd x)) d0] 108] [pfR B1 d1 (qd y), pfR A1 c1 (qn y), pfR B0 d0 (qd x), pfR A0 c0 (qn x)] [17] []) mixed rfl η σ ?_
 clear η σ; intro w7 η σ
 refine tA (i := 0) [1, 4, 9, 10, 15, 16, 17] (v := .pointer (some ⟨g1, 0, none⟩)) rfl (by kernel_rfl) (fun _ _ _ h => h) η rfl (fun _ => rn_fieldAddr η fd_anvil_anvilref03_Rat_0 (ty_anvil_anvilref02_Int.size) (by decide) rfl) ?_
 clear η a; intro a η
 refine sAny_take (i := 1) [4, 9, 10, 15, 16, 17] (fun w' => w'.heap[g1]? = some (.cells #[.bool (neg (qn x)), .slice A0 (dl (qn x)) c0, .bool (neg (qd x)), .slice B0 (dl (qd x)) d0] 108 (0, 0))) (v := .agg #[.bool (neg (qn x)), .slice A0 (dl (qn x)) c0]) rfl (by kernel_rfl) (fun _ _ _ h => h) (fun _ _ _ hS => hS.1.oat (k := 1) rfl) η rfl (σ.oat (k := 2) rfl) (fun w' hg => rn_load η ty_anvil_anvilref02_Int rfl hg rfl rfl) ?_
 clear η a; intro a η
 refine tA (i := 2) [3, 4, 9, 10, 15, 16, 17] (v := .pointer (some ⟨g3, 2, none⟩)) rfl (by kernel_rfl) (fun _ _ _ h => h) η rfl (fun _ => rn_fieldAddr η fd_anvil_anvilref03_Rat_1 (ty_anvil_anvilref02_Int.size) (by decide) rfl) ?_
 clear η a; intro a η
 refine sAny_take (i := 3) [4, 9, 10, 15, 16, 17] (fun w' => w'.heap[g3]? = some (.cells #[.bool (neg (qn y)), .slice A1 (dl (qn y)) c1, .bool (neg (qd y)), .slice B1 (dl (qd y)) d1] 108 (0, 0))) (v := .agg #[.bool (neg (qd y)), .slice B1 (dl (qd y)) d1]) rfl (by kernel_rfl) (fun _ _ _ h => h) (fun _ _ _ hS => hS.1.oat (k := 0) rfl) η rfl (σ.oat (k := 1) rfl) (fun w' hg => rn_load η ty_anvil_anvilref02_Int rfl hg rfl rfl) ?_
 clear η a; intro a η
 refine tA (i := 5) [6, 9, 10, 15, 16, 17] (v := .pointer (some ⟨g3, 0, none⟩)) rfl (by kernel_rfl) (fun _ _ _ h => h) η rfl (fun _ => rn_fieldAddr η fd_anvil_anvilref03_Rat_0 (ty_anvil_anvilref02_Int.size) (by decide) rfl) ?_
 clear η a; intro a η
 refine sAny_take (i := 6) [9, 10, 15, 16, 17] (fun w' => w'.heap[g3]? = some (.cells #[.bool (neg (qn y)), .slice A1 (dl (qn y)) c1, .bool (neg (qd y)), .slice B1 (dl (qd y)) d1] 108 (0, 0))) (v := .agg #[.bool (neg (qn y)), .slice A1 (dl (qn y)) c1]) rfl (by kernel_rfl) (fun _ _ _ h => h) (fun _ _ _ hS => hS.1.oat (k := 0) rfl) η rfl (σ.oat (k := 1) rfl) (fun w' hg => rn_load η ty_anvil_anvilref02_Int rfl hg rfl rfl) ?_
 clear η a; intro a η
 refine tA (i := 7) [8, 9, 10, 15, 16, 17] (v := .pointer (some ⟨g1, 2, none⟩)) rfl (by kernel_rfl) (fun _ _ _ h => h) η rfl (fun _ => rn_fieldAddr η fd_anvil_anvilref03_Rat_1 (ty_anvil_anvilref02_Int.size) (by decide) rfl) ?_
 clear η a; intro a η
 refine sAny_take (i := 8) [9, 10, 15, 16, 17] (fun w' => w'.heap[g1]? = some (.cells #[.bool (neg (qn x)), .slice A0 (dl (qn x)) c0, .bool (neg (qd x)), .slice B0 (dl (qd x)) d0] 108 (0, 0))) (v := .agg #[.bool (neg (qd x)), .slice B0 (dl (qd x)) d0]) rfl (by kernel_rfl) (fun _ _ _ h => h) (fun _ _ _ hS => hS.1.oat (k := 1) rfl) η rfl (σ.oat (k := 2) rfl) (fun w' hg => rn_load η ty_anvil_anvilref02_Int rfl hg rfl rfl) ?_
 clear η a; intro a η
 refine tA (i := 11) [12, 15, 16, 17] (v := .pointer (some ⟨g1, 2, none⟩)) rfl (by kernel_rfl) (fun _ _ _ h => h) η rfl (fun _ => rn_fieldAddr η fd_anvil_anvilref03_Rat_1 (ty_anvil_anvilref02_Int.size) (by decide) rfl) ?_
 clear η a; intro a η
 refine sAny_take (i := 12) [15, 16, 17] (fun w' => w'.heap[g1]? = some (.cells #[.bool (neg (qn x)), .slice A0 (dl (qn x)) c0, .bool (neg (qd x)), .slice B0 (dl (qd x)) d0] 108 (0, 0))) (v := .agg #[.bool (neg (qd x)), .slice B0 (dl (qd x)) d0]) rfl (by kernel_rfl) (fun _ _ _ h => h) (fun _ _ _ hS => hS.1.oat (k := 1) rfl) η rfl (σ.oat (k := 2) rfl) (fun w' hg => rn_load η ty_anvil_anvilref02_Int rfl hg rfl rfl) ?_
 clear η a; intro a η
 refine tA (i := 13) (rg 14 4) (v := .pointer (some ⟨g3, 2, none⟩)) rfl (by kernel_rfl) (fun _ _ _ h => h) η rfl (fun _ => rn_fieldAddr η fd_anvil_anvilref03_Rat_1 (ty_anvil_anvilref02_Int.size) (by decide) rfl) ?_
 clear η a; intro a η
 refine sAny_take (i := 14) [15, 16, 17] (fun w' => w'.heap[g3]? = some (.cells #[.bool (neg (qn y)), .slice A1 (dl (qn y)) c1, .bool (neg (qd y)), .slice B1 (dl (qd y)) d1] 108 (0, 0))) (v := .agg #[.bool (neg (qd y)), .slice B1 (dl (qd y)) d1]) rfl (by kernel_rfl) (fun _ _ _ h => h) (fun _ _ _ hS => hS.1.oat (k := 0) rfl) η rfl (σ.oat (k := 1) rfl) (fun w' hg => rn_load η ty_anvil_anvilref02_Int rfl hg rfl rfl) ?_
 clear η a; intro a η
 have hs8 := dl_mul (qn x) (qd y)
 refine sAny_one (i := 4) (by kernel_rfl) rfl rfl (op_call η rfl Tryd.call105 rfl (mul_r (x := (qn x)) (y := (qd y)) (show RIn _ A0 c0 (qn x) from σ.pat (k := 3) rfl) (show RIn _ B1 d1 (qd y) from σ.pat (k := 0) rfl) (by omega) (by omega)) ?_)
 rintro e w12 ⟨_, rfl, ⟨A9, c10, rfl, hz11⟩, hb⟩
 refine ⟨_, rfl, ?_⟩
 clear η a; intro a η
 replace σ := (σ.call hb).addR hz11 ⟨nou_bk rfl, nou_bk rfl, nou_bk rfl, trivial⟩
 clear hz11
 clear hb
 refine ⟨.inr ⟨σ.kn.pick [1, 2] (rg 1 4), .inr (σ.kn.pick [] [])⟩, ?_⟩
 have hs13 := dl_mul (qn y) (qd x)
 refine sAny_one (i := 9) (by kernel_rfl) rfl rfl (op_call η rfl Tryd.call105 rfl (mul_r (x := (qn y)) (y := (qd x)) (show RIn _ A1 c1 (qn y) from σ.pat (k := 2) rfl) (show RIn _ B0 d0 (qd x) from σ.pat (k := 3) rfl) (by omega) (by omega)) ?_)
 rintro e w17 ⟨_, rfl, ⟨A14, c15, rfl, hz16⟩, hb⟩
 refine ⟨_, rfl, ?_⟩
 clear η a; intro a η
 replace σ := (σ.call hb).addR hz16 ⟨nou_bk rfl, nou_bk rfl, nou_bk rfl, trivial⟩
 clear hz16
 clear hb
 refine ⟨.inr ⟨σ.kn.pick [1, 2] (rg 2 4), .inr (σ.kn.pick [] [])⟩, ?_⟩
 have hs18 := dl_add ((qn x) * (qd y)) ((qn y) * (qd x))
 refine sAny_one (i := 10) (by kernel_rfl) rfl rfl (op_call η rfl Tryd.call104 rfl (add_r (x := (qn x) * (qd y)) (y := (qn y) * (qd x)) (show RIn _ A9 c10 ((qn x) * (qd y)) from σ.pat (k := 1) rfl) (show RIn _ A14 c15 ((qn y) * (qd x)) from σ.pat (k := 0) rfl) (by omega) (by omega)) ?_)
 rintro e w22 ⟨_, rfl, ⟨A19, c20, rfl, hz21⟩, hb⟩
 refine ⟨_, rfl, ?_⟩
 clear η a; intro a η
 replace σ := (σ.call hb).addR hz21 ⟨nou_bk rfl, nou_bk rfl, nou_bk rfl, trivial⟩
 clear hz21
 clear hb
 refine ⟨.inr ⟨σ.kn.pick [1, 2] (rg 3 4), .inr (σ.kn.pick [] [])⟩, ?_⟩
 have hs23 := dl_mul (qd x) (qd y)
 refine sAny_one (i := 15) (by kernel_rfl) rfl rfl (op_call η rfl Tryd.call105 rfl (mul_r (x := (qd x)) (y := (qd y)) (show RIn _ B0 d0 (qd x) from σ.pat (k := 5) rfl) (show RIn _ B1 d1 (qd y) from σ.pat (k := 3) rfl) (by omega) (by omega)) ?_)
 rintro e w27 ⟨_, rfl, ⟨A24, c25, rfl, hz26⟩, hb⟩
 refine ⟨_, rfl, ?_⟩
 clear η a; intro a η
 replace σ := (σ.call hb).addR hz26 ⟨nou_bk rfl, nou_bk rfl, nou_bk rfl, trivial⟩
 clear hz26
 clear hb
 refine ⟨.inr ⟨σ.kn.pick [1, 2] (rg 4 4), .inr (σ.kn.pick [] [])⟩, ?_⟩
 refine sAny_one (i := 16) (by kernel_rfl) rfl rfl (op_call η rfl Tryd.call121 rfl (make_y (p := ((qn x) * (qd y)) + ((qn y) * (qd x))) (q := (qd x) * (qd y)) (r := x + y) (show RIn _ A19 c20 (((qn x) * (qd y)) + ((qn y) * (qd x))) from σ.pat (k := 1) rfl) (show RIn _ A24 c25 ((qd x) * (qd y)) from σ.pat (k := 0) rfl) (by omega) (by omega) (Int.mul_ne_zero (qd_ne _) (qd_ne _)) (q_add x y)) ?_)
 rintro e w34 ⟨_, rfl, ⟨A28, c29, B30, d31, rfl, hz32, hz33⟩, hb⟩
 refine ⟨_, rfl, ?_⟩
 clear η a; intro a η
 replace σ := ((σ.call hb).addR hz32 ⟨nou_bk rfl, nou_bk rfl, nou_bk rfl, trivial⟩).addR hz33 ⟨nou_bk rfl, nou_bk rfl, nou_bk rfl, trivial⟩
 clear hz32 hz33
 clear hb
 refine ⟨.inr ⟨σ.kn.pick [1, 2] (rg 6 4), .inr (σ.kn.pick [] [])⟩, ?_⟩
 refine sAny_one (i := 17) (by kernel_rfl) rfl rfl (op_store (k := 0) (c' := #[.bool (neg (qn (x + y))), .slice A28 (dl (qn (x + y))) c29, .bool (neg (qd (x + y))), .slice B30 (dl (qd (x + y))) d31]) η σ (ty_anvil_anvilref03_Rat.size) rfl rfl rfl rfl (by simp) rfl rfl ?_)
 clear η σ a; intro a w35 η σ
 refine ⟨.inr ⟨σ.kn.pick [1, 2] (rg 6 4), .inl rfl⟩, ?_⟩
 refine sAny_done (by kernel_rfl) ?_ _
 refine th_n (wp_ret ?_)
 refine leave η (res1 Tryd.results127 (RV.cell η ty_anvil_anvilref03_Rat rfl (σ.oat (k := 0) rfl) rfl)) ?_
 exact ⟨_, rfl, y_at rfl rfl (σ.pat (k := 1) rfl) (σ.pat (k := 0) rfl), σ.below⟩
theorem qs_zero : Qs 1 0 := ⟨by decide, by decide⟩
theorem qs_w : Qs 1 (mkRat (-3) 2) := ⟨by decide, by decide⟩
theorem qs_3 : Qs 1 ((3 : Int) : Rat) := ⟨by decide, by decide⟩
theorem floor_sz {k : Nat} {r : Rat} (h : Qs k r) : zl r.floor ≤ k := by
 rw [← q_floor]
 exact Nat.le_trans (zl_ediv _ _) h.n
def RdAs (s : List UInt8) (z p q b : Int) : Prop := ∀ w0 : World,
  (Calls Tryd.prog 113 #[.string ⟨s.toArray⟩] w0 fun e w' => ∃ v, e = .returned (.tuple #[v, .agg #[.int .i64 p, .int .i64 q]]) ∧ ZAt w' v z ∧ Below w0.heap.size w0 w') ∧
  (Calls Tryd.prog 115 #[.string ⟨s.toArray⟩] w0 fun e w' => ∃ v, e = .returned (.tuple #[v, .int .i64 b]) ∧ RAt w' v z ∧ Below w0.heap.size w0 w')
theorem zin_at (w : World) : ZAt w (.agg #[.bool (neg 0), .slice none (zl 0) 0]) 0 := ⟨_, _, rfl, zin_none _⟩
theorem rin_at (w : World) : RAt w (.agg #[.bool (neg 0), .slice none (dl 0) 0]) 0 := ⟨_, _, rfl, rin_none _⟩
theorem reads_as (t : List UInt8) (h : t.length ≤ 60000) : ∃ z p q b : Int, RdAs t z p q b ∧ zl z ≤ t.length + 1 := by
 have h00 : zl 0 ≤ t.length + 1 := by rw [zl_zero]; omega
 rcases sign_cases t with h45 | ⟨d, rfl⟩
 ·rcases read_cases 0 t with ⟨b, hfb⟩ | hfb
  ·exact ⟨0, 6, (b : Nat), (b : Nat), fun w0 => ⟨(iread_fb0 h45 (by omega) hfb).mono fun _ _ ⟨he, hB⟩ => ⟨_, he, zin_at _, hB⟩, (rread_fb0 h45 (by omega) hfb).mono fun _ _ ⟨he, hB⟩ => ⟨_, he, rin_at _, hB⟩⟩, h00⟩
  ·exact ⟨_, 0, 0, -1, fun w0 => ⟨iread_ok0 h45 (by omega) hfb, rread_ok0 h45 hfb (by omega)⟩, zl_num0 (digits_of hfb.ok)⟩
 ·rw [List.length_cons] at h
  rcases read_cases 1 d with ⟨b, hfb⟩ | hfb
  ·exact ⟨0, 6, (b + 1 : Nat), (b + 1 : Nat), fun w0 => ⟨(iread_fb1 (by omega) hfb).mono fun _ _ ⟨he, hB⟩ => ⟨_, he, zin_at _, hB⟩, (rread_fb1 (by omega) hfb).mono fun _ _ ⟨he, hB⟩ => ⟨_, he, rin_at _, hB⟩⟩, h00⟩
  ·exact ⟨_, 0, 0, -1, fun w0 => ⟨iread_ok1 (by omega) hfb, rread_ok1 hfb (by omega)⟩, by have := zl_num1 (digits_of hfb.ok); rw [List.length_cons]; omega⟩
theorem qlong_one1 {s t : List UInt8} {w0 : World} (h : 300 < s.length) :
  Calls Tryd.prog 119 #[.agg #[.string ⟨s.toArray⟩, .string ⟨t.toArray⟩]] w0 fun e w' => e = .returned (.bool true) ∧ Below w0.heap.size w0 w' := by
 refine enter Tryd.func119 rfl Tryd.ntmps119 rfl ?_
 intro a η σ
 refine wp_seq (region_seq ?_)
 refine seq_step rfl (op_box (c := #[.string ⟨s.toArray⟩, .string ⟨t.toArray⟩]) η σ rfl rfl rfl ?_)
 clear η σ a; intro a w2 g1 η σ
 refine sv (v := .bool false) η rfl (rn_assign η rfl) ?_
 clear η a; intro a η
 refine wpList_nil (th_n (wp_seq (region_seq ?_)))
 revert a
 refine sA (v := .pointer (some ⟨g1, 0, none⟩)) rfl (fun _ η => rn_fieldAddr η fd_anvil_anvillaw03_Frac_0 (ty_string.size) (by decide) rfl) ?_
 refine sA (v := .string ⟨s.toArray⟩) rfl (fun _ η => rn_load1 η ty_string rfl (σ.oat (k := 0) rfl) rfl) ?_
 refine sA (v := .int .i64 (s.length : Nat)) rfl (fun _ η => rn_lenS η Tryd.underlying9 rfl) ?_
 refine sA (v := .bool (decide (((s.length : Nat) : Int) > (300 : Int)))) rfl (fun _ η => rn_bin η rfl rfl rfl) ?_
 intro a η
 rw [show (decide (((s.length : Nat) : Int) > (300 : Int))) = true from decide_eq_true (by omega)] at η
 revert a
 refine mA rfl rfl ?_
 refine kA rfl rfl rfl rfl rfl ?_
 refine kA rfl rfl rfl rfl rfl ?_
 refine kA rfl rfl rfl rfl rfl ?_
 refine kA rfl rfl rfl rfl rfl ?_
 refine sA (v := .bool true) rfl (fun _ η => rn_pick η rfl rfl) ?_
 refine aA rfl rfl ?_
 intro a η
 refine wpList_nil (th_n (wp_ret ?_))
 refine leave η (res1 Tryd.results119 (RV.tmp η rfl)) ?_
 exact ⟨rfl, σ.below⟩
theorem qlong_one0 {s t : List UInt8} {w0 : World} (h : ¬ 300 < s.length) :
  Calls Tryd.prog 119 #[.agg #[.string ⟨s.toArray⟩, .string ⟨t.toArray⟩]] w0 fun e w' => e = .returned (.bool (decide (((t.length : Nat) : Int) > (300 : Int)))) ∧ Below w0.heap.size w0 w' := by
 refine enter Tryd.func119 rfl Tryd.ntmps119 rfl ?_
 intro a η σ
 refine wp_seq (region_seq ?_)
 refine seq_step rfl (op_box (c := #[.string ⟨s.toArray⟩, .string ⟨t.toArray⟩]) η σ rfl rfl rfl ?_)
 clear η σ a; intro a w2 g1 η σ
 refine sv (v := .bool false) η rfl (rn_assign η rfl) ?_
 clear η a; intro a η
 refine wpList_nil (th_n (wp_seq (region_seq ?_)))
 revert a
 refine sA (v := .pointer (some ⟨g1, 0, none⟩)) rfl (fun _ η => rn_fieldAddr η fd_anvil_anvillaw03_Frac_0 (ty_string.size) (by decide) rfl) ?_
 refine sA (v := .string ⟨s.toArray⟩) rfl (fun _ η => rn_load1 η ty_string rfl (σ.oat (k := 0) rfl) rfl) ?_
 refine sA (v := .int .i64 (s.length : Nat)) rfl (fun _ η => rn_lenS η Tryd.underlying9 rfl) ?_
 refine sA (v := .bool (decide (((s.length : Nat) : Int) > (300 : Int)))) rfl (fun _ η => rn_bin η rfl rfl rfl) ?_
 intro a η
 rw [show (decide (((s.length : Nat) : Int) > (300 : Int))) = false from decide_eq_false (by omega)] at η
 revert a
 refine mA rfl rfl ?_
 refine gA (v := .pointer (some ⟨g1, 1, none⟩)) rfl rfl rfl rfl (fun _ η => rn_fieldAddr η fd_anvil_anvillaw03_Frac_1 (ty_string.size) (by decide) rfl) ?_
 refine gA (v := .string ⟨t.toArray⟩) rfl rfl rfl rfl (fun _ η => rn_load1 η ty_string rfl (σ.oat (k := 0) rfl) rfl) ?_
 refine gA (v := .int .i64 (t.length : Nat)) rfl rfl rfl rfl (fun _ η => rn_lenS η Tryd.underlying9 rfl) ?_
 refine gA (v := .bool (decide (((t.length : Nat) : Int) > (300 : Int)))) rfl rfl rfl rfl (fun _ η => rn_bin η rfl rfl rfl) ?_
 refine sA (v := .bool (decide (((t.length : Nat) : Int) > (300 : Int)))) rfl (fun _ η => rn_pick η rfl rfl) ?_
 refine aA rfl rfl ?_
 intro a η
 refine wpList_nil (th_n (wp_ret ?_))
 refine leave η (res1 Tryd.results119 (RV.tmp η rfl)) ?_
 exact ⟨rfl, σ.below⟩
def Lg (e : FE) : Prop := 300 < e.1.length ∨ 300 < e.2.length
theorem qlong_one {s t : List UInt8} {w0 : World} :
  Calls Tryd.prog 119 #[.agg #[.string ⟨s.toArray⟩, .string ⟨t.toArray⟩]] w0 fun e w' => ∃ b : Bool, e = .returned (.bool b) ∧ (b = true ↔ Lg (s, t)) ∧ Below w0.heap.size w0 w' := by
 by_cases h : 300 < s.length
 ·exact (qlong_one1 h).mono fun _ _ ⟨he, hB⟩ => ⟨_, he, ⟨fun _ => .inl h, fun _ => rfl⟩, hB⟩
 ·refine (qlong_one0 h).mono fun _ _ ⟨he, hB⟩ => ⟨_, he, ⟨fun hd => .inr (show 300 < t.length by have := of_decide_eq_true hd; omega), fun hd => ?_⟩, hB⟩
  rcases hd with hd | hd
  ·exact absurd hd h
  ·exact decide_eq_true (by have : 300 < t.length := hd; omega)
theorem qlong_index {A : Option Addr} {n c : Nat} {es : List FE} {w0 : World} (hr : (pfRow fF FF 2 A n c es).P w0) :
  Calls Tryd.prog 148 #[.slice A n c, .func (.func 119) #[] #[]] w0 fun e w' => ∃ r : Int, e = .returned (.int .i64 r) ∧ (0 ≤ r ↔ ∃ e ∈ es, Lg e) ∧ Below w0.heap.size w0 w' := by
 refine enter Tryd.func148 rfl Tryd.ntmps148 rfl ?_
 intro a η σ
 have hlen := hr.2.1
 have hbig := Nat.le_trans hr.1.cap hr.1.big
 unfold maxLen at hbig
 replace σ := σ.argRow hr
 clear hr
 refine wp_seq (region_seq ?_)
 refine sv (v := .int .i64 0) η rfl (rn_assign η rfl) ?_
 clear η a; intro a η
 refine wpList_nil (th_n (wp_seq (wp_seq (region_seq ?_))))
 revert a
 refine mA rfl rfl ?_
 refine sA (v := .int .i64 (n : Nat)) rfl (fun _ η => rn_len η Tryd.underlying103 rfl) ?_
 refine mA rfl rfl ?_
 intro a η
 refine wpList_nil (th_n (wp_block ?_))
 refine wp_loop_ghost (fun mz a w => ∃ j : Nat, n - j = mz ∧ Env 19 a [(0, .slice A n c), (1, .func (.func 119) #[] #[]), (7, .int .i64 (n : Nat)), (8, .int .i64 (j : Nat))] ∧ St w0 w [] [pfRow fF FF 2 A n c es] ∧ j ≤ n ∧ (∀ i e, i < j → es[i]? = some e → ¬ Lg e)) _ ⟨0, rfl, η.sub ⟨rfl, rfl, rfl, rfl, trivial⟩, σ.pick [] [0] (by decide), (Nat.zero_le _), (fun i _ hi => absurd hi (Nat.not_lt_zero _))⟩ ?_
 clear η σ a
 rintro mz a w1 ⟨j, rfl, η, σ, hj, hz⟩
 refine wp_seq (region_seq ?_)
 refine sv (v := .bool (decide (((j : Nat) : Int) < ((n : Nat) : Int)))) η rfl (rn_bin η rfl rfl rfl) ?_
 clear η a; intro a η
 refine wpList_nil (th_n (wp_seq ?_))
 refine if_split η rfl (fun hc2 => ?_) (fun hc2 => ?_)
 ·have hlt : j < n := by have := of_decide_eq_true hc2; omega
  obtain ⟨⟨s, t⟩, he⟩ : ∃ e, es[j]? = some e := ⟨_, List.getElem?_eq_getElem (by omega)⟩
  refine wp_skip (th_n (wp_seq (wp_block (wp_seq (region_seq ?_)))))
  revert a
  refine mA rfl rfl ?_
  refine aA rfl rfl ?_
  intro a η
  refine wpList_nil (th_n (wp_seq (region_seq ?_)))
  revert a
  refine mA rfl rfl ?_
  refine mA rfl rfl ?_
  refine mA rfl rfl ?_
  refine sA (v := .pointer (some ⟨ab A, ao A + j * 2, none⟩)) rfl (fun _ η => rn_idxR (i := j) η Tryd.underlying103 (ty_anvil_anvillaw03_Frac.size) rfl rfl (by omega) rfl (show (pfRow fF FF 2 A n c es).P _ from (σ.pat (k := 0) rfl)).1) ?_
  refine sA (v := .agg #[.string ⟨s.toArray⟩, .string ⟨t.toArray⟩]) rfl (fun _ η => rn_loadE (i := j) (e := (s, t)) η ty_anvil_anvillaw03_Frac rfl rfl fF_len (show (pfRow fF FF 2 A n c es).P _ from (σ.pat (k := 0) rfl)).1 (by omega) he rfl) ?_
  intro a η
  refine seq_step rfl (op_callv η rfl Tryd.call119 rfl rfl (qlong_one (s := s) (t := t)) ?_)
  rintro e w3 ⟨b, rfl, hb1, hb⟩
  refine ⟨_, rfl, ?_⟩
  clear η a; intro a η
  replace σ := σ.call hb
  clear hb
  refine wpList_nil (th_n ?_)
  refine if_split η rfl (fun hc4 => ?_) (fun hc4 => ?_)
  ·have hyes := hb1.1 hc4
   refine wp_seq (region_seq ?_)
   revert a
   refine mA rfl rfl ?_
   refine aA rfl rfl ?_
   intro a η
   refine wpList_nil (th_n (wp_ret (bl_r (th_r (th_r (bl_r (th_r ?_)))))))
   refine leave η (res1 Tryd.results148 (RV.tmp η rfl)) ?_
   exact ⟨_, rfl, ⟨fun _ => ⟨_, List.mem_of_getElem? he, hyes⟩, fun _ => by omega⟩, σ.below⟩
  ·have hno : ¬ Lg (s, t) := fun h1 => by rw [hb1.2 h1] at hc4; cases hc4
   refine wp_skip (bl_n (th_n (region_seq ?_)))
   revert a
   refine sA (v := .int .i64 (j + 1 : Nat)) rfl (fun _ η => rn_add η rfl rfl (by rw [IntWalk.i64_in _ (by omega)]; omega)) ?_
   refine mA rfl rfl ?_
   intro a η
   refine wpList_nil ?_
   exact th_n ⟨_, (by omega), ⟨j + 1, rfl, η.sub ⟨rfl, rfl, rfl, rfl, trivial⟩, σ.pick [] [0] (by decide), (by omega), (fun i e hi h1 => by rcases Nat.lt_or_ge i j with h2 | h2; exact hz i e h2 h1; obtain rfl : i = j := (by omega); rw [he] at h1; cases h1; exact hno)⟩⟩
 ·obtain rfl : j = n := by have := of_decide_eq_false hc2; omega
  refine wp_exit (th_x (th_x (bl_x (th_n (wp_seq (region_seq ?_))))))
  refine sv (v := .int .i64 (-1)) η rfl (rn_assign η rfl) ?_
  clear η a; intro a η
  refine wpList_nil (th_n (wp_ret ?_))
  refine leave η (res1 Tryd.results148 (RV.tmp η rfl)) ?_
  exact ⟨_, rfl, ⟨fun h => by omega, fun ⟨e, h1, h2⟩ => by obtain ⟨i, hi⟩ := List.getElem?_of_mem h1; exact absurd h2 (hz i e (by have := (List.getElem?_eq_some_iff.1 hi).1; omega) hi)⟩, σ.below⟩
theorem qlong_contains {A : Option Addr} {n c : Nat} {es : List FE} {w0 : World} (hr : (pfRow fF FF 2 A n c es).P w0) :
  Calls Tryd.prog 118 #[.slice A n c, .func (.func 119) #[] #[]] w0 fun e w' => ∃ b : Bool, e = .returned (.bool b) ∧ (b = true ↔ ∃ e ∈ es, Lg e) ∧ Below w0.heap.size w0 w' := by
 refine enter Tryd.func118 rfl Tryd.ntmps118 rfl ?_
 intro a η σ
 have hlen := hr.2.1
 have hbig := Nat.le_trans hr.1.cap hr.1.big
 unfold maxLen at hbig
 replace σ := σ.argRow hr
 clear hr
 refine wp_seq (region_seq ?_)
 refine sv (v := .bool false) η rfl (rn_assign η rfl) ?_
 clear η a; intro a η
 refine wpList_nil (th_n (wp_seq (region_seq ?_)))
 revert a
 refine mA rfl rfl ?_
 refine mA rfl rfl ?_
 intro a η
 refine seq_step rfl (op_call η rfl Tryd.call148 rfl (qlong_index (σ.pat (k := 0) rfl)) ?_)
 rintro e w1 ⟨r, rfl, hr, hb⟩
 refine ⟨_, rfl, ?_⟩
 clear η a; intro a η
 replace σ := σ.call hb
 clear hb
 revert a
 refine sA (v := .bool (decide (r ≥ (0 : Int)))) rfl (fun _ η => rn_bin η rfl rfl rfl) ?_
 refine aA rfl rfl ?_
 intro a η
 refine wpList_nil (th_n (wp_ret ?_))
 refine leave η (res1 Tryd.results118 (RV.tmp η rfl)) ?_
 exact ⟨_, rfl, (by rw [gt_iff r]; exact hr), σ.below⟩
theorem qlong_many {A : Option Addr} {n c : Nat} {es : List FE} {w0 : World} (hr : (pfRow fF FF 2 A n c es).P w0) (hn : 12 < n) :
  Calls Tryd.prog 68 #[.slice A n c] w0 fun e w' => e = .returned (.bool true) ∧ Below w0.heap.size w0 w' := by
 refine enter Tryd.func68 rfl Tryd.ntmps68 rfl ?_
 intro a η σ
 have hlen := hr.2.1
 have hbig := Nat.le_trans hr.1.cap hr.1.big
 unfold maxLen at hbig
 replace σ := σ.argRow hr
 clear hr
 refine wp_seq (region_seq ?_)
 refine sv (v := .bool false) η rfl (rn_assign η rfl) ?_
 clear η a; intro a η
 refine wpList_nil (th_n (wp_seq (region_seq ?_)))
 revert a
 refine mA rfl rfl ?_
 refine sA (v := .int .i64 (n : Nat)) rfl (fun _ η => rn_len η Tryd.underlying103 rfl) ?_
 refine sA (v := .bool (decide (((n : Nat) : Int) > (12 : Int)))) rfl (fun _ η => rn_bin η rfl rfl rfl) ?_
 intro a η
 rw [show (decide (((n : Nat) : Int) > (12 : Int))) = true from decide_eq_true (by omega)] at η
 revert a
 refine mA rfl rfl ?_
 refine kA rfl rfl rfl rfl rfl ?_
 refine kA rfl rfl rfl rfl rfl ?_
 refine sA (v := .bool true) rfl (fun _ η => rn_pick η rfl rfl) ?_
 refine aA rfl rfl ?_
 intro a η
 refine wpList_nil (th_n (wp_ret ?_))
 refine leave η (res1 Tryd.results68 (RV.tmp η rfl)) ?_
 exact ⟨rfl, σ.below⟩
theorem qlong_few {A : Option Addr} {n c : Nat} {es : List FE} {w0 : World} (hr : (pfRow fF FF 2 A n c es).P w0) (hn : n ≤ 12) :
  Calls Tryd.prog 68 #[.slice A n c] w0 fun e w' => ∃ b : Bool, e = .returned (.bool b) ∧ (b = true ↔ ∃ e ∈ es, Lg e) ∧ Below w0.heap.size w0 w' := by
 refine enter Tryd.func68 rfl Tryd.ntmps68 rfl ?_
 intro a η σ
 have hlen := hr.2.1
 have hbig := Nat.le_trans hr.1.cap hr.1.big
 unfold maxLen at hbig
 replace σ := σ.argRow hr
 clear hr
 refine wp_seq (region_seq ?_)
 refine sv (v := .bool false) η rfl (rn_assign η rfl) ?_
 clear η a; intro a η
 refine wpList_nil (th_n (wp_seq (region_seq ?_)))
 revert a
 refine mA rfl rfl ?_
 refine sA (v := .int .i64 (n : Nat)) rfl (fun _ η => rn_len η Tryd.underlying103 rfl) ?_
 refine sA (v := .bool (decide (((n : Nat) : Int) > (12 : Int)))) rfl (fun _ η => rn_bin η rfl rfl rfl) ?_
 intro a η
 rw [show (decide (((n : Nat) : Int) > (12 : Int))) = false from decide_eq_false (by omega)] at η
 revert a
 refine mA rfl rfl ?_
 refine gA (v := .slice A n c) rfl rfl rfl rfl (fun _ η => rn_move η rfl) ?_
 intro a η
 refine seq_g rfl η rfl rfl (op_call η rfl Tryd.call118 rfl (qlong_contains (σ.pat (k := 0) rfl)) ?_)
 rintro e w1 ⟨b, rfl, hb1, hb⟩
 refine ⟨_, rfl, ?_⟩
 clear η a; intro a η
 replace σ := σ.call hb
 clear hb
 revert a
 refine sA (v := .bool b) rfl (fun _ η => rn_pick η rfl rfl) ?_
 refine aA rfl rfl ?_
 intro a η
 refine wpList_nil (th_n (wp_ret ?_))
 refine leave η (res1 Tryd.results68 (RV.tmp η rfl)) ?_
 exact ⟨_, rfl, hb1, σ.below⟩
theorem qlong_no {A : Option Addr} {n c : Nat} {es : List FE} {w0 : World} (hr : (pfRow fF FF 2 A n c es).P w0) (hn : n ≤ 12) (hs : ∀ e ∈ es, ¬ Lg e) :
  Calls Tryd.prog 68 #[.slice A n c] w0 fun e w' => e = .returned (.bool false) ∧ Below w0.heap.size w0 w' := by
 refine (qlong_few hr hn).mono ?_
 rintro e w' ⟨b, rfl, hb, hB⟩
 cases b with
 | false => exact ⟨rfl, hB⟩
 | true => obtain ⟨e, he, h⟩ := hb.1 rfl; exact absurd h (hs e he)
theorem qlong_yes {A : Option Addr} {n c : Nat} {es : List FE} {w0 : World} (hr : (pfRow fF FF 2 A n c es).P w0) (hs : ∃ e ∈ es, Lg e) :
  Calls Tryd.prog 68 #[.slice A n c] w0 fun e w' => e = .returned (.bool true) ∧ Below w0.heap.size w0 w' := by
 rcases Nat.lt_or_ge 12 n with hn | hn
 ·exact qlong_many hr hn
 refine (qlong_few hr hn).mono ?_
 rintro e w' ⟨b, rfl, hb, hB⟩
 obtain rfl := hb.2 hs
 exact ⟨rfl, hB⟩
theorem is_qy {A0 B0 A1 B1 : Option Addr} {c0 d0 c1 d1 : Nat} {r : Rat} {w0 : World} (h0 : ZIn w0 A0 c0 (qn r)) (k0 : ZIn w0 B0 d0 (ql r)) (h1 : RIn w0 A1 c1 (qn r)) (k1 : RIn w0 B1 d1 (qd r)) {k : Nat} (sr : Qs k r) (hk : k ≤ 6000) :
  Calls Tryd.prog 74 #[.agg #[.bool (neg (qn r)), .slice A0 (zl (qn r)) c0, .bool (neg (ql r)), .slice B0 (zl (ql r)) d0], .agg #[.bool (neg (qn r)), .slice A1 (dl (qn r)) c1, .bool (neg (qd r)), .slice B1 (dl (qd r)) d1]] w0 fun e w' => e = .returned (.bool true) ∧ Below w0.heap.size w0 w' := by
 have hnr := sr.n
 have hdr := sr.d
 have enr := dl_zl (qn r)
 have edr := dl_zl (qd r)
 refine enter Tryd.func74 rfl Tryd.ntmps74 rfl ?_
 intro a η σ
 replace σ := σ.addZ h0 trivial
 replace σ := σ.addZ k0 trivial
 replace σ := σ.addR h1 trivial
 replace σ := σ.addR k1 trivial
 refine wp_seq (region_seq ?_)
 refine seq_step rfl (op_box (c := #[.bool (neg (qn r)), .slice A0 (zl (qn r)) c0, .bool (neg (ql r)), .slice B0 (zl (ql r)) d0]) η σ rfl rfl rfl ?_)
 clear η σ a; intro a w2 g1 η σ
 refine seq_step rfl (op_box (c := #[.bool (neg (qn r)), .slice A1 (dl (qn r)) c1, .bool (neg (qd r)), .slice B1 (dl (qd r)) d1]) η σ rfl rfl rfl ?_)
 clear η σ a; intro a w4 g3 η σ
 refine sv (v := .bool false) η rfl (rn_assign η rfl) ?_
 clear η a; intro a η
 refine wpList_nil (th_n (wp_seq ?_))
 refine region_any (n := 17) (Sk [bk g3 #[.bool (neg (qn r)), .slice A1 (dl (qn r)) c1, .bool (neg (qd r)), .slice B1 (dl (qd r)) d1] 108, bk g1 #[.bool (neg (qn r)), .slice A0 (zl (qn r)) c0, .bool (neg (ql r)), .slice B0 (zl (ql r)) d0] 91] [pfR B1 d1 (qd r), pfR A1 c1 (qn r), pfZ B0 d0 (ql r), pfZ A0 c0 (qn r)] [] []) mixed rfl η σ ?_
 clear η σ; intro w5 η σ
 refine tL (i := 0) 1 1 [1, 2, 5, 6, 7, 8, 9, 10, 11, 12, 13, 14, 15, 16] rfl (by kernel_rfl) (fun _ _ _ h => h) η rfl ty_anvil_ratio_Rat rfl σ rfl rfl rfl ?_
 clear η a; intro a η
 refine tA (i := 3) (rg 4 13) (v := .pointer (some ⟨g3, 0, none⟩)) rfl (by kernel_rfl) (fun _ _ _ h => h) η rfl (fun _ => rn_fieldAddr η fd_anvil_anvilref03_Rat_0 (ty_anvil_anvilref02_Int.size) (by decide) rfl) ?_
 clear η a; intro a η
 refine sAny_take (i := 4) [5, 6, 7, 8, 9, 10, 11, 12, 13, 14, 15, 16] (fun w' => w'.heap[g3]? = some (.cells #[.bool (neg (qn r)), .slice A1 (dl (qn r)) c1, .bool (neg (qd r)), .slice B1 (dl (qd r)) d1] 108 (0, 0))) (v := .agg #[.bool (neg (qn r)), .slice A1 (dl (qn r)) c1]) rfl (by kernel_rfl) (fun _ _ _ h => h) (fun _ _ _ hS => hS.1.oat (k := 0) rfl) η rfl (σ.oat (k := 0) rfl) (fun w' hg => rn_load η ty_anvil_anvilref02_Int rfl hg rfl rfl) ?_
 clear η a; intro a η
 refine sAny_one (i := 1) (by kernel_rfl) rfl rfl (op_call η rfl Tryd.call88 rfl (num_q (x := r) (show ZIn _ A0 c0 (qn r) from σ.pat (k := 3) rfl) (show ZIn _ B0 d0 (ql r) from σ.pat (k := 2) rfl)) ?_)
 rintro e w9 ⟨_, rfl, ⟨A6, c7, rfl, hz8⟩, hb⟩
 refine ⟨_, rfl, ?_⟩
 clear η a; intro a η
 replace σ := (σ.call hb).addZ hz8 ⟨nou_bk rfl, nou_bk rfl, trivial⟩
 clear hz8
 clear hb
 refine ⟨.inr ⟨σ.kn.pick [0, 1] (rg 1 4), .inr (σ.kn.pick [] [])⟩, ?_⟩
 refine sAny_one (i := 2) (by kernel_rfl) rfl rfl (op_call η rfl Tryd.call72 rfl (text_z (z := (qn r)) (show ZIn _ A6 c7 (qn r) from σ.pat (k := 0) rfl) (by omega)) ?_)
 rintro e w10 ⟨rfl, hb⟩
 refine ⟨_, rfl, ?_⟩
 clear η a; intro a η
 replace σ := σ.call hb
 clear hb
 refine ⟨.inr ⟨σ.kn.pick [0, 1] (rg 1 4), .inr (σ.kn.pick [] [])⟩, ?_⟩
 refine sAny_one (i := 5) (by kernel_rfl) rfl rfl (op_call η rfl Tryd.call73 rfl (text_r (z := (qn r)) (show RIn _ A1 c1 (qn r) from σ.pat (k := 2) rfl) (by omega)) ?_)
 rintro e w11 ⟨rfl, hb⟩
 refine ⟨_, rfl, ?_⟩
 clear η a; intro a η
 replace σ := σ.call hb
 clear hb
 refine ⟨.inr ⟨σ.kn.pick [0, 1] (rg 1 4), .inr (σ.kn.pick [] [])⟩, ?_⟩
 refine tA (i := 6) (rg 7 10) (v := .bool (decide ((textZ (qn r)) = (textZ (qn r))))) rfl (by kernel_rfl) (fun _ _ _ h => h) η rfl (fun _ => rn_eqls (s := (textZ (qn r))) (t := (textZ (qn r))) η rfl rfl) ?_
 clear η a; intro a η
 rw [show (decide ((textZ (qn r)) = (textZ (qn r)))) = true from decide_eq_true rfl] at η
 refine tM (i := 7) (rg 8 9) rfl (by kernel_rfl) (fun _ _ _ h => h) η rfl rfl ?_
 clear η a; intro a η
 refine tLg (i := 8) 1 1 [9, 10, 13, 14, 15, 16] rfl (by kernel_rfl) (fun _ _ _ h => h) η rfl rfl rfl rfl ty_anvil_ratio_Rat rfl σ rfl rfl rfl ?_
 clear η a; intro a η
 refine tAg (i := 11) (rg 12 5) (v := .pointer (some ⟨g3, 2, none⟩)) rfl (by kernel_rfl) (fun _ _ _ h => h) η rfl rfl rfl rfl (fun _ => rn_fieldAddr η fd_anvil_anvilref03_Rat_1 (ty_anvil_anvilref02_Int.size) (by decide) rfl) ?_
 clear η a; intro a η
 refine sAny_takeg (i := 12) [13, 14, 15, 16] (fun w' => w'.heap[g3]? = some (.cells #[.bool (neg (qn r)), .slice A1 (dl (qn r)) c1, .bool (neg (qd r)), .slice B1 (dl (qd r)) d1] 108 (0, 0))) (v := .agg #[.bool (neg (qd r)), .slice B1 (dl (qd r)) d1]) rfl (by kernel_rfl) (fun _ _ _ h => h) (fun _ _ _ hS => hS.1.oat (k := 0) rfl) η rfl rfl rfl rfl (σ.oat (k := 0) rfl) (fun w' hg => rn_load η ty_anvil_anvilref02_Int rfl hg rfl rfl) ?_
 clear η a; intro a η
 refine sAny_oneg (i := 9) (by kernel_rfl) rfl rfl η rfl rfl rfl (op_call η rfl Tryd.call89 rfl (den_q (x := r) (show ZIn _ A0 c0 (qn r) from σ.pat (k := 4) rfl) (show ZIn _ B0 d0 (ql r) from σ.pat (k := 3) rfl) sr (by omega)) ?_)
 rintro e w15 ⟨_, rfl, ⟨A12, c13, rfl, hz14⟩, hb⟩
 refine ⟨_, rfl, ?_⟩
 clear η a; intro a η
 replace σ := (σ.call hb).addZ hz14 ⟨nou_bk rfl, nou_bk rfl, trivial⟩
 clear hz14
 clear hb
 refine ⟨.inr ⟨σ.kn.pick [0, 1] (rg 2 4), .inr (σ.kn.pick [] [])⟩, ?_⟩
 refine sAny_oneg (i := 10) (by kernel_rfl) rfl rfl η rfl rfl rfl (op_call η rfl Tryd.call72 rfl (text_z (z := (qd r)) (show ZIn _ A12 c13 (qd r) from σ.pat (k := 0) rfl) (by omega)) ?_)
 rintro e w16 ⟨rfl, hb⟩
 refine ⟨_, rfl, ?_⟩
 clear η a; intro a η
 replace σ := σ.call hb
 clear hb
 refine ⟨.inr ⟨σ.kn.pick [0, 1] (rg 2 4), .inr (σ.kn.pick [] [])⟩, ?_⟩
 refine sAny_oneg (i := 13) (by kernel_rfl) rfl rfl η rfl rfl rfl (op_call η rfl Tryd.call73 rfl (text_r (z := (qd r)) (show RIn _ B1 d1 (qd r) from σ.pat (k := 2) rfl) (by omega)) ?_)
 rintro e w17 ⟨rfl, hb⟩
 refine ⟨_, rfl, ?_⟩
 clear η a; intro a η
 replace σ := σ.call hb
 clear hb
 refine ⟨.inr ⟨σ.kn.pick [0, 1] (rg 2 4), .inr (σ.kn.pick [] [])⟩, ?_⟩
 refine tAg (i := 14) [15, 16] (v := .bool (decide ((textZ (qd r)) = (textZ (qd r))))) rfl (by kernel_rfl) (fun _ _ _ h => h) η rfl rfl rfl rfl (fun _ => rn_eqls (s := (textZ (qd r))) (t := (textZ (qd r))) η rfl rfl) ?_
 clear η a; intro a η
 rw [show (decide ((textZ (qd r)) = (textZ (qd r)))) = true from decide_eq_true rfl] at η
 refine tA (i := 15) [16] (v := .bool true) rfl (by kernel_rfl) (fun _ _ _ h => h) η rfl (fun _ => rn_pick η rfl rfl) ?_
 clear η a; intro a η
 refine tA (i := 16) [] (v := .bool true) rfl (by kernel_rfl) (fun _ _ _ h => h) η rfl (fun _ => rn_assign η rfl) ?_
 clear η a; intro a η
 refine sAny_done (by kernel_rfl) ?_ _
 refine th_n (wp_ret ?_)
 refine leave η (res1 Tryd.results74 (RV.tmp η rfl)) ?_
 exact ⟨rfl, σ.below⟩
theorem qworks {w0 : World} :
  Calls Tryd.prog 55 #[] w0 fun e w' => e = .returned (.bool true) ∧ Below w0.heap.size w0 w' := by
 have h6 : zl 6 ≤ 1 := nl_le_of_lt (by decide)
 have h4 : zl (-4) ≤ 1 := nl_le_of_lt (by decide)
 refine enter Tryd.func55 rfl Tryd.ntmps55 rfl ?_
 intro a η σ
 refine wp_seq (region_seq ?_)
 refine sv (v := .bool false) η rfl (rn_assign η rfl) ?_
 clear η a; intro a η
 refine wpList_nil (th_n (wp_seq (region_seq ?_)))
 refine seq_step rfl (op_call η rfl Tryd.call43 rfl (of_z (n := (6 : Int)) (by decide) (by decide)) ?_)
 rintro e w4 ⟨_, rfl, ⟨A1, c2, rfl, hz3⟩, hb⟩
 refine ⟨_, rfl, ?_⟩
 clear η a; intro a η
 replace σ := (σ.call hb).addZ hz3 trivial
 clear hz3
 clear hb
 refine seq_step rfl (op_call η rfl Tryd.call43 rfl (of_z (n := (-4 : Int)) (by decide) (by decide)) ?_)
 rintro e w8 ⟨_, rfl, ⟨A5, c6, rfl, hz7⟩, hb⟩
 refine ⟨_, rfl, ?_⟩
 clear η a; intro a η
 replace σ := (σ.call hb).addZ hz7 trivial
 clear hz7
 clear hb
 refine seq_step rfl (op_call η rfl Tryd.call90 rfl (make_qr (p := 6) (q := -4) (r := mkRat (-3) 2) (show ZIn _ A1 c2 6 from σ.pat (k := 1) rfl) (show ZIn _ A5 c6 (-4) from σ.pat (k := 0) rfl) (by omega) (by omega) (by decide) (by decide +kernel)) ?_)
 rintro e w15 ⟨_, rfl, ⟨A9, c10, B11, d12, rfl, hz13, hz14⟩, hb⟩
 refine ⟨_, rfl, ?_⟩
 clear η a; intro a η
 replace σ := ((σ.call hb).addZ hz13 trivial).addZ hz14 trivial
 clear hz13 hz14
 clear hb
 revert a
 refine mA rfl rfl ?_
 refine sA (v := .agg #[.bool (neg (qn (mkRat (-3) 2))), .slice A9 (zl (qn (mkRat (-3) 2))) c10, .bool (neg (ql (mkRat (-3) 2))), .slice B11 (zl (ql (mkRat (-3) 2))) d12]) rfl (fun _ η => rn_extract η rfl rfl) ?_
 refine sA (v := .int .i64 0) rfl (fun _ η => rn_extract η rfl rfl) ?_
 intro a η
 refine seq_step rfl (op_alloc (c := #[.bool (neg (qn 0)), .slice none (zl (qn 0)) 0, .bool (neg (ql 0)), .slice none (zl (ql 0)) 0]) η σ rfl zero_anvil_ratio_Rat qcells ?_)
 clear η σ a; intro a w17 g16 η σ
 refine seq_step rfl (op_store (k := 0) (c' := #[.bool (neg (qn (mkRat (-3) 2))), .slice A9 (zl (qn (mkRat (-3) 2))) c10, .bool (neg (ql (mkRat (-3) 2))), .slice B11 (zl (ql (mkRat (-3) 2))) d12]) η σ (ty_anvil_ratio_Rat.size) rfl rfl rfl rfl (by simp) rfl rfl ?_)
 clear η σ a; intro a w18 η σ
 refine sv (v := .int .i64 0) η rfl (rn_assign η rfl) ?_
 clear η a; intro a η
 refine wpList_nil (th_n (wp_seq ?_))
 refine cut (fun a w => ∃ (A20 : Option Addr) (c21 : Nat) (A24 : Option Addr) (c25 : Nat) (B26 : Option Addr) (d27 : Nat) (A31 : Option Addr) (c32 : Nat) (B33 : Option Addr) (d34 g38 : Nat), Env 59 a [(0, .bool false), (7, .agg #[.bool (neg 6), .slice A1 (zl 6) c2]), (8, .agg #[.bool (neg (-4)), .slice A5 (zl (-4)) c6]), (9, .tuple #[.agg #[.bool (neg (qn (mkRat (-3) 2))), .slice A9 (zl (qn (mkRat (-3) 2))) c10, .bool (neg (ql (mkRat (-3) 2))), .slice B11 (zl (ql (mkRat (-3) 2))) d12], .int .i64 0]), (6, .tuple #[.agg #[.bool (neg (qn (mkRat (-3) 2))), .slice A9 (zl (qn (mkRat (-3) 2))) c10, .bool (neg (ql (mkRat (-3) 2))), .slice B11 (zl (ql (mkRat (-3) 2))) d12], .int .i64 0]), (10, .agg #[.bool (neg (qn (mkRat (-3) 2))), .slice A9 (zl (qn (mkRat (-3) 2))) c10, .bool (neg (ql (mkRat (-3) 2))), .slice B11 (zl (ql (mkRat (-3) 2))) d12]), (11, .int .i64 0), (1, .pointer (some ⟨g16, 0, none⟩)), (2, .int .i64 0), (3, .pointer (some ⟨g38, 0, none⟩)), (4, .int .i64 0)] ∧ St w0 w [bk g38 #[.bool (neg (qn ((mkRat (-3) 2) / ((3 : Int) : Rat)))), .slice A31 (zl (qn ((mkRat (-3) 2) / ((3 : Int) : Rat)))) c32, .bool (neg (ql ((mkRat (-3) 2) / ((3 : Int) : Rat)))), .slice B33 (zl (ql ((mkRat (-3) 2) / ((3 : Int) : Rat)))) d34] 91, bk g16 #[.bool (neg (qn (mkRat (-3) 2))), .slice A9 (zl (qn (mkRat (-3) 2))) c10, .bool (neg (ql (mkRat (-3) 2))), .slice B11 (zl (ql (mkRat (-3) 2))) d12] 91] [pfZ B33 d34 (ql ((mkRat (-3) 2) / ((3 : Int) : Rat))), pfZ A31 c32 (qn ((mkRat (-3) 2) / ((3 : Int) : Rat))), pfZ B26 d27 (ql ((3 : Int) : Rat)), pfZ A24 c25 (qn ((3 : Int) : Rat)), pfZ A20 c21 3, pfZ B11 d12 (ql (mkRat (-3) 2)), pfZ A9 c10 (qn (mkRat (-3) 2)), pfZ A5 c6 (-4), pfZ A1 c2 6]) ?_ ?_
 ·refine region_any (n := 10) (Sk [bk g16 #[.bool (neg (qn (mkRat (-3) 2))), .slice A9 (zl (qn (mkRat (-3) 2))) c10, .bool (neg (ql (mkRat (-3) 2))), .slice B11 (zl (ql (mkRat (-3) 2))) d12] 91] [pfZ B11 d12 (ql (mkRat (-3) 2)), pfZ A9 c10 (qn (mkRat (-3) 2)), pfZ A5 c6 (-4), pfZ A1 c2 6] [8] []) mixed rfl η σ ?_
  clear η σ; intro w19 η σ
  refine tL (i := 0) 0 0 [3, 4, 5, 6, 8, 9] rfl (by kernel_rfl) (fun _ _ _ h => h) η rfl ty_anvil_ratio_Rat rfl σ rfl rfl rfl ?_
  clear η a; intro a η
  refine sAny_all (rs := [1, 7]) (by kernel_rfl) (by simp) ?_
  simp only [List.forall_mem_cons, List.not_mem_nil, false_implies, implies_true, and_true]
  refine ⟨?_, ?_⟩
  ·refine ⟨_, rfl, rfl, op_call η rfl Tryd.call43 rfl (of_z (n := (3 : Int)) (by decide) (by decide)) ?_⟩
   rintro e w23 ⟨_, rfl, ⟨A20, c21, rfl, hz22⟩, hb⟩
   refine ⟨_, rfl, ?_⟩
   clear η a; intro a η
   replace σ := (σ.call hb).addZ hz22 ⟨nou_bk rfl, trivial⟩
   clear hz22
   clear hb
   refine ⟨.inr ⟨σ.kn.pick [0] (rg 1 4), .inr (σ.kn.pick [] [])⟩, ?_⟩
   refine sAny_all (rs := [2, 7]) (by kernel_rfl) (by simp) ?_
   simp only [List.forall_mem_cons, List.not_mem_nil, false_implies, implies_true, and_true]
   refine ⟨?_, ?_⟩
   ·refine ⟨_, rfl, rfl, op_call η rfl Tryd.call65 rfl (of_int_q (z := 3) (show ZIn _ A20 c21 3 from σ.pat (k := 0) rfl)) ?_⟩
    rintro e w30 ⟨_, rfl, ⟨A24, c25, B26, d27, rfl, hz28, hz29⟩, hb⟩
    refine ⟨_, rfl, ?_⟩
    clear η a; intro a η
    replace σ := ((σ.call hb).addZ hz28 ⟨nou_bk rfl, trivial⟩).addZ hz29 ⟨nou_bk rfl, trivial⟩
    clear hz28 hz29
    clear hb
    refine ⟨.inr ⟨σ.kn.pick [0] (rg 3 4), .inr (σ.kn.pick [] [])⟩, ?_⟩
    refine sAny_all (rs := [3, 7]) (by kernel_rfl) (by simp) ?_
    simp only [List.forall_mem_cons, List.not_mem_nil, false_implies, implies_true, and_true]
    refine ⟨?_, ?_⟩
    ·refine ⟨_, rfl, rfl, op_call η rfl Tryd.call62 rfl (over_q (x := mkRat (-3) 2) (y := ((3 : Int) : Rat)) (show ZIn _ A9 c10 (qn (mkRat (-3) 2)) from σ.pat (k := 4) rfl) (show ZIn _ B11 d12 (ql (mkRat (-3) 2)) from σ.pat (k := 3) rfl) (show ZIn _ A24 c25 (qn ((3 : Int) : Rat)) from σ.pat (k := 1) rfl) (show ZIn _ B26 d27 (ql ((3 : Int) : Rat)) from σ.pat (k := 0) rfl) qs_w qs_3 (by omega) (by decide)) ?_⟩
     rintro e w37 ⟨_, rfl, ⟨A31, c32, B33, d34, rfl, hz35, hz36⟩, hb⟩
     refine ⟨_, rfl, ?_⟩
     clear η a; intro a η
     replace σ := ((σ.call hb).addZ hz35 ⟨nou_bk rfl, trivial⟩).addZ hz36 ⟨nou_bk rfl, trivial⟩
     clear hz35 hz36
     clear hb
     refine ⟨.inr ⟨σ.kn.pick [0] (rg 5 4), .inr (σ.kn.pick [] [])⟩, ?_⟩
     refine tM (i := 4) [5, 6, 8, 9] rfl (by kernel_rfl) (fun _ _ _ h => h) η rfl rfl ?_
     clear η a; intro a η
     refine tA (i := 5) [8, 9] (v := .agg #[.bool (neg (qn ((mkRat (-3) 2) / ((3 : Int) : Rat)))), .slice A31 (zl (qn ((mkRat (-3) 2) / ((3 : Int) : Rat)))) c32, .bool (neg (ql ((mkRat (-3) 2) / ((3 : Int) : Rat)))), .slice B33 (zl (ql ((mkRat (-3) 2) / ((3 : Int) : Rat)))) d34]) rfl (by kernel_rfl) (fun _ _ _ h => h) η rfl (fun _ => rn_extract η rfl rfl) ?_
     clear η a; intro a η
     refine tA (i := 6) [9] (v := .int .i64 0) rfl (by kernel_rfl) (fun _ _ _ h => h) η rfl (fun _ => rn_extract η rfl rfl) ?_
     clear η a; intro a η
     refine sAny_one (i := 7) (by kernel_rfl) rfl rfl (op_alloc (c := #[.bool (neg (qn 0)), .slice none (zl (qn 0)) 0, .bool (neg (ql 0)), .slice none (zl (ql 0)) 0]) η σ rfl zero_anvil_ratio_Rat qcells ?_)
     clear η σ a; intro a w39 g38 η σ
     refine ⟨.inr ⟨σ.kn.pick [1] (rg 5 4), .inr (σ.kn.pick [] [])⟩, ?_⟩
     refine sAny_one (i := 8) (by kernel_rfl) rfl rfl (op_store (k := 0) (c' := #[.bool (neg (qn ((mkRat (-3) 2) / ((3 : Int) : Rat)))), .slice A31 (zl (qn ((mkRat (-3) 2) / ((3 : Int) : Rat)))) c32, .bool (neg (ql ((mkRat (-3) 2) / ((3 : Int) : Rat)))), .slice B33 (zl (ql ((mkRat (-3) 2) / ((3 : Int) : Rat)))) d34]) η σ (ty_anvil_ratio_Rat.size) rfl rfl rfl rfl (by simp) rfl rfl ?_)
     clear η σ a; intro a w40 η σ
     refine ⟨.inr ⟨σ.kn.pick [1] (rg 5 4), .inl rfl⟩, ?_⟩
     refine tA (i := 9) [] (v := .int .i64 0) rfl (by kernel_rfl) (fun _ _ _ h => h) η rfl (fun _ => rn_assign η rfl) ?_
     clear η a; intro a η
     refine sAny_done (by kernel_rfl) ?_ _
     exact th_n ⟨A20, c21, A24, c25, B26, d27, A31, c32, B33, d34, g38, η.sub ⟨rfl, rfl, rfl, rfl, rfl, rfl, rfl, rfl, rfl, rfl, rfl, trivial⟩, σ.pick [0, 1] [0, 1, 2, 3, 4, 5, 6, 7, 8] (by decide)⟩
    ·refine ⟨_, rfl, rfl, op_alloc (c := #[.bool (neg (qn 0)), .slice none (zl (qn 0)) 0, .bool (neg (ql 0)), .slice none (zl (ql 0)) 0]) η σ rfl zero_anvil_ratio_Rat qcells ?_⟩
     clear η σ a; intro a w42 g41 η σ
     refine ⟨.inr ⟨σ.kn.pick [1] (rg 3 4), .inr (σ.kn.pick [] [])⟩, ?_⟩
     refine sAny_one (i := 3) (by kernel_rfl) rfl rfl (op_call η rfl Tryd.call62 rfl (over_q (x := mkRat (-3) 2) (y := ((3 : Int) : Rat)) (show ZIn _ A9 c10 (qn (mkRat (-3) 2)) from σ.pat (k := 4) rfl) (show ZIn _ B11 d12 (ql (mkRat (-3) 2)) from σ.pat (k := 3) rfl) (show ZIn _ A24 c25 (qn ((3 : Int) : Rat)) from σ.pat (k := 1) rfl) (show ZIn _ B26 d27 (ql ((3 : Int) : Rat)) from σ.pat (k := 0) rfl) qs_w qs_3 (by omega) (by decide)) ?_)
     rintro e w49 ⟨_, rfl, ⟨A43, c44, B45, d46, rfl, hz47, hz48⟩, hb⟩
     refine ⟨_, rfl, ?_⟩
     clear η a; intro a η
     replace σ := ((σ.call hb).addZ hz47 ⟨nou_bk rfl, nou_bk rfl, trivial⟩).addZ hz48 ⟨nou_bk rfl, nou_bk rfl, trivial⟩
     clear hz47 hz48
     clear hb
     refine ⟨.inr ⟨σ.kn.pick [1] (rg 5 4), .inr (σ.kn.pick [] [])⟩, ?_⟩
     refine tM (i := 4) [5, 6, 8, 9] rfl (by kernel_rfl) (fun _ _ _ h => h) η rfl rfl ?_
     clear η a; intro a η
     refine tA (i := 5) [8, 9] (v := .agg #[.bool (neg (qn ((mkRat (-3) 2) / ((3 : Int) : Rat)))), .slice A43 (zl (qn ((mkRat (-3) 2) / ((3 : Int) : Rat)))) c44, .bool (neg (ql ((mkRat (-3) 2) / ((3 : Int) : Rat)))), .slice B45 (zl (ql ((mkRat (-3) 2) / ((3 : Int) : Rat)))) d46]) rfl (by kernel_rfl) (fun _ _ _ h => h) η rfl (fun _ => rn_extract η rfl rfl) ?_
     clear η a; intro a η
     refine tA (i := 6) [9] (v := .int .i64 0) rfl (by kernel_rfl) (fun _ _ _ h => h) η rfl (fun _ => rn_extract η rfl rfl) ?_
     clear η a; intro a η
     refine sAny_one (i := 8) (by kernel_rfl) rfl rfl (op_store (k := 0) (c' := #[.bool (neg (qn ((mkRat (-3) 2) / ((3 : Int) : Rat)))), .slice A43 (zl (qn ((mkRat (-3) 2) / ((3 : Int) : Rat)))) c44, .bool (neg (ql ((mkRat (-3) 2) / ((3 : Int) : Rat)))), .slice B45 (zl (ql ((mkRat (-3) 2) / ((3 : Int) : Rat)))) d46]) η σ (ty_anvil_ratio_Rat.size) rfl rfl rfl rfl (by simp) rfl rfl ?_)
     clear η σ a; intro a w50 η σ
     refine ⟨.inr ⟨σ.kn.pick [1] (rg 5 4), .inl rfl⟩, ?_⟩
     refine tA (i := 9) [] (v := .int .i64 0) rfl (by kernel_rfl) (fun _ _ _ h => h) η rfl (fun _ => rn_assign η rfl) ?_
     clear η a; intro a η
     refine sAny_done (by kernel_rfl) ?_ _
     exact th_n ⟨A20, c21, A24, c25, B26, d27, A43, c44, B45, d46, g41, η.sub ⟨rfl, rfl, rfl, rfl, rfl, rfl, rfl, rfl, rfl, rfl, rfl, trivial⟩, σ.pick [0, 1] [0, 1, 2, 3, 4, 5, 6, 7, 8] (by decide)⟩
   ·refine ⟨_, rfl, rfl, op_alloc (c := #[.bool (neg (qn 0)), .slice none (zl (qn 0)) 0, .bool (neg (ql 0)), .slice none (zl (ql 0)) 0]) η σ rfl zero_anvil_ratio_Rat qcells ?_⟩
    clear η σ a; intro a w52 g51 η σ
    refine ⟨.inr ⟨σ.kn.pick [1] (rg 1 4), .inr (σ.kn.pick [] [])⟩, ?_⟩
    refine sAny_one (i := 2) (by kernel_rfl) rfl rfl (op_call η rfl Tryd.call65 rfl (of_int_q (z := 3) (show ZIn _ A20 c21 3 from σ.pat (k := 0) rfl)) ?_)
    rintro e w59 ⟨_, rfl, ⟨A53, c54, B55, d56, rfl, hz57, hz58⟩, hb⟩
    refine ⟨_, rfl, ?_⟩
    clear η a; intro a η
    replace σ := ((σ.call hb).addZ hz57 ⟨nou_bk rfl, nou_bk rfl, trivial⟩).addZ hz58 ⟨nou_bk rfl, nou_bk rfl, trivial⟩
    clear hz57 hz58
    clear hb
    refine ⟨.inr ⟨σ.kn.pick [1] (rg 3 4), .inr (σ.kn.pick [] [])⟩, ?_⟩
    refine sAny_one (i := 3) (by kernel_rfl) rfl rfl (op_call η rfl Tryd.call62 rfl (over_q (x := mkRat (-3) 2) (y := ((3 : Int) : Rat)) (show ZIn _ A9 c10 (qn (mkRat (-3) 2)) from σ.pat (k := 4) rfl) (show ZIn _ B11 d12 (ql (mkRat (-3) 2)) from σ.pat (k := 3) rfl) (show ZIn _ A53 c54 (qn ((3 : Int) : Rat)) from σ.pat (k := 1) rfl) (show ZIn _ B55 d56 (ql ((3 : Int) : Rat)) from σ.pat (k := 0) rfl) qs_w qs_3 (by omega) (by decide)) ?_)
    rintro e w66 ⟨_, rfl, ⟨A60, c61, B62, d63, rfl, hz64, hz65⟩, hb⟩
    refine ⟨_, rfl, ?_⟩
    clear η a; intro a η
    replace σ := ((σ.call hb).addZ hz64 ⟨nou_bk rfl, nou_bk rfl, trivial⟩).addZ hz65 ⟨nou_bk rfl, nou_bk rfl, trivial⟩
    clear hz64 hz65
    clear hb
    refine ⟨.inr ⟨σ.kn.pick [1] (rg 5 4), .inr (σ.kn.pick [] [])⟩, ?_⟩
    refine tM (i := 4) [5, 6, 8, 9] rfl (by kernel_rfl) (fun _ _ _ h => h) η rfl rfl ?_
    clear η a; intro a η
    refine tA (i := 5) [8, 9] (v := .agg #[.bool (neg (qn ((mkRat (-3) 2) / ((3 : Int) : Rat)))), .slice A60 (zl (qn ((mkRat (-3) 2) / ((3 : Int) : Rat)))) c61, .bool (neg (ql ((mkRat (-3) 2) / ((3 : Int) : Rat)))), .slice B62 (zl (ql ((mkRat (-3) 2) / ((3 : Int) : Rat)))) d63]) rfl (by kernel_rfl) (fun _ _ _ h => h) η rfl (fun _ => rn_extract η rfl rfl) ?_
    clear η a; intro a η
    refine tA (i := 6) [9] (v := .int .i64 0) rfl (by kernel_rfl) (fun _ _ _ h => h) η rfl (fun _ => rn_extract η rfl rfl) ?_
    clear η a; intro a η
    refine sAny_one (i := 8) (by kernel_rfl) rfl rfl (op_store (k := 0) (c' := #[.bool (neg (qn ((mkRat (-3) 2) / ((3 : Int) : Rat)))), .slice A60 (zl (qn ((mkRat (-3) 2) / ((3 : Int) : Rat)))) c61, .bool (neg (ql ((mkRat (-3) 2) / ((3 : Int) : Rat)))), .slice B62 (zl (ql ((mkRat (-3) 2) / ((3 : Int) : Rat)))) d63]) η σ (ty_anvil_ratio_Rat.size) rfl rfl rfl rfl (by simp) rfl rfl ?_)
    clear η σ a; intro a w67 η σ
    refine ⟨.inr ⟨σ.kn.pick [1] (rg 5 4), .inl rfl⟩, ?_⟩
    refine tA (i := 9) [] (v := .int .i64 0) rfl (by kernel_rfl) (fun _ _ _ h => h) η rfl (fun _ => rn_assign η rfl) ?_
    clear η a; intro a η
    refine sAny_done (by kernel_rfl) ?_ _
    exact th_n ⟨A20, c21, A53, c54, B55, d56, A60, c61, B62, d63, g51, η.sub ⟨rfl, rfl, rfl, rfl, rfl, rfl, rfl, rfl, rfl, rfl, rfl, trivial⟩, σ.pick [0, 1] [0, 1, 2, 3, 4, 5, 6, 7, 8] (by decide)⟩
  ·refine ⟨_, rfl, rfl, op_alloc (c := #[.bool (neg (qn 0)), .slice none (zl (qn 0)) 0, .bool (neg (ql 0)), .slice none (zl (ql 0)) 0]) η σ rfl zero_anvil_ratio_Rat qcells ?_⟩
   clear η σ a; intro a w69 g68 η σ
   refine ⟨.inr ⟨σ.kn.pick [1] (rg 0 4), .inr (σ.kn.pick [] [])⟩, ?_⟩
   refine sAny_one (i := 1) (by kernel_rfl) rfl rfl (op_call η rfl Tryd.call43 rfl (of_z (n := (3 : Int)) (by decide) (by decide)) ?_)
   rintro e w73 ⟨_, rfl, ⟨A70, c71, rfl, hz72⟩, hb⟩
   refine ⟨_, rfl, ?_⟩
   clear η a; intro a η
   replace σ := (σ.call hb).addZ hz72 ⟨nou_bk rfl, nou_bk rfl, trivial⟩
   clear hz72
   clear hb
   refine ⟨.inr ⟨σ.kn.pick [1] (rg 1 4), .inr (σ.kn.pick [] [])⟩, ?_⟩
   refine sAny_one (i := 2) (by kernel_rfl) rfl rfl (op_call η rfl Tryd.call65 rfl (of_int_q (z := 3) (show ZIn _ A70 c71 3 from σ.pat (k := 0) rfl)) ?_)
   rintro e w80 ⟨_, rfl, ⟨A74, c75, B76, d77, rfl, hz78, hz79⟩, hb⟩
   refine ⟨_, rfl, ?_⟩
   clear η a; intro a η
   replace σ := ((σ.call hb).addZ hz78 ⟨nou_bk rfl, nou_bk rfl, trivial⟩).addZ hz79 ⟨nou_bk rfl, nou_bk rfl, trivial⟩
   clear hz78 hz79
   clear hb
   refine ⟨.inr ⟨σ.kn.pick [1] (rg 3 4), .inr (σ.kn.pick [] [])⟩, ?_⟩
   refine sAny_one (i := 3) (by kernel_rfl) rfl rfl (op_call η rfl Tryd.call62 rfl (over_q (x := mkRat (-3) 2) (y := ((3 : Int) : Rat)) (show ZIn _ A9 c10 (qn (mkRat (-3) 2)) from σ.pat (k := 4) rfl) (show ZIn _ B11 d12 (ql (mkRat (-3) 2)) from σ.pat (k := 3) rfl) (show ZIn _ A74 c75 (qn ((3 : Int) : Rat)) from σ.pat (k := 1) rfl) (show ZIn _ B76 d77 (ql ((3 : Int) : Rat)) from σ.pat (k := 0) rfl) qs_w qs_3 (by omega) (by decide)) ?_)
   rintro e w87 ⟨_, rfl, ⟨A81, c82, B83, d84, rfl, hz85, hz86⟩, hb⟩
   refine ⟨_, rfl, ?_⟩
   clear η a; intro a η
   replace σ := ((σ.call hb).addZ hz85 ⟨nou_bk rfl, nou_bk rfl, trivial⟩).addZ hz86 ⟨nou_bk rfl, nou_bk rfl, trivial⟩
   clear hz85 hz86
   clear hb
   refine ⟨.inr ⟨σ.kn.pick [1] (rg 5 4), .inr (σ.kn.pick [] [])⟩, ?_⟩
   refine tM (i := 4) [5, 6, 8, 9] rfl (by kernel_rfl) (fun _ _ _ h => h) η rfl rfl ?_
   clear η a; intro a η
   refine tA (i := 5) [8, 9] (v := .agg #[.bool (neg (qn ((mkRat (-3) 2) / ((3 : Int) : Rat)))), .slice A81 (zl (qn ((mkRat (-3) 2) / ((3 : Int) : Rat)))) c82, .bool (neg (ql ((mkRat (-3) 2) / ((3 : Int) : Rat)))), .slice B83 (zl (ql ((mkRat (-3) 2) / ((3 : Int) : Rat)))) d84]) rfl (by kernel_rfl) (fun _ _ _ h => h) η rfl (fun _ => rn_extract η rfl rfl) ?_
   clear η a; intro a η
   refine tA (i := 6) [9] (v := .int .i64 0) rfl (by kernel_rfl) (fun _ _ _ h => h) η rfl (fun _ => rn_extract η rfl rfl) ?_
   clear η a; intro a η
   refine sAny_one (i := 8) (by kernel_rfl) rfl rfl (op_store (k := 0) (c' := #[.bool (neg (qn ((mkRat (-3) 2) / ((3 : Int) : Rat)))), .slice A81 (zl (qn ((mkRat (-3) 2) / ((3 : Int) : Rat)))) c82, .bool (neg (ql ((mkRat (-3) 2) / ((3 : Int) : Rat)))), .slice B83 (zl (ql ((mkRat (-3) 2) / ((3 : Int) : Rat)))) d84]) η σ (ty_anvil_ratio_Rat.size) rfl rfl rfl rfl (by simp) rfl rfl ?_)
   clear η σ a; intro a w88 η σ
   refine ⟨.inr ⟨σ.kn.pick [1] (rg 5 4), .inl rfl⟩, ?_⟩
   refine tA (i := 9) [] (v := .int .i64 0) rfl (by kernel_rfl) (fun _ _ _ h => h) η rfl (fun _ => rn_assign η rfl) ?_
   clear η a; intro a η
   refine sAny_done (by kernel_rfl) ?_ _
   exact th_n ⟨A70, c71, A74, c75, B76, d77, A81, c82, B83, d84, g68, η.sub ⟨rfl, rfl, rfl, rfl, rfl, rfl, rfl, rfl, rfl, rfl, rfl, trivial⟩, σ.pick [0, 1] [0, 1, 2, 3, 4, 5, 6, 7, 8] (by decide)⟩
 clear η σ a
 rintro a w89 ⟨A20, c21, A24, c25, B26, d27, A31, c32, B33, d34, g38, η, σ⟩
 refine wp_seq (region_seq ?_)
 revert a
 refine sA (v := .agg #[.bool (neg (qn ((mkRat (-3) 2) / ((3 : Int) : Rat)))), .slice A31 (zl (qn ((mkRat (-3) 2) / ((3 : Int) : Rat)))) c32, .bool (neg (ql ((mkRat (-3) 2) / ((3 : Int) : Rat)))), .slice B33 (zl (ql ((mkRat (-3) 2) / ((3 : Int) : Rat)))) d34]) rfl (fun _ η => rn_load0 η ty_anvil_ratio_Rat rfl (σ.oat (k := 0) rfl) rfl) ?_
 refine sA (v := .agg #[.bool (neg (qn (mkRat (-3) 2))), .slice A9 (zl (qn (mkRat (-3) 2))) c10, .bool (neg (ql (mkRat (-3) 2))), .slice B11 (zl (ql (mkRat (-3) 2))) d12]) rfl (fun _ η => rn_load0 η ty_anvil_ratio_Rat rfl (σ.oat (k := 1) rfl) rfl) ?_
 intro a η
 have hq96 : Qs 4 (((mkRat (-3) 2) / ((3 : Int) : Rat)) + (mkRat (-3) 2)) := by have h := (Qs.over qs_w qs_3 (by decide)).add qs_w; exact h
 refine seq_step rfl (op_call η rfl Tryd.call58 rfl (add_q (x := (mkRat (-3) 2) / ((3 : Int) : Rat)) (y := mkRat (-3) 2) (show ZIn _ A31 c32 (qn ((mkRat (-3) 2) / ((3 : Int) : Rat))) from σ.pat (k := 1) rfl) (show ZIn _ B33 d34 (ql ((mkRat (-3) 2) / ((3 : Int) : Rat))) from σ.pat (k := 0) rfl) (show ZIn _ A9 c10 (qn (mkRat (-3) 2)) from σ.pat (k := 6) rfl) (show ZIn _ B11 d12 (ql (mkRat (-3) 2)) from σ.pat (k := 5) rfl) (Qs.over qs_w qs_3 (by decide)) qs_w (by omega)) ?_)
 rintro e w97 ⟨_, rfl, ⟨A90, c91, B92, d93, rfl, hz94, hz95⟩, hb⟩
 refine ⟨_, rfl, ?_⟩
 clear η a; intro a η
 replace σ := ((σ.call hb).addZ hz94 ⟨nou_bk rfl, nou_bk rfl, trivial⟩).addZ hz95 ⟨nou_bk rfl, nou_bk rfl, trivial⟩
 clear hz94 hz95
 clear hb
 refine seq_step rfl (op_alloc (c := #[.bool (neg (qn 0)), .slice none (zl (qn 0)) 0, .bool (neg (ql 0)), .slice none (zl (ql 0)) 0]) η σ rfl zero_anvil_ratio_Rat qcells ?_)
 clear η σ a; intro a w99 g98 η σ
 refine seq_step rfl (op_store (k := 0) (c' := #[.bool (neg (qn (((mkRat (-3) 2) / ((3 : Int) : Rat)) + (mkRat (-3) 2)))), .slice A90 (zl (qn (((mkRat (-3) 2) / ((3 : Int) : Rat)) + (mkRat (-3) 2)))) c91, .bool (neg (ql (((mkRat (-3) 2) / ((3 : Int) : Rat)) + (mkRat (-3) 2)))), .slice B92 (zl (ql (((mkRat (-3) 2) / ((3 : Int) : Rat)) + (mkRat (-3) 2)))) d93]) η σ (ty_anvil_ratio_Rat.size) rfl rfl rfl rfl (by simp) rfl rfl ?_)
 clear η σ a; intro a w100 η σ
 refine wpList_nil (th_n (wp_seq (region_seq ?_)))
 revert a
 refine mA rfl rfl ?_
 refine sA (v := .bool true) rfl (fun _ η => rn_bin η rfl rfl rfl) ?_
 refine mA rfl rfl ?_
 refine gA (v := .int .i64 0) rfl rfl rfl rfl (fun _ η => rn_move η rfl) ?_
 refine gA (v := .bool true) rfl rfl rfl rfl (fun _ η => rn_bin η rfl rfl rfl) ?_
 refine sA (v := .bool true) rfl (fun _ η => rn_pick η rfl rfl) ?_
 refine mA rfl rfl ?_
 refine gA (v := .agg #[.bool (neg (qn (mkRat (-3) 2))), .slice A9 (zl (qn (mkRat (-3) 2))) c10, .bool (neg (ql (mkRat (-3) 2))), .slice B11 (zl (ql (mkRat (-3) 2))) d12]) rfl rfl rfl rfl (fun _ η => rn_load0 η ty_anvil_ratio_Rat rfl (σ.oat (k := 2) rfl) rfl) ?_
 intro a η
 refine seq_g rfl η rfl rfl (op_call η rfl Tryd.call92 rfl (text_q (x := mkRat (-3) 2) (show ZIn _ A9 c10 (qn (mkRat (-3) 2)) from σ.pat (k := 8) rfl) (show ZIn _ B11 d12 (ql (mkRat (-3) 2)) from σ.pat (k := 7) rfl) qs_w (by omega)) ?_)
 rintro e w101 ⟨rfl, hb⟩
 refine ⟨_, rfl, ?_⟩
 clear η a; intro a η
 replace σ := σ.call hb
 clear hb
 refine seq_g rfl η rfl rfl (op_val (v := .bool (decide ((textQ (mkRat (-3) 2)) = [45, 51, 47, 50]))) η rfl (rn_eqls (s := (textQ (mkRat (-3) 2))) (t := [45, 51, 47, 50]) η rfl rfl) ?_)
 clear η a; intro a η
 rw [show (decide ((textQ (mkRat (-3) 2)) = [45, 51, 47, 50])) = true from decide_eq_true (by decide +kernel)] at η
 revert a
 refine sA (v := .bool true) rfl (fun _ η => rn_pick η rfl rfl) ?_
 refine mA rfl rfl ?_
 refine gA (v := .agg #[.bool (neg (qn ((mkRat (-3) 2) / ((3 : Int) : Rat)))), .slice A31 (zl (qn ((mkRat (-3) 2) / ((3 : Int) : Rat)))) c32, .bool (neg (ql ((mkRat (-3) 2) / ((3 : Int) : Rat)))), .slice B33 (zl (ql ((mkRat (-3) 2) / ((3 : Int) : Rat)))) d34]) rfl rfl rfl rfl (fun _ η => rn_load0 η ty_anvil_ratio_Rat rfl (σ.oat (k := 1) rfl) rfl) ?_
 intro a η
 refine seq_g rfl η rfl rfl (op_call η rfl Tryd.call92 rfl (text_q (x := (mkRat (-3) 2) / ((3 : Int) : Rat)) (show ZIn _ A31 c32 (qn ((mkRat (-3) 2) / ((3 : Int) : Rat))) from σ.pat (k := 3) rfl) (show ZIn _ B33 d34 (ql ((mkRat (-3) 2) / ((3 : Int) : Rat))) from σ.pat (k := 2) rfl) (Qs.over qs_w qs_3 (by decide)) (by omega)) ?_)
 rintro e w102 ⟨rfl, hb⟩
 refine ⟨_, rfl, ?_⟩
 clear η a; intro a η
 replace σ := σ.call hb
 clear hb
 refine seq_g rfl η rfl rfl (op_val (v := .bool (decide ((textQ ((mkRat (-3) 2) / ((3 : Int) : Rat))) = [45, 49, 47, 50]))) η rfl (rn_eqls (s := (textQ ((mkRat (-3) 2) / ((3 : Int) : Rat)))) (t := [45, 49, 47, 50]) η rfl rfl) ?_)
 clear η a; intro a η
 rw [show (decide ((textQ ((mkRat (-3) 2) / ((3 : Int) : Rat))) = [45, 49, 47, 50])) = true from decide_eq_true (by decide +kernel)] at η
 revert a
 refine sA (v := .bool true) rfl (fun _ η => rn_pick η rfl rfl) ?_
 refine mA rfl rfl ?_
 refine gA (v := .agg #[.bool (neg (qn (((mkRat (-3) 2) / ((3 : Int) : Rat)) + (mkRat (-3) 2)))), .slice A90 (zl (qn (((mkRat (-3) 2) / ((3 : Int) : Rat)) + (mkRat (-3) 2)))) c91, .bool (neg (ql (((mkRat (-3) 2) / ((3 : Int) : Rat)) + (mkRat (-3) 2)))), .slice B92 (zl (ql (((mkRat (-3) 2) / ((3 : Int) : Rat)) + (mkRat (-3) 2)))) d93]) rfl rfl rfl rfl (fun _ η => rn_load0 η ty_anvil_ratio_Rat rfl (σ.oat (k := 0) rfl) rfl) ?_
 intro a η
 refine seq_g rfl η rfl rfl (op_call η rfl Tryd.call92 rfl (text_q (x := ((mkRat (-3) 2) / ((3 : Int) : Rat)) + (mkRat (-3) 2)) (show ZIn _ A90 c91 (qn (((mkRat (-3) 2) / ((3 : Int) : Rat)) + (mkRat (-3) 2))) from σ.pat (k := 1) rfl) (show ZIn _ B92 d93 (ql (((mkRat (-3) 2) / ((3 : Int) : Rat)) + (mkRat (-3) 2))) from σ.pat (k := 0) rfl) hq96 (by omega)) ?_)
 rintro e w103 ⟨rfl, hb⟩
 refine ⟨_, rfl, ?_⟩
 clear η a; intro a η
 replace σ := σ.call hb
 clear hb
 refine seq_g rfl η rfl rfl (op_val (v := .bool (decide ((textQ (((mkRat (-3) 2) / ((3 : Int) : Rat)) + (mkRat (-3) 2))) = [45, 50]))) η rfl (rn_eqls (s := (textQ (((mkRat (-3) 2) / ((3 : Int) : Rat)) + (mkRat (-3) 2)))) (t := [45, 50]) η rfl rfl) ?_)
 clear η a; intro a η
 rw [show (decide ((textQ (((mkRat (-3) 2) / ((3 : Int) : Rat)) + (mkRat (-3) 2))) = [45, 50])) = true from decide_eq_true (by decide +kernel)] at η
 revert a
 refine sA (v := .bool true) rfl (fun _ η => rn_pick η rfl rfl) ?_
 refine mA rfl rfl ?_
 refine gA (v := .agg #[.bool (neg (qn (((mkRat (-3) 2) / ((3 : Int) : Rat)) + (mkRat (-3) 2)))), .slice A90 (zl (qn (((mkRat (-3) 2) / ((3 : Int) : Rat)) + (mkRat (-3) 2)))) c91, .bool (neg (ql (((mkRat (-3) 2) / ((3 : Int) : Rat)) + (mkRat (-3) 2)))), .slice B92 (zl (ql (((mkRat (-3) 2) / ((3 : Int) : Rat)) + (mkRat (-3) 2)))) d93]) rfl rfl rfl rfl (fun _ η => rn_load0 η ty_anvil_ratio_Rat rfl (σ.oat (k := 0) rfl) rfl) ?_
 intro a η
 refine seq_g rfl η rfl rfl (op_call η rfl Tryd.call67 rfl (whole_q (x := ((mkRat (-3) 2) / ((3 : Int) : Rat)) + (mkRat (-3) 2)) (show ZIn _ A90 c91 (qn (((mkRat (-3) 2) / ((3 : Int) : Rat)) + (mkRat (-3) 2))) from σ.pat (k := 1) rfl) (show ZIn _ B92 d93 (ql (((mkRat (-3) 2) / ((3 : Int) : Rat)) + (mkRat (-3) 2))) from σ.pat (k := 0) rfl)) ?_)
 rintro e w104 ⟨rfl, hb⟩
 refine ⟨_, rfl, ?_⟩
 clear η a; intro a η
 replace σ := σ.call hb
 clear hb
 rw [show (decide (ql (((mkRat (-3) 2) / ((3 : Int) : Rat)) + (mkRat (-3) 2)) = 0)) = true from decide_eq_true (by decide +kernel)] at η
 revert a
 refine sA (v := .bool true) rfl (fun _ η => rn_pick η rfl rfl) ?_
 refine mA rfl rfl ?_
 refine gA (v := .agg #[.bool (neg (qn (((mkRat (-3) 2) / ((3 : Int) : Rat)) + (mkRat (-3) 2)))), .slice A90 (zl (qn (((mkRat (-3) 2) / ((3 : Int) : Rat)) + (mkRat (-3) 2)))) c91, .bool (neg (ql (((mkRat (-3) 2) / ((3 : Int) : Rat)) + (mkRat (-3) 2)))), .slice B92 (zl (ql (((mkRat (-3) 2) / ((3 : Int) : Rat)) + (mkRat (-3) 2)))) d93]) rfl rfl rfl rfl (fun _ η => rn_load0 η ty_anvil_ratio_Rat rfl (σ.oat (k := 0) rfl) rfl) ?_
 intro a η
 have hs108 := hq96.d
 refine seq_g rfl η rfl rfl (op_call η rfl Tryd.call89 rfl (den_q (x := ((mkRat (-3) 2) / ((3 : Int) : Rat)) + (mkRat (-3) 2)) (show ZIn _ A90 c91 (qn (((mkRat (-3) 2) / ((3 : Int) : Rat)) + (mkRat (-3) 2))) from σ.pat (k := 1) rfl) (show ZIn _ B92 d93 (ql (((mkRat (-3) 2) / ((3 : Int) : Rat)) + (mkRat (-3) 2))) from σ.pat (k := 0) rfl) hq96 (by omega)) ?_)
 rintro e w109 ⟨_, rfl, ⟨A105, c106, rfl, hz107⟩, hb⟩
 refine ⟨_, rfl, ?_⟩
 clear η a; intro a η
 replace σ := (σ.call hb).addZ hz107 ⟨nou_bk rfl, nou_bk rfl, nou_bk rfl, trivial⟩
 clear hz107
 clear hb
 refine seq_g rfl η rfl rfl (op_call η rfl Tryd.call72 rfl (text_z (z := (qd (((mkRat (-3) 2) / ((3 : Int) : Rat)) + (mkRat (-3) 2)))) (show ZIn _ A105 c106 (qd (((mkRat (-3) 2) / ((3 : Int) : Rat)) + (mkRat (-3) 2))) from σ.pat (k := 0) rfl) (by omega)) ?_)
 rintro e w110 ⟨rfl, hb⟩
 refine ⟨_, rfl, ?_⟩
 clear η a; intro a η
 replace σ := σ.call hb
 clear hb
 refine seq_g rfl η rfl rfl (op_val (v := .bool (decide ((textZ (qd (((mkRat (-3) 2) / ((3 : Int) : Rat)) + (mkRat (-3) 2)))) = [49]))) η rfl (rn_eqls (s := (textZ (qd (((mkRat (-3) 2) / ((3 : Int) : Rat)) + (mkRat (-3) 2))))) (t := [49]) η rfl rfl) ?_)
 clear η a; intro a η
 rw [show (decide ((textZ (qd (((mkRat (-3) 2) / ((3 : Int) : Rat)) + (mkRat (-3) 2)))) = [49])) = true from decide_eq_true (by decide +kernel)] at η
 revert a
 refine sA (v := .bool true) rfl (fun _ η => rn_pick η rfl rfl) ?_
 refine mA rfl rfl ?_
 refine gA (v := .agg #[.bool (neg (qn (mkRat (-3) 2))), .slice A9 (zl (qn (mkRat (-3) 2))) c10, .bool (neg (ql (mkRat (-3) 2))), .slice B11 (zl (ql (mkRat (-3) 2))) d12]) rfl rfl rfl rfl (fun _ η => rn_load0 η ty_anvil_ratio_Rat rfl (σ.oat (k := 2) rfl) rfl) ?_
 intro a η
 have hs114 : zl (mkRat (-3) 2).floor ≤ 1 := floor_sz qs_w
 refine seq_g rfl η rfl rfl (op_call η rfl Tryd.call66 rfl (floor_q (x := mkRat (-3) 2) (show ZIn _ A9 c10 (qn (mkRat (-3) 2)) from σ.pat (k := 9) rfl) (show ZIn _ B11 d12 (ql (mkRat (-3) 2)) from σ.pat (k := 8) rfl) qs_w (by omega)) ?_)
 rintro e w115 ⟨_, rfl, ⟨A111, c112, rfl, hz113⟩, hb⟩
 refine ⟨_, rfl, ?_⟩
 clear η a; intro a η
 replace σ := (σ.call hb).addZ hz113 ⟨nou_bk rfl, nou_bk rfl, nou_bk rfl, trivial⟩
 clear hz113
 clear hb
 refine seq_g rfl η rfl rfl (op_call η rfl Tryd.call72 rfl (text_z (z := (mkRat (-3) 2).floor) (show ZIn _ A111 c112 ((mkRat (-3) 2).floor) from σ.pat (k := 0) rfl) (by omega)) ?_)
 rintro e w116 ⟨rfl, hb⟩
 refine ⟨_, rfl, ?_⟩
 clear η a; intro a η
 replace σ := σ.call hb
 clear hb
 refine seq_g rfl η rfl rfl (op_val (v := .bool (decide ((textZ ((mkRat (-3) 2).floor)) = [45, 50]))) η rfl (rn_eqls (s := (textZ ((mkRat (-3) 2).floor))) (t := [45, 50]) η rfl rfl) ?_)
 clear η a; intro a η
 rw [show (decide ((textZ ((mkRat (-3) 2).floor)) = [45, 50])) = true from decide_eq_true (by decide +kernel)] at η
 revert a
 refine sA (v := .bool true) rfl (fun _ η => rn_pick η rfl rfl) ?_
 refine aA rfl rfl ?_
 intro a η
 refine wpList_nil (th_n (wp_ret ?_))
 refine leave η (res1 Tryd.results55 (RV.tmp η rfl)) ?_
 exact ⟨rfl, σ.below⟩
theorem numbers_ok {s t : List UInt8} {z y ps qs bs pt qt bt : Int} {w0 : World} (hs : RdAs s z ps qs bs) (ht : RdAs t y pt qt bt) (u1 : bs < 0) (u2 : bt < 0) :
  Calls Tryd.prog 120 #[.agg #[.string ⟨s.toArray⟩, .string ⟨t.toArray⟩]] w0 fun e w' => ∃ v1 v2 u1 u2, e = .returned (.tuple #[v1, v2, u1, u2, .bool true]) ∧ ZAt w' v1 z ∧ ZAt w' v2 y ∧ RAt w' u1 z ∧ RAt w' u2 y ∧ Below w0.heap.size w0 w' := by
 refine enter Tryd.func120 rfl Tryd.ntmps120 rfl ?_
 intro a η σ
 refine wp_seq (region_seq ?_)
 refine seq_step rfl (op_box (c := #[.string ⟨s.toArray⟩, .string ⟨t.toArray⟩]) η σ rfl rfl rfl ?_)
 clear η σ a; intro a w2 g1 η σ
 refine seq_step rfl (op_alloc (c := #[.bool (neg 0), .slice none (zl 0) 0]) η σ rfl zero_anvil_integer_Int zcells ?_)
 clear η σ a; intro a w4 g3 η σ
 refine seq_step rfl (op_alloc (c := #[.bool (neg 0), .slice none (zl 0) 0]) η σ rfl zero_anvil_integer_Int zcells ?_)
 clear η σ a; intro a w6 g5 η σ
 refine seq_step rfl (op_alloc (c := #[.bool (neg 0), .slice none (dl 0) 0]) η σ rfl zero_anvil_anvilref02_Int rcells ?_)
 clear η σ a; intro a w8 g7 η σ
 refine seq_step rfl (op_alloc (c := #[.bool (neg 0), .slice none (dl 0) 0]) η σ rfl zero_anvil_anvilref02_Int rcells ?_)
 clear η σ a; intro a w10 g9 η σ
 refine sv (v := .bool false) η rfl (rn_assign η rfl) ?_
 clear η a; intro a η
 refine wpList_nil (th_n (wp_seq (region_seq ?_)))
 revert a
 refine sA (v := .pointer (some ⟨g1, 0, none⟩)) rfl (fun _ η => rn_fieldAddr η fd_anvil_anvillaw03_Frac_0 (ty_string.size) (by decide) rfl) ?_
 refine sA (v := .string ⟨s.toArray⟩) rfl (fun _ η => rn_load1 η ty_string rfl (σ.oat (k := 4) rfl) rfl) ?_
 intro a η
 refine seq_step rfl (op_call η rfl Tryd.call115 rfl (hs _).2 ?_)
 rintro e w14 ⟨_, rfl, ⟨A11, c12, rfl, hz13⟩, hb⟩
 refine ⟨_, rfl, ?_⟩
 clear η a; intro a η
 replace σ := (σ.call hb).addR hz13 ⟨nou_bk rfl, nou_bk rfl, nou_bk rfl, nou_bk rfl, nou_bk rfl, trivial⟩
 clear hz13
 clear hb
 revert a
 refine mA rfl rfl ?_
 refine sA (v := .agg #[.bool (neg z), .slice A11 (dl z) c12]) rfl (fun _ η => rn_extract η rfl rfl) ?_
 refine sA (v := .int .i64 bs) rfl (fun _ η => rn_extract η rfl rfl) ?_
 intro a η
 refine seq_step rfl (op_alloc (c := #[.bool (neg 0), .slice none (dl 0) 0]) η σ rfl zero_anvil_anvilref02_Int rcells ?_)
 clear η σ a; intro a w16 g15 η σ
 refine seq_step rfl (op_store (k := 0) (c' := #[.bool (neg z), .slice A11 (dl z) c12]) η σ (ty_anvil_anvilref02_Int.size) rfl rfl rfl rfl (by simp) rfl rfl ?_)
 clear η σ a; intro a w17 η σ
 refine sv (v := .int .i64 bs) η rfl (rn_assign η rfl) ?_
 clear η a; intro a η
 refine wpList_nil (th_n (wp_seq (region_seq ?_)))
 revert a
 refine sA (v := .pointer (some ⟨g1, 1, none⟩)) rfl (fun _ η => rn_fieldAddr η fd_anvil_anvillaw03_Frac_1 (ty_string.size) (by decide) rfl) ?_
 refine sA (v := .string ⟨t.toArray⟩) rfl (fun _ η => rn_load1 η ty_string rfl (σ.oat (k := 5) rfl) rfl) ?_
 intro a η
 refine seq_step rfl (op_call η rfl Tryd.call115 rfl (ht _).2 ?_)
 rintro e w21 ⟨_, rfl, ⟨A18, c19, rfl, hz20⟩, hb⟩
 refine ⟨_, rfl, ?_⟩
 clear η a; intro a η
 replace σ := (σ.call hb).addR hz20 ⟨nou_bk rfl, nou_bk rfl, nou_bk rfl, nou_bk rfl, nou_bk rfl, nou_bk rfl, trivial⟩
 clear hz20
 clear hb
 revert a
 refine mA rfl rfl ?_
 refine sA (v := .agg #[.bool (neg y), .slice A18 (dl y) c19]) rfl (fun _ η => rn_extract η rfl rfl) ?_
 refine sA (v := .int .i64 bt) rfl (fun _ η => rn_extract η rfl rfl) ?_
 intro a η
 refine seq_step rfl (op_alloc (c := #[.bool (neg 0), .slice none (dl 0) 0]) η σ rfl zero_anvil_anvilref02_Int rcells ?_)
 clear η σ a; intro a w23 g22 η σ
 refine seq_step rfl (op_store (k := 0) (c' := #[.bool (neg y), .slice A18 (dl y) c19]) η σ (ty_anvil_anvilref02_Int.size) rfl rfl rfl rfl (by simp) rfl rfl ?_)
 clear η σ a; intro a w24 η σ
 refine sv (v := .int .i64 bt) η rfl (rn_assign η rfl) ?_
 clear η a; intro a η
 refine wpList_nil (th_n (wp_seq (wp_seq (region_seq ?_))))
 revert a
 refine mA rfl rfl ?_
 refine sA (v := .bool (decide (bs ≥ (0 : Int)))) rfl (fun _ η => rn_bin η rfl rfl rfl) ?_
 intro a η
 rw [show (decide (bs ≥ (0 : Int))) = false from decide_eq_false (by omega)] at η
 revert a
 refine mA rfl rfl ?_
 refine gA (v := .int .i64 bt) rfl rfl rfl rfl (fun _ η => rn_move η rfl) ?_
 refine gA (v := .bool (decide (bt ≥ (0 : Int)))) rfl rfl rfl rfl (fun _ η => rn_bin η rfl rfl rfl) ?_
 intro a η
 rw [show (decide (bt ≥ (0 : Int))) = false from decide_eq_false (by omega)] at η
 refine sv (v := .bool false) η rfl (rn_pick η rfl rfl) ?_
 clear η a; intro a η
 refine wpList_nil (th_n ?_)
 refine if_f η rfl (rfl) ?_
 refine wp_skip (th_n (wp_seq (region_seq ?_)))
 revert a
 refine sA (v := .pointer (some ⟨g1, 0, none⟩)) rfl (fun _ η => rn_fieldAddr η fd_anvil_anvillaw03_Frac_0 (ty_string.size) (by decide) rfl) ?_
 refine sA (v := .string ⟨s.toArray⟩) rfl (fun _ η => rn_load1 η ty_string rfl (σ.oat (k := 6) rfl) rfl) ?_
 intro a η
 refine seq_step rfl (op_call η rfl Tryd.call113 rfl (hs _).1 ?_)
 rintro e w28 ⟨_, rfl, ⟨A25, c26, rfl, hz27⟩, hb⟩
 refine ⟨_, rfl, ?_⟩
 clear η a; intro a η
 replace σ := (σ.call hb).addZ hz27 ⟨nou_bk rfl, nou_bk rfl, nou_bk rfl, nou_bk rfl, nou_bk rfl, nou_bk rfl, nou_bk rfl, trivial⟩
 clear hz27
 clear hb
 revert a
 refine mA rfl rfl ?_
 refine sA (v := .agg #[.bool (neg z), .slice A25 (zl z) c26]) rfl (fun _ η => rn_extract η rfl rfl) ?_
 refine sA (v := .agg #[.int .i64 ps, .int .i64 qs]) rfl (fun _ η => rn_extract η rfl rfl) ?_
 intro a η
 refine seq_step rfl (op_alloc (c := #[.bool (neg 0), .slice none (zl 0) 0]) η σ rfl zero_anvil_integer_Int zcells ?_)
 clear η σ a; intro a w30 g29 η σ
 refine seq_step rfl (op_alloc (c := #[.int .i64 0, .int .i64 0]) η σ rfl zero_anvil_api_Spot rfl ?_)
 clear η σ a; intro a w32 g31 η σ
 refine seq_step rfl (op_store (k := 1) (c' := #[.bool (neg z), .slice A25 (zl z) c26]) η σ (ty_anvil_integer_Int.size) rfl rfl rfl rfl (by simp) rfl rfl ?_)
 clear η σ a; intro a w33 η σ
 refine seq_step rfl (op_store (k := 0) (c' := #[.int .i64 ps, .int .i64 qs]) η σ (ty_anvil_api_Spot.size) rfl rfl rfl rfl (by simp) rfl rfl ?_)
 clear η σ a; intro a w34 η σ
 refine wpList_nil (th_n (wp_seq (region_seq ?_)))
 revert a
 refine sA (v := .pointer (some ⟨g1, 1, none⟩)) rfl (fun _ η => rn_fieldAddr η fd_anvil_anvillaw03_Frac_1 (ty_string.size) (by decide) rfl) ?_
 refine sA (v := .string ⟨t.toArray⟩) rfl (fun _ η => rn_load1 η ty_string rfl (σ.oat (k := 8) rfl) rfl) ?_
 intro a η
 refine seq_step rfl (op_call η rfl Tryd.call113 rfl (ht _).1 ?_)
 rintro e w38 ⟨_, rfl, ⟨A35, c36, rfl, hz37⟩, hb⟩
 refine ⟨_, rfl, ?_⟩
 clear η a; intro a η
 replace σ := (σ.call hb).addZ hz37 ⟨nou_bk rfl, nou_bk rfl, nou_bk rfl, nou_bk rfl, nou_bk rfl, nou_bk rfl, nou_bk rfl, nou_bk rfl, nou_bk rfl, trivial⟩
 clear hz37
 clear hb
 revert a
 refine mA rfl rfl ?_
 refine sA (v := .agg #[.bool (neg y), .slice A35 (zl y) c36]) rfl (fun _ η => rn_extract η rfl rfl) ?_
 refine sA (v := .agg #[.int .i64 pt, .int .i64 qt]) rfl (fun _ η => rn_extract η rfl rfl) ?_
 intro a η
 refine seq_step rfl (op_alloc (c := #[.bool (neg 0), .slice none (zl 0) 0]) η σ rfl zero_anvil_integer_Int zcells ?_)
 clear η σ a; intro a w40 g39 η σ
 refine seq_step rfl (op_alloc (c := #[.int .i64 0, .int .i64 0]) η σ rfl zero_anvil_api_Spot rfl ?_)
 clear η σ a; intro a w42 g41 η σ
 refine seq_step rfl (op_store (k := 1) (c' := #[.bool (neg y), .slice A35 (zl y) c36]) η σ (ty_anvil_integer_Int.size) rfl rfl rfl rfl (by simp) rfl rfl ?_)
 clear η σ a; intro a w43 η σ
 refine seq_step rfl (op_store (k := 0) (c' := #[.int .i64 pt, .int .i64 qt]) η σ (ty_anvil_api_Spot.size) rfl rfl rfl rfl (by simp) rfl rfl ?_)
 clear η σ a; intro a w44 η σ
 refine wpList_nil (th_n (wp_seq ?_))
 refine region_any (n := 9) (Sk [bk g41 #[.int .i64 pt, .int .i64 qt] 79, bk g39 #[.bool (neg y), .slice A35 (zl y) c36] 36, bk g31 #[.int .i64 ps, .int .i64 qs] 79, bk g29 #[.bool (neg z), .slice A25 (zl z) c26] 36, bk g22 #[.bool (neg y), .slice A18 (dl y) c19] 39, bk g15 #[.bool (neg z), .slice A11 (dl z) c12] 39, bk g1 #[.string ⟨s.toArray⟩, .string ⟨t.toArray⟩] 89] [pfZ A35 c36 y, pfZ A25 c26 z, pfR A18 c19 y, pfR A11 c12 z] [4, 5, 6, 7] []) mixed rfl η σ ?_
 clear η σ; intro w45 η σ
 refine tL (i := 0) 3 3 (rg 4 5) rfl (by kernel_rfl) (fun _ _ _ h => h) η rfl ty_anvil_integer_Int rfl σ rfl rfl rfl ?_
 clear η a; intro a η
 refine tL (i := 1) 1 1 (rg 5 4) rfl (by kernel_rfl) (fun _ _ _ h => h) η rfl ty_anvil_integer_Int rfl σ rfl rfl rfl ?_
 clear η a; intro a η
 refine tL (i := 2) 5 5 [6, 7, 8] rfl (by kernel_rfl) (fun _ _ _ h => h) η rfl ty_anvil_anvilref02_Int rfl σ rfl rfl rfl ?_
 clear η a; intro a η
 refine tL (i := 3) 4 4 [7, 8] rfl (by kernel_rfl) (fun _ _ _ h => h) η rfl ty_anvil_anvilref02_Int rfl σ rfl rfl rfl ?_
 clear η a; intro a η
 refine sAny_one (i := 4) (by kernel_rfl) rfl rfl (op_store (k := 9) (c' := #[.bool (neg z), .slice A25 (zl z) c26]) η σ (ty_anvil_integer_Int.size) rfl rfl rfl rfl (by simp) rfl rfl ?_)
 clear η σ a; intro a w46 η σ
 refine ⟨.inr ⟨σ.kn.pick [0, 1, 2, 3, 4, 5, 10] (rg 0 4), .inl rfl⟩, ?_⟩
 refine sAny_one (i := 5) (by kernel_rfl) rfl rfl (op_store (k := 8) (c' := #[.bool (neg y), .slice A35 (zl y) c36]) η σ (ty_anvil_integer_Int.size) rfl rfl rfl rfl (by simp) rfl rfl ?_)
 clear η σ a; intro a w47 η σ
 refine ⟨.inr ⟨σ.kn.pick [0, 1, 2, 3, 4, 5, 10] (rg 0 4), .inl rfl⟩, ?_⟩
 refine sAny_one (i := 6) (by kernel_rfl) rfl rfl (op_store (k := 7) (c' := #[.bool (neg z), .slice A11 (dl z) c12]) η σ (ty_anvil_anvilref02_Int.size) rfl rfl rfl rfl (by simp) rfl rfl ?_)
 clear η σ a; intro a w48 η σ
 refine ⟨.inr ⟨σ.kn.pick [0, 1, 2, 3, 4, 5, 10] (rg 0 4), .inl rfl⟩, ?_⟩
 refine sAny_one (i := 7) (by kernel_rfl) rfl rfl (op_store (k := 6) (c' := #[.bool (neg y), .slice A18 (dl y) c19]) η σ (ty_anvil_anvilref02_Int.size) rfl rfl rfl rfl (by simp) rfl rfl ?_)
 clear η σ a; intro a w49 η σ
 refine ⟨.inr ⟨σ.kn.pick [0, 1, 2, 3, 4, 5, 10] (rg 0 4), .inl rfl⟩, ?_⟩
 refine tA (i := 8) [] (v := .bool true) rfl (by kernel_rfl) (fun _ _ _ h => h) η rfl (fun _ => rn_assign η rfl) ?_
 clear η a; intro a η
 refine sAny_done (by kernel_rfl) ?_ _
 refine th_n (wp_ret ?_)
 refine leave η (res5 Tryd.results120 (RV.cell η ty_anvil_integer_Int rfl (σ.oat (k := 9) rfl) rfl) (RV.cell η ty_anvil_integer_Int rfl (σ.oat (k := 8) rfl) rfl) (RV.cell η ty_anvil_anvilref02_Int rfl (σ.oat (k := 7) rfl) rfl) (RV.cell η ty_anvil_anvilref02_Int rfl (σ.oat (k := 6) rfl) rfl) (RV.tmp η rfl)) ?_
 exact ⟨_, _, _, _, rfl, z_at rfl (σ.pat (k := 1) rfl), z_at rfl (σ.pat (k := 0) rfl), r_at rfl (σ.pat (k := 3) rfl), r_at rfl (σ.pat (k := 2) rfl), σ.below⟩
theorem numbers_no1 {s t : List UInt8} {z y ps qs bs pt qt bt : Int} {w0 : World} (hs : RdAs s z ps qs bs) (ht : RdAs t y pt qt bt) (u1 : 0 ≤ bs) :
  Calls Tryd.prog 120 #[.agg #[.string ⟨s.toArray⟩, .string ⟨t.toArray⟩]] w0 fun e w' => ∃ v1 v2 u1 u2, e = .returned (.tuple #[v1, v2, u1, u2, .bool false]) ∧ ZAt w' v1 0 ∧ ZAt w' v2 0 ∧ RAt w' u1 z ∧ RAt w' u2 y ∧ Below w0.heap.size w0 w' := by
 refine enter Tryd.func120 rfl Tryd.ntmps120 rfl ?_
 intro a η σ
 replace σ := σ.addZ (zin_none _) trivial
 refine wp_seq (region_seq ?_)
 refine seq_step rfl (op_box (c := #[.string ⟨s.toArray⟩, .string ⟨t.toArray⟩]) η σ rfl rfl rfl ?_)
 clear η σ a; intro a w2 g1 η σ
 refine seq_step rfl (op_alloc (c := #[.bool (neg 0), .slice none (zl 0) 0]) η σ rfl zero_anvil_integer_Int zcells ?_)
 clear η σ a; intro a w4 g3 η σ
 refine seq_step rfl (op_alloc (c := #[.bool (neg 0), .slice none (zl 0) 0]) η σ rfl zero_anvil_integer_Int zcells ?_)
 clear η σ a; intro a w6 g5 η σ
 refine seq_step rfl (op_alloc (c := #[.bool (neg 0), .slice none (dl 0) 0]) η σ rfl zero_anvil_anvilref02_Int rcells ?_)
 clear η σ a; intro a w8 g7 η σ
 refine seq_step rfl (op_alloc (c := #[.bool (neg 0), .slice none (dl 0) 0]) η σ rfl zero_anvil_anvilref02_Int rcells ?_)
 clear η σ a; intro a w10 g9 η σ
 refine sv (v := .bool false) η rfl (rn_assign η rfl) ?_
 clear η a; intro a η
 refine wpList_nil (th_n (wp_seq (region_seq ?_)))
 revert a
 refine sA (v := .pointer (some ⟨g1, 0, none⟩)) rfl (fun _ η => rn_fieldAddr η fd_anvil_anvillaw03_Frac_0 (ty_string.size) (by decide) rfl) ?_
 refine sA (v := .string ⟨s.toArray⟩) rfl (fun _ η => rn_load1 η ty_string rfl (σ.oat (k := 4) rfl) rfl) ?_
 intro a η
 refine seq_step rfl (op_call η rfl Tryd.call115 rfl (hs _).2 ?_)
 rintro e w14 ⟨_, rfl, ⟨A11, c12, rfl, hz13⟩, hb⟩
 refine ⟨_, rfl, ?_⟩
 clear η a; intro a η
 replace σ := (σ.call hb).addR hz13 ⟨nou_bk rfl, nou_bk rfl, nou_bk rfl, nou_bk rfl, nou_bk rfl, trivial⟩
 clear hz13
 clear hb
 revert a
 refine mA rfl rfl ?_
 refine sA (v := .agg #[.bool (neg z), .slice A11 (dl z) c12]) rfl (fun _ η => rn_extract η rfl rfl) ?_
 refine sA (v := .int .i64 bs) rfl (fun _ η => rn_extract η rfl rfl) ?_
 intro a η
 refine seq_step rfl (op_alloc (c := #[.bool (neg 0), .slice none (dl 0) 0]) η σ rfl zero_anvil_anvilref02_Int rcells ?_)
 clear η σ a; intro a w16 g15 η σ
 refine seq_step rfl (op_store (k := 0) (c' := #[.bool (neg z), .slice A11 (dl z) c12]) η σ (ty_anvil_anvilref02_Int.size) rfl rfl rfl rfl (by simp) rfl rfl ?_)
 clear η σ a; intro a w17 η σ
 refine sv (v := .int .i64 bs) η rfl (rn_assign η rfl) ?_
 clear η a; intro a η
 refine wpList_nil (th_n (wp_seq (region_seq ?_)))
 revert a
 refine sA (v := .pointer (some ⟨g1, 1, none⟩)) rfl (fun _ η => rn_fieldAddr η fd_anvil_anvillaw03_Frac_1 (ty_string.size) (by decide) rfl) ?_
 refine sA (v := .string ⟨t.toArray⟩) rfl (fun _ η => rn_load1 η ty_string rfl (σ.oat (k := 5) rfl) rfl) ?_
 intro a η
 refine seq_step rfl (op_call η rfl Tryd.call115 rfl (ht _).2 ?_)
 rintro e w21 ⟨_, rfl, ⟨A18, c19, rfl, hz20⟩, hb⟩
 refine ⟨_, rfl, ?_⟩
 clear η a; intro a η
 replace σ := (σ.call hb).addR hz20 ⟨nou_bk rfl, nou_bk rfl, nou_bk rfl, nou_bk rfl, nou_bk rfl, nou_bk rfl, trivial⟩
 clear hz20
 clear hb
 revert a
 refine mA rfl rfl ?_
 refine sA (v := .agg #[.bool (neg y), .slice A18 (dl y) c19]) rfl (fun _ η => rn_extract η rfl rfl) ?_
 refine sA (v := .int .i64 bt) rfl (fun _ η => rn_extract η rfl rfl) ?_
 intro a η
 refine seq_step rfl (op_alloc (c := #[.bool (neg 0), .slice none (dl 0) 0]) η σ rfl zero_anvil_anvilref02_Int rcells ?_)
 clear η σ a; intro a w23 g22 η σ
 refine seq_step rfl (op_store (k := 0) (c' := #[.bool (neg y), .slice A18 (dl y) c19]) η σ (ty_anvil_anvilref02_Int.size) rfl rfl rfl rfl (by simp) rfl rfl ?_)
 clear η σ a; intro a w24 η σ
 refine sv (v := .int .i64 bt) η rfl (rn_assign η rfl) ?_
 clear η a; intro a η
 refine wpList_nil (th_n (wp_seq (wp_seq (region_seq ?_))))
 revert a
 refine mA rfl rfl ?_
 refine sA (v := .bool (decide (bs ≥ (0 : Int)))) rfl (fun _ η => rn_bin η rfl rfl rfl) ?_
 intro a η
 rw [show (decide (bs ≥ (0 : Int))) = true from decide_eq_true (by omega)] at η
 revert a
 refine mA rfl rfl ?_
 refine kA rfl rfl rfl rfl rfl ?_
 refine kA rfl rfl rfl rfl rfl ?_
 refine sA (v := .bool true) rfl (fun _ η => rn_pick η rfl rfl) ?_
 intro a η
 refine wpList_nil (th_n ?_)
 refine if_t η rfl (rfl) ?_
 refine wp_seq ?_
 refine region_any (n := 9) (Sk [bk g22 #[.bool (neg y), .slice A18 (dl y) c19] 39, bk g15 #[.bool (neg z), .slice A11 (dl z) c12] 39, bk g1 #[.string ⟨s.toArray⟩, .string ⟨t.toArray⟩] 89] [pfR A18 c19 y, pfR A11 c12 z, pfZ none 0 0] [4, 5, 6, 7] []) mixed rfl η σ ?_
 clear η σ; intro w25 η σ
 refine tA (i := 0) (rg 4 5) (v := .agg #[.bool (neg 0), .slice none (zl 0) 0]) rfl (by kernel_rfl) (fun _ _ _ h => h) η rfl (fun _ => rn_zint Tryd.underlying36 zero_anvil_integer_Int (by intro f hf; simp at hf; rcases hf with rfl | rfl <;> exact ⟨_, rfl⟩)) ?_
 clear η a; intro a η
 refine tA (i := 1) (rg 5 4) (v := .agg #[.bool (neg 0), .slice none (zl 0) 0]) rfl (by kernel_rfl) (fun _ _ _ h => h) η rfl (fun _ => rn_zint Tryd.underlying36 zero_anvil_integer_Int (by intro f hf; simp at hf; rcases hf with rfl | rfl <;> exact ⟨_, rfl⟩)) ?_
 clear η a; intro a η
 refine tL (i := 2) 1 1 [6, 7, 8] rfl (by kernel_rfl) (fun _ _ _ h => h) η rfl ty_anvil_anvilref02_Int rfl σ rfl rfl rfl ?_
 clear η a; intro a η
 refine tL (i := 3) 0 0 [7, 8] rfl (by kernel_rfl) (fun _ _ _ h => h) η rfl ty_anvil_anvilref02_Int rfl σ rfl rfl rfl ?_
 clear η a; intro a η
 refine sAny_one (i := 4) (by kernel_rfl) rfl rfl (op_store (k := 5) (c' := #[.bool (neg 0), .slice none (zl 0) 0]) η σ (ty_anvil_integer_Int.size) rfl rfl rfl rfl (by simp) rfl rfl ?_)
 clear η σ a; intro a w26 η σ
 refine ⟨.inr ⟨σ.kn.pick [0, 1, 6] [0, 1, 2], .inl rfl⟩, ?_⟩
 refine sAny_one (i := 5) (by kernel_rfl) rfl rfl (op_store (k := 4) (c' := #[.bool (neg 0), .slice none (zl 0) 0]) η σ (ty_anvil_integer_Int.size) rfl rfl rfl rfl (by simp) rfl rfl ?_)
 clear η σ a; intro a w27 η σ
 refine ⟨.inr ⟨σ.kn.pick [0, 1, 6] [0, 1, 2], .inl rfl⟩, ?_⟩
 refine sAny_one (i := 6) (by kernel_rfl) rfl rfl (op_store (k := 3) (c' := #[.bool (neg z), .slice A11 (dl z) c12]) η σ (ty_anvil_anvilref02_Int.size) rfl rfl rfl rfl (by simp) rfl rfl ?_)
 clear η σ a; intro a w28 η σ
 refine ⟨.inr ⟨σ.kn.pick [0, 1, 6] [0, 1, 2], .inl rfl⟩, ?_⟩
 refine sAny_one (i := 7) (by kernel_rfl) rfl rfl (op_store (k := 2) (c' := #[.bool (neg y), .slice A18 (dl y) c19]) η σ (ty_anvil_anvilref02_Int.size) rfl rfl rfl rfl (by simp) rfl rfl ?_)
 clear η σ a; intro a w29 η σ
 refine ⟨.inr ⟨σ.kn.pick [0, 1, 6] [0, 1, 2], .inl rfl⟩, ?_⟩
 refine tA (i := 8) [] (v := .bool false) rfl (by kernel_rfl) (fun _ _ _ h => h) η rfl (fun _ => rn_assign η rfl) ?_
 clear η a; intro a η
 refine sAny_done (by kernel_rfl) ?_ _
 refine th_n (wp_ret (th_r ?_))
 refine leave η (res5 Tryd.results120 (RV.cell η ty_anvil_integer_Int rfl (σ.oat (k := 5) rfl) rfl) (RV.cell η ty_anvil_integer_Int rfl (σ.oat (k := 4) rfl) rfl) (RV.cell η ty_anvil_anvilref02_Int rfl (σ.oat (k := 3) rfl) rfl) (RV.cell η ty_anvil_anvilref02_Int rfl (σ.oat (k := 2) rfl) rfl) (RV.tmp η rfl)) ?_
 exact ⟨_, _, _, _, rfl, z_at rfl (σ.pat (k := 2) rfl), z_at rfl (σ.pat (k := 2) rfl), r_at rfl (σ.pat (k := 1) rfl), r_at rfl (σ.pat (k := 0) rfl), σ.below⟩
theorem numbers_no2 {s t : List UInt8} {z y ps qs bs pt qt bt : Int} {w0 : World} (hs : RdAs s z ps qs bs) (ht : RdAs t y pt qt bt) (u1 : bs < 0) (u2 : 0 ≤ bt) :
  Calls Tryd.prog 120 #[.agg #[.string ⟨s.toArray⟩, .string ⟨t.toArray⟩]] w0 fun e w' => ∃ v1 v2 u1 u2, e = .returned (.tuple #[v1, v2, u1, u2, .bool false]) ∧ ZAt w' v1 0 ∧ ZAt w' v2 0 ∧ RAt w' u1 z ∧ RAt w' u2 y ∧ Below w0.heap.size w0 w' := by
 refine enter Tryd.func120 rfl Tryd.ntmps120 rfl ?_
 intro a η σ
 replace σ := σ.addZ (zin_none _) trivial
 refine wp_seq (region_seq ?_)
 refine seq_step rfl (op_box (c := #[.string ⟨s.toArray⟩, .string ⟨t.toArray⟩]) η σ rfl rfl rfl ?_)
 clear η σ a; intro a w2 g1 η σ
 refine seq_step rfl (op_alloc (c := #[.bool (neg 0), .slice none (zl 0) 0]) η σ rfl zero_anvil_integer_Int zcells ?_)
 clear η σ a; intro a w4 g3 η σ
 refine seq_step rfl (op_alloc (c := #[.bool (neg 0), .slice none (zl 0) 0]) η σ rfl zero_anvil_integer_Int zcells ?_)
 clear η σ a; intro a w6 g5 η σ
 refine seq_step rfl (op_alloc (c := #[.bool (neg 0), .slice none (dl 0) 0]) η σ rfl zero_anvil_anvilref02_Int rcells ?_)
 clear η σ a; intro a w8 g7 η σ
 refine seq_step rfl (op_alloc (c := #[.bool (neg 0), .slice none (dl 0) 0]) η σ rfl zero_anvil_anvilref02_Int rcells ?_)
 clear η σ a; intro a w10 g9 η σ
 refine sv (v := .bool false) η rfl (rn_assign η rfl) ?_
 clear η a; intro a η
 refine wpList_nil (th_n (wp_seq (region_seq ?_)))
 revert a
 refine sA (v := .pointer (some ⟨g1, 0, none⟩)) rfl (fun _ η => rn_fieldAddr η fd_anvil_anvillaw03_Frac_0 (ty_string.size) (by decide) rfl) ?_
 refine sA (v := .string ⟨s.toArray⟩) rfl (fun _ η => rn_load1 η ty_string rfl (σ.oat (k := 4) rfl) rfl) ?_
 intro a η
 refine seq_step rfl (op_call η rfl Tryd.call115 rfl (hs _).2 ?_)
 rintro e w14 ⟨_, rfl, ⟨A11, c12, rfl, hz13⟩, hb⟩
 refine ⟨_, rfl, ?_⟩
 clear η a; intro a η
 replace σ := (σ.call hb).addR hz13 ⟨nou_bk rfl, nou_bk rfl, nou_bk rfl, nou_bk rfl, nou_bk rfl, trivial⟩
 clear hz13
 clear hb
 revert a
 refine mA rfl rfl ?_
 refine sA (v := .agg #[.bool (neg z), .slice A11 (dl z) c12]) rfl (fun _ η => rn_extract η rfl rfl) ?_
 refine sA (v := .int .i64 bs) rfl (fun _ η => rn_extract η rfl rfl) ?_
 intro a η
 refine seq_step rfl (op_alloc (c := #[.bool (neg 0), .slice none (dl 0) 0]) η σ rfl zero_anvil_anvilref02_Int rcells ?_)
 clear η σ a; intro a w16 g15 η σ
 refine seq_step rfl (op_store (k := 0) (c' := #[.bool (neg z), .slice A11 (dl z) c12]) η σ (ty_anvil_anvilref02_Int.size) rfl rfl rfl rfl (by simp) rfl rfl ?_)
 clear η σ a; intro a w17 η σ
 refine sv (v := .int .i64 bs) η rfl (rn_assign η rfl) ?_
 clear η a; intro a η
 refine wpList_nil (th_n (wp_seq (region_seq ?_)))
 revert a
 refine sA (v := .pointer (some ⟨g1, 1, none⟩)) rfl (fun _ η => rn_fieldAddr η fd_anvil_anvillaw03_Frac_1 (ty_string.size) (by decide) rfl) ?_
 refine sA (v := .string ⟨t.toArray⟩) rfl (fun _ η => rn_load1 η ty_string rfl (σ.oat (k := 5) rfl) rfl) ?_
 intro a η
 refine seq_step rfl (op_call η rfl Tryd.call115 rfl (ht _).2 ?_)
 rintro e w21 ⟨_, rfl, ⟨A18, c19, rfl, hz20⟩, hb⟩
 refine ⟨_, rfl, ?_⟩
 clear η a; intro a η
 replace σ := (σ.call hb).addR hz20 ⟨nou_bk rfl, nou_bk rfl, nou_bk rfl, nou_bk rfl, nou_bk rfl, nou_bk rfl, trivial⟩
 clear hz20
 clear hb
 revert a
 refine mA rfl rfl ?_
 refine sA (v := .agg #[.bool (neg y), .slice A18 (dl y) c19]) rfl (fun _ η => rn_extract η rfl rfl) ?_
 refine sA (v := .int .i64 bt) rfl (fun _ η => rn_extract η rfl rfl) ?_
 intro a η
 refine seq_step rfl (op_alloc (c := #[.bool (neg 0), .slice none (dl 0) 0]) η σ rfl zero_anvil_anvilref02_Int rcells ?_)
 clear η σ a; intro a w23 g22 η σ
 refine seq_step rfl (op_store (k := 0) (c' := #[.bool (neg y), .slice A18 (dl y) c19]) η σ (ty_anvil_anvilref02_Int.size) rfl rfl rfl rfl (by simp) rfl rfl ?_)
 clear η σ a; intro a w24 η σ
 refine sv (v := .int .i64 bt) η rfl (rn_assign η rfl) ?_
 clear η a; intro a η
 refine wpList_nil (th_n (wp_seq (wp_seq (region_seq ?_))))
 revert a
 refine mA rfl rfl ?_
 refine sA (v := .bool (decide (bs ≥ (0 : Int)))) rfl (fun _ η => rn_bin η rfl rfl rfl) ?_
 intro a η
 rw [show (decide (bs ≥ (0 : Int))) = false from decide_eq_false (by omega)] at η
 revert a
 refine mA rfl rfl ?_
 refine gA (v := .int .i64 bt) rfl rfl rfl rfl (fun _ η => rn_move η rfl) ?_
 refine gA (v := .bool (decide (bt ≥ (0 : Int)))) rfl rfl rfl rfl (fun _ η => rn_bin η rfl rfl rfl) ?_
 intro a η
 rw [show (decide (bt ≥ (0 : Int))) = true from decide_eq_true (by omega)] at η
 refine sv (v := .bool true) η rfl (rn_pick η rfl rfl) ?_
 clear η a; intro a η
 refine wpList_nil (th_n ?_)
 refine if_t η rfl (rfl) ?_
 refine wp_seq ?_
 refine region_any (n := 9) (Sk [bk g22 #[.bool (neg y), .slice A18 (dl y) c19] 39, bk g15 #[.bool (neg z), .slice A11 (dl z) c12] 39, bk g1 #[.string ⟨s.toArray⟩, .string ⟨t.toArray⟩] 89] [pfR A18 c19 y, pfR A11 c12 z, pfZ none 0 0] [4, 5, 6, 7] []) mixed rfl η σ ?_
 clear η σ; intro w25 η σ
 refine tA (i := 0) (rg 4 5) (v := .agg #[.bool (neg 0), .slice none (zl 0) 0]) rfl (by kernel_rfl) (fun _ _ _ h => h) η rfl (fun _ => rn_zint Tryd.underlying36 zero_anvil_integer_Int (by intro f hf; simp at hf; rcases hf with rfl | rfl <;> exact ⟨_, rfl⟩)) ?_
 clear η a; intro a η
 refine tA (i := 1) (rg 5 4) (v := .agg #[.bool (neg 0), .slice none (zl 0) 0]) rfl (by kernel_rfl) (fun _ _ _ h => h) η rfl (fun _ => rn_zint Tryd.underlying36 zero_anvil_integer_Int (by intro f hf; simp at hf; rcases hf with rfl | rfl <;> exact ⟨_, rfl⟩)) ?_
 clear η a; intro a η
 refine tL (i := 2) 1 1 [6, 7, 8] rfl (by kernel_rfl) (fun _ _ _ h => h) η rfl ty_anvil_anvilref02_Int rfl σ rfl rfl rfl ?_
 clear η a; intro a η
 refine tL (i := 3) 0 0 [7, 8] rfl (by kernel_rfl) (fun _ _ _ h => h) η rfl ty_anvil_anvilref02_Int rfl σ rfl rfl rfl ?_
 clear η a; intro a η
 refine sAny_one (i := 4) (by kernel_rfl) rfl rfl (op_store (k := 5) (c' := #[.bool (neg 0), .slice none (zl 0) 0]) η σ (ty_anvil_integer_Int.size) rfl rfl rfl rfl (by simp) rfl rfl ?_)
 clear η σ a; intro a w26 η σ
 refine ⟨.inr ⟨σ.kn.pick [0, 1, 6] [0, 1, 2], .inl rfl⟩, ?_⟩
 refine sAny_one (i := 5) (by kernel_rfl) rfl rfl (op_store (k := 4) (c' := #[.bool (neg 0), .slice none (zl 0) 0]) η σ (ty_anvil_integer_Int.size) rfl rfl rfl rfl (by simp) rfl rfl ?_)
 clear η σ a; intro a w27 η σ
 refine ⟨.inr ⟨σ.kn.pick [0, 1, 6] [0, 1, 2], .inl rfl⟩, ?_⟩
 refine sAny_one (i := 6) (by kernel_rfl) rfl rfl (op_store (k := 3) (c' := #[.bool (neg z), .slice A11 (dl z) c12]) η σ (ty_anvil_anvilref02_Int.size) rfl rfl rfl rfl (by simp) rfl rfl ?_)
 clear η σ a; intro a w28 η σ
 refine ⟨.inr ⟨σ.kn.pick [0, 1, 6] [0, 1, 2], .inl rfl⟩, ?_⟩
 refine sAny_one (i := 7) (by kernel_rfl) rfl rfl (op_store (k := 2) (c' := #[.bool (neg y), .slice A18 (dl y) c19]) η σ (ty_anvil_anvilref02_Int.size) rfl rfl rfl rfl (by simp) rfl rfl ?_)
 clear η σ a; intro a w29 η σ
 refine ⟨.inr ⟨σ.kn.pick [0, 1, 6] [0, 1, 2], .inl rfl⟩, ?_⟩
 refine tA (i := 8) [] (v := .bool false) rfl (by kernel_rfl) (fun _ _ _ h => h) η rfl (fun _ => rn_assign η rfl) ?_
 clear η a; intro a η
 refine sAny_done (by kernel_rfl) ?_ _
 refine th_n (wp_ret (th_r ?_))
 refine leave η (res5 Tryd.results120 (RV.cell η ty_anvil_integer_Int rfl (σ.oat (k := 5) rfl) rfl) (RV.cell η ty_anvil_integer_Int rfl (σ.oat (k := 4) rfl) rfl) (RV.cell η ty_anvil_anvilref02_Int rfl (σ.oat (k := 3) rfl) rfl) (RV.cell η ty_anvil_anvilref02_Int rfl (σ.oat (k := 2) rfl) rfl) (RV.tmp η rfl)) ?_
 exact ⟨_, _, _, _, rfl, z_at rfl (σ.pat (k := 2) rfl), z_at rfl (σ.pat (k := 2) rfl), r_at rfl (σ.pat (k := 1) rfl), r_at rfl (σ.pat (k := 0) rfl), σ.below⟩
theorem numbers_no {s t : List UInt8} {z y ps qs bs pt qt bt : Int} {w0 : World} (hs : RdAs s z ps qs bs) (ht : RdAs t y pt qt bt) (g : ¬ (bs < 0 ∧ bt < 0)) :
  Calls Tryd.prog 120 #[.agg #[.string ⟨s.toArray⟩, .string ⟨t.toArray⟩]] w0 fun e w' => ∃ v1 v2 u1 u2, e = .returned (.tuple #[v1, v2, u1, u2, .bool false]) ∧ ZAt w' v1 0 ∧ ZAt w' v2 0 ∧ RAt w' u1 z ∧ RAt w' u2 y ∧ Below w0.heap.size w0 w' := by
 rcases Int.lt_or_le bs 0 with h | h
 ·rcases Int.lt_or_le bt 0 with h2 | h2
  ·exact absurd ⟨h, h2⟩ g
  ·exact numbers_no2 hs ht h h2
 ·exact numbers_no1 hs ht h
theorem rat_ok {s t : List UInt8} {z y ps qs bs pt qt bt : Int} {w0 : World} (hs : RdAs s z ps qs bs) (ht : RdAs t y pt qt bt) (u1 : bs < 0) (u2 : bt < 0) (hy0 : y ≠ 0) (bz : zl z ≤ 400) (by_ : zl y ≤ 400) :
  Calls Tryd.prog 69 #[.agg #[.string ⟨s.toArray⟩, .string ⟨t.toArray⟩]] w0 fun e w' => ∃ v u, e = .returned (.tuple #[v, u, .bool true]) ∧ QAt w' v (Rat.divInt z y) ∧ YAt w' u (Rat.divInt z y) ∧ Below w0.heap.size w0 w' := by
 have edz := dl_zl z
 have edy := dl_zl y
 refine enter Tryd.func69 rfl Tryd.ntmps69 rfl ?_
 intro a η σ
 refine wp_seq (region_seq ?_)
 refine seq_step rfl (op_box (c := #[.string ⟨s.toArray⟩, .string ⟨t.toArray⟩]) η σ rfl rfl rfl ?_)
 clear η σ a; intro a w2 g1 η σ
 refine seq_step rfl (op_alloc (c := #[.bool (neg (qn 0)), .slice none (zl (qn 0)) 0, .bool (neg (ql 0)), .slice none (zl (ql 0)) 0]) η σ rfl zero_anvil_ratio_Rat qcells ?_)
 clear η σ a; intro a w4 g3 η σ
 refine seq_step rfl (op_alloc (c := #[.bool false, .slice none 0 0, .bool false, .slice none 0 0]) η σ rfl zero_anvil_anvilref03_Rat rfl ?_)
 clear η σ a; intro a w6 g5 η σ
 refine sv (v := .bool false) η rfl (rn_assign η rfl) ?_
 clear η a; intro a η
 refine wpList_nil (th_n (wp_seq (region_seq ?_)))
 refine sv (v := .agg #[.string ⟨s.toArray⟩, .string ⟨t.toArray⟩]) η rfl (rn_load0 η ty_anvil_anvillaw03_Frac rfl (σ.oat (k := 2) rfl) rfl) ?_
 clear η a; intro a η
 refine seq_step rfl (op_call η rfl Tryd.call120 rfl (numbers_ok hs ht u1 u2) ?_)
 rintro e w19 ⟨_, _, _, _, rfl, ⟨A7, c8, rfl, hz9⟩, ⟨A10, c11, rfl, hz12⟩, ⟨A13, c14, rfl, hz15⟩, ⟨A16, c17, rfl, hz18⟩, hb⟩
 refine ⟨_, rfl, ?_⟩
 clear η a; intro a η
 replace σ := ((((σ.call hb).addZ hz9 ⟨nou_bk rfl, nou_bk rfl, nou_bk rfl, trivial⟩).addZ hz12 ⟨nou_bk rfl, nou_bk rfl, nou_bk rfl, trivial⟩).addR hz15 ⟨nou_bk rfl, nou_bk rfl, nou_bk rfl, trivial⟩).addR hz18 ⟨nou_bk rfl, nou_bk rfl, nou_bk rfl, trivial⟩
 clear hz9 hz12 hz15 hz18
 clear hb
 revert a
 refine mA rfl rfl ?_
 refine sA (v := .agg #[.bool (neg z), .slice A7 (zl z) c8]) rfl (fun _ η => rn_extract η rfl rfl) ?_
 refine sA (v := .agg #[.bool (neg y), .slice A10 (zl y) c11]) rfl (fun _ η => rn_extract η rfl rfl) ?_
 refine sA (v := .agg #[.bool (neg z), .slice A13 (dl z) c14]) rfl (fun _ η => rn_extract η rfl rfl) ?_
 refine sA (v := .agg #[.bool (neg y), .slice A16 (dl y) c17]) rfl (fun _ η => rn_extract η rfl rfl) ?_
 refine sA (v := .bool true) rfl (fun _ η => rn_extract η rfl rfl) ?_
 intro a η
 refine seq_step rfl (op_alloc (c := #[.bool (neg 0), .slice none (zl 0) 0]) η σ rfl zero_anvil_integer_Int zcells ?_)
 clear η σ a; intro a w21 g20 η σ
 refine seq_step rfl (op_alloc (c := #[.bool (neg 0), .slice none (zl 0) 0]) η σ rfl zero_anvil_integer_Int zcells ?_)
 clear η σ a; intro a w23 g22 η σ
 refine seq_step rfl (op_alloc (c := #[.bool (neg 0), .slice none (dl 0) 0]) η σ rfl zero_anvil_anvilref02_Int rcells ?_)
 clear η σ a; intro a w25 g24 η σ
 refine seq_step rfl (op_alloc (c := #[.bool (neg 0), .slice none (dl 0) 0]) η σ rfl zero_anvil_anvilref02_Int rcells ?_)
 clear η σ a; intro a w27 g26 η σ
 refine seq_step rfl (op_store (k := 3) (c' := #[.bool (neg z), .slice A7 (zl z) c8]) η σ (ty_anvil_integer_Int.size) rfl rfl rfl rfl (by simp) rfl rfl ?_)
 clear η σ a; intro a w28 η σ
 refine seq_step rfl (op_store (k := 2) (c' := #[.bool (neg y), .slice A10 (zl y) c11]) η σ (ty_anvil_integer_Int.size) rfl rfl rfl rfl (by simp) rfl rfl ?_)
 clear η σ a; intro a w29 η σ
 refine seq_step rfl (op_store (k := 1) (c' := #[.bool (neg z), .slice A13 (dl z) c14]) η σ (ty_anvil_anvilref02_Int.size) rfl rfl rfl rfl (by simp) rfl rfl ?_)
 clear η σ a; intro a w30 η σ
 refine seq_step rfl (op_store (k := 0) (c' := #[.bool (neg y), .slice A16 (dl y) c17]) η σ (ty_anvil_anvilref02_Int.size) rfl rfl rfl rfl (by simp) rfl rfl ?_)
 clear η σ a; intro a w31 η σ
 refine sv (v := .bool true) η rfl (rn_assign η rfl) ?_
 clear η a; intro a η
 refine wpList_nil (th_n (wp_seq (wp_seq (region_seq ?_))))
 revert a
 refine mA rfl rfl ?_
 refine sA (v := .bool false) rfl (fun _ η => rn_un η rfl rfl) ?_
 refine mA rfl rfl ?_
 refine gA (v := .agg #[.bool (neg y), .slice A16 (dl y) c17]) rfl rfl rfl rfl (fun _ η => rn_load0 η ty_anvil_anvilref02_Int rfl (σ.oat (k := 0) rfl) rfl) ?_
 intro a η
 refine seq_g rfl η rfl rfl (op_call η rfl Tryd.call82 rfl (sign_r (z := y)) ?_)
 rintro e w32 ⟨rfl, hb⟩
 refine ⟨_, rfl, ?_⟩
 clear η a; intro a η
 replace σ := σ.call hb
 clear hb
 refine seq_g rfl η rfl rfl (op_val (v := .bool (y.sign == (0 : Int))) η rfl (rn_bin η rfl rfl rfl) ?_)
 clear η a; intro a η
 rw [show (y.sign == (0 : Int)) = false from (beq_eq_false_iff_ne.2 fun e => hy0 (Int.sign_eq_zero_iff_zero.1 e))] at η
 refine sv (v := .bool false) η rfl (rn_pick η rfl rfl) ?_
 clear η a; intro a η
 refine wpList_nil (th_n ?_)
 refine if_f η rfl (rfl) ?_
 refine wp_skip (th_n (wp_seq (region_seq ?_)))
 revert a
 refine sA (v := .agg #[.bool (neg z), .slice A7 (zl z) c8]) rfl (fun _ η => rn_load0 η ty_anvil_integer_Int rfl (σ.oat (k := 3) rfl) rfl) ?_
 refine sA (v := .agg #[.bool (neg y), .slice A10 (zl y) c11]) rfl (fun _ η => rn_load0 η ty_anvil_integer_Int rfl (σ.oat (k := 2) rfl) rfl) ?_
 intro a η
 refine seq_step rfl (op_call η rfl Tryd.call90 rfl (make_qr (p := z) (q := y) (r := Rat.divInt z y) (show ZIn _ A7 c8 z from σ.pat (k := 3) rfl) (show ZIn _ A10 c11 y from σ.pat (k := 2) rfl) (by omega) (by omega) hy0 rfl) ?_)
 rintro e w39 ⟨_, rfl, ⟨A33, c34, B35, d36, rfl, hz37, hz38⟩, hb⟩
 refine ⟨_, rfl, ?_⟩
 clear η a; intro a η
 replace σ := ((σ.call hb).addZ hz37 ⟨nou_bk rfl, nou_bk rfl, nou_bk rfl, nou_bk rfl, nou_bk rfl, nou_bk rfl, nou_bk rfl, trivial⟩).addZ hz38 ⟨nou_bk rfl, nou_bk rfl, nou_bk rfl, nou_bk rfl, nou_bk rfl, nou_bk rfl, nou_bk rfl, trivial⟩
 clear hz37 hz38
 clear hb
 revert a
 refine mA rfl rfl ?_
 refine sA (v := .agg #[.bool (neg (qn (Rat.divInt z y))), .slice A33 (zl (qn (Rat.divInt z y))) c34, .bool (neg (ql (Rat.divInt z y))), .slice B35 (zl (ql (Rat.divInt z y))) d36]) rfl (fun _ η => rn_extract η rfl rfl) ?_
 refine sA (v := .int .i64 0) rfl (fun _ η => rn_extract η rfl rfl) ?_
 intro a η
 refine seq_step rfl (op_alloc (c := #[.bool (neg (qn 0)), .slice none (zl (qn 0)) 0, .bool (neg (ql 0)), .slice none (zl (ql 0)) 0]) η σ rfl zero_anvil_ratio_Rat qcells ?_)
 clear η σ a; intro a w41 g40 η σ
 refine seq_step rfl (op_store (k := 0) (c' := #[.bool (neg (qn (Rat.divInt z y))), .slice A33 (zl (qn (Rat.divInt z y))) c34, .bool (neg (ql (Rat.divInt z y))), .slice B35 (zl (ql (Rat.divInt z y))) d36]) η σ (ty_anvil_ratio_Rat.size) rfl rfl rfl rfl (by simp) rfl rfl ?_)
 clear η σ a; intro a w42 η σ
 refine sv (v := .int .i64 0) η rfl (rn_assign η rfl) ?_
 clear η a; intro a η
 refine wpList_nil (th_n (wp_seq ?_))
 refine region_any (n := 7) (Sk [bk g40 #[.bool (neg (qn (Rat.divInt z y))), .slice A33 (zl (qn (Rat.divInt z y))) c34, .bool (neg (ql (Rat.divInt z y))), .slice B35 (zl (ql (Rat.divInt z y))) d36] 91, bk g26 #[.bool (neg y), .slice A16 (dl y) c17] 39, bk g24 #[.bool (neg z), .slice A13 (dl z) c14] 39, bk g22 #[.bool (neg y), .slice A10 (zl y) c11] 36, bk g20 #[.bool (neg z), .slice A7 (zl z) c8] 36, bk g1 #[.string ⟨s.toArray⟩, .string ⟨t.toArray⟩] 89] [pfZ B35 d36 (ql (Rat.divInt z y)), pfZ A33 c34 (qn (Rat.divInt z y)), pfR A16 c17 y, pfR A13 c14 z, pfZ A10 c11 y, pfZ A7 c8 z] [4, 5] []) mixed rfl η σ ?_
 clear η σ; intro w43 η σ
 refine tL (i := 0) 0 0 [4, 5, 6] rfl (by kernel_rfl) (fun _ _ _ h => h) η rfl ty_anvil_ratio_Rat rfl σ rfl rfl rfl ?_
 clear η a; intro a η
 refine tL (i := 1) 2 2 (rg 3 4) rfl (by kernel_rfl) (fun _ _ _ h => h) η rfl ty_anvil_anvilref02_Int rfl σ rfl rfl rfl ?_
 clear η a; intro a η
 refine tL (i := 2) 1 1 (rg 3 4) rfl (by kernel_rfl) (fun _ _ _ h => h) η rfl ty_anvil_anvilref02_Int rfl σ rfl rfl rfl ?_
 clear η a; intro a η
 refine sAny_one (i := 3) (by kernel_rfl) rfl rfl (op_call η rfl Tryd.call121 rfl (make_y (p := z) (q := y) (r := Rat.divInt z y) (show RIn _ A13 c14 z from σ.pat (k := 3) rfl) (show RIn _ A16 c17 y from σ.pat (k := 2) rfl) (by omega) (by omega) hy0 rfl) ?_)
 rintro e w50 ⟨_, rfl, ⟨A44, c45, B46, d47, rfl, hz48, hz49⟩, hb⟩
 refine ⟨_, rfl, ?_⟩
 clear η a; intro a η
 replace σ := ((σ.call hb).addR hz48 ⟨nou_bk rfl, nou_bk rfl, nou_bk rfl, nou_bk rfl, nou_bk rfl, nou_bk rfl, nou_bk rfl, nou_bk rfl, trivial⟩).addR hz49 ⟨nou_bk rfl, nou_bk rfl, nou_bk rfl, nou_bk rfl, nou_bk rfl, nou_bk rfl, nou_bk rfl, nou_bk rfl, trivial⟩
 clear hz48 hz49
 clear hb
 refine ⟨.inr ⟨σ.kn.pick [0, 1, 2, 3, 4, 7] (rg 2 6), .inr (σ.kn.pick [] [])⟩, ?_⟩
 refine sAny_one (i := 4) (by kernel_rfl) rfl rfl (op_store (k := 6) (c' := #[.bool (neg (qn (Rat.divInt z y))), .slice A33 (zl (qn (Rat.divInt z y))) c34, .bool (neg (ql (Rat.divInt z y))), .slice B35 (zl (ql (Rat.divInt z y))) d36]) η σ (ty_anvil_ratio_Rat.size) rfl rfl rfl rfl (by simp) rfl rfl ?_)
 clear η σ a; intro a w51 η σ
 refine ⟨.inr ⟨σ.kn.pick [0, 1, 2, 3, 4, 7] (rg 2 6), .inl rfl⟩, ?_⟩
 refine sAny_one (i := 5) (by kernel_rfl) rfl rfl (op_store (k := 5) (c' := #[.bool (neg (qn (Rat.divInt z y))), .slice A44 (dl (qn (Rat.divInt z y))) c45, .bool (neg (qd (Rat.divInt z y))), .slice B46 (dl (qd (Rat.divInt z y))) d47]) η σ (ty_anvil_anvilref03_Rat.size) rfl rfl rfl rfl (by simp) rfl rfl ?_)
 clear η σ a; intro a w52 η σ
 refine ⟨.inr ⟨σ.kn.pick [0, 1, 2, 3, 4, 7] (rg 2 6), .inl rfl⟩, ?_⟩
 refine tA (i := 6) [] (v := .bool true) rfl (by kernel_rfl) (fun _ _ _ h => h) η rfl (fun _ => rn_assign η rfl) ?_
 clear η a; intro a η
 refine sAny_done (by kernel_rfl) ?_ _
 refine th_n (wp_ret ?_)
 refine leave η (res3 Tryd.results69 (RV.cell η ty_anvil_ratio_Rat rfl (σ.oat (k := 6) rfl) rfl) (RV.cell η ty_anvil_anvilref03_Rat rfl (σ.oat (k := 5) rfl) rfl) (RV.tmp η rfl)) ?_
 exact ⟨_, _, rfl, q_at rfl rfl (σ.pat (k := 3) rfl) (σ.pat (k := 2) rfl), y_at rfl rfl (σ.pat (k := 1) rfl) (σ.pat (k := 0) rfl), σ.below⟩
theorem rat_zero {s t : List UInt8} {z y ps qs bs pt qt bt : Int} {w0 : World} (hs : RdAs s z ps qs bs) (ht : RdAs t y pt qt bt) (u1 : bs < 0) (u2 : bt < 0) (hy0 : y = 0) :
  Calls Tryd.prog 69 #[.agg #[.string ⟨s.toArray⟩, .string ⟨t.toArray⟩]] w0 fun e w' => e = .returned (.tuple #[.agg #[.bool (neg (qn 0)), .slice none (zl (qn 0)) 0, .bool (neg (ql 0)), .slice none (zl (ql 0)) 0], .agg #[.bool (neg 0), .slice none (dl 0) 0, .bool (neg 0), .slice none (dl 0) 0], .bool false]) ∧ Below w0.heap.size w0 w' := by
 refine enter Tryd.func69 rfl Tryd.ntmps69 rfl ?_
 intro a η σ
 refine wp_seq (region_seq ?_)
 refine seq_step rfl (op_box (c := #[.string ⟨s.toArray⟩, .string ⟨t.toArray⟩]) η σ rfl rfl rfl ?_)
 clear η σ a; intro a w2 g1 η σ
 refine seq_step rfl (op_alloc (c := #[.bool (neg (qn 0)), .slice none (zl (qn 0)) 0, .bool (neg (ql 0)), .slice none (zl (ql 0)) 0]) η σ rfl zero_anvil_ratio_Rat qcells ?_)
 clear η σ a; intro a w4 g3 η σ
 refine seq_step rfl (op_alloc (c := #[.bool false, .slice none 0 0, .bool false, .slice none 0 0]) η σ rfl zero_anvil_anvilref03_Rat rfl ?_)
 clear η σ a; intro a w6 g5 η σ
 refine sv (v := .bool false) η rfl (rn_assign η rfl) ?_
 clear η a; intro a η
 refine wpList_nil (th_n (wp_seq (region_seq ?_)))
 refine sv (v := .agg #[.string ⟨s.toArray⟩, .string ⟨t.toArray⟩]) η rfl (rn_load0 η ty_anvil_anvillaw03_Frac rfl (σ.oat (k := 2) rfl) rfl) ?_
 clear η a; intro a η
 refine seq_step rfl (op_call η rfl Tryd.call120 rfl (numbers_ok hs ht u1 u2) ?_)
 rintro e w19 ⟨_, _, _, _, rfl, ⟨A7, c8, rfl, hz9⟩, ⟨A10, c11, rfl, hz12⟩, ⟨A13, c14, rfl, hz15⟩, ⟨A16, c17, rfl, hz18⟩, hb⟩
 refine ⟨_, rfl, ?_⟩
 clear η a; intro a η
 replace σ := ((((σ.call hb).addZ hz9 ⟨nou_bk rfl, nou_bk rfl, nou_bk rfl, trivial⟩).addZ hz12 ⟨nou_bk rfl, nou_bk rfl, nou_bk rfl, trivial⟩).addR hz15 ⟨nou_bk rfl, nou_bk rfl, nou_bk rfl, trivial⟩).addR hz18 ⟨nou_bk rfl, nou_bk rfl, nou_bk rfl, trivial⟩
 clear hz9 hz12 hz15 hz18
 clear hb
 revert a
 refine mA rfl rfl ?_
 refine sA (v := .agg #[.bool (neg z), .slice A7 (zl z) c8]) rfl (fun _ η => rn_extract η rfl rfl) ?_
 refine sA (v := .agg #[.bool (neg y), .slice A10 (zl y) c11]) rfl (fun _ η => rn_extract η rfl rfl) ?_
 refine sA (v := .agg #[.bool (neg z), .slice A13 (dl z) c14]) rfl (fun _ η => rn_extract η rfl rfl) ?_
 refine sA (v := .agg #[.bool (neg y), .slice A16 (dl y) c17]) rfl (fun _ η => rn_extract η rfl rfl) ?_
 refine sA (v := .bool true) rfl (fun _ η => rn_extract η rfl rfl) ?_
 intro a η
 refine seq_step rfl (op_alloc (c := #[.bool (neg 0), .slice none (zl 0) 0]) η σ rfl zero_anvil_integer_Int zcells ?_)
 clear η σ a; intro a w21 g20 η σ
 refine seq_step rfl (op_alloc (c := #[.bool (neg 0), .slice none (zl 0) 0]) η σ rfl zero_anvil_integer_Int zcells ?_)
 clear η σ a; intro a w23 g22 η σ
 refine seq_step rfl (op_alloc (c := #[.bool (neg 0), .slice none (dl 0) 0]) η σ rfl zero_anvil_anvilref02_Int rcells ?_)
 clear η σ a; intro a w25 g24 η σ
 refine seq_step rfl (op_alloc (c := #[.bool (neg 0), .slice none (dl 0) 0]) η σ rfl zero_anvil_anvilref02_Int rcells ?_)
 clear η σ a; intro a w27 g26 η σ
 refine seq_step rfl (op_store (k := 3) (c' := #[.bool (neg z), .slice A7 (zl z) c8]) η σ (ty_anvil_integer_Int.size) rfl rfl rfl rfl (by simp) rfl rfl ?_)
 clear η σ a; intro a w28 η σ
 refine seq_step rfl (op_store (k := 2) (c' := #[.bool (neg y), .slice A10 (zl y) c11]) η σ (ty_anvil_integer_Int.size) rfl rfl rfl rfl (by simp) rfl rfl ?_)
 clear η σ a; intro a w29 η σ
 refine seq_step rfl (op_store (k := 1) (c' := #[.bool (neg z), .slice A13 (dl z) c14]) η σ (ty_anvil_anvilref02_Int.size) rfl rfl rfl rfl (by simp) rfl rfl ?_)
 clear η σ a; intro a w30 η σ
 refine seq_step rfl (op_store (k := 0) (c' := #[.bool (neg y), .slice A16 (dl y) c17]) η σ (ty_anvil_anvilref02_Int.size) rfl rfl rfl rfl (by simp) rfl rfl ?_)
 clear η σ a; intro a w31 η σ
 refine sv (v := .bool true) η rfl (rn_assign η rfl) ?_
 clear η a; intro a η
 refine wpList_nil (th_n (wp_seq (wp_seq (region_seq ?_))))
 revert a
 refine mA rfl rfl ?_
 refine sA (v := .bool false) rfl (fun _ η => rn_un η rfl rfl) ?_
 refine mA rfl rfl ?_
 refine gA (v := .agg #[.bool (neg y), .slice A16 (dl y) c17]) rfl rfl rfl rfl (fun _ η => rn_load0 η ty_anvil_anvilref02_Int rfl (σ.oat (k := 0) rfl) rfl) ?_
 intro a η
 refine seq_g rfl η rfl rfl (op_call η rfl Tryd.call82 rfl (sign_r (z := y)) ?_)
 rintro e w32 ⟨rfl, hb⟩
 refine ⟨_, rfl, ?_⟩
 clear η a; intro a η
 replace σ := σ.call hb
 clear hb
 refine seq_g rfl η rfl rfl (op_val (v := .bool (y.sign == (0 : Int))) η rfl (rn_bin η rfl rfl rfl) ?_)
 clear η a; intro a η
 rw [show (y.sign == (0 : Int)) = true from (by rw [hy0]; rfl)] at η
 refine sv (v := .bool true) η rfl (rn_pick η rfl rfl) ?_
 clear η a; intro a η
 refine wpList_nil (th_n ?_)
 refine if_t η rfl (rfl) ?_
 refine wp_seq (region_seq ?_)
 revert a
 refine sA (v := .agg #[.bool (neg (qn 0)), .slice none (zl (qn 0)) 0, .bool (neg (ql 0)), .slice none (zl (ql 0)) 0]) rfl (fun _ η => rn_zrat) ?_
 refine sA (v := .agg #[.bool (neg 0), .slice none (dl 0) 0, .bool (neg 0), .slice none (dl 0) 0]) rfl (fun _ η => rn_yrat0) ?_
 intro a η
 refine seq_step rfl (op_store (k := 5) (c' := #[.bool (neg (qn 0)), .slice none (zl (qn 0)) 0, .bool (neg (ql 0)), .slice none (zl (ql 0)) 0]) η σ (ty_anvil_ratio_Rat.size) rfl rfl rfl rfl (by simp) rfl rfl ?_)
 clear η σ a; intro a w33 η σ
 refine seq_step rfl (op_store (k := 4) (c' := #[.bool (neg 0), .slice none (dl 0) 0, .bool (neg 0), .slice none (dl 0) 0]) η σ (ty_anvil_anvilref03_Rat.size) rfl rfl rfl rfl (by simp) rfl rfl ?_)
 clear η σ a; intro a w34 η σ
 refine sv (v := .bool false) η rfl (rn_assign η rfl) ?_
 clear η a; intro a η
 refine wpList_nil (th_n (wp_ret (th_r ?_)))
 refine leave η (res3 Tryd.results69 (RV.cell η ty_anvil_ratio_Rat rfl (σ.oat (k := 5) rfl) rfl) (RV.cell η ty_anvil_anvilref03_Rat rfl (σ.oat (k := 4) rfl) rfl) (RV.tmp η rfl)) ?_
 exact ⟨rfl, σ.below⟩
theorem rat_no {s t : List UInt8} {z y ps qs bs pt qt bt : Int} {w0 : World} (hs : RdAs s z ps qs bs) (ht : RdAs t y pt qt bt) (g : ¬ (bs < 0 ∧ bt < 0)) :
  Calls Tryd.prog 69 #[.agg #[.string ⟨s.toArray⟩, .string ⟨t.toArray⟩]] w0 fun e w' => e = .returned (.tuple #[.agg #[.bool (neg (qn 0)), .slice none (zl (qn 0)) 0, .bool (neg (ql 0)), .slice none (zl (ql 0)) 0], .agg #[.bool (neg 0), .slice none (dl 0) 0, .bool (neg 0), .slice none (dl 0) 0], .bool false]) ∧ Below w0.heap.size w0 w' := by
 refine enter Tryd.func69 rfl Tryd.ntmps69 rfl ?_
 intro a η σ
 refine wp_seq (region_seq ?_)
 refine seq_step rfl (op_box (c := #[.string ⟨s.toArray⟩, .string ⟨t.toArray⟩]) η σ rfl rfl rfl ?_)
 clear η σ a; intro a w2 g1 η σ
 refine seq_step rfl (op_alloc (c := #[.bool (neg (qn 0)), .slice none (zl (qn 0)) 0, .bool (neg (ql 0)), .slice none (zl (ql 0)) 0]) η σ rfl zero_anvil_ratio_Rat qcells ?_)
 clear η σ a; intro a w4 g3 η σ
 refine seq_step rfl (op_alloc (c := #[.bool false, .slice none 0 0, .bool false, .slice none 0 0]) η σ rfl zero_anvil_anvilref03_Rat rfl ?_)
 clear η σ a; intro a w6 g5 η σ
 refine sv (v := .bool false) η rfl (rn_assign η rfl) ?_
 clear η a; intro a η
 refine wpList_nil (th_n (wp_seq (region_seq ?_)))
 refine sv (v := .agg #[.string ⟨s.toArray⟩, .string ⟨t.toArray⟩]) η rfl (rn_load0 η ty_anvil_anvillaw03_Frac rfl (σ.oat (k := 2) rfl) rfl) ?_
 clear η a; intro a η
 refine seq_step rfl (op_call η rfl Tryd.call120 rfl (numbers_no hs ht g) ?_)
 rintro e w19 ⟨_, _, _, _, rfl, ⟨A7, c8, rfl, hz9⟩, ⟨A10, c11, rfl, hz12⟩, ⟨A13, c14, rfl, hz15⟩, ⟨A16, c17, rfl, hz18⟩, hb⟩
 refine ⟨_, rfl, ?_⟩
 clear η a; intro a η
 replace σ := ((((σ.call hb).addZ hz9 ⟨nou_bk rfl, nou_bk rfl, nou_bk rfl, trivial⟩).addZ hz12 ⟨nou_bk rfl, nou_bk rfl, nou_bk rfl, trivial⟩).addR hz15 ⟨nou_bk rfl, nou_bk rfl, nou_bk rfl, trivial⟩).addR hz18 ⟨nou_bk rfl, nou_bk rfl, nou_bk rfl, trivial⟩
 clear hz9 hz12 hz15 hz18
 clear hb
 revert a
 refine mA rfl rfl ?_
 refine sA (v := .agg #[.bool (neg 0), .slice A7 (zl 0) c8]) rfl (fun _ η => rn_extract η rfl rfl) ?_
 refine sA (v := .agg #[.bool (neg 0), .slice A10 (zl 0) c11]) rfl (fun _ η => rn_extract η rfl rfl) ?_
 refine sA (v := .agg #[.bool (neg z), .slice A13 (dl z) c14]) rfl (fun _ η => rn_extract η rfl rfl) ?_
 refine sA (v := .agg #[.bool (neg y), .slice A16 (dl y) c17]) rfl (fun _ η => rn_extract η rfl rfl) ?_
 refine sA (v := .bool false) rfl (fun _ η => rn_extract η rfl rfl) ?_
 intro a η
 refine seq_step rfl (op_alloc (c := #[.bool (neg 0), .slice none (zl 0) 0]) η σ rfl zero_anvil_integer_Int zcells ?_)
 clear η σ a; intro a w21 g20 η σ
 refine seq_step rfl (op_alloc (c := #[.bool (neg 0), .slice none (zl 0) 0]) η σ rfl zero_anvil_integer_Int zcells ?_)
 clear η σ a; intro a w23 g22 η σ
 refine seq_step rfl (op_alloc (c := #[.bool (neg 0), .slice none (dl 0) 0]) η σ rfl zero_anvil_anvilref02_Int rcells ?_)
 clear η σ a; intro a w25 g24 η σ
 refine seq_step rfl (op_alloc (c := #[.bool (neg 0), .slice none (dl 0) 0]) η σ rfl zero_anvil_anvilref02_Int rcells ?_)
 clear η σ a; intro a w27 g26 η σ
 refine seq_step rfl (op_store (k := 3) (c' := #[.bool (neg 0), .slice A7 (zl 0) c8]) η σ (ty_anvil_integer_Int.size) rfl rfl rfl rfl (by simp) rfl rfl ?_)
 clear η σ a; intro a w28 η σ
 refine seq_step rfl (op_store (k := 2) (c' := #[.bool (neg 0), .slice A10 (zl 0) c11]) η σ (ty_anvil_integer_Int.size) rfl rfl rfl rfl (by simp) rfl rfl ?_)
 clear η σ a; intro a w29 η σ
 refine seq_step rfl (op_store (k := 1) (c' := #[.bool (neg z), .slice A13 (dl z) c14]) η σ (ty_anvil_anvilref02_Int.size) rfl rfl rfl rfl (by simp) rfl rfl ?_)
 clear η σ a; intro a w30 η σ
 refine seq_step rfl (op_store (k := 0) (c' := #[.bool (neg y), .slice A16 (dl y) c17]) η σ (ty_anvil_anvilref02_Int.size) rfl rfl rfl rfl (by simp) rfl rfl ?_)
 clear η σ a; intro a w31 η σ
 refine sv (v := .bool false) η rfl (rn_assign η rfl) ?_
 clear η a; intro a η
 refine wpList_nil (th_n (wp_seq (wp_seq (region_seq ?_))))
 revert a
 refine mA rfl rfl ?_
 refine sA (v := .bool true) rfl (fun _ η => rn_un η rfl rfl) ?_
 refine mA rfl rfl ?_
 refine kA rfl rfl rfl rfl rfl ?_
 refine kA rfl rfl rfl rfl rfl ?_
 refine kA rfl rfl rfl rfl rfl ?_
 refine sA (v := .bool true) rfl (fun _ η => rn_pick η rfl rfl) ?_
 intro a η
 refine wpList_nil (th_n ?_)
 refine if_t η rfl (rfl) ?_
 refine wp_seq (region_seq ?_)
 revert a
 refine sA (v := .agg #[.bool (neg (qn 0)), .slice none (zl (qn 0)) 0, .bool (neg (ql 0)), .slice none (zl (ql 0)) 0]) rfl (fun _ η => rn_zrat) ?_
 refine sA (v := .agg #[.bool (neg 0), .slice none (dl 0) 0, .bool (neg 0), .slice none (dl 0) 0]) rfl (fun _ η => rn_yrat0) ?_
 intro a η
 refine seq_step rfl (op_store (k := 5) (c' := #[.bool (neg (qn 0)), .slice none (zl (qn 0)) 0, .bool (neg (ql 0)), .slice none (zl (ql 0)) 0]) η σ (ty_anvil_ratio_Rat.size) rfl rfl rfl rfl (by simp) rfl rfl ?_)
 clear η σ a; intro a w32 η σ
 refine seq_step rfl (op_store (k := 4) (c' := #[.bool (neg 0), .slice none (dl 0) 0, .bool (neg 0), .slice none (dl 0) 0]) η σ (ty_anvil_anvilref03_Rat.size) rfl rfl rfl rfl (by simp) rfl rfl ?_)
 clear η σ a; intro a w33 η σ
 refine sv (v := .bool false) η rfl (rn_assign η rfl) ?_
 clear η a; intro a η
 refine wpList_nil (th_n (wp_ret (th_r ?_)))
 refine leave η (res3 Tryd.results69 (RV.cell η ty_anvil_ratio_Rat rfl (σ.oat (k := 5) rfl) rfl) (RV.cell η ty_anvil_anvilref03_Rat rfl (σ.oat (k := 4) rfl) rfl) (RV.tmp η rfl)) ?_
 exact ⟨rfl, σ.below⟩
def RatAs (s t : List UInt8) (x : Rat) : Prop := ∀ w0 : World,
  Calls Tryd.prog 69 #[.agg #[.string ⟨s.toArray⟩, .string ⟨t.toArray⟩]] w0 fun e w' => (∃ v u, e = .returned (.tuple #[v, u, .bool true]) ∧ QAt w' v x ∧ YAt w' u x) ∧ Below w0.heap.size w0 w'
def RatNo (s t : List UInt8) : Prop := ∀ w0 : World,
  Calls Tryd.prog 69 #[.agg #[.string ⟨s.toArray⟩, .string ⟨t.toArray⟩]] w0 fun e w' => e = .returned (.tuple #[.agg #[.bool (neg (qn 0)), .slice none (zl (qn 0)) 0, .bool (neg (ql 0)), .slice none (zl (ql 0)) 0], .agg #[.bool (neg 0), .slice none (dl 0) 0, .bool (neg 0), .slice none (dl 0) 0], .bool false]) ∧ Below w0.heap.size w0 w'
theorem rat_cases {s t : List UInt8} (hl : ¬ Lg (s, t)) : RatNo s t ∨ ∃ x, RatAs s t x ∧ Qs 400 x := by
 have h1 : s.length ≤ 300 := Nat.not_lt.1 fun h => hl (.inl h)
 have h2 : t.length ≤ 300 := Nat.not_lt.1 fun h => hl (.inr h)
 obtain ⟨z, ps, qs, bs, hs, bz⟩ := reads_as s (by omega)
 obtain ⟨y, pt, qt, bt, ht, by_⟩ := reads_as t (by omega)
 have bz : zl z ≤ 400 := by omega
 have by_ : zl y ≤ 400 := by omega
 by_cases g : bs < 0 ∧ bt < 0
 ·by_cases hy0 : y = 0
  ·exact .inl fun w0 => (rat_zero hs ht g.1 g.2 hy0)
  ·exact .inr ⟨_, fun w0 => (rat_ok hs ht g.1 g.2 hy0 bz by_).mono fun _ _ ⟨v, u, he, h1, h2, hB⟩ => ⟨⟨v, u, he, h1, h2⟩, hB⟩, qs_make bz by_ hy0⟩
 ·exact .inl fun w0 => (rat_no hs ht g)
end Go.Proofs.YtegglooojlheoaaDoor.W
