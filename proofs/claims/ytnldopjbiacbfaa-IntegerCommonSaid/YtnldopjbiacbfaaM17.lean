/- integer.Bezout of a number that is not 0. No condition. Printed by pv/gen_bez.py. -/
import Derived.Test.YtnldopjbiacbfaaM13
import Derived.Test.YtnldopjbiacbfaaM16
import Derived.Test.YtnldopjbiacbfaaM11

namespace Go.Proofs.Ytnldopjbiacbfaa
open Go.RowKit Anv

/-- What Bezout answers of a number that is not 0. -/
def BzPost (w : World) (x y : Int) (e : Ending) (w' : World) : Prop :=
  ∃ v1 v2 v3 u v, e = .returned (.tuple #[v1, v2, v3]) ∧ ZAt w' v1 (Int.gcd x y : Int) ∧ ZAt w' v2 u ∧ ZAt w' v3 v ∧ 0 ≤ u ∧ u < (y.natAbs : Int) / (Int.gcd x y : Int) ∧ u * x + v * y = (Int.gcd x y : Int) ∧ Below w.heap.size w w'

theorem sign_zero (z : Int) : z.sign = 0 ↔ z = 0 := Int.sign_eq_zero_iff_zero
theorem sign_lt (z : Int) : z.sign < 0 ↔ z < 0 := by
  rcases Int.lt_trichotomy z 0 with h | h | h
  · rw [Int.sign_eq_neg_one_of_neg h]; omega
  · subst h; decide
  · rw [Int.sign_eq_one_of_pos h]; omega
theorem bz_zl {x y a b u v : Int} (hy : y ≠ 0) (h : Bz x y a b u v) (hn : zl x ≤ 400) (hm : zl y ≤ 400) : zl a ≤ 1000 ∧ zl b ≤ 1000 := by
  have h := bz_size hy h
  have h1 := nl_add x.natAbs y.natAbs
  have h2 : zl a ≤ nl (x.natAbs + y.natAbs) := nl_mono h.1
  have h3 : zl b ≤ nl (x.natAbs + y.natAbs) := nl_mono h.2
  have h4 : nl x.natAbs = zl x := rfl
  have h5 : nl y.natAbs = zl y := rfl
  omega
theorem bz_zuv {x y a b u v : Int} (h : Bz x y a b u v) (hm : zl y ≤ 400) : zl u ≤ 1000 ∧ zl v ≤ 1000 := by
  have h3 := nl_mul 3 y.natAbs
  have h4 : nl 3 ≤ 1 := nl_le_of_lt (by omega)
  have h5 : zl u ≤ nl (3 * y.natAbs) := nl_mono h.ub
  have h6 : zl v ≤ nl (3 * y.natAbs) := nl_mono h.vb
  have h7 : nl y.natAbs = zl y := rfl
  omega
theorem gcd_pos {x y : Int} (hy : y ≠ 0) : (0 : Int) < (Int.gcd x y : Int) := by have := Int.gcd_pos_of_ne_zero_right x hy; omega
theorem gcd_zl {x y : Int} (hy : y ≠ 0) : zl (Int.gcd x y : Int) ≤ zl y := nl_mono (by
  have h := Int.le_of_dvd (a := (Int.gcd x y : Int)) (b := (y.natAbs : Int)) (by omega) (Int.dvd_natAbs.2 (Int.gcd_dvd_right x y))
  omega)
theorem bz_neg {x y a u : Int} (ha : -a = (Int.gcd x y : Int)) (h : y ∣ a - u * x) : y ∣ (Int.gcd x y : Int) - -u * x := by
  rw [← ha, Int.neg_mul, show -a - -(u * x) = -(a - u * x) by omega]; exact Int.dvd_neg.2 h
theorem bz_quot {x y : Int} (hy : y ≠ 0) : 0 < (y.natAbs : Int) / (Int.gcd x y : Int) := by
  have h := Int.le_of_dvd (a := (Int.gcd x y : Int)) (b := (y.natAbs : Int)) (by omega) (Int.dvd_natAbs.2 (Int.gcd_dvd_right x y))
  exact Int.ediv_pos_of_pos_of_dvd (by omega) (by have := gcd_pos (x := x) hy; omega) (Int.dvd_natAbs.2 (Int.gcd_dvd_right x y))
theorem bz_last {x y g u : Int} (h : y ∣ g - u * x) : u * x + (g - (u * x)) / y * y = g := by
  rw [Int.ediv_mul_cancel h]; omega

set_option maxRecDepth 100000 in
set_option maxHeartbeats 4000000 in
theorem bezout_z {A B : Option Addr} {c d : Nat} {x y : Int} {w0 : World} (hx : ZIn w0 A c x) (hy : ZIn w0 B d y) (hn : zl x ≤ 200) (hm : zl y ≤ 200) (hy0 : y ≠ 0) :
    Calls Try.prog 41 #[.agg #[.bool (neg x), .slice A (zl x) c], .agg #[.bool (neg y), .slice B (zl y) d]] w0 (BzPost w0 x y) := by
  have hsy : (y.sign == (0 : Int)) = false := by simpa using hy0
  refine enter Try.func41 rfl Try.ntmps41 rfl ?_
  intro a henv hst
  replace hst := hst.addZ hx rfl
  replace hst := hst.addZ hy rfl
  replace hst := hst.addZ (zin_none _) rfl
  clear hx hy
  refine wp_seq ?_
  refine region_seq ?_
  refine seq_step rfl (op_box (c := #[.bool (neg x), .slice A (zl x) c]) henv hst rfl rfl rfl ?_)
  clear henv hst a; intro a w2 g1 henv hst
  refine seq_step rfl (op_box (c := #[.bool (neg y), .slice B (zl y) d]) henv hst rfl rfl rfl ?_)
  clear henv hst a; intro a w4 g3 henv hst
  refine seq_step rfl (op_alloc (c := #[.bool (neg 0), .slice none (zl 0) 0]) henv hst rfl zero_anvil_integer_Int zcells ?_)
  clear henv hst a; intro a w6 g5 henv hst
  refine seq_step rfl (op_alloc (c := #[.bool (neg 0), .slice none (zl 0) 0]) henv hst rfl zero_anvil_integer_Int zcells ?_)
  clear henv hst a; intro a w8 g7 henv hst
  refine seq_step rfl (op_alloc (c := #[.bool (neg 0), .slice none (zl 0) 0]) henv hst rfl zero_anvil_integer_Int zcells ?_)
  clear henv hst a; intro a w10 g9 henv hst
  refine wpList_nil ?_
  refine th_n ?_
  refine wp_seq ?_
  refine wp_seq ?_
  refine region_seq ?_
  refine seq_step rfl (op_val (v := .agg #[.bool (neg y), .slice B (zl y) d]) henv rfl (rn_load0 henv ty_anvil_integer_Int rfl (hst.oat (k := 3) rfl) rfl) ?_)
  clear henv a; intro a henv
  refine seq_step rfl (op_call henv rfl Try.call11 rfl (sign_z (z := y)) ?_)
  rintro e w11 ⟨rfl, hb⟩
  refine ⟨_, rfl, ?_⟩
  clear henv a; intro a henv
  replace hst := hst.call hb
  clear hb
  refine seq_step rfl (op_val (v := .bool (y.sign == (0 : Int))) henv rfl (rn_bin henv rfl rfl rfl) ?_)
  clear henv a; intro a henv
  refine wpList_nil ?_
  refine th_n ?_
  refine if_f henv rfl (hsy) ?_
  refine wp_skip ?_
  refine th_n ?_
  refine wp_seq ?_
  refine cut (fun a w => ∃ g13 : Nat, ∃ g15 : Nat, Env 84 a [(0, .agg #[.bool (neg x), .slice A (zl x) c]), (1, .agg #[.bool (neg y), .slice B (zl y) d]), (2, .pointer (some ⟨g1, 0, none⟩)), (3, .pointer (some ⟨g3, 0, none⟩)), (4, .pointer (some ⟨g5, 0, none⟩)), (5, .pointer (some ⟨g7, 0, none⟩)), (6, .pointer (some ⟨g9, 0, none⟩)), (17, .agg #[.bool (neg y), .slice B (zl y) d]), (18, .int .i64 y.sign), (19, .bool (y.sign == (0 : Int))), (7, .pointer (some ⟨g13, 0, none⟩)), (8, .pointer (some ⟨g15, 0, none⟩))] ∧ St w0 w [⟨g15, #[.bool (neg y), .slice B (zl y) d], 28⟩, ⟨g13, #[.bool (neg x), .slice A (zl x) c], 28⟩, ⟨g9, #[.bool (neg 0), .slice none (zl 0) 0], 28⟩, ⟨g7, #[.bool (neg 0), .slice none (zl 0) 0], 28⟩, ⟨g5, #[.bool (neg 0), .slice none (zl 0) 0], 28⟩, ⟨g3, #[.bool (neg y), .slice B (zl y) d], 28⟩, ⟨g1, #[.bool (neg x), .slice A (zl x) c], 28⟩] [pfZ none 0 0, pfZ B d y, pfZ A c x]) ?_ ?_
  · refine region_any (n := 6) (Sk [⟨g9, #[.bool (neg 0), .slice none (zl 0) 0], 28⟩, ⟨g7, #[.bool (neg 0), .slice none (zl 0) 0], 28⟩, ⟨g5, #[.bool (neg 0), .slice none (zl 0) 0], 28⟩, ⟨g3, #[.bool (neg y), .slice B (zl y) d], 28⟩, ⟨g1, #[.bool (neg x), .slice A (zl x) c], 28⟩] [pfZ none 0 0, pfZ B d y, pfZ A c x] [4, 5] []) mixed rfl henv hst ?_
    clear henv hst; intro w12 henv hst
    refine sAny_take (i := 0) [4, 5] (fun w' => w'.heap[g1]? = some (.cells #[.bool (neg x), .slice A (zl x) c] 28 (0, 0))) (v := .agg #[.bool (neg x), .slice A (zl x) c]) rfl (by kernel_rfl) (fun _ _ _ h => h) (fun _ _ _ hS => hS.1.oat (k := 4) rfl) henv rfl (hst.oat (k := 4) rfl) (fun w' hg => rn_load0 henv ty_anvil_integer_Int rfl hg rfl) ?_
    clear henv a; intro a henv
    refine sAny_take (i := 1) [5] (fun w' => w'.heap[g3]? = some (.cells #[.bool (neg y), .slice B (zl y) d] 28 (0, 0))) (v := .agg #[.bool (neg y), .slice B (zl y) d]) rfl (by kernel_rfl) (fun _ _ _ h => h) (fun _ _ _ hS => hS.1.oat (k := 3) rfl) henv rfl (hst.oat (k := 3) rfl) (fun w' hg => rn_load0 henv ty_anvil_integer_Int rfl hg rfl) ?_
    clear henv a; intro a henv
    refine sAny_all (rs := [2, 3]) (by kernel_rfl) (by simp) ?_
    simp only [List.forall_mem_cons, List.not_mem_nil, false_implies, implies_true, and_true]
    refine ⟨?_, ?_⟩
    · refine ⟨_, rfl, rfl, op_alloc (c := #[.bool (neg 0), .slice none (zl 0) 0]) henv hst rfl zero_anvil_integer_Int zcells ?_⟩
      clear henv hst a; intro a w14 g13 henv hst
      refine ⟨.inr ⟨hst.kn.pick [1, 2, 3, 4, 5] [0, 1, 2], .inr (hst.kn.pick [] [])⟩, ?_⟩
      refine sAny_one (i := 3) (by kernel_rfl) rfl rfl (op_alloc (c := #[.bool (neg 0), .slice none (zl 0) 0]) henv hst rfl zero_anvil_integer_Int zcells ?_)
      clear henv hst a; intro a w16 g15 henv hst
      refine ⟨.inr ⟨hst.kn.pick [2, 3, 4, 5, 6] [0, 1, 2], .inr (hst.kn.pick [] [])⟩, ?_⟩
      refine sAny_one (i := 4) (by kernel_rfl) rfl rfl (op_store (k := 1) (c' := #[.bool (neg x), .slice A (zl x) c]) henv hst (ty_anvil_integer_Int.size) rfl rfl rfl rfl (by simp) rfl rfl ?_)
      clear henv hst a; intro a w17 henv hst
      refine ⟨.inr ⟨hst.kn.pick [2, 3, 4, 5, 6] [0, 1, 2], .inl rfl⟩, ?_⟩
      refine sAny_one (i := 5) (by kernel_rfl) rfl rfl (op_store (k := 0) (c' := #[.bool (neg y), .slice B (zl y) d]) henv hst (ty_anvil_integer_Int.size) rfl rfl rfl rfl (by simp) rfl rfl ?_)
      clear henv hst a; intro a w18 henv hst
      refine ⟨.inr ⟨hst.kn.pick [2, 3, 4, 5, 6] [0, 1, 2], .inl rfl⟩, ?_⟩
      refine sAny_done (by kernel_rfl) ?_ _
      exact th_n ⟨g13, g15, henv.sub ⟨rfl, rfl, rfl, rfl, rfl, rfl, rfl, rfl, rfl, rfl, rfl, rfl, trivial⟩, hst.pick [0, 1, 2, 3, 4, 5, 6] [0, 1, 2] (by decide)⟩
    · refine ⟨_, rfl, rfl, op_alloc (c := #[.bool (neg 0), .slice none (zl 0) 0]) henv hst rfl zero_anvil_integer_Int zcells ?_⟩
      clear henv hst a; intro a w20 g19 henv hst
      refine ⟨.inr ⟨hst.kn.pick [1, 2, 3, 4, 5] [0, 1, 2], .inr (hst.kn.pick [] [])⟩, ?_⟩
      refine sAny_one (i := 2) (by kernel_rfl) rfl rfl (op_alloc (c := #[.bool (neg 0), .slice none (zl 0) 0]) henv hst rfl zero_anvil_integer_Int zcells ?_)
      clear henv hst a; intro a w22 g21 henv hst
      refine ⟨.inr ⟨hst.kn.pick [2, 3, 4, 5, 6] [0, 1, 2], .inr (hst.kn.pick [] [])⟩, ?_⟩
      refine sAny_one (i := 4) (by kernel_rfl) rfl rfl (op_store (k := 0) (c' := #[.bool (neg x), .slice A (zl x) c]) henv hst (ty_anvil_integer_Int.size) rfl rfl rfl rfl (by simp) rfl rfl ?_)
      clear henv hst a; intro a w23 henv hst
      refine ⟨.inr ⟨hst.kn.pick [2, 3, 4, 5, 6] [0, 1, 2], .inl rfl⟩, ?_⟩
      refine sAny_one (i := 5) (by kernel_rfl) rfl rfl (op_store (k := 1) (c' := #[.bool (neg y), .slice B (zl y) d]) henv hst (ty_anvil_integer_Int.size) rfl rfl rfl rfl (by simp) rfl rfl ?_)
      clear henv hst a; intro a w24 henv hst
      refine ⟨.inr ⟨hst.kn.pick [2, 3, 4, 5, 6] [0, 1, 2], .inl rfl⟩, ?_⟩
      refine sAny_done (by kernel_rfl) ?_ _
      exact th_n ⟨g21, g19, henv.sub ⟨rfl, rfl, rfl, rfl, rfl, rfl, rfl, rfl, rfl, rfl, rfl, rfl, trivial⟩, hst.pick [1, 0, 2, 3, 4, 5, 6] [0, 1, 2] (by decide)⟩
  clear henv hst a
  rintro a w25 ⟨g13, g15, henv, hst⟩
  refine wp_seq ?_
  refine region_seq ?_
  refine seq_step rfl (op_call henv rfl Try.call31 rfl (of_z (n := (1 : Int)) (by omega) (by omega)) ?_)
  rintro e w29 ⟨_, rfl, ⟨A26, c27, rfl, hz28⟩, hb⟩
  refine ⟨_, rfl, ?_⟩
  clear henv a; intro a henv
  replace hst := (hst.call hb).addZ hz28 rfl
  clear hz28
  clear hb
  refine seq_step rfl (op_val (v := .agg #[.bool (neg 0), .slice none (zl 0) 0]) henv rfl (rn_zint Try.underlying28 zero_anvil_integer_Int (by intro f hf; simp at hf; rcases hf with rfl | rfl <;> exact ⟨_, rfl⟩)) ?_)
  clear henv a; intro a henv
  refine seq_step rfl (op_alloc (c := #[.bool (neg 0), .slice none (zl 0) 0]) henv hst rfl zero_anvil_integer_Int zcells ?_)
  clear henv hst a; intro a w31 g30 henv hst
  refine seq_step rfl (op_alloc (c := #[.bool (neg 0), .slice none (zl 0) 0]) henv hst rfl zero_anvil_integer_Int zcells ?_)
  clear henv hst a; intro a w33 g32 henv hst
  refine seq_step rfl (op_store (k := 1) (c' := #[.bool (neg 1), .slice A26 (zl 1) c27]) henv hst (ty_anvil_integer_Int.size) rfl rfl rfl rfl (by simp) rfl rfl ?_)
  clear henv hst a; intro a w34 henv hst
  refine seq_step rfl (op_store (k := 0) (c' := #[.bool (neg 0), .slice none (zl 0) 0]) henv hst (ty_anvil_integer_Int.size) rfl rfl rfl rfl (by simp) rfl rfl ?_)
  clear henv hst a; intro a w35 henv hst
  refine wpList_nil ?_
  refine th_n ?_
  refine wp_seq ?_
  refine wp_block ?_
  refine wp_loop_ghost (fun n a w => ∃ p : Int, ∃ q : Int, ∃ u : Int, ∃ v : Int, ∃ gx : Nat, ∃ gy : Nat, ∃ gr : Nat, ∃ gs : Nat, ∃ gt : Nat, ∃ ga : Nat, ∃ gb : Nat, ∃ gu : Nat, ∃ gv : Nat, ∃ A7 : Option Addr, ∃ A8 : Option Addr, ∃ A9 : Option Addr, ∃ A10 : Option Addr, ∃ c7 : Nat, ∃ c8 : Nat, ∃ c9 : Nat, ∃ c10 : Nat, q.natAbs = n ∧ Env 84 a [(2, .pointer (some ⟨gx, 0, none⟩)), (3, .pointer (some ⟨gy, 0, none⟩)), (4, .pointer (some ⟨gr, 0, none⟩)), (5, .pointer (some ⟨gs, 0, none⟩)), (6, .pointer (some ⟨gt, 0, none⟩)), (7, .pointer (some ⟨ga, 0, none⟩)), (8, .pointer (some ⟨gb, 0, none⟩)), (9, .pointer (some ⟨gu, 0, none⟩)), (10, .pointer (some ⟨gv, 0, none⟩))] ∧ St w0 w [⟨gx, #[.bool (neg x), .slice A (zl x) c], 28⟩, ⟨gy, #[.bool (neg y), .slice B (zl y) d], 28⟩, ⟨gr, #[.bool (neg 0), .slice none (zl 0) 0], 28⟩, ⟨gs, #[.bool (neg 0), .slice none (zl 0) 0], 28⟩, ⟨gt, #[.bool (neg 0), .slice none (zl 0) 0], 28⟩, ⟨ga, #[.bool (neg p), .slice A7 (zl p) c7], 28⟩, ⟨gb, #[.bool (neg q), .slice A8 (zl q) c8], 28⟩, ⟨gu, #[.bool (neg u), .slice A9 (zl u) c9], 28⟩, ⟨gv, #[.bool (neg v), .slice A10 (zl v) c10], 28⟩] [pfZ A c x, pfZ B d y, pfZ none 0 0, pfZ A7 c7 p, pfZ A8 c8 q, pfZ A9 c9 u, pfZ A10 c10 v] ∧ Bz x y p q u v) _ ⟨x, y, 1, 0, g1, g3, g5, g7, g9, g13, g15, g30, g32, A, B, A26, none, c, d, c27, 0, rfl, henv.sub ⟨rfl, rfl, rfl, rfl, rfl, rfl, rfl, rfl, rfl, trivial⟩, hst.pick [8, 7, 6, 5, 4, 3, 2, 1, 0] [3, 2, 1, 3, 2, 0, 1] (by decide), bz_start hy0⟩ ?_
  clear henv hst a
  rintro n a w36 ⟨p, q, u, v, gx, gy, gr, gs, gt, ga, gb, gu, gv, A7, A8, A9, A10, c7, c8, c9, c10, rfl, henv, hst, hI⟩
  refine wp_seq ?_
  refine wp_seq ?_
  refine region_seq ?_
  refine seq_step rfl (op_val (v := .agg #[.bool (neg q), .slice A8 (zl q) c8]) henv rfl (rn_load0 henv ty_anvil_integer_Int rfl (hst.oat (k := 6) rfl) rfl) ?_)
  clear henv a; intro a henv
  refine seq_step rfl (op_call henv rfl Try.call11 rfl (sign_z (z := q)) ?_)
  rintro e w37 ⟨rfl, hb⟩
  refine ⟨_, rfl, ?_⟩
  clear henv a; intro a henv
  replace hst := hst.call hb
  clear hb
  refine seq_step rfl (op_val (v := .bool (q.sign != (0 : Int))) henv rfl (rn_bin henv rfl rfl rfl) ?_)
  clear henv a; intro a henv
  refine wpList_nil ?_
  refine th_n ?_
  refine if_split henv rfl (fun hc38 => ?_) (fun hc38 => ?_)
  · have hb0 : q ≠ 0 := by rintro rfl; exact absurd hc38 (by decide)
    have hsz : zl p ≤ 1000 ∧ zl q ≤ 1000 := bz_zl hy0 hI (by omega) (by omega)
    have huv : zl u ≤ 1000 ∧ zl v ≤ 1000 := bz_zuv hI (by omega)
    have hql : zl (p / q) ≤ 1000 := Nat.le_trans (zl_ediv p q) hsz.1
    have hqv : zl ((p / q) * v) ≤ 2000 := by have := zl_mul (p / q) v; omega
    have hI2 := bz_step hy0 hI hb0
    have hlt : (p % q).natAbs < q.natAbs := by have h1 := Int.emod_nonneg p hb0; have h2 := Int.emod_lt p hb0; omega
    refine wp_skip ?_
    refine th_n ?_
    refine wp_block ?_
    refine wp_seq ?_
    refine region_seq ?_
    refine seq_step rfl (op_val (v := .agg #[.bool (neg p), .slice A7 (zl p) c7]) henv rfl (rn_load0 henv ty_anvil_integer_Int rfl (hst.oat (k := 5) rfl) rfl) ?_)
    clear henv a; intro a henv
    refine seq_step rfl (op_val (v := .agg #[.bool (neg q), .slice A8 (zl q) c8]) henv rfl (rn_load0 henv ty_anvil_integer_Int rfl (hst.oat (k := 6) rfl) rfl) ?_)
    clear henv a; intro a henv
    refine seq_step rfl (op_call henv rfl Try.call36 rfl (divmod_z (x := p) (y := q) (show ZIn _ A7 c7 p from hst.pat (k := 3) rfl) (show ZIn _ A8 c8 q from hst.pat (k := 4) rfl) (by omega) (by omega) hb0) ?_)
    rintro e w45 ⟨_, _, rfl, ⟨A39, c40, rfl, hz41⟩, ⟨A42, c43, rfl, hz44⟩, hb⟩
    refine ⟨_, rfl, ?_⟩
    clear henv a; intro a henv
    replace hst := ((hst.call hb).addZ hz41 rfl).addZ hz44 rfl
    clear hz41 hz44
    clear hb
    refine seq_step rfl (op_val (v := .tuple #[.agg #[.bool (neg (p / q)), .slice A39 (zl (p / q)) c40], .agg #[.bool (neg (p % q)), .slice A42 (zl (p % q)) c43], .int .i64 0]) henv rfl (rn_move henv rfl) ?_)
    clear henv a; intro a henv
    refine seq_step rfl (op_val (v := .agg #[.bool (neg (p / q)), .slice A39 (zl (p / q)) c40]) henv rfl (rn_extract henv rfl rfl) ?_)
    clear henv a; intro a henv
    refine seq_step rfl (op_val (v := .agg #[.bool (neg (p % q)), .slice A42 (zl (p % q)) c43]) henv rfl (rn_extract henv rfl rfl) ?_)
    clear henv a; intro a henv
    refine seq_step rfl (op_val (v := .int .i64 0) henv rfl (rn_extract henv rfl rfl) ?_)
    clear henv a; intro a henv
    refine seq_step rfl (op_alloc (c := #[.bool (neg 0), .slice none (zl 0) 0]) henv hst rfl zero_anvil_integer_Int zcells ?_)
    clear henv hst a; intro a w47 g46 henv hst
    refine seq_step rfl (op_alloc (c := #[.bool (neg 0), .slice none (zl 0) 0]) henv hst rfl zero_anvil_integer_Int zcells ?_)
    clear henv hst a; intro a w49 g48 henv hst
    refine seq_step rfl (op_store (k := 1) (c' := #[.bool (neg (p / q)), .slice A39 (zl (p / q)) c40]) henv hst (ty_anvil_integer_Int.size) rfl rfl rfl rfl (by simp) rfl rfl ?_)
    clear henv hst a; intro a w50 henv hst
    refine seq_step rfl (op_store (k := 0) (c' := #[.bool (neg (p % q)), .slice A42 (zl (p % q)) c43]) henv hst (ty_anvil_integer_Int.size) rfl rfl rfl rfl (by simp) rfl rfl ?_)
    clear henv hst a; intro a w51 henv hst
    refine seq_step rfl (op_val (v := .int .i64 0) henv rfl (rn_assign henv rfl) ?_)
    clear henv a; intro a henv
    refine wpList_nil ?_
    refine th_n ?_
    refine wp_seq ?_
    refine region_any (n := 4) (Sk [⟨g48, #[.bool (neg (p % q)), .slice A42 (zl (p % q)) c43], 28⟩, ⟨g46, #[.bool (neg (p / q)), .slice A39 (zl (p / q)) c40], 28⟩, ⟨gx, #[.bool (neg x), .slice A (zl x) c], 28⟩, ⟨gy, #[.bool (neg y), .slice B (zl y) d], 28⟩, ⟨gr, #[.bool (neg 0), .slice none (zl 0) 0], 28⟩, ⟨gs, #[.bool (neg 0), .slice none (zl 0) 0], 28⟩, ⟨gt, #[.bool (neg 0), .slice none (zl 0) 0], 28⟩, ⟨gu, #[.bool (neg u), .slice A9 (zl u) c9], 28⟩, ⟨gv, #[.bool (neg v), .slice A10 (zl v) c10], 28⟩] [pfZ A42 c43 (p % q), pfZ A39 c40 (p / q), pfZ A c x, pfZ B d y, pfZ none 0 0, pfZ A7 c7 p, pfZ A8 c8 q, pfZ A9 c9 u, pfZ A10 c10 v] [2, 3] [⟨gb, #[.bool (neg q), .slice A8 (zl q) c8], 28⟩]) mixed rfl henv hst ?_
    clear henv hst; intro w52 henv hst
    refine sAny_take (i := 0) [2, 3] (fun w' => w'.heap[gb]? = some (.cells #[.bool (neg q), .slice A8 (zl q) c8] 28 (0, 0))) (v := .agg #[.bool (neg q), .slice A8 (zl q) c8]) rfl (by kernel_rfl) (fun _ _ _ h => h) (fun _ _ hj hS => (hS.two rfl hj).oat (k := 0) rfl) henv rfl (hst.oat (k := 8) rfl) (fun w' hg => rn_load0 henv ty_anvil_integer_Int rfl hg rfl) ?_
    clear henv a; intro a henv
    refine sAny_take (i := 1) [3] (fun w' => w'.heap[g48]? = some (.cells #[.bool (neg (p % q)), .slice A42 (zl (p % q)) c43] 28 (0, 0))) (v := .agg #[.bool (neg (p % q)), .slice A42 (zl (p % q)) c43]) rfl (by kernel_rfl) (fun _ _ _ h => h) (fun _ _ _ hS => hS.1.oat (k := 0) rfl) henv rfl (hst.oat (k := 0) rfl) (fun w' hg => rn_load0 henv ty_anvil_integer_Int rfl hg rfl) ?_
    clear henv a; intro a henv
    refine sAny_one (i := 2) (by kernel_rfl) rfl rfl (op_store (k := 7) (c' := #[.bool (neg q), .slice A8 (zl q) c8]) henv hst (ty_anvil_integer_Int.size) rfl rfl rfl rfl (by simp) rfl rfl ?_)
    clear henv hst a; intro a w53 henv hst
    refine ⟨.inr ⟨hst.kn.pick [0, 1, 2, 3, 4, 5, 6, 9, 10] [0, 1, 2, 3, 4, 5, 6, 7, 8], .inl rfl⟩, ?_⟩
    refine sAny_one (i := 3) (by kernel_rfl) rfl rfl (op_store (k := 8) (c' := #[.bool (neg (p % q)), .slice A42 (zl (p % q)) c43]) henv hst (ty_anvil_integer_Int.size) rfl rfl rfl rfl (by simp) rfl rfl ?_)
    clear henv hst a; intro a w54 henv hst
    refine ⟨.inr ⟨hst.kn.pick [0, 1, 2, 3, 4, 5, 6, 9, 10] [0, 1, 2, 3, 4, 5, 6, 7, 8], .inl rfl⟩, ?_⟩
    refine sAny_done (by kernel_rfl) ?_ _
    refine th_n ?_
    refine region_any (n := 8) (Sk [⟨g48, #[.bool (neg (p % q)), .slice A42 (zl (p % q)) c43], 28⟩, ⟨g46, #[.bool (neg (p / q)), .slice A39 (zl (p / q)) c40], 28⟩, ⟨gx, #[.bool (neg x), .slice A (zl x) c], 28⟩, ⟨gy, #[.bool (neg y), .slice B (zl y) d], 28⟩, ⟨gr, #[.bool (neg 0), .slice none (zl 0) 0], 28⟩, ⟨gs, #[.bool (neg 0), .slice none (zl 0) 0], 28⟩, ⟨gt, #[.bool (neg 0), .slice none (zl 0) 0], 28⟩, ⟨ga, #[.bool (neg q), .slice A8 (zl q) c8], 28⟩, ⟨gb, #[.bool (neg (p % q)), .slice A42 (zl (p % q)) c43], 28⟩] [pfZ A42 c43 (p % q), pfZ A39 c40 (p / q), pfZ A c x, pfZ B d y, pfZ none 0 0, pfZ A7 c7 p, pfZ A8 c8 q, pfZ A9 c9 u, pfZ A10 c10 v] [6, 7] [⟨gu, #[.bool (neg u), .slice A9 (zl u) c9], 28⟩, ⟨gv, #[.bool (neg v), .slice A10 (zl v) c10], 28⟩]) mixed rfl henv hst ?_
    clear henv hst; intro w55 henv hst
    refine sAny_take (i := 0) [6, 7] (fun w' => w'.heap[gv]? = some (.cells #[.bool (neg v), .slice A10 (zl v) c10] 28 (0, 0))) (v := .agg #[.bool (neg v), .slice A10 (zl v) c10]) rfl (by kernel_rfl) (fun _ _ _ h => h) (fun _ _ hj hS => (hS.two rfl hj).oat (k := 1) rfl) henv rfl (hst.oat (k := 10) rfl) (fun w' hg => rn_load0 henv ty_anvil_integer_Int rfl hg rfl) ?_
    clear henv a; intro a henv
    refine sAny_take (i := 1) [5, 6, 7] (fun w' => w'.heap[gu]? = some (.cells #[.bool (neg u), .slice A9 (zl u) c9] 28 (0, 0))) (v := .agg #[.bool (neg u), .slice A9 (zl u) c9]) rfl (by kernel_rfl) (fun _ _ _ h => h) (fun _ _ hj hS => (hS.two rfl hj).oat (k := 0) rfl) henv rfl (hst.oat (k := 9) rfl) (fun w' hg => rn_load0 henv ty_anvil_integer_Int rfl hg rfl) ?_
    clear henv a; intro a henv
    refine sAny_take (i := 2) [4, 5, 6, 7] (fun w' => w'.heap[g46]? = some (.cells #[.bool (neg (p / q)), .slice A39 (zl (p / q)) c40] 28 (0, 0))) (v := .agg #[.bool (neg (p / q)), .slice A39 (zl (p / q)) c40]) rfl (by kernel_rfl) (fun _ _ _ h => h) (fun _ _ _ hS => hS.1.oat (k := 1) rfl) henv rfl (hst.oat (k := 1) rfl) (fun w' hg => rn_load0 henv ty_anvil_integer_Int rfl hg rfl) ?_
    clear henv a; intro a henv
    refine sAny_take (i := 3) [4, 5, 6, 7] (fun w' => w'.heap[gv]? = some (.cells #[.bool (neg v), .slice A10 (zl v) c10] 28 (0, 0))) (v := .agg #[.bool (neg v), .slice A10 (zl v) c10]) rfl (by kernel_rfl) (fun _ _ _ h => h) (fun _ _ hj hS => (hS.two rfl hj).oat (k := 1) rfl) henv rfl (hst.oat (k := 10) rfl) (fun w' hg => rn_load0 henv ty_anvil_integer_Int rfl hg rfl) ?_
    clear henv a; intro a henv
    refine sAny_one (i := 4) (by kernel_rfl) rfl rfl (op_call henv rfl Try.call24 rfl (mul_z (x := p / q) (y := v) (show ZIn _ A39 c40 (p / q) from hst.pat (k := 1) rfl) (show ZIn _ A10 c10 v from hst.pat (k := 8) rfl) (by omega) (by omega)) ?_)
    rintro e w59 ⟨_, rfl, ⟨A56, c57, rfl, hz58⟩, hb⟩
    refine ⟨_, rfl, ?_⟩
    clear henv a; intro a henv
    replace hst := (hst.call hb).addZ hz58 rfl
    clear hz58
    clear hb
    refine ⟨.inr ⟨hst.kn.pick [0, 1, 2, 3, 4, 5, 6, 7, 8] [1, 2, 3, 4, 5, 6, 7, 8, 9], .inr (hst.kn.pick [9, 10] [])⟩, ?_⟩
    refine sAny_one (i := 5) (by kernel_rfl) rfl rfl (op_call henv rfl Try.call22 rfl (sub_z (x := u) (y := (p / q) * v) (show ZIn _ A9 c9 u from hst.pat (k := 8) rfl) (show ZIn _ A56 c57 ((p / q) * v) from hst.pat (k := 0) rfl) (by omega) (by omega)) ?_)
    rintro e w63 ⟨_, rfl, ⟨A60, c61, rfl, hz62⟩, hb⟩
    refine ⟨_, rfl, ?_⟩
    clear henv a; intro a henv
    replace hst := (hst.call hb).addZ hz62 rfl
    clear hz62
    clear hb
    refine ⟨.inr ⟨hst.kn.pick [0, 1, 2, 3, 4, 5, 6, 7, 8] [2, 3, 4, 5, 6, 7, 8, 9, 10], .inr (hst.kn.pick [9, 10] [])⟩, ?_⟩
    refine sAny_one (i := 6) (by kernel_rfl) rfl rfl (op_store (k := 9) (c' := #[.bool (neg v), .slice A10 (zl v) c10]) henv hst (ty_anvil_integer_Int.size) rfl rfl rfl rfl (by simp) rfl rfl ?_)
    clear henv hst a; intro a w64 henv hst
    refine ⟨.inr ⟨hst.kn.pick [0, 1, 2, 3, 4, 5, 6, 7, 8] [2, 3, 4, 5, 6, 7, 8, 9, 10], .inl rfl⟩, ?_⟩
    refine sAny_one (i := 7) (by kernel_rfl) rfl rfl (op_store (k := 10) (c' := #[.bool (neg (u - ((p / q) * v))), .slice A60 (zl (u - ((p / q) * v))) c61]) henv hst (ty_anvil_integer_Int.size) rfl rfl rfl rfl (by simp) rfl rfl ?_)
    clear henv hst a; intro a w65 henv hst
    refine ⟨.inr ⟨hst.kn.pick [0, 1, 2, 3, 4, 5, 6, 7, 8] [2, 3, 4, 5, 6, 7, 8, 9, 10], .inl rfl⟩, ?_⟩
    refine sAny_done (by kernel_rfl) ?_ _
    refine bl_n ?_
    exact th_n ⟨_, hlt, ⟨q, p % q, v, u - ((p / q) * v), gx, gy, gr, gs, gt, ga, gb, gu, gv, A8, A42, A10, A60, c8, c43, c10, c61, rfl, henv.sub ⟨rfl, rfl, rfl, rfl, rfl, rfl, rfl, rfl, rfl, trivial⟩, hst.pick [2, 3, 4, 5, 6, 7, 8, 9, 10] [4, 5, 6, 8, 2, 10, 0] (by decide), hI2⟩⟩
  · have hb0 : q = 0 := (sign_zero _).1 (by simpa using hc38)
    subst hb0
    have huv : zl u ≤ 1000 ∧ zl v ≤ 1000 := bz_zuv hI (by omega)
    have hE := bz_end hI
    have hda := hI.da
    have hG := gcd_pos (x := x) hy0
    have hzG := gcd_zl (x := x) hy0
    refine wp_exit ?_
    refine th_x (th_x (bl_x (th_n ?_)))
    refine wp_seq ?_
    refine wp_seq ?_
    refine region_seq ?_
    refine seq_step rfl (op_val (v := .agg #[.bool (neg p), .slice A7 (zl p) c7]) henv rfl (rn_load0 henv ty_anvil_integer_Int rfl (hst.oat (k := 5) rfl) rfl) ?_)
    clear henv a; intro a henv
    refine seq_step rfl (op_call henv rfl Try.call11 rfl (sign_z (z := p)) ?_)
    rintro e w66 ⟨rfl, hb⟩
    refine ⟨_, rfl, ?_⟩
    clear henv a; intro a henv
    replace hst := hst.call hb
    clear hb
    refine seq_step rfl (op_val (v := .bool (decide (p.sign < (0 : Int)))) henv rfl (rn_bin henv rfl rfl rfl) ?_)
    clear henv a; intro a henv
    refine wpList_nil ?_
    refine th_n ?_
    refine cut (fun a w => ∃ u2 : Int, ∃ gx : Nat, ∃ gy : Nat, ∃ gr : Nat, ∃ gs : Nat, ∃ gt : Nat, ∃ ga : Nat, ∃ gu : Nat, ∃ gv : Nat, ∃ A7' : Option Addr, ∃ A9' : Option Addr, ∃ c7' : Nat, ∃ c9' : Nat, Env 84 a [(2, .pointer (some ⟨gx, 0, none⟩)), (3, .pointer (some ⟨gy, 0, none⟩)), (4, .pointer (some ⟨gr, 0, none⟩)), (5, .pointer (some ⟨gs, 0, none⟩)), (6, .pointer (some ⟨gt, 0, none⟩)), (7, .pointer (some ⟨ga, 0, none⟩)), (9, .pointer (some ⟨gu, 0, none⟩)), (10, .pointer (some ⟨gv, 0, none⟩))] ∧ St w0 w [⟨gx, #[.bool (neg x), .slice A (zl x) c], 28⟩, ⟨gy, #[.bool (neg y), .slice B (zl y) d], 28⟩, ⟨gr, #[.bool (neg 0), .slice none (zl 0) 0], 28⟩, ⟨gs, #[.bool (neg 0), .slice none (zl 0) 0], 28⟩, ⟨gt, #[.bool (neg 0), .slice none (zl 0) 0], 28⟩, ⟨ga, #[.bool (neg (Int.gcd x y : Int)), .slice A7' (zl (Int.gcd x y : Int)) c7'], 28⟩, ⟨gu, #[.bool (neg u2), .slice A9' (zl u2) c9'], 28⟩, ⟨gv, #[.bool (neg v), .slice A10 (zl v) c10], 28⟩] [pfZ A c x, pfZ B d y, pfZ none 0 0, pfZ A7' c7' (Int.gcd x y : Int), pfZ A9' c9' u2, pfZ A10 c10 v] ∧ y ∣ (Int.gcd x y : Int) - u2 * x ∧ zl u2 ≤ 1000) ?_ ?_
    · refine if_split henv rfl (fun hc67 => ?_) (fun hc67 => ?_)
      · have ha : -p = (Int.gcd x y : Int) := by have := (sign_lt _).1 (of_decide_eq_true hc67); omega
        refine region_any (n := 6) (Sk [⟨gx, #[.bool (neg x), .slice A (zl x) c], 28⟩, ⟨gy, #[.bool (neg y), .slice B (zl y) d], 28⟩, ⟨gr, #[.bool (neg 0), .slice none (zl 0) 0], 28⟩, ⟨gs, #[.bool (neg 0), .slice none (zl 0) 0], 28⟩, ⟨gt, #[.bool (neg 0), .slice none (zl 0) 0], 28⟩, ⟨gb, #[.bool (neg 0), .slice A8 (zl 0) c8], 28⟩, ⟨gv, #[.bool (neg v), .slice A10 (zl v) c10], 28⟩] [pfZ A c x, pfZ B d y, pfZ none 0 0, pfZ A7 c7 p, pfZ A8 c8 0, pfZ A9 c9 u, pfZ A10 c10 v] [4, 5] [⟨ga, #[.bool (neg p), .slice A7 (zl p) c7], 28⟩, ⟨gu, #[.bool (neg u), .slice A9 (zl u) c9], 28⟩]) mixed rfl henv hst ?_
        clear henv hst; intro w68 henv hst
        refine sAny_take (i := 0) [1, 3, 4, 5] (fun w' => w'.heap[ga]? = some (.cells #[.bool (neg p), .slice A7 (zl p) c7] 28 (0, 0))) (v := .agg #[.bool (neg p), .slice A7 (zl p) c7]) rfl (by kernel_rfl) (fun _ _ _ h => h) (fun _ _ hj hS => (hS.two rfl hj).oat (k := 0) rfl) henv rfl (hst.oat (k := 5) rfl) (fun w' hg => rn_load0 henv ty_anvil_integer_Int rfl hg rfl) ?_
        clear henv a; intro a henv
        refine sAny_take (i := 2) [3, 4, 5] (fun w' => w'.heap[gu]? = some (.cells #[.bool (neg u), .slice A9 (zl u) c9] 28 (0, 0))) (v := .agg #[.bool (neg u), .slice A9 (zl u) c9]) rfl (by kernel_rfl) (fun _ _ _ h => h) (fun _ _ hj hS => (hS.two rfl hj).oat (k := 1) rfl) henv rfl (hst.oat (k := 7) rfl) (fun w' hg => rn_load0 henv ty_anvil_integer_Int rfl hg rfl) ?_
        clear henv a; intro a henv
        refine sAny_one (i := 1) (by kernel_rfl) rfl rfl (op_call henv rfl Try.call16 rfl (neg_z (z := p) (show ZIn _ A7 c7 p from hst.pat (k := 3) rfl)) ?_)
        rintro e w72 ⟨_, rfl, ⟨A69, c70, rfl, hz71⟩, hb⟩
        refine ⟨_, rfl, ?_⟩
        clear henv a; intro a henv
        replace hst := (hst.call hb).addZ hz71 rfl
        clear hz71
        clear hb
        refine ⟨.inr ⟨hst.kn.pick [0, 1, 2, 3, 4, 6, 8] [1, 2, 3, 4, 5, 6, 7], .inr (hst.kn.pick [5, 7] [])⟩, ?_⟩
        refine sAny_one (i := 3) (by kernel_rfl) rfl rfl (op_call henv rfl Try.call16 rfl (neg_z (z := u) (show ZIn _ A9 c9 u from hst.pat (k := 6) rfl)) ?_)
        rintro e w76 ⟨_, rfl, ⟨A73, c74, rfl, hz75⟩, hb⟩
        refine ⟨_, rfl, ?_⟩
        clear henv a; intro a henv
        replace hst := (hst.call hb).addZ hz75 rfl
        clear hz75
        clear hb
        refine ⟨.inr ⟨hst.kn.pick [0, 1, 2, 3, 4, 6, 8] [2, 3, 4, 5, 6, 7, 8], .inr (hst.kn.pick [5, 7] [])⟩, ?_⟩
        refine sAny_one (i := 4) (by kernel_rfl) rfl rfl (op_store (k := 5) (c' := #[.bool (neg (-p)), .slice A69 (zl (-p)) c70]) henv hst (ty_anvil_integer_Int.size) rfl rfl rfl rfl (by simp) rfl rfl ?_)
        clear henv hst a; intro a w77 henv hst
        refine ⟨.inr ⟨hst.kn.pick [0, 1, 2, 3, 4, 6, 8] [2, 3, 4, 5, 6, 7, 8], .inl rfl⟩, ?_⟩
        refine sAny_one (i := 5) (by kernel_rfl) rfl rfl (op_store (k := 7) (c' := #[.bool (neg (-u)), .slice A73 (zl (-u)) c74]) henv hst (ty_anvil_integer_Int.size) rfl rfl rfl rfl (by simp) rfl rfl ?_)
        clear henv hst a; intro a w78 henv hst
        refine ⟨.inr ⟨hst.kn.pick [0, 1, 2, 3, 4, 6, 8] [2, 3, 4, 5, 6, 7, 8], .inl rfl⟩, ?_⟩
        refine sAny_done (by kernel_rfl) ?_ _
        refine th_n ?_
        rw [ha] at henv hst
        exact ⟨-u, gx, gy, gr, gs, gt, ga, gu, gv, A69, A73, c70, c74, henv.sub ⟨rfl, rfl, rfl, rfl, rfl, rfl, rfl, rfl, trivial⟩, hst.pick [0, 1, 2, 3, 4, 5, 7, 8] [2, 3, 4, 1, 0, 8] (by decide), bz_neg ha hda, (by rw [zl_neg]; exact huv.1)⟩
      · have ha : p = (Int.gcd x y : Int) := by have := (sign_lt p).2; have h1 := of_decide_eq_false hc67; omega
        rw [ha] at henv hst
        refine wp_skip ?_
        refine th_n ?_
        exact ⟨u, gx, gy, gr, gs, gt, ga, gu, gv, A7, A9, c7, c9, henv.sub ⟨rfl, rfl, rfl, rfl, rfl, rfl, rfl, rfl, trivial⟩, hst.pick [0, 1, 2, 3, 4, 5, 7, 8] [0, 1, 2, 3, 5, 6] (by decide), (by rw [← ha]; exact hda), huv.1⟩
    clear henv hst a
    rintro a w79 ⟨u2, gx, gy, gr, gs, gt, ga, gu, gv, A7', A9', c7', c9', henv, hst, hu2, hzu⟩
    refine wp_seq ?_
    refine cut (fun a w => ∃ A81 : Option Addr, ∃ c82 : Nat, ∃ A85 : Option Addr, ∃ c86 : Nat, ∃ A88 : Option Addr, ∃ c89 : Nat, ∃ g92 : Nat, ∃ g94 : Nat, Env 84 a [(2, .pointer (some ⟨gx, 0, none⟩)), (3, .pointer (some ⟨gy, 0, none⟩)), (4, .pointer (some ⟨gr, 0, none⟩)), (5, .pointer (some ⟨gs, 0, none⟩)), (6, .pointer (some ⟨gt, 0, none⟩)), (7, .pointer (some ⟨ga, 0, none⟩)), (9, .pointer (some ⟨gu, 0, none⟩)), (10, .pointer (some ⟨gv, 0, none⟩)), (14, .pointer (some ⟨g92, 0, none⟩))] ∧ St w0 w [⟨g94, #[.bool (neg ((y.natAbs : Int) % (Int.gcd x y : Int))), .slice A88 (zl ((y.natAbs : Int) % (Int.gcd x y : Int))) c89], 28⟩, ⟨g92, #[.bool (neg ((y.natAbs : Int) / (Int.gcd x y : Int))), .slice A85 (zl ((y.natAbs : Int) / (Int.gcd x y : Int))) c86], 28⟩, ⟨gx, #[.bool (neg x), .slice A (zl x) c], 28⟩, ⟨gy, #[.bool (neg y), .slice B (zl y) d], 28⟩, ⟨gr, #[.bool (neg 0), .slice none (zl 0) 0], 28⟩, ⟨gs, #[.bool (neg 0), .slice none (zl 0) 0], 28⟩, ⟨gt, #[.bool (neg 0), .slice none (zl 0) 0], 28⟩, ⟨ga, #[.bool (neg (Int.gcd x y : Int)), .slice A7' (zl (Int.gcd x y : Int)) c7'], 28⟩, ⟨gu, #[.bool (neg u2), .slice A9' (zl u2) c9'], 28⟩, ⟨gv, #[.bool (neg v), .slice A10 (zl v) c10], 28⟩] [pfZ A88 c89 ((y.natAbs : Int) % (Int.gcd x y : Int)), pfZ A85 c86 ((y.natAbs : Int) / (Int.gcd x y : Int)), pfZ A81 c82 (y.natAbs : Int), pfZ A c x, pfZ B d y, pfZ none 0 0, pfZ A7' c7' (Int.gcd x y : Int), pfZ A9' c9' u2, pfZ A10 c10 v]) ?_ ?_
    · refine region_any (n := 13) (Sk [⟨gx, #[.bool (neg x), .slice A (zl x) c], 28⟩, ⟨gy, #[.bool (neg y), .slice B (zl y) d], 28⟩, ⟨gr, #[.bool (neg 0), .slice none (zl 0) 0], 28⟩, ⟨gs, #[.bool (neg 0), .slice none (zl 0) 0], 28⟩, ⟨gt, #[.bool (neg 0), .slice none (zl 0) 0], 28⟩, ⟨ga, #[.bool (neg (Int.gcd x y : Int)), .slice A7' (zl (Int.gcd x y : Int)) c7'], 28⟩, ⟨gu, #[.bool (neg u2), .slice A9' (zl u2) c9'], 28⟩, ⟨gv, #[.bool (neg v), .slice A10 (zl v) c10], 28⟩] [pfZ A c x, pfZ B d y, pfZ none 0 0, pfZ A7' c7' (Int.gcd x y : Int), pfZ A9' c9' u2, pfZ A10 c10 v] [10, 11] []) mixed rfl henv hst ?_
      clear henv hst; intro w80 henv hst
      refine sAny_take (i := 0) [1, 3, 4, 5, 6, 7, 10, 11, 12] (fun w' => w'.heap[gy]? = some (.cells #[.bool (neg y), .slice B (zl y) d] 28 (0, 0))) (v := .agg #[.bool (neg y), .slice B (zl y) d]) rfl (by kernel_rfl) (fun _ _ _ h => h) (fun _ _ _ hS => hS.1.oat (k := 1) rfl) henv rfl (hst.oat (k := 1) rfl) (fun w' hg => rn_load0 henv ty_anvil_integer_Int rfl hg rfl) ?_
      clear henv a; intro a henv
      refine sAny_take (i := 2) [3, 4, 5, 6, 7, 10, 11, 12] (fun w' => w'.heap[ga]? = some (.cells #[.bool (neg (Int.gcd x y : Int)), .slice A7' (zl (Int.gcd x y : Int)) c7'] 28 (0, 0))) (v := .agg #[.bool (neg (Int.gcd x y : Int)), .slice A7' (zl (Int.gcd x y : Int)) c7']) rfl (by kernel_rfl) (fun _ _ _ h => h) (fun _ _ _ hS => hS.1.oat (k := 5) rfl) henv rfl (hst.oat (k := 5) rfl) (fun w' hg => rn_load0 henv ty_anvil_integer_Int rfl hg rfl) ?_
      clear henv a; intro a henv
      refine sAny_all (rs := [1, 8, 9]) (by kernel_rfl) (by simp) ?_
      simp only [List.forall_mem_cons, List.not_mem_nil, false_implies, implies_true, and_true]
      refine ⟨?_, ?_, ?_⟩
      · refine ⟨_, rfl, rfl, op_call henv rfl Try.call18 rfl (abs_z (z := y) (show ZIn _ B d y from hst.pat (k := 1) rfl)) ?_⟩
        rintro e w84 ⟨_, rfl, ⟨A81, c82, rfl, hz83⟩, hb⟩
        refine ⟨_, rfl, ?_⟩
        clear henv a; intro a henv
        replace hst := (hst.call hb).addZ hz83 rfl
        clear hz83
        clear hb
        refine ⟨.inr ⟨hst.kn.pick [0, 1, 2, 3, 4, 5, 6, 7] [1, 2, 3, 4, 5, 6], .inr (hst.kn.pick [] [])⟩, ?_⟩
        refine sAny_all (rs := [3, 8, 9]) (by kernel_rfl) (by simp) ?_
        simp only [List.forall_mem_cons, List.not_mem_nil, false_implies, implies_true, and_true]
        refine ⟨?_, ?_, ?_⟩
        · refine ⟨_, rfl, rfl, op_call henv rfl Try.call36 rfl (divmod_z (x := (y.natAbs : Int)) (y := (Int.gcd x y : Int)) (show ZIn _ A81 c82 (y.natAbs : Int) from hst.pat (k := 0) rfl) (show ZIn _ A7' c7' (Int.gcd x y : Int) from hst.pat (k := 4) rfl) (by rw [zl_abs]; omega) (by omega) (by omega)) ?_⟩
          rintro e w91 ⟨_, _, rfl, ⟨A85, c86, rfl, hz87⟩, ⟨A88, c89, rfl, hz90⟩, hb⟩
          refine ⟨_, rfl, ?_⟩
          clear henv a; intro a henv
          replace hst := ((hst.call hb).addZ hz87 rfl).addZ hz90 rfl
          clear hz87 hz90
          clear hb
          refine ⟨.inr ⟨hst.kn.pick [0, 1, 2, 3, 4, 5, 6, 7] [3, 4, 5, 6, 7, 8], .inr (hst.kn.pick [] [])⟩, ?_⟩
          refine sAny_take (i := 4) [5, 6, 7, 10, 11, 12] (fun _ => True) (v := .tuple #[.agg #[.bool (neg ((y.natAbs : Int) / (Int.gcd x y : Int))), .slice A85 (zl ((y.natAbs : Int) / (Int.gcd x y : Int))) c86], .agg #[.bool (neg ((y.natAbs : Int) % (Int.gcd x y : Int))), .slice A88 (zl ((y.natAbs : Int) % (Int.gcd x y : Int))) c89], .int .i64 0]) rfl (by kernel_rfl) (fun _ _ _ h => h) (fun _ _ _ _ => trivial) henv rfl trivial (fun w' _ => rn_move henv rfl) ?_
          clear henv a; intro a henv
          refine sAny_take (i := 5) [10, 11, 12] (fun _ => True) (v := .agg #[.bool (neg ((y.natAbs : Int) / (Int.gcd x y : Int))), .slice A85 (zl ((y.natAbs : Int) / (Int.gcd x y : Int))) c86]) rfl (by kernel_rfl) (fun _ _ _ h => h) (fun _ _ _ _ => trivial) henv rfl trivial (fun w' _ => rn_extract henv rfl rfl) ?_
          clear henv a; intro a henv
          refine sAny_take (i := 6) [11, 12] (fun _ => True) (v := .agg #[.bool (neg ((y.natAbs : Int) % (Int.gcd x y : Int))), .slice A88 (zl ((y.natAbs : Int) % (Int.gcd x y : Int))) c89]) rfl (by kernel_rfl) (fun _ _ _ h => h) (fun _ _ _ _ => trivial) henv rfl trivial (fun w' _ => rn_extract henv rfl rfl) ?_
          clear henv a; intro a henv
          refine sAny_take (i := 7) [12] (fun _ => True) (v := .int .i64 0) rfl (by kernel_rfl) (fun _ _ _ h => h) (fun _ _ _ _ => trivial) henv rfl trivial (fun w' _ => rn_extract henv rfl rfl) ?_
          clear henv a; intro a henv
          refine sAny_all (rs := [8, 9]) (by kernel_rfl) (by simp) ?_
          simp only [List.forall_mem_cons, List.not_mem_nil, false_implies, implies_true, and_true]
          refine ⟨?_, ?_⟩
          · refine ⟨_, rfl, rfl, op_alloc (c := #[.bool (neg 0), .slice none (zl 0) 0]) henv hst rfl zero_anvil_integer_Int zcells ?_⟩
            clear henv hst a; intro a w93 g92 henv hst
            refine ⟨.inr ⟨hst.kn.pick [1, 2, 3, 4, 5, 6, 7, 8] [3, 4, 5, 6, 7, 8], .inr (hst.kn.pick [] [])⟩, ?_⟩
            refine sAny_one (i := 9) (by kernel_rfl) rfl rfl (op_alloc (c := #[.bool (neg 0), .slice none (zl 0) 0]) henv hst rfl zero_anvil_integer_Int zcells ?_)
            clear henv hst a; intro a w95 g94 henv hst
            refine ⟨.inr ⟨hst.kn.pick [2, 3, 4, 5, 6, 7, 8, 9] [3, 4, 5, 6, 7, 8], .inr (hst.kn.pick [] [])⟩, ?_⟩
            refine sAny_one (i := 10) (by kernel_rfl) rfl rfl (op_store (k := 1) (c' := #[.bool (neg ((y.natAbs : Int) / (Int.gcd x y : Int))), .slice A85 (zl ((y.natAbs : Int) / (Int.gcd x y : Int))) c86]) henv hst (ty_anvil_integer_Int.size) rfl rfl rfl rfl (by simp) rfl rfl ?_)
            clear henv hst a; intro a w96 henv hst
            refine ⟨.inr ⟨hst.kn.pick [2, 3, 4, 5, 6, 7, 8, 9] [3, 4, 5, 6, 7, 8], .inl rfl⟩, ?_⟩
            refine sAny_one (i := 11) (by kernel_rfl) rfl rfl (op_store (k := 0) (c' := #[.bool (neg ((y.natAbs : Int) % (Int.gcd x y : Int))), .slice A88 (zl ((y.natAbs : Int) % (Int.gcd x y : Int))) c89]) henv hst (ty_anvil_integer_Int.size) rfl rfl rfl rfl (by simp) rfl rfl ?_)
            clear henv hst a; intro a w97 henv hst
            refine ⟨.inr ⟨hst.kn.pick [2, 3, 4, 5, 6, 7, 8, 9] [3, 4, 5, 6, 7, 8], .inl rfl⟩, ?_⟩
            refine sAny_take (i := 12) [] (fun _ => True) (v := .int .i64 0) rfl (by kernel_rfl) (fun _ _ _ h => h) (fun _ _ _ _ => trivial) henv rfl trivial (fun w' _ => rn_assign henv rfl) ?_
            clear henv a; intro a henv
            refine sAny_done (by kernel_rfl) ?_ _
            exact th_n ⟨A81, c82, A85, c86, A88, c89, g92, g94, henv.sub ⟨rfl, rfl, rfl, rfl, rfl, rfl, rfl, rfl, rfl, trivial⟩, hst.pick [0, 1, 2, 3, 4, 5, 6, 7, 8, 9] [0, 1, 2, 3, 4, 5, 6, 7, 8] (by decide)⟩
          · refine ⟨_, rfl, rfl, op_alloc (c := #[.bool (neg 0), .slice none (zl 0) 0]) henv hst rfl zero_anvil_integer_Int zcells ?_⟩
            clear henv hst a; intro a w99 g98 henv hst
            refine ⟨.inr ⟨hst.kn.pick [1, 2, 3, 4, 5, 6, 7, 8] [3, 4, 5, 6, 7, 8], .inr (hst.kn.pick [] [])⟩, ?_⟩
            refine sAny_one (i := 8) (by kernel_rfl) rfl rfl (op_alloc (c := #[.bool (neg 0), .slice none (zl 0) 0]) henv hst rfl zero_anvil_integer_Int zcells ?_)
            clear henv hst a; intro a w101 g100 henv hst
            refine ⟨.inr ⟨hst.kn.pick [2, 3, 4, 5, 6, 7, 8, 9] [3, 4, 5, 6, 7, 8], .inr (hst.kn.pick [] [])⟩, ?_⟩
            refine sAny_one (i := 10) (by kernel_rfl) rfl rfl (op_store (k := 0) (c' := #[.bool (neg ((y.natAbs : Int) / (Int.gcd x y : Int))), .slice A85 (zl ((y.natAbs : Int) / (Int.gcd x y : Int))) c86]) henv hst (ty_anvil_integer_Int.size) rfl rfl rfl rfl (by simp) rfl rfl ?_)
            clear henv hst a; intro a w102 henv hst
            refine ⟨.inr ⟨hst.kn.pick [2, 3, 4, 5, 6, 7, 8, 9] [3, 4, 5, 6, 7, 8], .inl rfl⟩, ?_⟩
            refine sAny_one (i := 11) (by kernel_rfl) rfl rfl (op_store (k := 1) (c' := #[.bool (neg ((y.natAbs : Int) % (Int.gcd x y : Int))), .slice A88 (zl ((y.natAbs : Int) % (Int.gcd x y : Int))) c89]) henv hst (ty_anvil_integer_Int.size) rfl rfl rfl rfl (by simp) rfl rfl ?_)
            clear henv hst a; intro a w103 henv hst
            refine ⟨.inr ⟨hst.kn.pick [2, 3, 4, 5, 6, 7, 8, 9] [3, 4, 5, 6, 7, 8], .inl rfl⟩, ?_⟩
            refine sAny_take (i := 12) [] (fun _ => True) (v := .int .i64 0) rfl (by kernel_rfl) (fun _ _ _ h => h) (fun _ _ _ _ => trivial) henv rfl trivial (fun w' _ => rn_assign henv rfl) ?_
            clear henv a; intro a henv
            refine sAny_done (by kernel_rfl) ?_ _
            exact th_n ⟨A81, c82, A85, c86, A88, c89, g100, g98, henv.sub ⟨rfl, rfl, rfl, rfl, rfl, rfl, rfl, rfl, rfl, trivial⟩, hst.pick [1, 0, 2, 3, 4, 5, 6, 7, 8, 9] [0, 1, 2, 3, 4, 5, 6, 7, 8] (by decide)⟩
        · refine ⟨_, rfl, rfl, op_alloc (c := #[.bool (neg 0), .slice none (zl 0) 0]) henv hst rfl zero_anvil_integer_Int zcells ?_⟩
          clear henv hst a; intro a w105 g104 henv hst
          refine ⟨.inr ⟨hst.kn.pick [1, 2, 3, 4, 5, 6, 7, 8] [1, 2, 3, 4, 5, 6], .inr (hst.kn.pick [] [])⟩, ?_⟩
          refine sAny_all (rs := [3, 9]) (by kernel_rfl) (by simp) ?_
          simp only [List.forall_mem_cons, List.not_mem_nil, false_implies, implies_true, and_true]
          refine ⟨?_, ?_⟩
          · refine ⟨_, rfl, rfl, op_call henv rfl Try.call36 rfl (divmod_z (x := (y.natAbs : Int)) (y := (Int.gcd x y : Int)) (show ZIn _ A81 c82 (y.natAbs : Int) from hst.pat (k := 0) rfl) (show ZIn _ A7' c7' (Int.gcd x y : Int) from hst.pat (k := 4) rfl) (by rw [zl_abs]; omega) (by omega) (by omega)) ?_⟩
            rintro e w112 ⟨_, _, rfl, ⟨A106, c107, rfl, hz108⟩, ⟨A109, c110, rfl, hz111⟩, hb⟩
            refine ⟨_, rfl, ?_⟩
            clear henv a; intro a henv
            replace hst := ((hst.call hb).addZ hz108 rfl).addZ hz111 rfl
            clear hz108 hz111
            clear hb
            refine ⟨.inr ⟨hst.kn.pick [1, 2, 3, 4, 5, 6, 7, 8] [3, 4, 5, 6, 7, 8], .inr (hst.kn.pick [] [])⟩, ?_⟩
            refine sAny_take (i := 4) [5, 6, 7, 10, 11, 12] (fun _ => True) (v := .tuple #[.agg #[.bool (neg ((y.natAbs : Int) / (Int.gcd x y : Int))), .slice A106 (zl ((y.natAbs : Int) / (Int.gcd x y : Int))) c107], .agg #[.bool (neg ((y.natAbs : Int) % (Int.gcd x y : Int))), .slice A109 (zl ((y.natAbs : Int) % (Int.gcd x y : Int))) c110], .int .i64 0]) rfl (by kernel_rfl) (fun _ _ _ h => h) (fun _ _ _ _ => trivial) henv rfl trivial (fun w' _ => rn_move henv rfl) ?_
            clear henv a; intro a henv
            refine sAny_take (i := 5) [10, 11, 12] (fun _ => True) (v := .agg #[.bool (neg ((y.natAbs : Int) / (Int.gcd x y : Int))), .slice A106 (zl ((y.natAbs : Int) / (Int.gcd x y : Int))) c107]) rfl (by kernel_rfl) (fun _ _ _ h => h) (fun _ _ _ _ => trivial) henv rfl trivial (fun w' _ => rn_extract henv rfl rfl) ?_
            clear henv a; intro a henv
            refine sAny_take (i := 6) [11, 12] (fun _ => True) (v := .agg #[.bool (neg ((y.natAbs : Int) % (Int.gcd x y : Int))), .slice A109 (zl ((y.natAbs : Int) % (Int.gcd x y : Int))) c110]) rfl (by kernel_rfl) (fun _ _ _ h => h) (fun _ _ _ _ => trivial) henv rfl trivial (fun w' _ => rn_extract henv rfl rfl) ?_
            clear henv a; intro a henv
            refine sAny_take (i := 7) [12] (fun _ => True) (v := .int .i64 0) rfl (by kernel_rfl) (fun _ _ _ h => h) (fun _ _ _ _ => trivial) henv rfl trivial (fun w' _ => rn_extract henv rfl rfl) ?_
            clear henv a; intro a henv
            refine sAny_one (i := 9) (by kernel_rfl) rfl rfl (op_alloc (c := #[.bool (neg 0), .slice none (zl 0) 0]) henv hst rfl zero_anvil_integer_Int zcells ?_)
            clear henv hst a; intro a w114 g113 henv hst
            refine ⟨.inr ⟨hst.kn.pick [2, 3, 4, 5, 6, 7, 8, 9] [3, 4, 5, 6, 7, 8], .inr (hst.kn.pick [] [])⟩, ?_⟩
            refine sAny_one (i := 10) (by kernel_rfl) rfl rfl (op_store (k := 1) (c' := #[.bool (neg ((y.natAbs : Int) / (Int.gcd x y : Int))), .slice A106 (zl ((y.natAbs : Int) / (Int.gcd x y : Int))) c107]) henv hst (ty_anvil_integer_Int.size) rfl rfl rfl rfl (by simp) rfl rfl ?_)
            clear henv hst a; intro a w115 henv hst
            refine ⟨.inr ⟨hst.kn.pick [2, 3, 4, 5, 6, 7, 8, 9] [3, 4, 5, 6, 7, 8], .inl rfl⟩, ?_⟩
            refine sAny_one (i := 11) (by kernel_rfl) rfl rfl (op_store (k := 0) (c' := #[.bool (neg ((y.natAbs : Int) % (Int.gcd x y : Int))), .slice A109 (zl ((y.natAbs : Int) % (Int.gcd x y : Int))) c110]) henv hst (ty_anvil_integer_Int.size) rfl rfl rfl rfl (by simp) rfl rfl ?_)
            clear henv hst a; intro a w116 henv hst
            refine ⟨.inr ⟨hst.kn.pick [2, 3, 4, 5, 6, 7, 8, 9] [3, 4, 5, 6, 7, 8], .inl rfl⟩, ?_⟩
            refine sAny_take (i := 12) [] (fun _ => True) (v := .int .i64 0) rfl (by kernel_rfl) (fun _ _ _ h => h) (fun _ _ _ _ => trivial) henv rfl trivial (fun w' _ => rn_assign henv rfl) ?_
            clear henv a; intro a henv
            refine sAny_done (by kernel_rfl) ?_ _
            exact th_n ⟨A81, c82, A106, c107, A109, c110, g104, g113, henv.sub ⟨rfl, rfl, rfl, rfl, rfl, rfl, rfl, rfl, rfl, trivial⟩, hst.pick [0, 1, 2, 3, 4, 5, 6, 7, 8, 9] [0, 1, 2, 3, 4, 5, 6, 7, 8] (by decide)⟩
          · refine ⟨_, rfl, rfl, op_alloc (c := #[.bool (neg 0), .slice none (zl 0) 0]) henv hst rfl zero_anvil_integer_Int zcells ?_⟩
            clear henv hst a; intro a w118 g117 henv hst
            refine ⟨.inr ⟨hst.kn.pick [2, 3, 4, 5, 6, 7, 8, 9] [1, 2, 3, 4, 5, 6], .inr (hst.kn.pick [] [])⟩, ?_⟩
            refine sAny_one (i := 3) (by kernel_rfl) rfl rfl (op_call henv rfl Try.call36 rfl (divmod_z (x := (y.natAbs : Int)) (y := (Int.gcd x y : Int)) (show ZIn _ A81 c82 (y.natAbs : Int) from hst.pat (k := 0) rfl) (show ZIn _ A7' c7' (Int.gcd x y : Int) from hst.pat (k := 4) rfl) (by rw [zl_abs]; omega) (by omega) (by omega)) ?_)
            rintro e w125 ⟨_, _, rfl, ⟨A119, c120, rfl, hz121⟩, ⟨A122, c123, rfl, hz124⟩, hb⟩
            refine ⟨_, rfl, ?_⟩
            clear henv a; intro a henv
            replace hst := ((hst.call hb).addZ hz121 rfl).addZ hz124 rfl
            clear hz121 hz124
            clear hb
            refine ⟨.inr ⟨hst.kn.pick [2, 3, 4, 5, 6, 7, 8, 9] [3, 4, 5, 6, 7, 8], .inr (hst.kn.pick [] [])⟩, ?_⟩
            refine sAny_take (i := 4) [5, 6, 7, 10, 11, 12] (fun _ => True) (v := .tuple #[.agg #[.bool (neg ((y.natAbs : Int) / (Int.gcd x y : Int))), .slice A119 (zl ((y.natAbs : Int) / (Int.gcd x y : Int))) c120], .agg #[.bool (neg ((y.natAbs : Int) % (Int.gcd x y : Int))), .slice A122 (zl ((y.natAbs : Int) % (Int.gcd x y : Int))) c123], .int .i64 0]) rfl (by kernel_rfl) (fun _ _ _ h => h) (fun _ _ _ _ => trivial) henv rfl trivial (fun w' _ => rn_move henv rfl) ?_
            clear henv a; intro a henv
            refine sAny_take (i := 5) [10, 11, 12] (fun _ => True) (v := .agg #[.bool (neg ((y.natAbs : Int) / (Int.gcd x y : Int))), .slice A119 (zl ((y.natAbs : Int) / (Int.gcd x y : Int))) c120]) rfl (by kernel_rfl) (fun _ _ _ h => h) (fun _ _ _ _ => trivial) henv rfl trivial (fun w' _ => rn_extract henv rfl rfl) ?_
            clear henv a; intro a henv
            refine sAny_take (i := 6) [11, 12] (fun _ => True) (v := .agg #[.bool (neg ((y.natAbs : Int) % (Int.gcd x y : Int))), .slice A122 (zl ((y.natAbs : Int) % (Int.gcd x y : Int))) c123]) rfl (by kernel_rfl) (fun _ _ _ h => h) (fun _ _ _ _ => trivial) henv rfl trivial (fun w' _ => rn_extract henv rfl rfl) ?_
            clear henv a; intro a henv
            refine sAny_take (i := 7) [12] (fun _ => True) (v := .int .i64 0) rfl (by kernel_rfl) (fun _ _ _ h => h) (fun _ _ _ _ => trivial) henv rfl trivial (fun w' _ => rn_extract henv rfl rfl) ?_
            clear henv a; intro a henv
            refine sAny_one (i := 10) (by kernel_rfl) rfl rfl (op_store (k := 1) (c' := #[.bool (neg ((y.natAbs : Int) / (Int.gcd x y : Int))), .slice A119 (zl ((y.natAbs : Int) / (Int.gcd x y : Int))) c120]) henv hst (ty_anvil_integer_Int.size) rfl rfl rfl rfl (by simp) rfl rfl ?_)
            clear henv hst a; intro a w126 henv hst
            refine ⟨.inr ⟨hst.kn.pick [2, 3, 4, 5, 6, 7, 8, 9] [3, 4, 5, 6, 7, 8], .inl rfl⟩, ?_⟩
            refine sAny_one (i := 11) (by kernel_rfl) rfl rfl (op_store (k := 0) (c' := #[.bool (neg ((y.natAbs : Int) % (Int.gcd x y : Int))), .slice A122 (zl ((y.natAbs : Int) % (Int.gcd x y : Int))) c123]) henv hst (ty_anvil_integer_Int.size) rfl rfl rfl rfl (by simp) rfl rfl ?_)
            clear henv hst a; intro a w127 henv hst
            refine ⟨.inr ⟨hst.kn.pick [2, 3, 4, 5, 6, 7, 8, 9] [3, 4, 5, 6, 7, 8], .inl rfl⟩, ?_⟩
            refine sAny_take (i := 12) [] (fun _ => True) (v := .int .i64 0) rfl (by kernel_rfl) (fun _ _ _ h => h) (fun _ _ _ _ => trivial) henv rfl trivial (fun w' _ => rn_assign henv rfl) ?_
            clear henv a; intro a henv
            refine sAny_done (by kernel_rfl) ?_ _
            exact th_n ⟨A81, c82, A119, c120, A122, c123, g104, g117, henv.sub ⟨rfl, rfl, rfl, rfl, rfl, rfl, rfl, rfl, rfl, trivial⟩, hst.pick [0, 1, 2, 3, 4, 5, 6, 7, 8, 9] [0, 1, 2, 3, 4, 5, 6, 7, 8] (by decide)⟩
        · refine ⟨_, rfl, rfl, op_alloc (c := #[.bool (neg 0), .slice none (zl 0) 0]) henv hst rfl zero_anvil_integer_Int zcells ?_⟩
          clear henv hst a; intro a w129 g128 henv hst
          refine ⟨.inr ⟨hst.kn.pick [1, 2, 3, 4, 5, 6, 7, 8] [1, 2, 3, 4, 5, 6], .inr (hst.kn.pick [] [])⟩, ?_⟩
          refine sAny_all (rs := [3, 8]) (by kernel_rfl) (by simp) ?_
          simp only [List.forall_mem_cons, List.not_mem_nil, false_implies, implies_true, and_true]
          refine ⟨?_, ?_⟩
          · refine ⟨_, rfl, rfl, op_call henv rfl Try.call36 rfl (divmod_z (x := (y.natAbs : Int)) (y := (Int.gcd x y : Int)) (show ZIn _ A81 c82 (y.natAbs : Int) from hst.pat (k := 0) rfl) (show ZIn _ A7' c7' (Int.gcd x y : Int) from hst.pat (k := 4) rfl) (by rw [zl_abs]; omega) (by omega) (by omega)) ?_⟩
            rintro e w136 ⟨_, _, rfl, ⟨A130, c131, rfl, hz132⟩, ⟨A133, c134, rfl, hz135⟩, hb⟩
            refine ⟨_, rfl, ?_⟩
            clear henv a; intro a henv
            replace hst := ((hst.call hb).addZ hz132 rfl).addZ hz135 rfl
            clear hz132 hz135
            clear hb
            refine ⟨.inr ⟨hst.kn.pick [1, 2, 3, 4, 5, 6, 7, 8] [3, 4, 5, 6, 7, 8], .inr (hst.kn.pick [] [])⟩, ?_⟩
            refine sAny_take (i := 4) [5, 6, 7, 10, 11, 12] (fun _ => True) (v := .tuple #[.agg #[.bool (neg ((y.natAbs : Int) / (Int.gcd x y : Int))), .slice A130 (zl ((y.natAbs : Int) / (Int.gcd x y : Int))) c131], .agg #[.bool (neg ((y.natAbs : Int) % (Int.gcd x y : Int))), .slice A133 (zl ((y.natAbs : Int) % (Int.gcd x y : Int))) c134], .int .i64 0]) rfl (by kernel_rfl) (fun _ _ _ h => h) (fun _ _ _ _ => trivial) henv rfl trivial (fun w' _ => rn_move henv rfl) ?_
            clear henv a; intro a henv
            refine sAny_take (i := 5) [10, 11, 12] (fun _ => True) (v := .agg #[.bool (neg ((y.natAbs : Int) / (Int.gcd x y : Int))), .slice A130 (zl ((y.natAbs : Int) / (Int.gcd x y : Int))) c131]) rfl (by kernel_rfl) (fun _ _ _ h => h) (fun _ _ _ _ => trivial) henv rfl trivial (fun w' _ => rn_extract henv rfl rfl) ?_
            clear henv a; intro a henv
            refine sAny_take (i := 6) [11, 12] (fun _ => True) (v := .agg #[.bool (neg ((y.natAbs : Int) % (Int.gcd x y : Int))), .slice A133 (zl ((y.natAbs : Int) % (Int.gcd x y : Int))) c134]) rfl (by kernel_rfl) (fun _ _ _ h => h) (fun _ _ _ _ => trivial) henv rfl trivial (fun w' _ => rn_extract henv rfl rfl) ?_
            clear henv a; intro a henv
            refine sAny_take (i := 7) [12] (fun _ => True) (v := .int .i64 0) rfl (by kernel_rfl) (fun _ _ _ h => h) (fun _ _ _ _ => trivial) henv rfl trivial (fun w' _ => rn_extract henv rfl rfl) ?_
            clear henv a; intro a henv
            refine sAny_one (i := 8) (by kernel_rfl) rfl rfl (op_alloc (c := #[.bool (neg 0), .slice none (zl 0) 0]) henv hst rfl zero_anvil_integer_Int zcells ?_)
            clear henv hst a; intro a w138 g137 henv hst
            refine ⟨.inr ⟨hst.kn.pick [2, 3, 4, 5, 6, 7, 8, 9] [3, 4, 5, 6, 7, 8], .inr (hst.kn.pick [] [])⟩, ?_⟩
            refine sAny_one (i := 10) (by kernel_rfl) rfl rfl (op_store (k := 0) (c' := #[.bool (neg ((y.natAbs : Int) / (Int.gcd x y : Int))), .slice A130 (zl ((y.natAbs : Int) / (Int.gcd x y : Int))) c131]) henv hst (ty_anvil_integer_Int.size) rfl rfl rfl rfl (by simp) rfl rfl ?_)
            clear henv hst a; intro a w139 henv hst
            refine ⟨.inr ⟨hst.kn.pick [2, 3, 4, 5, 6, 7, 8, 9] [3, 4, 5, 6, 7, 8], .inl rfl⟩, ?_⟩
            refine sAny_one (i := 11) (by kernel_rfl) rfl rfl (op_store (k := 1) (c' := #[.bool (neg ((y.natAbs : Int) % (Int.gcd x y : Int))), .slice A133 (zl ((y.natAbs : Int) % (Int.gcd x y : Int))) c134]) henv hst (ty_anvil_integer_Int.size) rfl rfl rfl rfl (by simp) rfl rfl ?_)
            clear henv hst a; intro a w140 henv hst
            refine ⟨.inr ⟨hst.kn.pick [2, 3, 4, 5, 6, 7, 8, 9] [3, 4, 5, 6, 7, 8], .inl rfl⟩, ?_⟩
            refine sAny_take (i := 12) [] (fun _ => True) (v := .int .i64 0) rfl (by kernel_rfl) (fun _ _ _ h => h) (fun _ _ _ _ => trivial) henv rfl trivial (fun w' _ => rn_assign henv rfl) ?_
            clear henv a; intro a henv
            refine sAny_done (by kernel_rfl) ?_ _
            exact th_n ⟨A81, c82, A130, c131, A133, c134, g137, g128, henv.sub ⟨rfl, rfl, rfl, rfl, rfl, rfl, rfl, rfl, rfl, trivial⟩, hst.pick [1, 0, 2, 3, 4, 5, 6, 7, 8, 9] [0, 1, 2, 3, 4, 5, 6, 7, 8] (by decide)⟩
          · refine ⟨_, rfl, rfl, op_alloc (c := #[.bool (neg 0), .slice none (zl 0) 0]) henv hst rfl zero_anvil_integer_Int zcells ?_⟩
            clear henv hst a; intro a w142 g141 henv hst
            refine ⟨.inr ⟨hst.kn.pick [2, 3, 4, 5, 6, 7, 8, 9] [1, 2, 3, 4, 5, 6], .inr (hst.kn.pick [] [])⟩, ?_⟩
            refine sAny_one (i := 3) (by kernel_rfl) rfl rfl (op_call henv rfl Try.call36 rfl (divmod_z (x := (y.natAbs : Int)) (y := (Int.gcd x y : Int)) (show ZIn _ A81 c82 (y.natAbs : Int) from hst.pat (k := 0) rfl) (show ZIn _ A7' c7' (Int.gcd x y : Int) from hst.pat (k := 4) rfl) (by rw [zl_abs]; omega) (by omega) (by omega)) ?_)
            rintro e w149 ⟨_, _, rfl, ⟨A143, c144, rfl, hz145⟩, ⟨A146, c147, rfl, hz148⟩, hb⟩
            refine ⟨_, rfl, ?_⟩
            clear henv a; intro a henv
            replace hst := ((hst.call hb).addZ hz145 rfl).addZ hz148 rfl
            clear hz145 hz148
            clear hb
            refine ⟨.inr ⟨hst.kn.pick [2, 3, 4, 5, 6, 7, 8, 9] [3, 4, 5, 6, 7, 8], .inr (hst.kn.pick [] [])⟩, ?_⟩
            refine sAny_take (i := 4) [5, 6, 7, 10, 11, 12] (fun _ => True) (v := .tuple #[.agg #[.bool (neg ((y.natAbs : Int) / (Int.gcd x y : Int))), .slice A143 (zl ((y.natAbs : Int) / (Int.gcd x y : Int))) c144], .agg #[.bool (neg ((y.natAbs : Int) % (Int.gcd x y : Int))), .slice A146 (zl ((y.natAbs : Int) % (Int.gcd x y : Int))) c147], .int .i64 0]) rfl (by kernel_rfl) (fun _ _ _ h => h) (fun _ _ _ _ => trivial) henv rfl trivial (fun w' _ => rn_move henv rfl) ?_
            clear henv a; intro a henv
            refine sAny_take (i := 5) [10, 11, 12] (fun _ => True) (v := .agg #[.bool (neg ((y.natAbs : Int) / (Int.gcd x y : Int))), .slice A143 (zl ((y.natAbs : Int) / (Int.gcd x y : Int))) c144]) rfl (by kernel_rfl) (fun _ _ _ h => h) (fun _ _ _ _ => trivial) henv rfl trivial (fun w' _ => rn_extract henv rfl rfl) ?_
            clear henv a; intro a henv
            refine sAny_take (i := 6) [11, 12] (fun _ => True) (v := .agg #[.bool (neg ((y.natAbs : Int) % (Int.gcd x y : Int))), .slice A146 (zl ((y.natAbs : Int) % (Int.gcd x y : Int))) c147]) rfl (by kernel_rfl) (fun _ _ _ h => h) (fun _ _ _ _ => trivial) henv rfl trivial (fun w' _ => rn_extract henv rfl rfl) ?_
            clear henv a; intro a henv
            refine sAny_take (i := 7) [12] (fun _ => True) (v := .int .i64 0) rfl (by kernel_rfl) (fun _ _ _ h => h) (fun _ _ _ _ => trivial) henv rfl trivial (fun w' _ => rn_extract henv rfl rfl) ?_
            clear henv a; intro a henv
            refine sAny_one (i := 10) (by kernel_rfl) rfl rfl (op_store (k := 0) (c' := #[.bool (neg ((y.natAbs : Int) / (Int.gcd x y : Int))), .slice A143 (zl ((y.natAbs : Int) / (Int.gcd x y : Int))) c144]) henv hst (ty_anvil_integer_Int.size) rfl rfl rfl rfl (by simp) rfl rfl ?_)
            clear henv hst a; intro a w150 henv hst
            refine ⟨.inr ⟨hst.kn.pick [2, 3, 4, 5, 6, 7, 8, 9] [3, 4, 5, 6, 7, 8], .inl rfl⟩, ?_⟩
            refine sAny_one (i := 11) (by kernel_rfl) rfl rfl (op_store (k := 1) (c' := #[.bool (neg ((y.natAbs : Int) % (Int.gcd x y : Int))), .slice A146 (zl ((y.natAbs : Int) % (Int.gcd x y : Int))) c147]) henv hst (ty_anvil_integer_Int.size) rfl rfl rfl rfl (by simp) rfl rfl ?_)
            clear henv hst a; intro a w151 henv hst
            refine ⟨.inr ⟨hst.kn.pick [2, 3, 4, 5, 6, 7, 8, 9] [3, 4, 5, 6, 7, 8], .inl rfl⟩, ?_⟩
            refine sAny_take (i := 12) [] (fun _ => True) (v := .int .i64 0) rfl (by kernel_rfl) (fun _ _ _ h => h) (fun _ _ _ _ => trivial) henv rfl trivial (fun w' _ => rn_assign henv rfl) ?_
            clear henv a; intro a henv
            refine sAny_done (by kernel_rfl) ?_ _
            exact th_n ⟨A81, c82, A143, c144, A146, c147, g141, g128, henv.sub ⟨rfl, rfl, rfl, rfl, rfl, rfl, rfl, rfl, rfl, trivial⟩, hst.pick [1, 0, 2, 3, 4, 5, 6, 7, 8, 9] [0, 1, 2, 3, 4, 5, 6, 7, 8] (by decide)⟩
      · refine ⟨_, rfl, rfl, op_alloc (c := #[.bool (neg 0), .slice none (zl 0) 0]) henv hst rfl zero_anvil_integer_Int zcells ?_⟩
        clear henv hst a; intro a w153 g152 henv hst
        refine ⟨.inr ⟨hst.kn.pick [1, 2, 3, 4, 5, 6, 7, 8] [0, 1, 2, 3, 4, 5], .inr (hst.kn.pick [] [])⟩, ?_⟩
        refine sAny_all (rs := [1, 9]) (by kernel_rfl) (by simp) ?_
        simp only [List.forall_mem_cons, List.not_mem_nil, false_implies, implies_true, and_true]
        refine ⟨?_, ?_⟩
        · refine ⟨_, rfl, rfl, op_call henv rfl Try.call18 rfl (abs_z (z := y) (show ZIn _ B d y from hst.pat (k := 1) rfl)) ?_⟩
          rintro e w157 ⟨_, rfl, ⟨A154, c155, rfl, hz156⟩, hb⟩
          refine ⟨_, rfl, ?_⟩
          clear henv a; intro a henv
          replace hst := (hst.call hb).addZ hz156 rfl
          clear hz156
          clear hb
          refine ⟨.inr ⟨hst.kn.pick [1, 2, 3, 4, 5, 6, 7, 8] [1, 2, 3, 4, 5, 6], .inr (hst.kn.pick [] [])⟩, ?_⟩
          refine sAny_all (rs := [3, 9]) (by kernel_rfl) (by simp) ?_
          simp only [List.forall_mem_cons, List.not_mem_nil, false_implies, implies_true, and_true]
          refine ⟨?_, ?_⟩
          · refine ⟨_, rfl, rfl, op_call henv rfl Try.call36 rfl (divmod_z (x := (y.natAbs : Int)) (y := (Int.gcd x y : Int)) (show ZIn _ A154 c155 (y.natAbs : Int) from hst.pat (k := 0) rfl) (show ZIn _ A7' c7' (Int.gcd x y : Int) from hst.pat (k := 4) rfl) (by rw [zl_abs]; omega) (by omega) (by omega)) ?_⟩
            rintro e w164 ⟨_, _, rfl, ⟨A158, c159, rfl, hz160⟩, ⟨A161, c162, rfl, hz163⟩, hb⟩
            refine ⟨_, rfl, ?_⟩
            clear henv a; intro a henv
            replace hst := ((hst.call hb).addZ hz160 rfl).addZ hz163 rfl
            clear hz160 hz163
            clear hb
            refine ⟨.inr ⟨hst.kn.pick [1, 2, 3, 4, 5, 6, 7, 8] [3, 4, 5, 6, 7, 8], .inr (hst.kn.pick [] [])⟩, ?_⟩
            refine sAny_take (i := 4) [5, 6, 7, 10, 11, 12] (fun _ => True) (v := .tuple #[.agg #[.bool (neg ((y.natAbs : Int) / (Int.gcd x y : Int))), .slice A158 (zl ((y.natAbs : Int) / (Int.gcd x y : Int))) c159], .agg #[.bool (neg ((y.natAbs : Int) % (Int.gcd x y : Int))), .slice A161 (zl ((y.natAbs : Int) % (Int.gcd x y : Int))) c162], .int .i64 0]) rfl (by kernel_rfl) (fun _ _ _ h => h) (fun _ _ _ _ => trivial) henv rfl trivial (fun w' _ => rn_move henv rfl) ?_
            clear henv a; intro a henv
            refine sAny_take (i := 5) [10, 11, 12] (fun _ => True) (v := .agg #[.bool (neg ((y.natAbs : Int) / (Int.gcd x y : Int))), .slice A158 (zl ((y.natAbs : Int) / (Int.gcd x y : Int))) c159]) rfl (by kernel_rfl) (fun _ _ _ h => h) (fun _ _ _ _ => trivial) henv rfl trivial (fun w' _ => rn_extract henv rfl rfl) ?_
            clear henv a; intro a henv
            refine sAny_take (i := 6) [11, 12] (fun _ => True) (v := .agg #[.bool (neg ((y.natAbs : Int) % (Int.gcd x y : Int))), .slice A161 (zl ((y.natAbs : Int) % (Int.gcd x y : Int))) c162]) rfl (by kernel_rfl) (fun _ _ _ h => h) (fun _ _ _ _ => trivial) henv rfl trivial (fun w' _ => rn_extract henv rfl rfl) ?_
            clear henv a; intro a henv
            refine sAny_take (i := 7) [12] (fun _ => True) (v := .int .i64 0) rfl (by kernel_rfl) (fun _ _ _ h => h) (fun _ _ _ _ => trivial) henv rfl trivial (fun w' _ => rn_extract henv rfl rfl) ?_
            clear henv a; intro a henv
            refine sAny_one (i := 9) (by kernel_rfl) rfl rfl (op_alloc (c := #[.bool (neg 0), .slice none (zl 0) 0]) henv hst rfl zero_anvil_integer_Int zcells ?_)
            clear henv hst a; intro a w166 g165 henv hst
            refine ⟨.inr ⟨hst.kn.pick [2, 3, 4, 5, 6, 7, 8, 9] [3, 4, 5, 6, 7, 8], .inr (hst.kn.pick [] [])⟩, ?_⟩
            refine sAny_one (i := 10) (by kernel_rfl) rfl rfl (op_store (k := 1) (c' := #[.bool (neg ((y.natAbs : Int) / (Int.gcd x y : Int))), .slice A158 (zl ((y.natAbs : Int) / (Int.gcd x y : Int))) c159]) henv hst (ty_anvil_integer_Int.size) rfl rfl rfl rfl (by simp) rfl rfl ?_)
            clear henv hst a; intro a w167 henv hst
            refine ⟨.inr ⟨hst.kn.pick [2, 3, 4, 5, 6, 7, 8, 9] [3, 4, 5, 6, 7, 8], .inl rfl⟩, ?_⟩
            refine sAny_one (i := 11) (by kernel_rfl) rfl rfl (op_store (k := 0) (c' := #[.bool (neg ((y.natAbs : Int) % (Int.gcd x y : Int))), .slice A161 (zl ((y.natAbs : Int) % (Int.gcd x y : Int))) c162]) henv hst (ty_anvil_integer_Int.size) rfl rfl rfl rfl (by simp) rfl rfl ?_)
            clear henv hst a; intro a w168 henv hst
            refine ⟨.inr ⟨hst.kn.pick [2, 3, 4, 5, 6, 7, 8, 9] [3, 4, 5, 6, 7, 8], .inl rfl⟩, ?_⟩
            refine sAny_take (i := 12) [] (fun _ => True) (v := .int .i64 0) rfl (by kernel_rfl) (fun _ _ _ h => h) (fun _ _ _ _ => trivial) henv rfl trivial (fun w' _ => rn_assign henv rfl) ?_
            clear henv a; intro a henv
            refine sAny_done (by kernel_rfl) ?_ _
            exact th_n ⟨A154, c155, A158, c159, A161, c162, g152, g165, henv.sub ⟨rfl, rfl, rfl, rfl, rfl, rfl, rfl, rfl, rfl, trivial⟩, hst.pick [0, 1, 2, 3, 4, 5, 6, 7, 8, 9] [0, 1, 2, 3, 4, 5, 6, 7, 8] (by decide)⟩
          · refine ⟨_, rfl, rfl, op_alloc (c := #[.bool (neg 0), .slice none (zl 0) 0]) henv hst rfl zero_anvil_integer_Int zcells ?_⟩
            clear henv hst a; intro a w170 g169 henv hst
            refine ⟨.inr ⟨hst.kn.pick [2, 3, 4, 5, 6, 7, 8, 9] [1, 2, 3, 4, 5, 6], .inr (hst.kn.pick [] [])⟩, ?_⟩
            refine sAny_one (i := 3) (by kernel_rfl) rfl rfl (op_call henv rfl Try.call36 rfl (divmod_z (x := (y.natAbs : Int)) (y := (Int.gcd x y : Int)) (show ZIn _ A154 c155 (y.natAbs : Int) from hst.pat (k := 0) rfl) (show ZIn _ A7' c7' (Int.gcd x y : Int) from hst.pat (k := 4) rfl) (by rw [zl_abs]; omega) (by omega) (by omega)) ?_)
            rintro e w177 ⟨_, _, rfl, ⟨A171, c172, rfl, hz173⟩, ⟨A174, c175, rfl, hz176⟩, hb⟩
            refine ⟨_, rfl, ?_⟩
            clear henv a; intro a henv
            replace hst := ((hst.call hb).addZ hz173 rfl).addZ hz176 rfl
            clear hz173 hz176
            clear hb
            refine ⟨.inr ⟨hst.kn.pick [2, 3, 4, 5, 6, 7, 8, 9] [3, 4, 5, 6, 7, 8], .inr (hst.kn.pick [] [])⟩, ?_⟩
            refine sAny_take (i := 4) [5, 6, 7, 10, 11, 12] (fun _ => True) (v := .tuple #[.agg #[.bool (neg ((y.natAbs : Int) / (Int.gcd x y : Int))), .slice A171 (zl ((y.natAbs : Int) / (Int.gcd x y : Int))) c172], .agg #[.bool (neg ((y.natAbs : Int) % (Int.gcd x y : Int))), .slice A174 (zl ((y.natAbs : Int) % (Int.gcd x y : Int))) c175], .int .i64 0]) rfl (by kernel_rfl) (fun _ _ _ h => h) (fun _ _ _ _ => trivial) henv rfl trivial (fun w' _ => rn_move henv rfl) ?_
            clear henv a; intro a henv
            refine sAny_take (i := 5) [10, 11, 12] (fun _ => True) (v := .agg #[.bool (neg ((y.natAbs : Int) / (Int.gcd x y : Int))), .slice A171 (zl ((y.natAbs : Int) / (Int.gcd x y : Int))) c172]) rfl (by kernel_rfl) (fun _ _ _ h => h) (fun _ _ _ _ => trivial) henv rfl trivial (fun w' _ => rn_extract henv rfl rfl) ?_
            clear henv a; intro a henv
            refine sAny_take (i := 6) [11, 12] (fun _ => True) (v := .agg #[.bool (neg ((y.natAbs : Int) % (Int.gcd x y : Int))), .slice A174 (zl ((y.natAbs : Int) % (Int.gcd x y : Int))) c175]) rfl (by kernel_rfl) (fun _ _ _ h => h) (fun _ _ _ _ => trivial) henv rfl trivial (fun w' _ => rn_extract henv rfl rfl) ?_
            clear henv a; intro a henv
            refine sAny_take (i := 7) [12] (fun _ => True) (v := .int .i64 0) rfl (by kernel_rfl) (fun _ _ _ h => h) (fun _ _ _ _ => trivial) henv rfl trivial (fun w' _ => rn_extract henv rfl rfl) ?_
            clear henv a; intro a henv
            refine sAny_one (i := 10) (by kernel_rfl) rfl rfl (op_store (k := 1) (c' := #[.bool (neg ((y.natAbs : Int) / (Int.gcd x y : Int))), .slice A171 (zl ((y.natAbs : Int) / (Int.gcd x y : Int))) c172]) henv hst (ty_anvil_integer_Int.size) rfl rfl rfl rfl (by simp) rfl rfl ?_)
            clear henv hst a; intro a w178 henv hst
            refine ⟨.inr ⟨hst.kn.pick [2, 3, 4, 5, 6, 7, 8, 9] [3, 4, 5, 6, 7, 8], .inl rfl⟩, ?_⟩
            refine sAny_one (i := 11) (by kernel_rfl) rfl rfl (op_store (k := 0) (c' := #[.bool (neg ((y.natAbs : Int) % (Int.gcd x y : Int))), .slice A174 (zl ((y.natAbs : Int) % (Int.gcd x y : Int))) c175]) henv hst (ty_anvil_integer_Int.size) rfl rfl rfl rfl (by simp) rfl rfl ?_)
            clear henv hst a; intro a w179 henv hst
            refine ⟨.inr ⟨hst.kn.pick [2, 3, 4, 5, 6, 7, 8, 9] [3, 4, 5, 6, 7, 8], .inl rfl⟩, ?_⟩
            refine sAny_take (i := 12) [] (fun _ => True) (v := .int .i64 0) rfl (by kernel_rfl) (fun _ _ _ h => h) (fun _ _ _ _ => trivial) henv rfl trivial (fun w' _ => rn_assign henv rfl) ?_
            clear henv a; intro a henv
            refine sAny_done (by kernel_rfl) ?_ _
            exact th_n ⟨A154, c155, A171, c172, A174, c175, g152, g169, henv.sub ⟨rfl, rfl, rfl, rfl, rfl, rfl, rfl, rfl, rfl, trivial⟩, hst.pick [0, 1, 2, 3, 4, 5, 6, 7, 8, 9] [0, 1, 2, 3, 4, 5, 6, 7, 8] (by decide)⟩
        · refine ⟨_, rfl, rfl, op_alloc (c := #[.bool (neg 0), .slice none (zl 0) 0]) henv hst rfl zero_anvil_integer_Int zcells ?_⟩
          clear henv hst a; intro a w181 g180 henv hst
          refine ⟨.inr ⟨hst.kn.pick [2, 3, 4, 5, 6, 7, 8, 9] [0, 1, 2, 3, 4, 5], .inr (hst.kn.pick [] [])⟩, ?_⟩
          refine sAny_one (i := 1) (by kernel_rfl) rfl rfl (op_call henv rfl Try.call18 rfl (abs_z (z := y) (show ZIn _ B d y from hst.pat (k := 1) rfl)) ?_)
          rintro e w185 ⟨_, rfl, ⟨A182, c183, rfl, hz184⟩, hb⟩
          refine ⟨_, rfl, ?_⟩
          clear henv a; intro a henv
          replace hst := (hst.call hb).addZ hz184 rfl
          clear hz184
          clear hb
          refine ⟨.inr ⟨hst.kn.pick [2, 3, 4, 5, 6, 7, 8, 9] [1, 2, 3, 4, 5, 6], .inr (hst.kn.pick [] [])⟩, ?_⟩
          refine sAny_one (i := 3) (by kernel_rfl) rfl rfl (op_call henv rfl Try.call36 rfl (divmod_z (x := (y.natAbs : Int)) (y := (Int.gcd x y : Int)) (show ZIn _ A182 c183 (y.natAbs : Int) from hst.pat (k := 0) rfl) (show ZIn _ A7' c7' (Int.gcd x y : Int) from hst.pat (k := 4) rfl) (by rw [zl_abs]; omega) (by omega) (by omega)) ?_)
          rintro e w192 ⟨_, _, rfl, ⟨A186, c187, rfl, hz188⟩, ⟨A189, c190, rfl, hz191⟩, hb⟩
          refine ⟨_, rfl, ?_⟩
          clear henv a; intro a henv
          replace hst := ((hst.call hb).addZ hz188 rfl).addZ hz191 rfl
          clear hz188 hz191
          clear hb
          refine ⟨.inr ⟨hst.kn.pick [2, 3, 4, 5, 6, 7, 8, 9] [3, 4, 5, 6, 7, 8], .inr (hst.kn.pick [] [])⟩, ?_⟩
          refine sAny_take (i := 4) [5, 6, 7, 10, 11, 12] (fun _ => True) (v := .tuple #[.agg #[.bool (neg ((y.natAbs : Int) / (Int.gcd x y : Int))), .slice A186 (zl ((y.natAbs : Int) / (Int.gcd x y : Int))) c187], .agg #[.bool (neg ((y.natAbs : Int) % (Int.gcd x y : Int))), .slice A189 (zl ((y.natAbs : Int) % (Int.gcd x y : Int))) c190], .int .i64 0]) rfl (by kernel_rfl) (fun _ _ _ h => h) (fun _ _ _ _ => trivial) henv rfl trivial (fun w' _ => rn_move henv rfl) ?_
          clear henv a; intro a henv
          refine sAny_take (i := 5) [10, 11, 12] (fun _ => True) (v := .agg #[.bool (neg ((y.natAbs : Int) / (Int.gcd x y : Int))), .slice A186 (zl ((y.natAbs : Int) / (Int.gcd x y : Int))) c187]) rfl (by kernel_rfl) (fun _ _ _ h => h) (fun _ _ _ _ => trivial) henv rfl trivial (fun w' _ => rn_extract henv rfl rfl) ?_
          clear henv a; intro a henv
          refine sAny_take (i := 6) [11, 12] (fun _ => True) (v := .agg #[.bool (neg ((y.natAbs : Int) % (Int.gcd x y : Int))), .slice A189 (zl ((y.natAbs : Int) % (Int.gcd x y : Int))) c190]) rfl (by kernel_rfl) (fun _ _ _ h => h) (fun _ _ _ _ => trivial) henv rfl trivial (fun w' _ => rn_extract henv rfl rfl) ?_
          clear henv a; intro a henv
          refine sAny_take (i := 7) [12] (fun _ => True) (v := .int .i64 0) rfl (by kernel_rfl) (fun _ _ _ h => h) (fun _ _ _ _ => trivial) henv rfl trivial (fun w' _ => rn_extract henv rfl rfl) ?_
          clear henv a; intro a henv
          refine sAny_one (i := 10) (by kernel_rfl) rfl rfl (op_store (k := 1) (c' := #[.bool (neg ((y.natAbs : Int) / (Int.gcd x y : Int))), .slice A186 (zl ((y.natAbs : Int) / (Int.gcd x y : Int))) c187]) henv hst (ty_anvil_integer_Int.size) rfl rfl rfl rfl (by simp) rfl rfl ?_)
          clear henv hst a; intro a w193 henv hst
          refine ⟨.inr ⟨hst.kn.pick [2, 3, 4, 5, 6, 7, 8, 9] [3, 4, 5, 6, 7, 8], .inl rfl⟩, ?_⟩
          refine sAny_one (i := 11) (by kernel_rfl) rfl rfl (op_store (k := 0) (c' := #[.bool (neg ((y.natAbs : Int) % (Int.gcd x y : Int))), .slice A189 (zl ((y.natAbs : Int) % (Int.gcd x y : Int))) c190]) henv hst (ty_anvil_integer_Int.size) rfl rfl rfl rfl (by simp) rfl rfl ?_)
          clear henv hst a; intro a w194 henv hst
          refine ⟨.inr ⟨hst.kn.pick [2, 3, 4, 5, 6, 7, 8, 9] [3, 4, 5, 6, 7, 8], .inl rfl⟩, ?_⟩
          refine sAny_take (i := 12) [] (fun _ => True) (v := .int .i64 0) rfl (by kernel_rfl) (fun _ _ _ h => h) (fun _ _ _ _ => trivial) henv rfl trivial (fun w' _ => rn_assign henv rfl) ?_
          clear henv a; intro a henv
          refine sAny_done (by kernel_rfl) ?_ _
          exact th_n ⟨A182, c183, A186, c187, A189, c190, g152, g180, henv.sub ⟨rfl, rfl, rfl, rfl, rfl, rfl, rfl, rfl, rfl, trivial⟩, hst.pick [0, 1, 2, 3, 4, 5, 6, 7, 8, 9] [0, 1, 2, 3, 4, 5, 6, 7, 8] (by decide)⟩
      · refine ⟨_, rfl, rfl, op_alloc (c := #[.bool (neg 0), .slice none (zl 0) 0]) henv hst rfl zero_anvil_integer_Int zcells ?_⟩
        clear henv hst a; intro a w196 g195 henv hst
        refine ⟨.inr ⟨hst.kn.pick [1, 2, 3, 4, 5, 6, 7, 8] [0, 1, 2, 3, 4, 5], .inr (hst.kn.pick [] [])⟩, ?_⟩
        refine sAny_all (rs := [1, 8]) (by kernel_rfl) (by simp) ?_
        simp only [List.forall_mem_cons, List.not_mem_nil, false_implies, implies_true, and_true]
        refine ⟨?_, ?_⟩
        · refine ⟨_, rfl, rfl, op_call henv rfl Try.call18 rfl (abs_z (z := y) (show ZIn _ B d y from hst.pat (k := 1) rfl)) ?_⟩
          rintro e w200 ⟨_, rfl, ⟨A197, c198, rfl, hz199⟩, hb⟩
          refine ⟨_, rfl, ?_⟩
          clear henv a; intro a henv
          replace hst := (hst.call hb).addZ hz199 rfl
          clear hz199
          clear hb
          refine ⟨.inr ⟨hst.kn.pick [1, 2, 3, 4, 5, 6, 7, 8] [1, 2, 3, 4, 5, 6], .inr (hst.kn.pick [] [])⟩, ?_⟩
          refine sAny_all (rs := [3, 8]) (by kernel_rfl) (by simp) ?_
          simp only [List.forall_mem_cons, List.not_mem_nil, false_implies, implies_true, and_true]
          refine ⟨?_, ?_⟩
          · refine ⟨_, rfl, rfl, op_call henv rfl Try.call36 rfl (divmod_z (x := (y.natAbs : Int)) (y := (Int.gcd x y : Int)) (show ZIn _ A197 c198 (y.natAbs : Int) from hst.pat (k := 0) rfl) (show ZIn _ A7' c7' (Int.gcd x y : Int) from hst.pat (k := 4) rfl) (by rw [zl_abs]; omega) (by omega) (by omega)) ?_⟩
            rintro e w207 ⟨_, _, rfl, ⟨A201, c202, rfl, hz203⟩, ⟨A204, c205, rfl, hz206⟩, hb⟩
            refine ⟨_, rfl, ?_⟩
            clear henv a; intro a henv
            replace hst := ((hst.call hb).addZ hz203 rfl).addZ hz206 rfl
            clear hz203 hz206
            clear hb
            refine ⟨.inr ⟨hst.kn.pick [1, 2, 3, 4, 5, 6, 7, 8] [3, 4, 5, 6, 7, 8], .inr (hst.kn.pick [] [])⟩, ?_⟩
            refine sAny_take (i := 4) [5, 6, 7, 10, 11, 12] (fun _ => True) (v := .tuple #[.agg #[.bool (neg ((y.natAbs : Int) / (Int.gcd x y : Int))), .slice A201 (zl ((y.natAbs : Int) / (Int.gcd x y : Int))) c202], .agg #[.bool (neg ((y.natAbs : Int) % (Int.gcd x y : Int))), .slice A204 (zl ((y.natAbs : Int) % (Int.gcd x y : Int))) c205], .int .i64 0]) rfl (by kernel_rfl) (fun _ _ _ h => h) (fun _ _ _ _ => trivial) henv rfl trivial (fun w' _ => rn_move henv rfl) ?_
            clear henv a; intro a henv
            refine sAny_take (i := 5) [10, 11, 12] (fun _ => True) (v := .agg #[.bool (neg ((y.natAbs : Int) / (Int.gcd x y : Int))), .slice A201 (zl ((y.natAbs : Int) / (Int.gcd x y : Int))) c202]) rfl (by kernel_rfl) (fun _ _ _ h => h) (fun _ _ _ _ => trivial) henv rfl trivial (fun w' _ => rn_extract henv rfl rfl) ?_
            clear henv a; intro a henv
            refine sAny_take (i := 6) [11, 12] (fun _ => True) (v := .agg #[.bool (neg ((y.natAbs : Int) % (Int.gcd x y : Int))), .slice A204 (zl ((y.natAbs : Int) % (Int.gcd x y : Int))) c205]) rfl (by kernel_rfl) (fun _ _ _ h => h) (fun _ _ _ _ => trivial) henv rfl trivial (fun w' _ => rn_extract henv rfl rfl) ?_
            clear henv a; intro a henv
            refine sAny_take (i := 7) [12] (fun _ => True) (v := .int .i64 0) rfl (by kernel_rfl) (fun _ _ _ h => h) (fun _ _ _ _ => trivial) henv rfl trivial (fun w' _ => rn_extract henv rfl rfl) ?_
            clear henv a; intro a henv
            refine sAny_one (i := 8) (by kernel_rfl) rfl rfl (op_alloc (c := #[.bool (neg 0), .slice none (zl 0) 0]) henv hst rfl zero_anvil_integer_Int zcells ?_)
            clear henv hst a; intro a w209 g208 henv hst
            refine ⟨.inr ⟨hst.kn.pick [2, 3, 4, 5, 6, 7, 8, 9] [3, 4, 5, 6, 7, 8], .inr (hst.kn.pick [] [])⟩, ?_⟩
            refine sAny_one (i := 10) (by kernel_rfl) rfl rfl (op_store (k := 0) (c' := #[.bool (neg ((y.natAbs : Int) / (Int.gcd x y : Int))), .slice A201 (zl ((y.natAbs : Int) / (Int.gcd x y : Int))) c202]) henv hst (ty_anvil_integer_Int.size) rfl rfl rfl rfl (by simp) rfl rfl ?_)
            clear henv hst a; intro a w210 henv hst
            refine ⟨.inr ⟨hst.kn.pick [2, 3, 4, 5, 6, 7, 8, 9] [3, 4, 5, 6, 7, 8], .inl rfl⟩, ?_⟩
            refine sAny_one (i := 11) (by kernel_rfl) rfl rfl (op_store (k := 1) (c' := #[.bool (neg ((y.natAbs : Int) % (Int.gcd x y : Int))), .slice A204 (zl ((y.natAbs : Int) % (Int.gcd x y : Int))) c205]) henv hst (ty_anvil_integer_Int.size) rfl rfl rfl rfl (by simp) rfl rfl ?_)
            clear henv hst a; intro a w211 henv hst
            refine ⟨.inr ⟨hst.kn.pick [2, 3, 4, 5, 6, 7, 8, 9] [3, 4, 5, 6, 7, 8], .inl rfl⟩, ?_⟩
            refine sAny_take (i := 12) [] (fun _ => True) (v := .int .i64 0) rfl (by kernel_rfl) (fun _ _ _ h => h) (fun _ _ _ _ => trivial) henv rfl trivial (fun w' _ => rn_assign henv rfl) ?_
            clear henv a; intro a henv
            refine sAny_done (by kernel_rfl) ?_ _
            exact th_n ⟨A197, c198, A201, c202, A204, c205, g208, g195, henv.sub ⟨rfl, rfl, rfl, rfl, rfl, rfl, rfl, rfl, rfl, trivial⟩, hst.pick [1, 0, 2, 3, 4, 5, 6, 7, 8, 9] [0, 1, 2, 3, 4, 5, 6, 7, 8] (by decide)⟩
          · refine ⟨_, rfl, rfl, op_alloc (c := #[.bool (neg 0), .slice none (zl 0) 0]) henv hst rfl zero_anvil_integer_Int zcells ?_⟩
            clear henv hst a; intro a w213 g212 henv hst
            refine ⟨.inr ⟨hst.kn.pick [2, 3, 4, 5, 6, 7, 8, 9] [1, 2, 3, 4, 5, 6], .inr (hst.kn.pick [] [])⟩, ?_⟩
            refine sAny_one (i := 3) (by kernel_rfl) rfl rfl (op_call henv rfl Try.call36 rfl (divmod_z (x := (y.natAbs : Int)) (y := (Int.gcd x y : Int)) (show ZIn _ A197 c198 (y.natAbs : Int) from hst.pat (k := 0) rfl) (show ZIn _ A7' c7' (Int.gcd x y : Int) from hst.pat (k := 4) rfl) (by rw [zl_abs]; omega) (by omega) (by omega)) ?_)
            rintro e w220 ⟨_, _, rfl, ⟨A214, c215, rfl, hz216⟩, ⟨A217, c218, rfl, hz219⟩, hb⟩
            refine ⟨_, rfl, ?_⟩
            clear henv a; intro a henv
            replace hst := ((hst.call hb).addZ hz216 rfl).addZ hz219 rfl
            clear hz216 hz219
            clear hb
            refine ⟨.inr ⟨hst.kn.pick [2, 3, 4, 5, 6, 7, 8, 9] [3, 4, 5, 6, 7, 8], .inr (hst.kn.pick [] [])⟩, ?_⟩
            refine sAny_take (i := 4) [5, 6, 7, 10, 11, 12] (fun _ => True) (v := .tuple #[.agg #[.bool (neg ((y.natAbs : Int) / (Int.gcd x y : Int))), .slice A214 (zl ((y.natAbs : Int) / (Int.gcd x y : Int))) c215], .agg #[.bool (neg ((y.natAbs : Int) % (Int.gcd x y : Int))), .slice A217 (zl ((y.natAbs : Int) % (Int.gcd x y : Int))) c218], .int .i64 0]) rfl (by kernel_rfl) (fun _ _ _ h => h) (fun _ _ _ _ => trivial) henv rfl trivial (fun w' _ => rn_move henv rfl) ?_
            clear henv a; intro a henv
            refine sAny_take (i := 5) [10, 11, 12] (fun _ => True) (v := .agg #[.bool (neg ((y.natAbs : Int) / (Int.gcd x y : Int))), .slice A214 (zl ((y.natAbs : Int) / (Int.gcd x y : Int))) c215]) rfl (by kernel_rfl) (fun _ _ _ h => h) (fun _ _ _ _ => trivial) henv rfl trivial (fun w' _ => rn_extract henv rfl rfl) ?_
            clear henv a; intro a henv
            refine sAny_take (i := 6) [11, 12] (fun _ => True) (v := .agg #[.bool (neg ((y.natAbs : Int) % (Int.gcd x y : Int))), .slice A217 (zl ((y.natAbs : Int) % (Int.gcd x y : Int))) c218]) rfl (by kernel_rfl) (fun _ _ _ h => h) (fun _ _ _ _ => trivial) henv rfl trivial (fun w' _ => rn_extract henv rfl rfl) ?_
            clear henv a; intro a henv
            refine sAny_take (i := 7) [12] (fun _ => True) (v := .int .i64 0) rfl (by kernel_rfl) (fun _ _ _ h => h) (fun _ _ _ _ => trivial) henv rfl trivial (fun w' _ => rn_extract henv rfl rfl) ?_
            clear henv a; intro a henv
            refine sAny_one (i := 10) (by kernel_rfl) rfl rfl (op_store (k := 0) (c' := #[.bool (neg ((y.natAbs : Int) / (Int.gcd x y : Int))), .slice A214 (zl ((y.natAbs : Int) / (Int.gcd x y : Int))) c215]) henv hst (ty_anvil_integer_Int.size) rfl rfl rfl rfl (by simp) rfl rfl ?_)
            clear henv hst a; intro a w221 henv hst
            refine ⟨.inr ⟨hst.kn.pick [2, 3, 4, 5, 6, 7, 8, 9] [3, 4, 5, 6, 7, 8], .inl rfl⟩, ?_⟩
            refine sAny_one (i := 11) (by kernel_rfl) rfl rfl (op_store (k := 1) (c' := #[.bool (neg ((y.natAbs : Int) % (Int.gcd x y : Int))), .slice A217 (zl ((y.natAbs : Int) % (Int.gcd x y : Int))) c218]) henv hst (ty_anvil_integer_Int.size) rfl rfl rfl rfl (by simp) rfl rfl ?_)
            clear henv hst a; intro a w222 henv hst
            refine ⟨.inr ⟨hst.kn.pick [2, 3, 4, 5, 6, 7, 8, 9] [3, 4, 5, 6, 7, 8], .inl rfl⟩, ?_⟩
            refine sAny_take (i := 12) [] (fun _ => True) (v := .int .i64 0) rfl (by kernel_rfl) (fun _ _ _ h => h) (fun _ _ _ _ => trivial) henv rfl trivial (fun w' _ => rn_assign henv rfl) ?_
            clear henv a; intro a henv
            refine sAny_done (by kernel_rfl) ?_ _
            exact th_n ⟨A197, c198, A214, c215, A217, c218, g212, g195, henv.sub ⟨rfl, rfl, rfl, rfl, rfl, rfl, rfl, rfl, rfl, trivial⟩, hst.pick [1, 0, 2, 3, 4, 5, 6, 7, 8, 9] [0, 1, 2, 3, 4, 5, 6, 7, 8] (by decide)⟩
        · refine ⟨_, rfl, rfl, op_alloc (c := #[.bool (neg 0), .slice none (zl 0) 0]) henv hst rfl zero_anvil_integer_Int zcells ?_⟩
          clear henv hst a; intro a w224 g223 henv hst
          refine ⟨.inr ⟨hst.kn.pick [2, 3, 4, 5, 6, 7, 8, 9] [0, 1, 2, 3, 4, 5], .inr (hst.kn.pick [] [])⟩, ?_⟩
          refine sAny_one (i := 1) (by kernel_rfl) rfl rfl (op_call henv rfl Try.call18 rfl (abs_z (z := y) (show ZIn _ B d y from hst.pat (k := 1) rfl)) ?_)
          rintro e w228 ⟨_, rfl, ⟨A225, c226, rfl, hz227⟩, hb⟩
          refine ⟨_, rfl, ?_⟩
          clear henv a; intro a henv
          replace hst := (hst.call hb).addZ hz227 rfl
          clear hz227
          clear hb
          refine ⟨.inr ⟨hst.kn.pick [2, 3, 4, 5, 6, 7, 8, 9] [1, 2, 3, 4, 5, 6], .inr (hst.kn.pick [] [])⟩, ?_⟩
          refine sAny_one (i := 3) (by kernel_rfl) rfl rfl (op_call henv rfl Try.call36 rfl (divmod_z (x := (y.natAbs : Int)) (y := (Int.gcd x y : Int)) (show ZIn _ A225 c226 (y.natAbs : Int) from hst.pat (k := 0) rfl) (show ZIn _ A7' c7' (Int.gcd x y : Int) from hst.pat (k := 4) rfl) (by rw [zl_abs]; omega) (by omega) (by omega)) ?_)
          rintro e w235 ⟨_, _, rfl, ⟨A229, c230, rfl, hz231⟩, ⟨A232, c233, rfl, hz234⟩, hb⟩
          refine ⟨_, rfl, ?_⟩
          clear henv a; intro a henv
          replace hst := ((hst.call hb).addZ hz231 rfl).addZ hz234 rfl
          clear hz231 hz234
          clear hb
          refine ⟨.inr ⟨hst.kn.pick [2, 3, 4, 5, 6, 7, 8, 9] [3, 4, 5, 6, 7, 8], .inr (hst.kn.pick [] [])⟩, ?_⟩
          refine sAny_take (i := 4) [5, 6, 7, 10, 11, 12] (fun _ => True) (v := .tuple #[.agg #[.bool (neg ((y.natAbs : Int) / (Int.gcd x y : Int))), .slice A229 (zl ((y.natAbs : Int) / (Int.gcd x y : Int))) c230], .agg #[.bool (neg ((y.natAbs : Int) % (Int.gcd x y : Int))), .slice A232 (zl ((y.natAbs : Int) % (Int.gcd x y : Int))) c233], .int .i64 0]) rfl (by kernel_rfl) (fun _ _ _ h => h) (fun _ _ _ _ => trivial) henv rfl trivial (fun w' _ => rn_move henv rfl) ?_
          clear henv a; intro a henv
          refine sAny_take (i := 5) [10, 11, 12] (fun _ => True) (v := .agg #[.bool (neg ((y.natAbs : Int) / (Int.gcd x y : Int))), .slice A229 (zl ((y.natAbs : Int) / (Int.gcd x y : Int))) c230]) rfl (by kernel_rfl) (fun _ _ _ h => h) (fun _ _ _ _ => trivial) henv rfl trivial (fun w' _ => rn_extract henv rfl rfl) ?_
          clear henv a; intro a henv
          refine sAny_take (i := 6) [11, 12] (fun _ => True) (v := .agg #[.bool (neg ((y.natAbs : Int) % (Int.gcd x y : Int))), .slice A232 (zl ((y.natAbs : Int) % (Int.gcd x y : Int))) c233]) rfl (by kernel_rfl) (fun _ _ _ h => h) (fun _ _ _ _ => trivial) henv rfl trivial (fun w' _ => rn_extract henv rfl rfl) ?_
          clear henv a; intro a henv
          refine sAny_take (i := 7) [12] (fun _ => True) (v := .int .i64 0) rfl (by kernel_rfl) (fun _ _ _ h => h) (fun _ _ _ _ => trivial) henv rfl trivial (fun w' _ => rn_extract henv rfl rfl) ?_
          clear henv a; intro a henv
          refine sAny_one (i := 10) (by kernel_rfl) rfl rfl (op_store (k := 0) (c' := #[.bool (neg ((y.natAbs : Int) / (Int.gcd x y : Int))), .slice A229 (zl ((y.natAbs : Int) / (Int.gcd x y : Int))) c230]) henv hst (ty_anvil_integer_Int.size) rfl rfl rfl rfl (by simp) rfl rfl ?_)
          clear henv hst a; intro a w236 henv hst
          refine ⟨.inr ⟨hst.kn.pick [2, 3, 4, 5, 6, 7, 8, 9] [3, 4, 5, 6, 7, 8], .inl rfl⟩, ?_⟩
          refine sAny_one (i := 11) (by kernel_rfl) rfl rfl (op_store (k := 1) (c' := #[.bool (neg ((y.natAbs : Int) % (Int.gcd x y : Int))), .slice A232 (zl ((y.natAbs : Int) % (Int.gcd x y : Int))) c233]) henv hst (ty_anvil_integer_Int.size) rfl rfl rfl rfl (by simp) rfl rfl ?_)
          clear henv hst a; intro a w237 henv hst
          refine ⟨.inr ⟨hst.kn.pick [2, 3, 4, 5, 6, 7, 8, 9] [3, 4, 5, 6, 7, 8], .inl rfl⟩, ?_⟩
          refine sAny_take (i := 12) [] (fun _ => True) (v := .int .i64 0) rfl (by kernel_rfl) (fun _ _ _ h => h) (fun _ _ _ _ => trivial) henv rfl trivial (fun w' _ => rn_assign henv rfl) ?_
          clear henv a; intro a henv
          refine sAny_done (by kernel_rfl) ?_ _
          exact th_n ⟨A225, c226, A229, c230, A232, c233, g223, g195, henv.sub ⟨rfl, rfl, rfl, rfl, rfl, rfl, rfl, rfl, rfl, trivial⟩, hst.pick [1, 0, 2, 3, 4, 5, 6, 7, 8, 9] [0, 1, 2, 3, 4, 5, 6, 7, 8] (by decide)⟩
    clear henv hst a
    rintro a w238 ⟨A81, c82, A85, c86, A88, c89, g92, g94, henv, hst⟩
    have hk := bz_quot (x := x) hy0
    have hzk : zl ((y.natAbs : Int) / (Int.gcd x y : Int)) ≤ 200 := by have := zl_ediv (y.natAbs : Int) (Int.gcd x y : Int); rw [zl_abs] at this; omega
    refine wp_seq ?_
    refine region_seq ?_
    refine seq_step rfl (op_val (v := .agg #[.bool (neg u2), .slice A9' (zl u2) c9']) henv rfl (rn_load0 henv ty_anvil_integer_Int rfl (hst.oat (k := 8) rfl) rfl) ?_)
    clear henv a; intro a henv
    refine seq_step rfl (op_val (v := .agg #[.bool (neg ((y.natAbs : Int) / (Int.gcd x y : Int))), .slice A85 (zl ((y.natAbs : Int) / (Int.gcd x y : Int))) c86]) henv rfl (rn_load0 henv ty_anvil_integer_Int rfl (hst.oat (k := 1) rfl) rfl) ?_)
    clear henv a; intro a henv
    refine seq_step rfl (op_call henv rfl Try.call36 rfl (divmod_z (x := u2) (y := (y.natAbs : Int) / (Int.gcd x y : Int)) (show ZIn _ A9' c9' u2 from hst.pat (k := 7) rfl) (show ZIn _ A85 c86 ((y.natAbs : Int) / (Int.gcd x y : Int)) from hst.pat (k := 1) rfl) (by omega) (by omega) (by omega)) ?_)
    rintro e w245 ⟨_, _, rfl, ⟨A239, c240, rfl, hz241⟩, ⟨A242, c243, rfl, hz244⟩, hb⟩
    refine ⟨_, rfl, ?_⟩
    clear henv a; intro a henv
    replace hst := ((hst.call hb).addZ hz241 rfl).addZ hz244 rfl
    clear hz241 hz244
    clear hb
    refine seq_step rfl (op_val (v := .tuple #[.agg #[.bool (neg (u2 / ((y.natAbs : Int) / (Int.gcd x y : Int)))), .slice A239 (zl (u2 / ((y.natAbs : Int) / (Int.gcd x y : Int)))) c240], .agg #[.bool (neg (u2 % ((y.natAbs : Int) / (Int.gcd x y : Int)))), .slice A242 (zl (u2 % ((y.natAbs : Int) / (Int.gcd x y : Int)))) c243], .int .i64 0]) henv rfl (rn_move henv rfl) ?_)
    clear henv a; intro a henv
    refine seq_step rfl (op_val (v := .agg #[.bool (neg (u2 / ((y.natAbs : Int) / (Int.gcd x y : Int)))), .slice A239 (zl (u2 / ((y.natAbs : Int) / (Int.gcd x y : Int)))) c240]) henv rfl (rn_extract henv rfl rfl) ?_)
    clear henv a; intro a henv
    refine seq_step rfl (op_val (v := .agg #[.bool (neg (u2 % ((y.natAbs : Int) / (Int.gcd x y : Int)))), .slice A242 (zl (u2 % ((y.natAbs : Int) / (Int.gcd x y : Int)))) c243]) henv rfl (rn_extract henv rfl rfl) ?_)
    clear henv a; intro a henv
    refine seq_step rfl (op_val (v := .int .i64 0) henv rfl (rn_extract henv rfl rfl) ?_)
    clear henv a; intro a henv
    refine seq_step rfl (op_store (k := 8) (c' := #[.bool (neg (u2 % ((y.natAbs : Int) / (Int.gcd x y : Int)))), .slice A242 (zl (u2 % ((y.natAbs : Int) / (Int.gcd x y : Int)))) c243]) henv hst (ty_anvil_integer_Int.size) rfl rfl rfl rfl (by simp) rfl rfl ?_)
    clear henv hst a; intro a w246 henv hst
    refine wpList_nil ?_
    have hf := bz_fin hy0 hu2
    have hzr : zl (u2 % ((y.natAbs : Int) / (Int.gcd x y : Int))) ≤ 200 := Nat.le_trans (zl_emod (by omega)) hzk
    have hzx : zl ((u2 % ((y.natAbs : Int) / (Int.gcd x y : Int))) * x) ≤ 400 := by have := zl_mul (u2 % ((y.natAbs : Int) / (Int.gcd x y : Int))) x; omega
    have hzs : zl ((Int.gcd x y : Int) - ((u2 % ((y.natAbs : Int) / (Int.gcd x y : Int))) * x)) ≤ 1000 := by have := zl_sub (Int.gcd x y : Int) ((u2 % ((y.natAbs : Int) / (Int.gcd x y : Int))) * x); omega
    refine th_n ?_
    refine wp_seq ?_
    refine region_any (n := 12) (Sk [⟨g94, #[.bool (neg ((y.natAbs : Int) % (Int.gcd x y : Int))), .slice A88 (zl ((y.natAbs : Int) % (Int.gcd x y : Int))) c89], 28⟩, ⟨g92, #[.bool (neg ((y.natAbs : Int) / (Int.gcd x y : Int))), .slice A85 (zl ((y.natAbs : Int) / (Int.gcd x y : Int))) c86], 28⟩, ⟨gx, #[.bool (neg x), .slice A (zl x) c], 28⟩, ⟨gy, #[.bool (neg y), .slice B (zl y) d], 28⟩, ⟨gr, #[.bool (neg 0), .slice none (zl 0) 0], 28⟩, ⟨gs, #[.bool (neg 0), .slice none (zl 0) 0], 28⟩, ⟨gt, #[.bool (neg 0), .slice none (zl 0) 0], 28⟩, ⟨ga, #[.bool (neg (Int.gcd x y : Int)), .slice A7' (zl (Int.gcd x y : Int)) c7'], 28⟩, ⟨gu, #[.bool (neg (u2 % ((y.natAbs : Int) / (Int.gcd x y : Int)))), .slice A242 (zl (u2 % ((y.natAbs : Int) / (Int.gcd x y : Int)))) c243], 28⟩] [pfZ A242 c243 (u2 % ((y.natAbs : Int) / (Int.gcd x y : Int))), pfZ A239 c240 (u2 / ((y.natAbs : Int) / (Int.gcd x y : Int))), pfZ A88 c89 ((y.natAbs : Int) % (Int.gcd x y : Int)), pfZ A85 c86 ((y.natAbs : Int) / (Int.gcd x y : Int)), pfZ A81 c82 (y.natAbs : Int), pfZ A c x, pfZ B d y, pfZ none 0 0, pfZ A7' c7' (Int.gcd x y : Int), pfZ A9' c9' u2, pfZ A10 c10 v] [11] []) mixed rfl henv hst ?_
    clear henv hst; intro w247 henv hst
    refine sAny_take (i := 0) [4, 6, 7, 8, 9, 10, 11] (fun w' => w'.heap[ga]? = some (.cells #[.bool (neg (Int.gcd x y : Int)), .slice A7' (zl (Int.gcd x y : Int)) c7'] 28 (0, 0))) (v := .agg #[.bool (neg (Int.gcd x y : Int)), .slice A7' (zl (Int.gcd x y : Int)) c7']) rfl (by kernel_rfl) (fun _ _ _ h => h) (fun _ _ _ hS => hS.1.oat (k := 7) rfl) henv rfl (hst.oat (k := 7) rfl) (fun w' hg => rn_load0 henv ty_anvil_integer_Int rfl hg rfl) ?_
    clear henv a; intro a henv
    refine sAny_take (i := 1) [3, 4, 6, 7, 8, 9, 10, 11] (fun w' => w'.heap[gu]? = some (.cells #[.bool (neg (u2 % ((y.natAbs : Int) / (Int.gcd x y : Int)))), .slice A242 (zl (u2 % ((y.natAbs : Int) / (Int.gcd x y : Int)))) c243] 28 (0, 0))) (v := .agg #[.bool (neg (u2 % ((y.natAbs : Int) / (Int.gcd x y : Int)))), .slice A242 (zl (u2 % ((y.natAbs : Int) / (Int.gcd x y : Int)))) c243]) rfl (by kernel_rfl) (fun _ _ _ h => h) (fun _ _ _ hS => hS.1.oat (k := 8) rfl) henv rfl (hst.oat (k := 8) rfl) (fun w' hg => rn_load0 henv ty_anvil_integer_Int rfl hg rfl) ?_
    clear henv a; intro a henv
    refine sAny_take (i := 2) [3, 4, 6, 7, 8, 9, 10, 11] (fun w' => w'.heap[gx]? = some (.cells #[.bool (neg x), .slice A (zl x) c] 28 (0, 0))) (v := .agg #[.bool (neg x), .slice A (zl x) c]) rfl (by kernel_rfl) (fun _ _ _ h => h) (fun _ _ _ hS => hS.1.oat (k := 2) rfl) henv rfl (hst.oat (k := 2) rfl) (fun w' hg => rn_load0 henv ty_anvil_integer_Int rfl hg rfl) ?_
    clear henv a; intro a henv
    refine sAny_take (i := 5) [6, 7, 8, 9, 10, 11] (fun w' => w'.heap[gy]? = some (.cells #[.bool (neg y), .slice B (zl y) d] 28 (0, 0))) (v := .agg #[.bool (neg y), .slice B (zl y) d]) rfl (by kernel_rfl) (fun _ _ _ h => h) (fun _ _ _ hS => hS.1.oat (k := 3) rfl) henv rfl (hst.oat (k := 3) rfl) (fun w' hg => rn_load0 henv ty_anvil_integer_Int rfl hg rfl) ?_
    clear henv a; intro a henv
    refine sAny_one (i := 3) (by kernel_rfl) rfl rfl (op_call henv rfl Try.call24 rfl (mul_z (x := u2 % ((y.natAbs : Int) / (Int.gcd x y : Int))) (y := x) (show ZIn _ A242 c243 (u2 % ((y.natAbs : Int) / (Int.gcd x y : Int))) from hst.pat (k := 0) rfl) (show ZIn _ A c x from hst.pat (k := 5) rfl) (by omega) (by omega)) ?_)
    rintro e w251 ⟨_, rfl, ⟨A248, c249, rfl, hz250⟩, hb⟩
    refine ⟨_, rfl, ?_⟩
    clear henv a; intro a henv
    replace hst := (hst.call hb).addZ hz250 rfl
    clear hz250
    clear hb
    refine ⟨.inr ⟨hst.kn.pick [0, 1, 2, 3, 4, 5, 6, 7, 8] [1, 2, 3, 4, 5, 6, 7, 8, 9, 10, 11], .inr (hst.kn.pick [] [])⟩, ?_⟩
    refine sAny_one (i := 4) (by kernel_rfl) rfl rfl (op_call henv rfl Try.call22 rfl (sub_z (x := (Int.gcd x y : Int)) (y := (u2 % ((y.natAbs : Int) / (Int.gcd x y : Int))) * x) (show ZIn _ A7' c7' (Int.gcd x y : Int) from hst.pat (k := 9) rfl) (show ZIn _ A248 c249 ((u2 % ((y.natAbs : Int) / (Int.gcd x y : Int))) * x) from hst.pat (k := 0) rfl) (by omega) (by omega)) ?_)
    rintro e w255 ⟨_, rfl, ⟨A252, c253, rfl, hz254⟩, hb⟩
    refine ⟨_, rfl, ?_⟩
    clear henv a; intro a henv
    replace hst := (hst.call hb).addZ hz254 rfl
    clear hz254
    clear hb
    refine ⟨.inr ⟨hst.kn.pick [0, 1, 2, 3, 4, 5, 6, 7, 8] [2, 3, 4, 5, 6, 7, 8, 9, 10, 11, 12], .inr (hst.kn.pick [] [])⟩, ?_⟩
    refine sAny_one (i := 6) (by kernel_rfl) rfl rfl (op_call henv rfl Try.call36 rfl (divmod_z (x := (Int.gcd x y : Int) - ((u2 % ((y.natAbs : Int) / (Int.gcd x y : Int))) * x)) (y := y) (show ZIn _ A252 c253 ((Int.gcd x y : Int) - ((u2 % ((y.natAbs : Int) / (Int.gcd x y : Int))) * x)) from hst.pat (k := 0) rfl) (show ZIn _ B d y from hst.pat (k := 8) rfl) (by omega) (by omega) hy0) ?_)
    rintro e w262 ⟨_, _, rfl, ⟨A256, c257, rfl, hz258⟩, ⟨A259, c260, rfl, hz261⟩, hb⟩
    refine ⟨_, rfl, ?_⟩
    clear henv a; intro a henv
    replace hst := ((hst.call hb).addZ hz258 rfl).addZ hz261 rfl
    clear hz258 hz261
    clear hb
    refine ⟨.inr ⟨hst.kn.pick [0, 1, 2, 3, 4, 5, 6, 7, 8] [4, 5, 6, 7, 8, 9, 10, 11, 12, 13, 14], .inr (hst.kn.pick [] [])⟩, ?_⟩
    refine sAny_take (i := 7) [8, 9, 10, 11] (fun _ => True) (v := .tuple #[.agg #[.bool (neg (((Int.gcd x y : Int) - ((u2 % ((y.natAbs : Int) / (Int.gcd x y : Int))) * x)) / y)), .slice A256 (zl (((Int.gcd x y : Int) - ((u2 % ((y.natAbs : Int) / (Int.gcd x y : Int))) * x)) / y)) c257], .agg #[.bool (neg (((Int.gcd x y : Int) - ((u2 % ((y.natAbs : Int) / (Int.gcd x y : Int))) * x)) % y)), .slice A259 (zl (((Int.gcd x y : Int) - ((u2 % ((y.natAbs : Int) / (Int.gcd x y : Int))) * x)) % y)) c260], .int .i64 0]) rfl (by kernel_rfl) (fun _ _ _ h => h) (fun _ _ _ _ => trivial) henv rfl trivial (fun w' _ => rn_move henv rfl) ?_
    clear henv a; intro a henv
    refine sAny_take (i := 8) [11] (fun _ => True) (v := .agg #[.bool (neg (((Int.gcd x y : Int) - ((u2 % ((y.natAbs : Int) / (Int.gcd x y : Int))) * x)) / y)), .slice A256 (zl (((Int.gcd x y : Int) - ((u2 % ((y.natAbs : Int) / (Int.gcd x y : Int))) * x)) / y)) c257]) rfl (by kernel_rfl) (fun _ _ _ h => h) (fun _ _ _ _ => trivial) henv rfl trivial (fun w' _ => rn_extract henv rfl rfl) ?_
    clear henv a; intro a henv
    refine sAny_take (i := 9) [] (fun _ => True) (v := .agg #[.bool (neg (((Int.gcd x y : Int) - ((u2 % ((y.natAbs : Int) / (Int.gcd x y : Int))) * x)) % y)), .slice A259 (zl (((Int.gcd x y : Int) - ((u2 % ((y.natAbs : Int) / (Int.gcd x y : Int))) * x)) % y)) c260]) rfl (by kernel_rfl) (fun _ _ _ h => h) (fun _ _ _ _ => trivial) henv rfl trivial (fun w' _ => rn_extract henv rfl rfl) ?_
    clear henv a; intro a henv
    refine sAny_take (i := 10) [] (fun _ => True) (v := .int .i64 0) rfl (by kernel_rfl) (fun _ _ _ h => h) (fun _ _ _ _ => trivial) henv rfl trivial (fun w' _ => rn_extract henv rfl rfl) ?_
    clear henv a; intro a henv
    refine sAny_one (i := 11) (by kernel_rfl) rfl rfl (op_store (k := 9) (c' := #[.bool (neg (((Int.gcd x y : Int) - ((u2 % ((y.natAbs : Int) / (Int.gcd x y : Int))) * x)) / y)), .slice A256 (zl (((Int.gcd x y : Int) - ((u2 % ((y.natAbs : Int) / (Int.gcd x y : Int))) * x)) / y)) c257]) henv hst (ty_anvil_integer_Int.size) rfl rfl rfl rfl (by simp) rfl rfl ?_)
    clear henv hst a; intro a w263 henv hst
    refine ⟨.inr ⟨hst.kn.pick [0, 1, 2, 3, 4, 5, 6, 7, 8] [4, 5, 6, 7, 8, 9, 10, 11, 12, 13, 14], .inl rfl⟩, ?_⟩
    refine sAny_done (by kernel_rfl) ?_ _
    refine th_n ?_
    refine wp_seq ?_
    refine region_any (n := 6) (Sk [⟨g94, #[.bool (neg ((y.natAbs : Int) % (Int.gcd x y : Int))), .slice A88 (zl ((y.natAbs : Int) % (Int.gcd x y : Int))) c89], 28⟩, ⟨g92, #[.bool (neg ((y.natAbs : Int) / (Int.gcd x y : Int))), .slice A85 (zl ((y.natAbs : Int) / (Int.gcd x y : Int))) c86], 28⟩, ⟨gx, #[.bool (neg x), .slice A (zl x) c], 28⟩, ⟨gy, #[.bool (neg y), .slice B (zl y) d], 28⟩, ⟨ga, #[.bool (neg (Int.gcd x y : Int)), .slice A7' (zl (Int.gcd x y : Int)) c7'], 28⟩, ⟨gu, #[.bool (neg (u2 % ((y.natAbs : Int) / (Int.gcd x y : Int)))), .slice A242 (zl (u2 % ((y.natAbs : Int) / (Int.gcd x y : Int)))) c243], 28⟩, ⟨gv, #[.bool (neg (((Int.gcd x y : Int) - ((u2 % ((y.natAbs : Int) / (Int.gcd x y : Int))) * x)) / y)), .slice A256 (zl (((Int.gcd x y : Int) - ((u2 % ((y.natAbs : Int) / (Int.gcd x y : Int))) * x)) / y)) c257], 28⟩] [pfZ A259 c260 (((Int.gcd x y : Int) - ((u2 % ((y.natAbs : Int) / (Int.gcd x y : Int))) * x)) % y), pfZ A256 c257 (((Int.gcd x y : Int) - ((u2 % ((y.natAbs : Int) / (Int.gcd x y : Int))) * x)) / y), pfZ A252 c253 ((Int.gcd x y : Int) - ((u2 % ((y.natAbs : Int) / (Int.gcd x y : Int))) * x)), pfZ A248 c249 ((u2 % ((y.natAbs : Int) / (Int.gcd x y : Int))) * x), pfZ A242 c243 (u2 % ((y.natAbs : Int) / (Int.gcd x y : Int))), pfZ A239 c240 (u2 / ((y.natAbs : Int) / (Int.gcd x y : Int))), pfZ A88 c89 ((y.natAbs : Int) % (Int.gcd x y : Int)), pfZ A85 c86 ((y.natAbs : Int) / (Int.gcd x y : Int)), pfZ A81 c82 (y.natAbs : Int), pfZ A c x, pfZ B d y, pfZ none 0 0, pfZ A7' c7' (Int.gcd x y : Int), pfZ A9' c9' u2, pfZ A10 c10 v] [3, 4, 5] []) mixed rfl henv hst ?_
    clear henv hst; intro w264 henv hst
    refine sAny_take (i := 0) [3, 4, 5] (fun w' => w'.heap[ga]? = some (.cells #[.bool (neg (Int.gcd x y : Int)), .slice A7' (zl (Int.gcd x y : Int)) c7'] 28 (0, 0))) (v := .agg #[.bool (neg (Int.gcd x y : Int)), .slice A7' (zl (Int.gcd x y : Int)) c7']) rfl (by kernel_rfl) (fun _ _ _ h => h) (fun _ _ _ hS => hS.1.oat (k := 4) rfl) henv rfl (hst.oat (k := 7) rfl) (fun w' hg => rn_load0 henv ty_anvil_integer_Int rfl hg rfl) ?_
    clear henv a; intro a henv
    refine sAny_take (i := 1) [4, 5] (fun w' => w'.heap[gu]? = some (.cells #[.bool (neg (u2 % ((y.natAbs : Int) / (Int.gcd x y : Int)))), .slice A242 (zl (u2 % ((y.natAbs : Int) / (Int.gcd x y : Int)))) c243] 28 (0, 0))) (v := .agg #[.bool (neg (u2 % ((y.natAbs : Int) / (Int.gcd x y : Int)))), .slice A242 (zl (u2 % ((y.natAbs : Int) / (Int.gcd x y : Int)))) c243]) rfl (by kernel_rfl) (fun _ _ _ h => h) (fun _ _ _ hS => hS.1.oat (k := 5) rfl) henv rfl (hst.oat (k := 8) rfl) (fun w' hg => rn_load0 henv ty_anvil_integer_Int rfl hg rfl) ?_
    clear henv a; intro a henv
    refine sAny_take (i := 2) [5] (fun w' => w'.heap[gv]? = some (.cells #[.bool (neg (((Int.gcd x y : Int) - ((u2 % ((y.natAbs : Int) / (Int.gcd x y : Int))) * x)) / y)), .slice A256 (zl (((Int.gcd x y : Int) - ((u2 % ((y.natAbs : Int) / (Int.gcd x y : Int))) * x)) / y)) c257] 28 (0, 0))) (v := .agg #[.bool (neg (((Int.gcd x y : Int) - ((u2 % ((y.natAbs : Int) / (Int.gcd x y : Int))) * x)) / y)), .slice A256 (zl (((Int.gcd x y : Int) - ((u2 % ((y.natAbs : Int) / (Int.gcd x y : Int))) * x)) / y)) c257]) rfl (by kernel_rfl) (fun _ _ _ h => h) (fun _ _ _ hS => hS.1.oat (k := 6) rfl) henv rfl (hst.oat (k := 9) rfl) (fun w' hg => rn_load0 henv ty_anvil_integer_Int rfl hg rfl) ?_
    clear henv a; intro a henv
    refine sAny_one (i := 3) (by kernel_rfl) rfl rfl (op_store (k := 4) (c' := #[.bool (neg (Int.gcd x y : Int)), .slice A7' (zl (Int.gcd x y : Int)) c7']) henv hst (ty_anvil_integer_Int.size) rfl rfl rfl rfl (by simp) rfl rfl ?_)
    clear henv hst a; intro a w265 henv hst
    refine ⟨.inr ⟨hst.kn.pick [0, 1, 2, 3, 7, 8, 9] [0, 1, 2, 3, 4, 5, 6, 7, 8, 9, 10, 11, 12, 13, 14], .inl rfl⟩, ?_⟩
    refine sAny_one (i := 4) (by kernel_rfl) rfl rfl (op_store (k := 5) (c' := #[.bool (neg (u2 % ((y.natAbs : Int) / (Int.gcd x y : Int)))), .slice A242 (zl (u2 % ((y.natAbs : Int) / (Int.gcd x y : Int)))) c243]) henv hst (ty_anvil_integer_Int.size) rfl rfl rfl rfl (by simp) rfl rfl ?_)
    clear henv hst a; intro a w266 henv hst
    refine ⟨.inr ⟨hst.kn.pick [0, 1, 2, 3, 7, 8, 9] [0, 1, 2, 3, 4, 5, 6, 7, 8, 9, 10, 11, 12, 13, 14], .inl rfl⟩, ?_⟩
    refine sAny_one (i := 5) (by kernel_rfl) rfl rfl (op_store (k := 6) (c' := #[.bool (neg (((Int.gcd x y : Int) - ((u2 % ((y.natAbs : Int) / (Int.gcd x y : Int))) * x)) / y)), .slice A256 (zl (((Int.gcd x y : Int) - ((u2 % ((y.natAbs : Int) / (Int.gcd x y : Int))) * x)) / y)) c257]) henv hst (ty_anvil_integer_Int.size) rfl rfl rfl rfl (by simp) rfl rfl ?_)
    clear henv hst a; intro a w267 henv hst
    refine ⟨.inr ⟨hst.kn.pick [0, 1, 2, 3, 7, 8, 9] [0, 1, 2, 3, 4, 5, 6, 7, 8, 9, 10, 11, 12, 13, 14], .inl rfl⟩, ?_⟩
    refine sAny_done (by kernel_rfl) ?_ _
    refine th_n ?_
    refine wp_ret ?_
    refine leave henv (res3 Try.results41 (RV.cell henv ty_anvil_integer_Int rfl (hst.oat (k := 4) rfl) rfl) (RV.cell henv ty_anvil_integer_Int rfl (hst.oat (k := 5) rfl) rfl) (RV.cell henv ty_anvil_integer_Int rfl (hst.oat (k := 6) rfl) rfl)) ?_
    exact ⟨_, _, _, _, _, rfl, ⟨_, _, rfl, hst.pat (k := 12) rfl⟩, ⟨_, _, rfl, hst.pat (k := 4) rfl⟩, ⟨_, _, rfl, hst.pat (k := 1) rfl⟩, hf.2.1, hf.2.2.1, bz_last hf.2.2.2, hst.below⟩

end Go.Proofs.Ytnldopjbiacbfaa
