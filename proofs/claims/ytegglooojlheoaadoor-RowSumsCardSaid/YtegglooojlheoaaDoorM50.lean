/- row.Over, Content, Primitive; the reference's Over, Content, Zero, Primitive. Printed by pv/gen_row9.py. No condition. -/
import Derived.Test.YtegglooojlheoaaDoorM48
import Derived.Test.YtegglooojlheoaaDoorM15
import Derived.Test.YtegglooojlheoaaDoorM39
import Derived.Test.YtegglooojlheoaaDoorM49
import Derived.Test.YtegglooojlheoaaDoorM47
import Derived.Test.YtegglooojlheoaaDoorM24

namespace Go.Proofs.YtegglooojlheoaaDoor.W
open Go.RowKit Anv Go.Lib
def ovr (x y : Int) : Int := if x % y = 0 then x / y else 0
theorem divs_step {es : List NE} {xs : List Int} {j : Nat} {A : Option Addr} {c : Nat} {z m : Int} (hz : es.map zz = xs) (hd : divs m (xs.take j)) (he : es[j]? = some (A, c, z)) (h : z % m = 0) : divs m (xs.take (j + 1)) := by
  rw [ztake_snoc hz he]
  intro x hx
  rcases List.mem_append.1 hx with hx | hx
  · exact hd x hx
  · rw [List.mem_singleton.1 hx]; exact h
end Go.Proofs.YtegglooojlheoaaDoor.W

/- RowSums: the law's walk. Printed by pv/gen_rowA.py. No condition. -/
namespace Go.Proofs.YtegglooojlheoaaDoor.W
open Go.RowKit Anv Go.Lib
theorem Zk.zb {k : Nat} {es : List NE} (h : Zk k (es.map zz)) : ZB k es := h.es rfl
theorem row_add' {A0 A1 : Option Addr} {n0 c0 c1 : Nat} {es0 es1 : List NE} {xs ys : List Int} {w0 : World} (h0 : (pfRow fN FN 2 A0 n0 c0 es0).P w0) (hz0 : es0.map zz = xs) (h1 : (pfRow fN FN 2 A1 n0 c1 es1).P w0) (hz1 : es1.map zz = ys) (hk0 : Zk 500000 xs) (hk1 : Zk 500000 ys) (hn : n0 ≤ 100000000) :
    Calls Tryd.prog 21 #[.slice A0 n0 c0, .slice A1 n0 c1] w0 fun e w' => ∃ v, e = .returned (.tuple #[v, .int .i64 0]) ∧ ZRow w0.heap.size w' v n0 (List.zipWith (· + ·) xs ys) ∧ Below w0.heap.size w0 w' := by
  subst hz0 hz1
  exact row_add h0 h1 hk0.zb hk1.zb hn
theorem row_sub' {A0 A1 : Option Addr} {n0 c0 c1 : Nat} {es0 es1 : List NE} {xs ys : List Int} {w0 : World} (h0 : (pfRow fN FN 2 A0 n0 c0 es0).P w0) (hz0 : es0.map zz = xs) (h1 : (pfRow fN FN 2 A1 n0 c1 es1).P w0) (hz1 : es1.map zz = ys) (hk0 : Zk 500000 xs) (hk1 : Zk 500000 ys) (hn : n0 ≤ 100000000) :
    Calls Tryd.prog 22 #[.slice A0 n0 c0, .slice A1 n0 c1] w0 fun e w' => ∃ v, e = .returned (.tuple #[v, .int .i64 0]) ∧ ZRow w0.heap.size w' v n0 (List.zipWith (· - ·) xs ys) ∧ Below w0.heap.size w0 w' := by
  subst hz0 hz1
  exact row_sub h0 h1 hk0.zb hk1.zb hn
theorem map_neg_one (xs : List Int) : xs.map ((-1 : Int) * ·) = xs.map (- ·) := List.map_congr_left fun z _ => by omega
theorem abs_sum {k : Nat} : ∀ {zs : List Int}, Zk k zs → (sumL zs).natAbs ≤ zs.length * 4294967296 ^ k
  | [], _ => Nat.zero_le _
  | z :: zs, h => by
    have h1 := abs_sum (zs := zs) fun x hx => h x (List.mem_cons_of_mem _ hx)
    have h2 := lt32_zl (h z (List.mem_cons_self ..))
    have h3 := Int.natAbs_add_le z (sumL zs)
    rw [sumL_cons, List.length_cons, Nat.succ_mul]
    omega
theorem zl_sum1 {k : Nat} {zs : List Int} (h : Zk k zs) (hl : zs.length < 4294967296) : zl (sumL zs) ≤ k + 1 := by
  refine nl_le_of_lt (Nat.lt_of_le_of_lt (abs_sum h) ?_)
  rw [Nat.pow_succ, Nat.mul_comm]
  exact Nat.mul_lt_mul_of_pos_left hl (Nat.pow_pos (by decide))
theorem dot_bd {xs ys : List Int} (hk0 : Zk 300 xs) (hk1 : Zk 300 ys) (hn : xs.length ≤ 300) : zl (dotL xs ys) ≤ 100000 := by
  have hz : Zk 600 (List.zipWith (· * ·) xs ys) := hk0.zip hk1 fun x y h1 h2 => Nat.le_trans (zl_mul x y) (by omega)
  exact Nat.le_trans (zl_sum1 hz (by rw [List.length_zipWith]; omega)) (by decide)
set_option maxRecDepth 100000 in
set_option maxHeartbeats 8000000 in
theorem rsums_eq {A0 A1 A2 A3 : Option Addr} {n0 c0 c1 n2 c2 n3 c3 : Nat} {es0 es1 : List UE} {b2 b3 : Bool} {xs2 xs3 : List Nat} {z2 z3 : Int} {w0 : World} (h0 : (pfRow fU FU 2 A0 n0 c0 es0).P w0) (hn0 : n0 ≤ 35184372088832) (hs0 : Sz es0) (h1 : (pfRow fU FU 2 A1 n0 c1 es1).P w0) (hn1 : n0 ≤ 35184372088832) (hs1 : Sz es1) (h2 : U32 w0 A2 n2 c2 xs2) (hn2 : n2 ≤ 35184372088832) (h3 : U32 w0 A3 n3 c3 xs3) (hn3 : n3 ≤ 35184372088832) (hv2 : sg b2 (val 4294967296 xs2) = z2) (hv3 : sg b3 (val 4294967296 xs3) = z3) :
    Calls Tryd.prog 3 #[.agg #[.slice A0 n0 c0, .slice A1 n0 c1, .bool b2, .slice A2 n2 c2, .bool b3, .slice A3 n3 c3]] w0 fun e w' => e = .returned (.bool true) ∧ Below w0.heap.size w0 w' := by
  refine enter Tryd.func3 rfl Tryd.ntmps3 rfl ?_
  intro a henv hst
  replace hst := (((hst.argRow h0).argRow h1).addU h2 trivial).addU h3 trivial
  clear h0 h1 h2 h3
  replace hst : St w0 _ [] [pfU A3 n3 c3 xs3, pfU A2 n2 c2 xs2, pfRow fU FU 2 A1 n0 c1 es1, pfRow fU FU 2 A0 n0 c0 es0] := hst
  refine wp_seq ?_
  refine region_seq ?_
  refine seq_step rfl (op_box (c := #[.slice A0 n0 c0, .slice A1 n0 c1, .bool b2, .slice A2 n2 c2, .bool b3, .slice A3 n3 c3]) henv hst rfl rfl rfl ?_)
  clear henv hst a; intro a w52 g51 henv hst
  refine sv (v := .bool false) henv rfl (rn_assign henv rfl) ?_
  clear henv a; intro a henv
  refine wpList_nil ?_
  refine th_n ?_
  refine wp_seq ?_
  refine wp_seq ?_
  refine region_seq ?_
  refine seq_step rfl (op_call henv rfl Tryd.call16 rfl (row_live) ?_)
  rintro e w53 ⟨rfl, hb⟩
  refine ⟨_, rfl, ?_⟩
  clear henv a; intro a henv
  replace hst := hst.call hb
  clear hb
  refine sv (v := .bool false) henv rfl (rn_un henv rfl rfl) ?_
  clear henv a; intro a henv
  refine wpList_nil ?_
  refine th_n ?_
  refine if_f henv rfl (rfl) ?_
  refine wp_skip ?_
  refine th_n ?_
  refine wp_seq ?_
  refine cut (fun a w => ∃ g55 : Nat, ∃ g57 : Nat, Env 238 a [(0, .agg #[.slice A0 n0 c0, .slice A1 n0 c1, .bool b2, .slice A2 n2 c2, .bool b3, .slice A3 n3 c3]), (2, .bool false), (25, .bool true), (26, .bool false), (5, .pointer (some ⟨g55, 0, none⟩)), (6, .pointer (some ⟨g57, 0, none⟩)), (3, .slice A0 n0 c0), (4, .slice A1 n0 c1)] ∧ St w0 w [bk g57 #[.bool b3, .slice A3 n3 c3] 25, bk g55 #[.bool b2, .slice A2 n2 c2] 25, bk g51 #[.slice A0 n0 c0, .slice A1 n0 c1, .bool b2, .slice A2 n2 c2, .bool b3, .slice A3 n3 c3] 27] [pfU A3 n3 c3 xs3, pfU A2 n2 c2 xs2, pfRow fU FU 2 A1 n0 c1 es1, pfRow fU FU 2 A0 n0 c0 es0]) ?_ ?_
  · refine region_any (n := 14) (Sk [bk g51 #[.slice A0 n0 c0, .slice A1 n0 c1, .bool b2, .slice A2 n2 c2, .bool b3, .slice A3 n3 c3] 27] [pfU A3 n3 c3 xs3, pfU A2 n2 c2 xs2, pfRow fU FU 2 A1 n0 c1 es1, pfRow fU FU 2 A0 n0 c0 es0] [12, 13] []) mixed rfl henv hst ?_
    clear henv hst; intro w54 henv hst
    refine tA (i := 0) [1, 10, 11, 12, 13] (v := .pointer (some ⟨g51, 0, none⟩)) rfl (by kernel_rfl) (fun _ _ _ h => h) henv rfl (fun _ => rn_fieldAddr henv fd_anvil_anvillaw04_Two_0 (ty__anvillaw04_Num.size) (by decide) rfl) ?_
    clear henv a; intro a henv
    refine sAny_take (i := 1) [10, 11, 12, 13] (fun w' => w'.heap[g51]? = some (.cells #[.slice A0 n0 c0, .slice A1 n0 c1, .bool b2, .slice A2 n2 c2, .bool b3, .slice A3 n3 c3] 27 (0, 0))) (v := .slice A0 n0 c0) rfl (by kernel_rfl) (fun _ _ _ h => h) (fun _ _ _ hS => hS.1.oat (k := 0) rfl) henv rfl (hst.oat (k := 0) rfl) (fun w' hg => rn_load1 henv ty__anvillaw04_Num rfl hg rfl) ?_
    clear henv a; intro a henv
    refine tA (i := 2) [3, 11, 12, 13] (v := .pointer (some ⟨g51, 1, none⟩)) rfl (by kernel_rfl) (fun _ _ _ h => h) henv rfl (fun _ => rn_fieldAddr henv fd_anvil_anvillaw04_Two_1 (ty__anvillaw04_Num.size) (by decide) rfl) ?_
    clear henv a; intro a henv
    refine sAny_take (i := 3) [11, 12, 13] (fun w' => w'.heap[g51]? = some (.cells #[.slice A0 n0 c0, .slice A1 n0 c1, .bool b2, .slice A2 n2 c2, .bool b3, .slice A3 n3 c3] 27 (0, 0))) (v := .slice A1 n0 c1) rfl (by kernel_rfl) (fun _ _ _ h => h) (fun _ _ _ hS => hS.1.oat (k := 0) rfl) henv rfl (hst.oat (k := 0) rfl) (fun w' hg => rn_load1 henv ty__anvillaw04_Num rfl hg rfl) ?_
    clear henv a; intro a henv
    refine tA (i := 4) [5, 12, 13] (v := .pointer (some ⟨g51, 2, none⟩)) rfl (by kernel_rfl) (fun _ _ _ h => h) henv rfl (fun _ => rn_fieldAddr henv fd_anvil_anvillaw04_Two_2 (ty_anvil_anvillaw04_Num.size) (by decide) rfl) ?_
    clear henv a; intro a henv
    refine sAny_take (i := 5) [12, 13] (fun w' => w'.heap[g51]? = some (.cells #[.slice A0 n0 c0, .slice A1 n0 c1, .bool b2, .slice A2 n2 c2, .bool b3, .slice A3 n3 c3] 27 (0, 0))) (v := .agg #[.bool b2, .slice A2 n2 c2]) rfl (by kernel_rfl) (fun _ _ _ h => h) (fun _ _ _ hS => hS.1.oat (k := 0) rfl) henv rfl (hst.oat (k := 0) rfl) (fun w' hg => rn_load henv ty_anvil_anvillaw04_Num rfl hg rfl rfl) ?_
    clear henv a; intro a henv
    refine tA (i := 6) [7, 13] (v := .pointer (some ⟨g51, 4, none⟩)) rfl (by kernel_rfl) (fun _ _ _ h => h) henv rfl (fun _ => rn_fieldAddr henv fd_anvil_anvillaw04_Two_3 (ty_anvil_anvillaw04_Num.size) (by decide) rfl) ?_
    clear henv a; intro a henv
    refine sAny_take (i := 7) [13] (fun w' => w'.heap[g51]? = some (.cells #[.slice A0 n0 c0, .slice A1 n0 c1, .bool b2, .slice A2 n2 c2, .bool b3, .slice A3 n3 c3] 27 (0, 0))) (v := .agg #[.bool b3, .slice A3 n3 c3]) rfl (by kernel_rfl) (fun _ _ _ h => h) (fun _ _ _ hS => hS.1.oat (k := 0) rfl) henv rfl (hst.oat (k := 0) rfl) (fun w' hg => rn_load henv ty_anvil_anvillaw04_Num rfl hg rfl rfl) ?_
    clear henv a; intro a henv
    refine sAny_all (rs := [8, 9]) (by kernel_rfl) (by simp) ?_
    simp only [List.forall_mem_cons, List.not_mem_nil, false_implies, implies_true, and_true]
    refine ⟨?_, ?_⟩
    · refine ⟨_, rfl, rfl, op_alloc (c := #[.bool false, .slice none 0 0]) henv hst rfl zero_anvil_anvillaw04_Num rfl ?_⟩
      clear henv hst a; intro a w56 g55 henv hst
      refine ⟨.inr ⟨hst.kn.pick [1] (rg 0 4), .inr (hst.kn.pick [] [])⟩, ?_⟩
      refine sAny_one (i := 9) (by kernel_rfl) rfl rfl (op_alloc (c := #[.bool false, .slice none 0 0]) henv hst rfl zero_anvil_anvillaw04_Num rfl ?_)
      clear henv hst a; intro a w58 g57 henv hst
      refine ⟨.inr ⟨hst.kn.pick [2] (rg 0 4), .inr (hst.kn.pick [] [])⟩, ?_⟩
      refine tA (i := 10) [11, 12, 13] (v := .slice A0 n0 c0) rfl (by kernel_rfl) (fun _ _ _ h => h) henv rfl (fun _ => rn_assign henv rfl) ?_
      clear henv a; intro a henv
      refine tA (i := 11) [12, 13] (v := .slice A1 n0 c1) rfl (by kernel_rfl) (fun _ _ _ h => h) henv rfl (fun _ => rn_assign henv rfl) ?_
      clear henv a; intro a henv
      refine sAny_one (i := 12) (by kernel_rfl) rfl rfl (op_store (k := 1) (c' := #[.bool b2, .slice A2 n2 c2]) henv hst (ty_anvil_anvillaw04_Num.size) rfl rfl rfl rfl (by simp) rfl rfl ?_)
      clear henv hst a; intro a w59 henv hst
      refine ⟨.inr ⟨hst.kn.pick [2] (rg 0 4), .inl rfl⟩, ?_⟩
      refine sAny_one (i := 13) (by kernel_rfl) rfl rfl (op_store (k := 0) (c' := #[.bool b3, .slice A3 n3 c3]) henv hst (ty_anvil_anvillaw04_Num.size) rfl rfl rfl rfl (by simp) rfl rfl ?_)
      clear henv hst a; intro a w60 henv hst
      refine ⟨.inr ⟨hst.kn.pick [2] (rg 0 4), .inl rfl⟩, ?_⟩
      refine sAny_done (by kernel_rfl) ?_ _
      exact th_n ⟨g55, g57, henv.sub ⟨rfl, rfl, rfl, rfl, rfl, rfl, rfl, rfl, trivial⟩, hst.pick [0, 1, 2] [0, 1, 2, 3] (by decide)⟩
    · refine ⟨_, rfl, rfl, op_alloc (c := #[.bool false, .slice none 0 0]) henv hst rfl zero_anvil_anvillaw04_Num rfl ?_⟩
      clear henv hst a; intro a w62 g61 henv hst
      refine ⟨.inr ⟨hst.kn.pick [1] (rg 0 4), .inr (hst.kn.pick [] [])⟩, ?_⟩
      refine sAny_one (i := 8) (by kernel_rfl) rfl rfl (op_alloc (c := #[.bool false, .slice none 0 0]) henv hst rfl zero_anvil_anvillaw04_Num rfl ?_)
      clear henv hst a; intro a w64 g63 henv hst
      refine ⟨.inr ⟨hst.kn.pick [2] (rg 0 4), .inr (hst.kn.pick [] [])⟩, ?_⟩
      refine tA (i := 10) [11, 12, 13] (v := .slice A0 n0 c0) rfl (by kernel_rfl) (fun _ _ _ h => h) henv rfl (fun _ => rn_assign henv rfl) ?_
      clear henv a; intro a henv
      refine tA (i := 11) [12, 13] (v := .slice A1 n0 c1) rfl (by kernel_rfl) (fun _ _ _ h => h) henv rfl (fun _ => rn_assign henv rfl) ?_
      clear henv a; intro a henv
      refine sAny_one (i := 12) (by kernel_rfl) rfl rfl (op_store (k := 0) (c' := #[.bool b2, .slice A2 n2 c2]) henv hst (ty_anvil_anvillaw04_Num.size) rfl rfl rfl rfl (by simp) rfl rfl ?_)
      clear henv hst a; intro a w65 henv hst
      refine ⟨.inr ⟨hst.kn.pick [2] (rg 0 4), .inl rfl⟩, ?_⟩
      refine sAny_one (i := 13) (by kernel_rfl) rfl rfl (op_store (k := 1) (c' := #[.bool b3, .slice A3 n3 c3]) henv hst (ty_anvil_anvillaw04_Num.size) rfl rfl rfl rfl (by simp) rfl rfl ?_)
      clear henv hst a; intro a w66 henv hst
      refine ⟨.inr ⟨hst.kn.pick [2] (rg 0 4), .inl rfl⟩, ?_⟩
      refine sAny_done (by kernel_rfl) ?_ _
      exact th_n ⟨g63, g61, henv.sub ⟨rfl, rfl, rfl, rfl, rfl, rfl, rfl, rfl, trivial⟩, hst.pick [1, 0, 2] [0, 1, 2, 3] (by decide)⟩
  clear henv hst a
  rintro a w67 ⟨g55, g57, henv, hst⟩
  refine wp_seq ?_
  refine wp_seq ?_
  refine region_seq ?_
  revert a
  refine mA rfl rfl ?_
  refine mA rfl rfl ?_
  refine sA (v := .agg #[.bool b2, .slice A2 n2 c2]) rfl (fun _ henv => rn_load0 henv ty_anvil_anvillaw04_Num rfl (hst.oat (k := 1) rfl) rfl) ?_
  refine sA (v := .agg #[.bool b3, .slice A3 n3 c3]) rfl (fun _ henv => rn_load0 henv ty_anvil_anvillaw04_Num rfl (hst.oat (k := 0) rfl) rfl) ?_
  intro a henv
  refine seq_step rfl (op_buildSlice (z := 2) (pv := #[(0, .agg #[.bool b2, .slice A2 n2 c2]), (1, .agg #[.bool b3, .slice A3 n3 c3])]) (c := #[.bool b2, .slice A2 n2 c2, .bool b3, .slice A3 n3 c3]) henv hst rfl Tryd.underlying22 (ty_anvil_anvillaw04_Num.size) zero_anvil_anvillaw04_Num (by decide) (by decide) rfl (by kernel_rfl) ?_)
  clear henv hst a; intro a w69 g68 henv hst
  refine seq_step rfl (op_buildSlice (z := 1) (pv := #[(0, .slice A0 n0 c0), (1, .slice A1 n0 c1), (2, .slice (some ⟨g68, 0, none⟩) 2 2)]) (c := #[.slice A0 n0 c0, .slice A1 n0 c1, .slice (some ⟨g68, 0, none⟩) 2 2]) henv hst rfl Tryd.underlying139 (ty__anvillaw04_Num.size) zero__anvillaw04_Num (by decide) (by decide) rfl (by kernel_rfl) ?_)
  clear henv hst a; intro a w71 g70 henv hst
  refine seq_step rfl (op_call henv rfl Tryd.call17 rfl (row_long (pv3 (v0 := (A0, n0, c0, es0)) (v1 := (A1, n0, c1, es1)) (v2 := (some ⟨g68, 0, none⟩, 2, 2, [(b2, A2, n2, c2, xs2), (b3, A3, n3, c3, xs3)])) (hst.oat (k := 0) rfl) (hst.pat (k := 3) rfl) (hst.pat (k := 2) rfl) (pu2 (e0 := (b2, A2, n2, c2, xs2)) (e1 := (b3, A3, n3, c3, xs3)) (hst.oat (k := 1) rfl) (show U32 _ A2 n2 c2 xs2 from hst.pat (k := 1) rfl) (show U32 _ A3 n3 c3 xs3 from hst.pat (k := 0) rfl))) (lg_cons hn0 hs0 (lg_cons hn1 hs1 (lg_cons (show 2 ≤ 35184372088832 by decide) (sz_cons hn2 (sz_cons hn3 sz_nil)) lg_nil)))) ?_)
  rintro e w72 ⟨bl, rfl, hbl, hb⟩
  refine ⟨_, rfl, ?_⟩
  clear henv a; intro a henv
  replace hst := hst.call hb
  clear hb
  refine wpList_nil ?_
  refine th_n ?_
  refine if_split henv rfl (fun hc73 => ?_) (fun hc73 => ?_)
  · refine wp_seq ?_
    refine region_seq ?_
    refine sv (v := .bool true) henv rfl (rn_assign henv rfl) ?_
    clear henv a; intro a henv
    refine wpList_nil ?_
    refine th_n ?_
    refine wp_ret ?_
    refine th_r ?_
    refine leave henv (res1 Tryd.results3 (RV.tmp henv rfl)) ?_
    exact ⟨rfl, hst.below⟩
  · obtain ⟨hx0, hx1, hx2, hx3, hx4, hx5⟩ := tv_three (hbl hc73)
    replace hx4 : n2 ≤ 300 := hx4; replace hx5 : n3 ≤ 300 := hx5
    have hkx : Zk 300 (es0.map vz) := Zk.vz (hst.pat (k := 3) rfl).2.2 hx2
    have hky : Zk 300 (es1.map vz) := Zk.vz (hst.pat (k := 2) rfl).2.2 hx3
    have hle0 : es0.length = n0 := (hst.pat (k := 3) rfl).2.1
    replace hle0 : es0.length ≤ 300 := by omega
    have hz2s : zl z2 ≤ 300 := by rw [← hv2]; exact zl_vze (show U32 _ A2 n2 c2 xs2 from hst.pat (k := 1) rfl) hx4
    have hz3s : zl z3 ≤ 300 := by rw [← hv3]; exact zl_vze (show U32 _ A3 n3 c3 xs3 from hst.pat (k := 0) rfl) hx5
    have hkn : Zk 300 ((es0.map vz).map (- ·)) := hkx.map fun z hz => by rw [zl_neg]; exact hz
    have hkm : Zk 600 ((es0.map vz).map (z2 * ·)) := hkx.map fun z hz => Nat.le_trans (zl_mul _ _) (by omega)
    have hka : Zk 601 (List.zipWith (· + ·) (es0.map vz) (es1.map vz)) := hkx.zip hky fun x y h1 h2 => Nat.le_trans (zl_add _ _) (by omega)
    have hks : Zk 601 (List.zipWith (· - ·) (es0.map vz) (es1.map vz)) := hkx.zip hky fun x y h1 h2 => by have := zl_add x (-y); rw [zl_neg] at this; show zl (x + -y) ≤ 601; omega
    have hkc : Zk 1201 (List.zipWith (fun x y => z2 * x + z3 * y) (es0.map vz) (es1.map vz)) := hkx.zip hky fun x y h1 h2 => by have := zl_add (z2 * x) (z3 * y); have := zl_mul z2 x; have := zl_mul z3 y; omega
    have hdz : zl (dotL (es0.map vz) (es1.map vz)) ≤ 100000 := dot_bd hkx hky (by rw [List.length_map]; exact hle0)
    refine wp_skip ?_
    refine th_n ?_
    refine wp_seq ?_
    refine region_seq ?_
    refine sv (v := .slice A0 n0 c0) henv rfl (rn_move henv rfl) ?_
    clear henv a; intro a henv
    refine seq_step rfl (op_call henv rfl Tryd.call18 rfl (row_of2 (hst.pat (k := 3) rfl) (fun e he => Nat.le_trans (tl_mem he) (by omega)) (by omega)) ?_)
    rintro e w84 ⟨_, _, rfl, ⟨A74, c75, es76, rfl, hr, hl77, hz78⟩, ⟨A79, c80, es81, rfl, hr2, hl82, hz83⟩, hb⟩
    refine ⟨_, rfl, ?_⟩
    clear henv a; intro a henv
    replace hst := hst.fresh2 hb hr hl77 (ap_N hr.2.1 ⟨nou_bk rfl, nou_bk rfl, nou_bk rfl, nou_bk rfl, nou_bk rfl, trivial⟩) hr2 hl82 (ap_M hr2.2.1 ⟨nou_bk rfl, nou_bk rfl, nou_bk rfl, nou_bk rfl, nou_bk rfl, trivial⟩)
    clear hr
    clear hr2
    clear hb
    revert a
    refine mA rfl rfl ?_
    refine sA (v := .slice A74 n0 c75) rfl (fun _ henv => rn_extract henv rfl rfl) ?_
    refine sA (v := .slice A79 n0 c80) rfl (fun _ henv => rn_extract henv rfl rfl) ?_
    refine aA rfl rfl ?_
    refine aA rfl rfl ?_
    intro a henv
    refine wpList_nil ?_
    refine th_n ?_
    refine wp_seq ?_
    refine region_seq ?_
    refine sv (v := .slice A1 n0 c1) henv rfl (rn_move henv rfl) ?_
    clear henv a; intro a henv
    refine seq_step rfl (op_call henv rfl Tryd.call18 rfl (row_of2 (hst.pat (k := 4) rfl) (fun e he => Nat.le_trans (tl_mem he) (by omega)) (by omega)) ?_)
    rintro e w95 ⟨_, _, rfl, ⟨A85, c86, es87, rfl, hr, hl88, hz89⟩, ⟨A90, c91, es92, rfl, hr2, hl93, hz94⟩, hb⟩
    refine ⟨_, rfl, ?_⟩
    clear henv a; intro a henv
    replace hst := hst.fresh2 hb hr hl88 (ap_N hr.2.1 ⟨nou_bk rfl, nou_bk rfl, nou_bk rfl, nou_bk rfl, nou_bk rfl, trivial⟩) hr2 hl93 (ap_M hr2.2.1 ⟨nou_bk rfl, nou_bk rfl, nou_bk rfl, nou_bk rfl, nou_bk rfl, trivial⟩)
    clear hr
    clear hr2
    clear hb
    revert a
    refine mA rfl rfl ?_
    refine sA (v := .slice A85 n0 c86) rfl (fun _ henv => rn_extract henv rfl rfl) ?_
    refine sA (v := .slice A90 n0 c91) rfl (fun _ henv => rn_extract henv rfl rfl) ?_
    refine aA rfl rfl ?_
    refine aA rfl rfl ?_
    intro a henv
    refine wpList_nil ?_
    refine th_n ?_
    refine wp_seq ?_
    refine cut (fun a w => ∃ A97 : Option Addr, ∃ c98 : Nat, ∃ A101 : Option Addr, ∃ c102 : Nat, ∃ g105 : Nat, ∃ g107 : Nat, Env 238 a [(0, .agg #[.slice A0 n0 c0, .slice A1 n0 c1, .bool b2, .slice A2 n2 c2, .bool b3, .slice A3 n3 c3]), (2, .bool false), (25, .bool true), (26, .bool false), (5, .pointer (some ⟨g55, 0, none⟩)), (6, .pointer (some ⟨g57, 0, none⟩)), (3, .slice A0 n0 c0), (4, .slice A1 n0 c1), (35, .slice A0 n0 c0), (36, .slice A1 n0 c1), (37, .agg #[.bool b2, .slice A2 n2 c2]), (38, .agg #[.bool b3, .slice A3 n3 c3]), (39, .slice (some ⟨g68, 0, none⟩) 2 2), (40, .slice (some ⟨g70, 0, none⟩) 3 3), (41, .bool bl), (43, .slice A0 n0 c0), (44, .tuple #[.slice A74 n0 c75, .slice A79 n0 c80]), (42, .tuple #[.slice A74 n0 c75, .slice A79 n0 c80]), (45, .slice A74 n0 c75), (46, .slice A79 n0 c80), (7, .slice A74 n0 c75), (8, .slice A79 n0 c80), (48, .slice A1 n0 c1), (49, .tuple #[.slice A85 n0 c86, .slice A90 n0 c91]), (47, .tuple #[.slice A85 n0 c86, .slice A90 n0 c91]), (50, .slice A85 n0 c86), (51, .slice A90 n0 c91), (9, .slice A85 n0 c86), (10, .slice A90 n0 c91), (11, .pointer (some ⟨g105, 0, none⟩)), (12, .pointer (some ⟨g107, 0, none⟩))] ∧ St w0 w [bk g107 #[.bool (neg z2), .slice A101 (dl z2) c102] 39, bk g105 #[.bool (neg z2), .slice A97 (zl z2) c98] 36, bk g70 #[.slice A0 n0 c0, .slice A1 n0 c1, .slice (some ⟨g68, 0, none⟩) 2 2] 22, bk g68 #[.bool b2, .slice A2 n2 c2, .bool b3, .slice A3 n3 c3] 25, bk g57 #[.bool b3, .slice A3 n3 c3] 25, bk g55 #[.bool b2, .slice A2 n2 c2] 25, bk g51 #[.slice A0 n0 c0, .slice A1 n0 c1, .bool b2, .slice A2 n2 c2, .bool b3, .slice A3 n3 c3] 27] [pfR A101 c102 z2, pfZ A97 c98 z2, pfRow fM FM 2 A90 n0 c91 es92, pfRow fN FN 2 A85 n0 c86 es87, pfRow fM FM 2 A79 n0 c80 es81, pfRow fN FN 2 A74 n0 c75 es76, pfU A3 n3 c3 xs3, pfU A2 n2 c2 xs2, pfRow fU FU 2 A1 n0 c1 es1, pfRow fU FU 2 A0 n0 c0 es0]) ?_ ?_
    · refine region_any (n := 14) (Sk [bk g70 #[.slice A0 n0 c0, .slice A1 n0 c1, .slice (some ⟨g68, 0, none⟩) 2 2] 22, bk g68 #[.bool b2, .slice A2 n2 c2, .bool b3, .slice A3 n3 c3] 25, bk g57 #[.bool b3, .slice A3 n3 c3] 25, bk g55 #[.bool b2, .slice A2 n2 c2] 25, bk g51 #[.slice A0 n0 c0, .slice A1 n0 c1, .bool b2, .slice A2 n2 c2, .bool b3, .slice A3 n3 c3] 27] [pfRow fM FM 2 A90 n0 c91 es92, pfRow fN FN 2 A85 n0 c86 es87, pfRow fM FM 2 A79 n0 c80 es81, pfRow fN FN 2 A74 n0 c75 es76, pfU A3 n3 c3 xs3, pfU A2 n2 c2 xs2, pfRow fU FU 2 A1 n0 c1 es1, pfRow fU FU 2 A0 n0 c0 es0] [12, 13] []) mixed rfl henv hst ?_
      clear henv hst; intro w96 henv hst
      refine tA (i := 0) [1, 4, 9, 12, 13] (v := .pointer (some ⟨g55, 0, none⟩)) rfl (by kernel_rfl) (fun _ _ _ h => h) henv rfl (fun _ => rn_fieldAddr henv fd_anvil_anvillaw04_Num_0 (ty_bool.size) (by decide) rfl) ?_
      clear henv a; intro a henv
      refine sAny_take (i := 1) [4, 9, 12, 13] (fun w' => w'.heap[g55]? = some (.cells #[.bool b2, .slice A2 n2 c2] 25 (0, 0))) (v := .bool b2) rfl (by kernel_rfl) (fun _ _ _ h => h) (fun _ _ _ hS => hS.1.oat (k := 3) rfl) henv rfl (hst.oat (k := 3) rfl) (fun w' hg => rn_load1 henv ty_bool rfl hg rfl) ?_
      clear henv a; intro a henv
      refine tA (i := 2) [3, 4, 9, 12, 13] (v := .pointer (some ⟨g55, 1, none⟩)) rfl (by kernel_rfl) (fun _ _ _ h => h) henv rfl (fun _ => rn_fieldAddr henv fd_anvil_anvillaw04_Num_1 (ty__uint32.size) (by decide) rfl) ?_
      clear henv a; intro a henv
      refine sAny_take (i := 3) [4, 9, 12, 13] (fun w' => w'.heap[g55]? = some (.cells #[.bool b2, .slice A2 n2 c2] 25 (0, 0))) (v := .slice A2 n2 c2) rfl (by kernel_rfl) (fun _ _ _ h => h) (fun _ _ _ hS => hS.1.oat (k := 3) rfl) henv rfl (hst.oat (k := 3) rfl) (fun w' hg => rn_load1 henv ty__uint32 rfl hg rfl) ?_
      clear henv a; intro a henv
      refine tA (i := 5) [6, 9, 12, 13] (v := .pointer (some ⟨g55, 0, none⟩)) rfl (by kernel_rfl) (fun _ _ _ h => h) henv rfl (fun _ => rn_fieldAddr henv fd_anvil_anvillaw04_Num_0 (ty_bool.size) (by decide) rfl) ?_
      clear henv a; intro a henv
      refine sAny_take (i := 6) [9, 12, 13] (fun w' => w'.heap[g55]? = some (.cells #[.bool b2, .slice A2 n2 c2] 25 (0, 0))) (v := .bool b2) rfl (by kernel_rfl) (fun _ _ _ h => h) (fun _ _ _ hS => hS.1.oat (k := 3) rfl) henv rfl (hst.oat (k := 3) rfl) (fun w' hg => rn_load1 henv ty_bool rfl hg rfl) ?_
      clear henv a; intro a henv
      refine tA (i := 7) [8, 9, 12, 13] (v := .pointer (some ⟨g55, 1, none⟩)) rfl (by kernel_rfl) (fun _ _ _ h => h) henv rfl (fun _ => rn_fieldAddr henv fd_anvil_anvillaw04_Num_1 (ty__uint32.size) (by decide) rfl) ?_
      clear henv a; intro a henv
      refine sAny_take (i := 8) [9, 12, 13] (fun w' => w'.heap[g55]? = some (.cells #[.bool b2, .slice A2 n2 c2] 25 (0, 0))) (v := .slice A2 n2 c2) rfl (by kernel_rfl) (fun _ _ _ h => h) (fun _ _ _ hS => hS.1.oat (k := 3) rfl) henv rfl (hst.oat (k := 3) rfl) (fun w' hg => rn_load1 henv ty__uint32 rfl hg rfl) ?_
      clear henv a; intro a henv
      refine sAny_all (rs := [4, 10, 11]) (by kernel_rfl) (by simp) ?_
      simp only [List.forall_mem_cons, List.not_mem_nil, false_implies, implies_true, and_true]
      refine ⟨?_, ?_, ?_⟩
      · refine ⟨_, rfl, rfl, op_call henv rfl Tryd.call19 rfl (make_zv (show U32 _ A2 n2 c2 xs2 from hst.pat (k := 5) rfl) hv2 (by omega)) ?_⟩
        rintro e w100 ⟨_, rfl, ⟨A97, c98, rfl, hz99⟩, hb⟩
        refine ⟨_, rfl, ?_⟩
        clear henv a; intro a henv
        replace hst := (hst.call hb).addZ hz99 ⟨nou_bk rfl, nou_bk rfl, nou_bk rfl, nou_bk rfl, nou_bk rfl, trivial⟩
        clear hz99
        clear hb
        refine ⟨.inr ⟨hst.kn.pick (rg 0 5) (rg 1 8), .inr (hst.kn.pick [] [])⟩, ?_⟩
        refine sAny_all (rs := [9, 10, 11]) (by kernel_rfl) (by simp) ?_
        simp only [List.forall_mem_cons, List.not_mem_nil, false_implies, implies_true, and_true]
        refine ⟨?_, ?_, ?_⟩
        · refine ⟨_, rfl, rfl, op_call henv rfl Tryd.call20 rfl (make_rv (show U32 _ A2 n2 c2 xs2 from hst.pat (k := 6) rfl) hv2 (by omega)) ?_⟩
          rintro e w104 ⟨_, rfl, ⟨A101, c102, rfl, hz103⟩, hb⟩
          refine ⟨_, rfl, ?_⟩
          clear henv a; intro a henv
          replace hst := (hst.call hb).addR hz103 ⟨nou_bk rfl, nou_bk rfl, nou_bk rfl, nou_bk rfl, nou_bk rfl, trivial⟩
          clear hz103
          clear hb
          refine ⟨.inr ⟨hst.kn.pick (rg 0 5) (rg 2 8), .inr (hst.kn.pick [] [])⟩, ?_⟩
          refine sAny_all (rs := [10, 11]) (by kernel_rfl) (by simp) ?_
          simp only [List.forall_mem_cons, List.not_mem_nil, false_implies, implies_true, and_true]
          refine ⟨?_, ?_⟩
          · refine ⟨_, rfl, rfl, op_alloc (c := #[.bool (neg 0), .slice none (zl 0) 0]) henv hst rfl zero_anvil_integer_Int zcells ?_⟩
            clear henv hst a; intro a w106 g105 henv hst
            refine ⟨.inr ⟨hst.kn.pick (rg 1 5) (rg 2 8), .inr (hst.kn.pick [] [])⟩, ?_⟩
            refine sAny_one (i := 11) (by kernel_rfl) rfl rfl (op_alloc (c := #[.bool (neg 0), .slice none (dl 0) 0]) henv hst rfl zero_anvil_anvilref02_Int rcells ?_)
            clear henv hst a; intro a w108 g107 henv hst
            refine ⟨.inr ⟨hst.kn.pick (rg 2 5) (rg 2 8), .inr (hst.kn.pick [] [])⟩, ?_⟩
            refine sAny_one (i := 12) (by kernel_rfl) rfl rfl (op_store (k := 1) (c' := #[.bool (neg z2), .slice A97 (zl z2) c98]) henv hst (ty_anvil_integer_Int.size) rfl rfl rfl rfl (by simp) rfl rfl ?_)
            clear henv hst a; intro a w109 henv hst
            refine ⟨.inr ⟨hst.kn.pick (rg 2 5) (rg 2 8), .inl rfl⟩, ?_⟩
            refine sAny_one (i := 13) (by kernel_rfl) rfl rfl (op_store (k := 0) (c' := #[.bool (neg z2), .slice A101 (dl z2) c102]) henv hst (ty_anvil_anvilref02_Int.size) rfl rfl rfl rfl (by simp) rfl rfl ?_)
            clear henv hst a; intro a w110 henv hst
            refine ⟨.inr ⟨hst.kn.pick (rg 2 5) (rg 2 8), .inl rfl⟩, ?_⟩
            refine sAny_done (by kernel_rfl) ?_ _
            exact th_n ⟨A97, c98, A101, c102, g105, g107, henv.sub ⟨rfl, rfl, rfl, rfl, rfl, rfl, rfl, rfl, rfl, rfl, rfl, rfl, rfl, rfl, rfl, rfl, rfl, rfl, rfl, rfl, rfl, rfl, rfl, rfl, rfl, rfl, rfl, rfl, rfl, rfl, rfl, trivial⟩, hst.pick [0, 1, 2, 3, 4, 5, 6] [0, 1, 2, 3, 4, 5, 6, 7, 8, 9] (by decide)⟩
          · refine ⟨_, rfl, rfl, op_alloc (c := #[.bool (neg 0), .slice none (dl 0) 0]) henv hst rfl zero_anvil_anvilref02_Int rcells ?_⟩
            clear henv hst a; intro a w112 g111 henv hst
            refine ⟨.inr ⟨hst.kn.pick (rg 1 5) (rg 2 8), .inr (hst.kn.pick [] [])⟩, ?_⟩
            refine sAny_one (i := 10) (by kernel_rfl) rfl rfl (op_alloc (c := #[.bool (neg 0), .slice none (zl 0) 0]) henv hst rfl zero_anvil_integer_Int zcells ?_)
            clear henv hst a; intro a w114 g113 henv hst
            refine ⟨.inr ⟨hst.kn.pick (rg 2 5) (rg 2 8), .inr (hst.kn.pick [] [])⟩, ?_⟩
            refine sAny_one (i := 12) (by kernel_rfl) rfl rfl (op_store (k := 0) (c' := #[.bool (neg z2), .slice A97 (zl z2) c98]) henv hst (ty_anvil_integer_Int.size) rfl rfl rfl rfl (by simp) rfl rfl ?_)
            clear henv hst a; intro a w115 henv hst
            refine ⟨.inr ⟨hst.kn.pick (rg 2 5) (rg 2 8), .inl rfl⟩, ?_⟩
            refine sAny_one (i := 13) (by kernel_rfl) rfl rfl (op_store (k := 1) (c' := #[.bool (neg z2), .slice A101 (dl z2) c102]) henv hst (ty_anvil_anvilref02_Int.size) rfl rfl rfl rfl (by simp) rfl rfl ?_)
            clear henv hst a; intro a w116 henv hst
            refine ⟨.inr ⟨hst.kn.pick (rg 2 5) (rg 2 8), .inl rfl⟩, ?_⟩
            refine sAny_done (by kernel_rfl) ?_ _
            exact th_n ⟨A97, c98, A101, c102, g113, g111, henv.sub ⟨rfl, rfl, rfl, rfl, rfl, rfl, rfl, rfl, rfl, rfl, rfl, rfl, rfl, rfl, rfl, rfl, rfl, rfl, rfl, rfl, rfl, rfl, rfl, rfl, rfl, rfl, rfl, rfl, rfl, rfl, rfl, trivial⟩, hst.pick [1, 0, 2, 3, 4, 5, 6] [0, 1, 2, 3, 4, 5, 6, 7, 8, 9] (by decide)⟩
        · refine ⟨_, rfl, rfl, op_alloc (c := #[.bool (neg 0), .slice none (zl 0) 0]) henv hst rfl zero_anvil_integer_Int zcells ?_⟩
          clear henv hst a; intro a w118 g117 henv hst
          refine ⟨.inr ⟨hst.kn.pick (rg 1 5) (rg 1 8), .inr (hst.kn.pick [] [])⟩, ?_⟩
          refine sAny_all (rs := [9, 11]) (by kernel_rfl) (by simp) ?_
          simp only [List.forall_mem_cons, List.not_mem_nil, false_implies, implies_true, and_true]
          refine ⟨?_, ?_⟩
          · refine ⟨_, rfl, rfl, op_call henv rfl Tryd.call20 rfl (make_rv (show U32 _ A2 n2 c2 xs2 from hst.pat (k := 6) rfl) hv2 (by omega)) ?_⟩
            rintro e w122 ⟨_, rfl, ⟨A119, c120, rfl, hz121⟩, hb⟩
            refine ⟨_, rfl, ?_⟩
            clear henv a; intro a henv
            replace hst := (hst.call hb).addR hz121 ⟨nou_bk rfl, nou_bk rfl, nou_bk rfl, nou_bk rfl, nou_bk rfl, nou_bk rfl, trivial⟩
            clear hz121
            clear hb
            refine ⟨.inr ⟨hst.kn.pick (rg 1 5) (rg 2 8), .inr (hst.kn.pick [] [])⟩, ?_⟩
            refine sAny_one (i := 11) (by kernel_rfl) rfl rfl (op_alloc (c := #[.bool (neg 0), .slice none (dl 0) 0]) henv hst rfl zero_anvil_anvilref02_Int rcells ?_)
            clear henv hst a; intro a w124 g123 henv hst
            refine ⟨.inr ⟨hst.kn.pick (rg 2 5) (rg 2 8), .inr (hst.kn.pick [] [])⟩, ?_⟩
            refine sAny_one (i := 12) (by kernel_rfl) rfl rfl (op_store (k := 1) (c' := #[.bool (neg z2), .slice A97 (zl z2) c98]) henv hst (ty_anvil_integer_Int.size) rfl rfl rfl rfl (by simp) rfl rfl ?_)
            clear henv hst a; intro a w125 henv hst
            refine ⟨.inr ⟨hst.kn.pick (rg 2 5) (rg 2 8), .inl rfl⟩, ?_⟩
            refine sAny_one (i := 13) (by kernel_rfl) rfl rfl (op_store (k := 0) (c' := #[.bool (neg z2), .slice A119 (dl z2) c120]) henv hst (ty_anvil_anvilref02_Int.size) rfl rfl rfl rfl (by simp) rfl rfl ?_)
            clear henv hst a; intro a w126 henv hst
            refine ⟨.inr ⟨hst.kn.pick (rg 2 5) (rg 2 8), .inl rfl⟩, ?_⟩
            refine sAny_done (by kernel_rfl) ?_ _
            exact th_n ⟨A97, c98, A119, c120, g117, g123, henv.sub ⟨rfl, rfl, rfl, rfl, rfl, rfl, rfl, rfl, rfl, rfl, rfl, rfl, rfl, rfl, rfl, rfl, rfl, rfl, rfl, rfl, rfl, rfl, rfl, rfl, rfl, rfl, rfl, rfl, rfl, rfl, rfl, trivial⟩, hst.pick [0, 1, 2, 3, 4, 5, 6] [0, 1, 2, 3, 4, 5, 6, 7, 8, 9] (by decide)⟩
          · refine ⟨_, rfl, rfl, op_alloc (c := #[.bool (neg 0), .slice none (dl 0) 0]) henv hst rfl zero_anvil_anvilref02_Int rcells ?_⟩
            clear henv hst a; intro a w128 g127 henv hst
            refine ⟨.inr ⟨hst.kn.pick (rg 2 5) (rg 1 8), .inr (hst.kn.pick [] [])⟩, ?_⟩
            refine sAny_one (i := 9) (by kernel_rfl) rfl rfl (op_call henv rfl Tryd.call20 rfl (make_rv (show U32 _ A2 n2 c2 xs2 from hst.pat (k := 6) rfl) hv2 (by omega)) ?_)
            rintro e w132 ⟨_, rfl, ⟨A129, c130, rfl, hz131⟩, hb⟩
            refine ⟨_, rfl, ?_⟩
            clear henv a; intro a henv
            replace hst := (hst.call hb).addR hz131 ⟨nou_bk rfl, nou_bk rfl, nou_bk rfl, nou_bk rfl, nou_bk rfl, nou_bk rfl, nou_bk rfl, trivial⟩
            clear hz131
            clear hb
            refine ⟨.inr ⟨hst.kn.pick (rg 2 5) (rg 2 8), .inr (hst.kn.pick [] [])⟩, ?_⟩
            refine sAny_one (i := 12) (by kernel_rfl) rfl rfl (op_store (k := 1) (c' := #[.bool (neg z2), .slice A97 (zl z2) c98]) henv hst (ty_anvil_integer_Int.size) rfl rfl rfl rfl (by simp) rfl rfl ?_)
            clear henv hst a; intro a w133 henv hst
            refine ⟨.inr ⟨hst.kn.pick (rg 2 5) (rg 2 8), .inl rfl⟩, ?_⟩
            refine sAny_one (i := 13) (by kernel_rfl) rfl rfl (op_store (k := 0) (c' := #[.bool (neg z2), .slice A129 (dl z2) c130]) henv hst (ty_anvil_anvilref02_Int.size) rfl rfl rfl rfl (by simp) rfl rfl ?_)
            clear henv hst a; intro a w134 henv hst
            refine ⟨.inr ⟨hst.kn.pick (rg 2 5) (rg 2 8), .inl rfl⟩, ?_⟩
            refine sAny_done (by kernel_rfl) ?_ _
            exact th_n ⟨A97, c98, A129, c130, g117, g127, henv.sub ⟨rfl, rfl, rfl, rfl, rfl, rfl, rfl, rfl, rfl, rfl, rfl, rfl, rfl, rfl, rfl, rfl, rfl, rfl, rfl, rfl, rfl, rfl, rfl, rfl, rfl, rfl, rfl, rfl, rfl, rfl, rfl, trivial⟩, hst.pick [0, 1, 2, 3, 4, 5, 6] [0, 1, 2, 3, 4, 5, 6, 7, 8, 9] (by decide)⟩
        · refine ⟨_, rfl, rfl, op_alloc (c := #[.bool (neg 0), .slice none (dl 0) 0]) henv hst rfl zero_anvil_anvilref02_Int rcells ?_⟩
          clear henv hst a; intro a w136 g135 henv hst
          refine ⟨.inr ⟨hst.kn.pick (rg 1 5) (rg 1 8), .inr (hst.kn.pick [] [])⟩, ?_⟩
          refine sAny_all (rs := [9, 10]) (by kernel_rfl) (by simp) ?_
          simp only [List.forall_mem_cons, List.not_mem_nil, false_implies, implies_true, and_true]
          refine ⟨?_, ?_⟩
          · refine ⟨_, rfl, rfl, op_call henv rfl Tryd.call20 rfl (make_rv (show U32 _ A2 n2 c2 xs2 from hst.pat (k := 6) rfl) hv2 (by omega)) ?_⟩
            rintro e w140 ⟨_, rfl, ⟨A137, c138, rfl, hz139⟩, hb⟩
            refine ⟨_, rfl, ?_⟩
            clear henv a; intro a henv
            replace hst := (hst.call hb).addR hz139 ⟨nou_bk rfl, nou_bk rfl, nou_bk rfl, nou_bk rfl, nou_bk rfl, nou_bk rfl, trivial⟩
            clear hz139
            clear hb
            refine ⟨.inr ⟨hst.kn.pick (rg 1 5) (rg 2 8), .inr (hst.kn.pick [] [])⟩, ?_⟩
            refine sAny_one (i := 10) (by kernel_rfl) rfl rfl (op_alloc (c := #[.bool (neg 0), .slice none (zl 0) 0]) henv hst rfl zero_anvil_integer_Int zcells ?_)
            clear henv hst a; intro a w142 g141 henv hst
            refine ⟨.inr ⟨hst.kn.pick (rg 2 5) (rg 2 8), .inr (hst.kn.pick [] [])⟩, ?_⟩
            refine sAny_one (i := 12) (by kernel_rfl) rfl rfl (op_store (k := 0) (c' := #[.bool (neg z2), .slice A97 (zl z2) c98]) henv hst (ty_anvil_integer_Int.size) rfl rfl rfl rfl (by simp) rfl rfl ?_)
            clear henv hst a; intro a w143 henv hst
            refine ⟨.inr ⟨hst.kn.pick (rg 2 5) (rg 2 8), .inl rfl⟩, ?_⟩
            refine sAny_one (i := 13) (by kernel_rfl) rfl rfl (op_store (k := 1) (c' := #[.bool (neg z2), .slice A137 (dl z2) c138]) henv hst (ty_anvil_anvilref02_Int.size) rfl rfl rfl rfl (by simp) rfl rfl ?_)
            clear henv hst a; intro a w144 henv hst
            refine ⟨.inr ⟨hst.kn.pick (rg 2 5) (rg 2 8), .inl rfl⟩, ?_⟩
            refine sAny_done (by kernel_rfl) ?_ _
            exact th_n ⟨A97, c98, A137, c138, g141, g135, henv.sub ⟨rfl, rfl, rfl, rfl, rfl, rfl, rfl, rfl, rfl, rfl, rfl, rfl, rfl, rfl, rfl, rfl, rfl, rfl, rfl, rfl, rfl, rfl, rfl, rfl, rfl, rfl, rfl, rfl, rfl, rfl, rfl, trivial⟩, hst.pick [1, 0, 2, 3, 4, 5, 6] [0, 1, 2, 3, 4, 5, 6, 7, 8, 9] (by decide)⟩
          · refine ⟨_, rfl, rfl, op_alloc (c := #[.bool (neg 0), .slice none (zl 0) 0]) henv hst rfl zero_anvil_integer_Int zcells ?_⟩
            clear henv hst a; intro a w146 g145 henv hst
            refine ⟨.inr ⟨hst.kn.pick (rg 2 5) (rg 1 8), .inr (hst.kn.pick [] [])⟩, ?_⟩
            refine sAny_one (i := 9) (by kernel_rfl) rfl rfl (op_call henv rfl Tryd.call20 rfl (make_rv (show U32 _ A2 n2 c2 xs2 from hst.pat (k := 6) rfl) hv2 (by omega)) ?_)
            rintro e w150 ⟨_, rfl, ⟨A147, c148, rfl, hz149⟩, hb⟩
            refine ⟨_, rfl, ?_⟩
            clear henv a; intro a henv
            replace hst := (hst.call hb).addR hz149 ⟨nou_bk rfl, nou_bk rfl, nou_bk rfl, nou_bk rfl, nou_bk rfl, nou_bk rfl, nou_bk rfl, trivial⟩
            clear hz149
            clear hb
            refine ⟨.inr ⟨hst.kn.pick (rg 2 5) (rg 2 8), .inr (hst.kn.pick [] [])⟩, ?_⟩
            refine sAny_one (i := 12) (by kernel_rfl) rfl rfl (op_store (k := 0) (c' := #[.bool (neg z2), .slice A97 (zl z2) c98]) henv hst (ty_anvil_integer_Int.size) rfl rfl rfl rfl (by simp) rfl rfl ?_)
            clear henv hst a; intro a w151 henv hst
            refine ⟨.inr ⟨hst.kn.pick (rg 2 5) (rg 2 8), .inl rfl⟩, ?_⟩
            refine sAny_one (i := 13) (by kernel_rfl) rfl rfl (op_store (k := 1) (c' := #[.bool (neg z2), .slice A147 (dl z2) c148]) henv hst (ty_anvil_anvilref02_Int.size) rfl rfl rfl rfl (by simp) rfl rfl ?_)
            clear henv hst a; intro a w152 henv hst
            refine ⟨.inr ⟨hst.kn.pick (rg 2 5) (rg 2 8), .inl rfl⟩, ?_⟩
            refine sAny_done (by kernel_rfl) ?_ _
            exact th_n ⟨A97, c98, A147, c148, g145, g135, henv.sub ⟨rfl, rfl, rfl, rfl, rfl, rfl, rfl, rfl, rfl, rfl, rfl, rfl, rfl, rfl, rfl, rfl, rfl, rfl, rfl, rfl, rfl, rfl, rfl, rfl, rfl, rfl, rfl, rfl, rfl, rfl, rfl, trivial⟩, hst.pick [1, 0, 2, 3, 4, 5, 6] [0, 1, 2, 3, 4, 5, 6, 7, 8, 9] (by decide)⟩
      · refine ⟨_, rfl, rfl, op_alloc (c := #[.bool (neg 0), .slice none (zl 0) 0]) henv hst rfl zero_anvil_integer_Int zcells ?_⟩
        clear henv hst a; intro a w154 g153 henv hst
        refine ⟨.inr ⟨hst.kn.pick (rg 1 5) (rg 0 8), .inr (hst.kn.pick [] [])⟩, ?_⟩
        refine sAny_all (rs := [4, 11]) (by kernel_rfl) (by simp) ?_
        simp only [List.forall_mem_cons, List.not_mem_nil, false_implies, implies_true, and_true]
        refine ⟨?_, ?_⟩
        · refine ⟨_, rfl, rfl, op_call henv rfl Tryd.call19 rfl (make_zv (show U32 _ A2 n2 c2 xs2 from hst.pat (k := 5) rfl) hv2 (by omega)) ?_⟩
          rintro e w158 ⟨_, rfl, ⟨A155, c156, rfl, hz157⟩, hb⟩
          refine ⟨_, rfl, ?_⟩
          clear henv a; intro a henv
          replace hst := (hst.call hb).addZ hz157 ⟨nou_bk rfl, nou_bk rfl, nou_bk rfl, nou_bk rfl, nou_bk rfl, nou_bk rfl, trivial⟩
          clear hz157
          clear hb
          refine ⟨.inr ⟨hst.kn.pick (rg 1 5) (rg 1 8), .inr (hst.kn.pick [] [])⟩, ?_⟩
          refine sAny_all (rs := [9, 11]) (by kernel_rfl) (by simp) ?_
          simp only [List.forall_mem_cons, List.not_mem_nil, false_implies, implies_true, and_true]
          refine ⟨?_, ?_⟩
          · refine ⟨_, rfl, rfl, op_call henv rfl Tryd.call20 rfl (make_rv (show U32 _ A2 n2 c2 xs2 from hst.pat (k := 6) rfl) hv2 (by omega)) ?_⟩
            rintro e w162 ⟨_, rfl, ⟨A159, c160, rfl, hz161⟩, hb⟩
            refine ⟨_, rfl, ?_⟩
            clear henv a; intro a henv
            replace hst := (hst.call hb).addR hz161 ⟨nou_bk rfl, nou_bk rfl, nou_bk rfl, nou_bk rfl, nou_bk rfl, nou_bk rfl, trivial⟩
            clear hz161
            clear hb
            refine ⟨.inr ⟨hst.kn.pick (rg 1 5) (rg 2 8), .inr (hst.kn.pick [] [])⟩, ?_⟩
            refine sAny_one (i := 11) (by kernel_rfl) rfl rfl (op_alloc (c := #[.bool (neg 0), .slice none (dl 0) 0]) henv hst rfl zero_anvil_anvilref02_Int rcells ?_)
            clear henv hst a; intro a w164 g163 henv hst
            refine ⟨.inr ⟨hst.kn.pick (rg 2 5) (rg 2 8), .inr (hst.kn.pick [] [])⟩, ?_⟩
            refine sAny_one (i := 12) (by kernel_rfl) rfl rfl (op_store (k := 1) (c' := #[.bool (neg z2), .slice A155 (zl z2) c156]) henv hst (ty_anvil_integer_Int.size) rfl rfl rfl rfl (by simp) rfl rfl ?_)
            clear henv hst a; intro a w165 henv hst
            refine ⟨.inr ⟨hst.kn.pick (rg 2 5) (rg 2 8), .inl rfl⟩, ?_⟩
            refine sAny_one (i := 13) (by kernel_rfl) rfl rfl (op_store (k := 0) (c' := #[.bool (neg z2), .slice A159 (dl z2) c160]) henv hst (ty_anvil_anvilref02_Int.size) rfl rfl rfl rfl (by simp) rfl rfl ?_)
            clear henv hst a; intro a w166 henv hst
            refine ⟨.inr ⟨hst.kn.pick (rg 2 5) (rg 2 8), .inl rfl⟩, ?_⟩
            refine sAny_done (by kernel_rfl) ?_ _
            exact th_n ⟨A155, c156, A159, c160, g153, g163, henv.sub ⟨rfl, rfl, rfl, rfl, rfl, rfl, rfl, rfl, rfl, rfl, rfl, rfl, rfl, rfl, rfl, rfl, rfl, rfl, rfl, rfl, rfl, rfl, rfl, rfl, rfl, rfl, rfl, rfl, rfl, rfl, rfl, trivial⟩, hst.pick [0, 1, 2, 3, 4, 5, 6] [0, 1, 2, 3, 4, 5, 6, 7, 8, 9] (by decide)⟩
          · refine ⟨_, rfl, rfl, op_alloc (c := #[.bool (neg 0), .slice none (dl 0) 0]) henv hst rfl zero_anvil_anvilref02_Int rcells ?_⟩
            clear henv hst a; intro a w168 g167 henv hst
            refine ⟨.inr ⟨hst.kn.pick (rg 2 5) (rg 1 8), .inr (hst.kn.pick [] [])⟩, ?_⟩
            refine sAny_one (i := 9) (by kernel_rfl) rfl rfl (op_call henv rfl Tryd.call20 rfl (make_rv (show U32 _ A2 n2 c2 xs2 from hst.pat (k := 6) rfl) hv2 (by omega)) ?_)
            rintro e w172 ⟨_, rfl, ⟨A169, c170, rfl, hz171⟩, hb⟩
            refine ⟨_, rfl, ?_⟩
            clear henv a; intro a henv
            replace hst := (hst.call hb).addR hz171 ⟨nou_bk rfl, nou_bk rfl, nou_bk rfl, nou_bk rfl, nou_bk rfl, nou_bk rfl, nou_bk rfl, trivial⟩
            clear hz171
            clear hb
            refine ⟨.inr ⟨hst.kn.pick (rg 2 5) (rg 2 8), .inr (hst.kn.pick [] [])⟩, ?_⟩
            refine sAny_one (i := 12) (by kernel_rfl) rfl rfl (op_store (k := 1) (c' := #[.bool (neg z2), .slice A155 (zl z2) c156]) henv hst (ty_anvil_integer_Int.size) rfl rfl rfl rfl (by simp) rfl rfl ?_)
            clear henv hst a; intro a w173 henv hst
            refine ⟨.inr ⟨hst.kn.pick (rg 2 5) (rg 2 8), .inl rfl⟩, ?_⟩
            refine sAny_one (i := 13) (by kernel_rfl) rfl rfl (op_store (k := 0) (c' := #[.bool (neg z2), .slice A169 (dl z2) c170]) henv hst (ty_anvil_anvilref02_Int.size) rfl rfl rfl rfl (by simp) rfl rfl ?_)
            clear henv hst a; intro a w174 henv hst
            refine ⟨.inr ⟨hst.kn.pick (rg 2 5) (rg 2 8), .inl rfl⟩, ?_⟩
            refine sAny_done (by kernel_rfl) ?_ _
            exact th_n ⟨A155, c156, A169, c170, g153, g167, henv.sub ⟨rfl, rfl, rfl, rfl, rfl, rfl, rfl, rfl, rfl, rfl, rfl, rfl, rfl, rfl, rfl, rfl, rfl, rfl, rfl, rfl, rfl, rfl, rfl, rfl, rfl, rfl, rfl, rfl, rfl, rfl, rfl, trivial⟩, hst.pick [0, 1, 2, 3, 4, 5, 6] [0, 1, 2, 3, 4, 5, 6, 7, 8, 9] (by decide)⟩
        · refine ⟨_, rfl, rfl, op_alloc (c := #[.bool (neg 0), .slice none (dl 0) 0]) henv hst rfl zero_anvil_anvilref02_Int rcells ?_⟩
          clear henv hst a; intro a w176 g175 henv hst
          refine ⟨.inr ⟨hst.kn.pick (rg 2 5) (rg 0 8), .inr (hst.kn.pick [] [])⟩, ?_⟩
          refine sAny_one (i := 4) (by kernel_rfl) rfl rfl (op_call henv rfl Tryd.call19 rfl (make_zv (show U32 _ A2 n2 c2 xs2 from hst.pat (k := 5) rfl) hv2 (by omega)) ?_)
          rintro e w180 ⟨_, rfl, ⟨A177, c178, rfl, hz179⟩, hb⟩
          refine ⟨_, rfl, ?_⟩
          clear henv a; intro a henv
          replace hst := (hst.call hb).addZ hz179 ⟨nou_bk rfl, nou_bk rfl, nou_bk rfl, nou_bk rfl, nou_bk rfl, nou_bk rfl, nou_bk rfl, trivial⟩
          clear hz179
          clear hb
          refine ⟨.inr ⟨hst.kn.pick (rg 2 5) (rg 1 8), .inr (hst.kn.pick [] [])⟩, ?_⟩
          refine sAny_one (i := 9) (by kernel_rfl) rfl rfl (op_call henv rfl Tryd.call20 rfl (make_rv (show U32 _ A2 n2 c2 xs2 from hst.pat (k := 6) rfl) hv2 (by omega)) ?_)
          rintro e w184 ⟨_, rfl, ⟨A181, c182, rfl, hz183⟩, hb⟩
          refine ⟨_, rfl, ?_⟩
          clear henv a; intro a henv
          replace hst := (hst.call hb).addR hz183 ⟨nou_bk rfl, nou_bk rfl, nou_bk rfl, nou_bk rfl, nou_bk rfl, nou_bk rfl, nou_bk rfl, trivial⟩
          clear hz183
          clear hb
          refine ⟨.inr ⟨hst.kn.pick (rg 2 5) (rg 2 8), .inr (hst.kn.pick [] [])⟩, ?_⟩
          refine sAny_one (i := 12) (by kernel_rfl) rfl rfl (op_store (k := 1) (c' := #[.bool (neg z2), .slice A177 (zl z2) c178]) henv hst (ty_anvil_integer_Int.size) rfl rfl rfl rfl (by simp) rfl rfl ?_)
          clear henv hst a; intro a w185 henv hst
          refine ⟨.inr ⟨hst.kn.pick (rg 2 5) (rg 2 8), .inl rfl⟩, ?_⟩
          refine sAny_one (i := 13) (by kernel_rfl) rfl rfl (op_store (k := 0) (c' := #[.bool (neg z2), .slice A181 (dl z2) c182]) henv hst (ty_anvil_anvilref02_Int.size) rfl rfl rfl rfl (by simp) rfl rfl ?_)
          clear henv hst a; intro a w186 henv hst
          refine ⟨.inr ⟨hst.kn.pick (rg 2 5) (rg 2 8), .inl rfl⟩, ?_⟩
          refine sAny_done (by kernel_rfl) ?_ _
          exact th_n ⟨A177, c178, A181, c182, g153, g175, henv.sub ⟨rfl, rfl, rfl, rfl, rfl, rfl, rfl, rfl, rfl, rfl, rfl, rfl, rfl, rfl, rfl, rfl, rfl, rfl, rfl, rfl, rfl, rfl, rfl, rfl, rfl, rfl, rfl, rfl, rfl, rfl, rfl, trivial⟩, hst.pick [0, 1, 2, 3, 4, 5, 6] [0, 1, 2, 3, 4, 5, 6, 7, 8, 9] (by decide)⟩
      · refine ⟨_, rfl, rfl, op_alloc (c := #[.bool (neg 0), .slice none (dl 0) 0]) henv hst rfl zero_anvil_anvilref02_Int rcells ?_⟩
        clear henv hst a; intro a w188 g187 henv hst
        refine ⟨.inr ⟨hst.kn.pick (rg 1 5) (rg 0 8), .inr (hst.kn.pick [] [])⟩, ?_⟩
        refine sAny_all (rs := [4, 10]) (by kernel_rfl) (by simp) ?_
        simp only [List.forall_mem_cons, List.not_mem_nil, false_implies, implies_true, and_true]
        refine ⟨?_, ?_⟩
        · refine ⟨_, rfl, rfl, op_call henv rfl Tryd.call19 rfl (make_zv (show U32 _ A2 n2 c2 xs2 from hst.pat (k := 5) rfl) hv2 (by omega)) ?_⟩
          rintro e w192 ⟨_, rfl, ⟨A189, c190, rfl, hz191⟩, hb⟩
          refine ⟨_, rfl, ?_⟩
          clear henv a; intro a henv
          replace hst := (hst.call hb).addZ hz191 ⟨nou_bk rfl, nou_bk rfl, nou_bk rfl, nou_bk rfl, nou_bk rfl, nou_bk rfl, trivial⟩
          clear hz191
          clear hb
          refine ⟨.inr ⟨hst.kn.pick (rg 1 5) (rg 1 8), .inr (hst.kn.pick [] [])⟩, ?_⟩
          refine sAny_all (rs := [9, 10]) (by kernel_rfl) (by simp) ?_
          simp only [List.forall_mem_cons, List.not_mem_nil, false_implies, implies_true, and_true]
          refine ⟨?_, ?_⟩
          · refine ⟨_, rfl, rfl, op_call henv rfl Tryd.call20 rfl (make_rv (show U32 _ A2 n2 c2 xs2 from hst.pat (k := 6) rfl) hv2 (by omega)) ?_⟩
            rintro e w196 ⟨_, rfl, ⟨A193, c194, rfl, hz195⟩, hb⟩
            refine ⟨_, rfl, ?_⟩
            clear henv a; intro a henv
            replace hst := (hst.call hb).addR hz195 ⟨nou_bk rfl, nou_bk rfl, nou_bk rfl, nou_bk rfl, nou_bk rfl, nou_bk rfl, trivial⟩
            clear hz195
            clear hb
            refine ⟨.inr ⟨hst.kn.pick (rg 1 5) (rg 2 8), .inr (hst.kn.pick [] [])⟩, ?_⟩
            refine sAny_one (i := 10) (by kernel_rfl) rfl rfl (op_alloc (c := #[.bool (neg 0), .slice none (zl 0) 0]) henv hst rfl zero_anvil_integer_Int zcells ?_)
            clear henv hst a; intro a w198 g197 henv hst
            refine ⟨.inr ⟨hst.kn.pick (rg 2 5) (rg 2 8), .inr (hst.kn.pick [] [])⟩, ?_⟩
            refine sAny_one (i := 12) (by kernel_rfl) rfl rfl (op_store (k := 0) (c' := #[.bool (neg z2), .slice A189 (zl z2) c190]) henv hst (ty_anvil_integer_Int.size) rfl rfl rfl rfl (by simp) rfl rfl ?_)
            clear henv hst a; intro a w199 henv hst
            refine ⟨.inr ⟨hst.kn.pick (rg 2 5) (rg 2 8), .inl rfl⟩, ?_⟩
            refine sAny_one (i := 13) (by kernel_rfl) rfl rfl (op_store (k := 1) (c' := #[.bool (neg z2), .slice A193 (dl z2) c194]) henv hst (ty_anvil_anvilref02_Int.size) rfl rfl rfl rfl (by simp) rfl rfl ?_)
            clear henv hst a; intro a w200 henv hst
            refine ⟨.inr ⟨hst.kn.pick (rg 2 5) (rg 2 8), .inl rfl⟩, ?_⟩
            refine sAny_done (by kernel_rfl) ?_ _
            exact th_n ⟨A189, c190, A193, c194, g197, g187, henv.sub ⟨rfl, rfl, rfl, rfl, rfl, rfl, rfl, rfl, rfl, rfl, rfl, rfl, rfl, rfl, rfl, rfl, rfl, rfl, rfl, rfl, rfl, rfl, rfl, rfl, rfl, rfl, rfl, rfl, rfl, rfl, rfl, trivial⟩, hst.pick [1, 0, 2, 3, 4, 5, 6] [0, 1, 2, 3, 4, 5, 6, 7, 8, 9] (by decide)⟩
          · refine ⟨_, rfl, rfl, op_alloc (c := #[.bool (neg 0), .slice none (zl 0) 0]) henv hst rfl zero_anvil_integer_Int zcells ?_⟩
            clear henv hst a; intro a w202 g201 henv hst
            refine ⟨.inr ⟨hst.kn.pick (rg 2 5) (rg 1 8), .inr (hst.kn.pick [] [])⟩, ?_⟩
            refine sAny_one (i := 9) (by kernel_rfl) rfl rfl (op_call henv rfl Tryd.call20 rfl (make_rv (show U32 _ A2 n2 c2 xs2 from hst.pat (k := 6) rfl) hv2 (by omega)) ?_)
            rintro e w206 ⟨_, rfl, ⟨A203, c204, rfl, hz205⟩, hb⟩
            refine ⟨_, rfl, ?_⟩
            clear henv a; intro a henv
            replace hst := (hst.call hb).addR hz205 ⟨nou_bk rfl, nou_bk rfl, nou_bk rfl, nou_bk rfl, nou_bk rfl, nou_bk rfl, nou_bk rfl, trivial⟩
            clear hz205
            clear hb
            refine ⟨.inr ⟨hst.kn.pick (rg 2 5) (rg 2 8), .inr (hst.kn.pick [] [])⟩, ?_⟩
            refine sAny_one (i := 12) (by kernel_rfl) rfl rfl (op_store (k := 0) (c' := #[.bool (neg z2), .slice A189 (zl z2) c190]) henv hst (ty_anvil_integer_Int.size) rfl rfl rfl rfl (by simp) rfl rfl ?_)
            clear henv hst a; intro a w207 henv hst
            refine ⟨.inr ⟨hst.kn.pick (rg 2 5) (rg 2 8), .inl rfl⟩, ?_⟩
            refine sAny_one (i := 13) (by kernel_rfl) rfl rfl (op_store (k := 1) (c' := #[.bool (neg z2), .slice A203 (dl z2) c204]) henv hst (ty_anvil_anvilref02_Int.size) rfl rfl rfl rfl (by simp) rfl rfl ?_)
            clear henv hst a; intro a w208 henv hst
            refine ⟨.inr ⟨hst.kn.pick (rg 2 5) (rg 2 8), .inl rfl⟩, ?_⟩
            refine sAny_done (by kernel_rfl) ?_ _
            exact th_n ⟨A189, c190, A203, c204, g201, g187, henv.sub ⟨rfl, rfl, rfl, rfl, rfl, rfl, rfl, rfl, rfl, rfl, rfl, rfl, rfl, rfl, rfl, rfl, rfl, rfl, rfl, rfl, rfl, rfl, rfl, rfl, rfl, rfl, rfl, rfl, rfl, rfl, rfl, trivial⟩, hst.pick [1, 0, 2, 3, 4, 5, 6] [0, 1, 2, 3, 4, 5, 6, 7, 8, 9] (by decide)⟩
        · refine ⟨_, rfl, rfl, op_alloc (c := #[.bool (neg 0), .slice none (zl 0) 0]) henv hst rfl zero_anvil_integer_Int zcells ?_⟩
          clear henv hst a; intro a w210 g209 henv hst
          refine ⟨.inr ⟨hst.kn.pick (rg 2 5) (rg 0 8), .inr (hst.kn.pick [] [])⟩, ?_⟩
          refine sAny_one (i := 4) (by kernel_rfl) rfl rfl (op_call henv rfl Tryd.call19 rfl (make_zv (show U32 _ A2 n2 c2 xs2 from hst.pat (k := 5) rfl) hv2 (by omega)) ?_)
          rintro e w214 ⟨_, rfl, ⟨A211, c212, rfl, hz213⟩, hb⟩
          refine ⟨_, rfl, ?_⟩
          clear henv a; intro a henv
          replace hst := (hst.call hb).addZ hz213 ⟨nou_bk rfl, nou_bk rfl, nou_bk rfl, nou_bk rfl, nou_bk rfl, nou_bk rfl, nou_bk rfl, trivial⟩
          clear hz213
          clear hb
          refine ⟨.inr ⟨hst.kn.pick (rg 2 5) (rg 1 8), .inr (hst.kn.pick [] [])⟩, ?_⟩
          refine sAny_one (i := 9) (by kernel_rfl) rfl rfl (op_call henv rfl Tryd.call20 rfl (make_rv (show U32 _ A2 n2 c2 xs2 from hst.pat (k := 6) rfl) hv2 (by omega)) ?_)
          rintro e w218 ⟨_, rfl, ⟨A215, c216, rfl, hz217⟩, hb⟩
          refine ⟨_, rfl, ?_⟩
          clear henv a; intro a henv
          replace hst := (hst.call hb).addR hz217 ⟨nou_bk rfl, nou_bk rfl, nou_bk rfl, nou_bk rfl, nou_bk rfl, nou_bk rfl, nou_bk rfl, trivial⟩
          clear hz217
          clear hb
          refine ⟨.inr ⟨hst.kn.pick (rg 2 5) (rg 2 8), .inr (hst.kn.pick [] [])⟩, ?_⟩
          refine sAny_one (i := 12) (by kernel_rfl) rfl rfl (op_store (k := 0) (c' := #[.bool (neg z2), .slice A211 (zl z2) c212]) henv hst (ty_anvil_integer_Int.size) rfl rfl rfl rfl (by simp) rfl rfl ?_)
          clear henv hst a; intro a w219 henv hst
          refine ⟨.inr ⟨hst.kn.pick (rg 2 5) (rg 2 8), .inl rfl⟩, ?_⟩
          refine sAny_one (i := 13) (by kernel_rfl) rfl rfl (op_store (k := 1) (c' := #[.bool (neg z2), .slice A215 (dl z2) c216]) henv hst (ty_anvil_anvilref02_Int.size) rfl rfl rfl rfl (by simp) rfl rfl ?_)
          clear henv hst a; intro a w220 henv hst
          refine ⟨.inr ⟨hst.kn.pick (rg 2 5) (rg 2 8), .inl rfl⟩, ?_⟩
          refine sAny_done (by kernel_rfl) ?_ _
          exact th_n ⟨A211, c212, A215, c216, g209, g187, henv.sub ⟨rfl, rfl, rfl, rfl, rfl, rfl, rfl, rfl, rfl, rfl, rfl, rfl, rfl, rfl, rfl, rfl, rfl, rfl, rfl, rfl, rfl, rfl, rfl, rfl, rfl, rfl, rfl, rfl, rfl, rfl, rfl, trivial⟩, hst.pick [1, 0, 2, 3, 4, 5, 6] [0, 1, 2, 3, 4, 5, 6, 7, 8, 9] (by decide)⟩
    clear henv hst a
    rintro a w221 ⟨A97, c98, A101, c102, g105, g107, henv, hst⟩
    refine wp_seq ?_
    refine cut (fun a w => ∃ A223 : Option Addr, ∃ c224 : Nat, ∃ A227 : Option Addr, ∃ c228 : Nat, ∃ g231 : Nat, ∃ g233 : Nat, Env 238 a [(0, .agg #[.slice A0 n0 c0, .slice A1 n0 c1, .bool b2, .slice A2 n2 c2, .bool b3, .slice A3 n3 c3]), (2, .bool false), (25, .bool true), (26, .bool false), (5, .pointer (some ⟨g55, 0, none⟩)), (6, .pointer (some ⟨g57, 0, none⟩)), (3, .slice A0 n0 c0), (4, .slice A1 n0 c1), (35, .slice A0 n0 c0), (36, .slice A1 n0 c1), (37, .agg #[.bool b2, .slice A2 n2 c2]), (38, .agg #[.bool b3, .slice A3 n3 c3]), (39, .slice (some ⟨g68, 0, none⟩) 2 2), (40, .slice (some ⟨g70, 0, none⟩) 3 3), (41, .bool bl), (43, .slice A0 n0 c0), (44, .tuple #[.slice A74 n0 c75, .slice A79 n0 c80]), (42, .tuple #[.slice A74 n0 c75, .slice A79 n0 c80]), (45, .slice A74 n0 c75), (46, .slice A79 n0 c80), (7, .slice A74 n0 c75), (8, .slice A79 n0 c80), (48, .slice A1 n0 c1), (49, .tuple #[.slice A85 n0 c86, .slice A90 n0 c91]), (47, .tuple #[.slice A85 n0 c86, .slice A90 n0 c91]), (50, .slice A85 n0 c86), (51, .slice A90 n0 c91), (9, .slice A85 n0 c86), (10, .slice A90 n0 c91), (11, .pointer (some ⟨g105, 0, none⟩)), (12, .pointer (some ⟨g107, 0, none⟩)), (13, .pointer (some ⟨g231, 0, none⟩)), (14, .pointer (some ⟨g233, 0, none⟩))] ∧ St w0 w [bk g233 #[.bool (neg z3), .slice A227 (dl z3) c228] 39, bk g231 #[.bool (neg z3), .slice A223 (zl z3) c224] 36, bk g107 #[.bool (neg z2), .slice A101 (dl z2) c102] 39, bk g105 #[.bool (neg z2), .slice A97 (zl z2) c98] 36, bk g70 #[.slice A0 n0 c0, .slice A1 n0 c1, .slice (some ⟨g68, 0, none⟩) 2 2] 22, bk g68 #[.bool b2, .slice A2 n2 c2, .bool b3, .slice A3 n3 c3] 25, bk g57 #[.bool b3, .slice A3 n3 c3] 25, bk g55 #[.bool b2, .slice A2 n2 c2] 25, bk g51 #[.slice A0 n0 c0, .slice A1 n0 c1, .bool b2, .slice A2 n2 c2, .bool b3, .slice A3 n3 c3] 27] [pfR A227 c228 z3, pfZ A223 c224 z3, pfR A101 c102 z2, pfZ A97 c98 z2, pfRow fM FM 2 A90 n0 c91 es92, pfRow fN FN 2 A85 n0 c86 es87, pfRow fM FM 2 A79 n0 c80 es81, pfRow fN FN 2 A74 n0 c75 es76, pfU A3 n3 c3 xs3, pfU A2 n2 c2 xs2, pfRow fU FU 2 A1 n0 c1 es1, pfRow fU FU 2 A0 n0 c0 es0]) ?_ ?_
    · refine region_any (n := 14) (Sk [bk g107 #[.bool (neg z2), .slice A101 (dl z2) c102] 39, bk g105 #[.bool (neg z2), .slice A97 (zl z2) c98] 36, bk g70 #[.slice A0 n0 c0, .slice A1 n0 c1, .slice (some ⟨g68, 0, none⟩) 2 2] 22, bk g68 #[.bool b2, .slice A2 n2 c2, .bool b3, .slice A3 n3 c3] 25, bk g57 #[.bool b3, .slice A3 n3 c3] 25, bk g55 #[.bool b2, .slice A2 n2 c2] 25, bk g51 #[.slice A0 n0 c0, .slice A1 n0 c1, .bool b2, .slice A2 n2 c2, .bool b3, .slice A3 n3 c3] 27] [pfR A101 c102 z2, pfZ A97 c98 z2, pfRow fM FM 2 A90 n0 c91 es92, pfRow fN FN 2 A85 n0 c86 es87, pfRow fM FM 2 A79 n0 c80 es81, pfRow fN FN 2 A74 n0 c75 es76, pfU A3 n3 c3 xs3, pfU A2 n2 c2 xs2, pfRow fU FU 2 A1 n0 c1 es1, pfRow fU FU 2 A0 n0 c0 es0] [12, 13] []) mixed rfl henv hst ?_
      clear henv hst; intro w222 henv hst
      refine tA (i := 0) [1, 4, 9, 12, 13] (v := .pointer (some ⟨g57, 0, none⟩)) rfl (by kernel_rfl) (fun _ _ _ h => h) henv rfl (fun _ => rn_fieldAddr henv fd_anvil_anvillaw04_Num_0 (ty_bool.size) (by decide) rfl) ?_
      clear henv a; intro a henv
      refine sAny_take (i := 1) [4, 9, 12, 13] (fun w' => w'.heap[g57]? = some (.cells #[.bool b3, .slice A3 n3 c3] 25 (0, 0))) (v := .bool b3) rfl (by kernel_rfl) (fun _ _ _ h => h) (fun _ _ _ hS => hS.1.oat (k := 4) rfl) henv rfl (hst.oat (k := 4) rfl) (fun w' hg => rn_load1 henv ty_bool rfl hg rfl) ?_
      clear henv a; intro a henv
      refine tA (i := 2) [3, 4, 9, 12, 13] (v := .pointer (some ⟨g57, 1, none⟩)) rfl (by kernel_rfl) (fun _ _ _ h => h) henv rfl (fun _ => rn_fieldAddr henv fd_anvil_anvillaw04_Num_1 (ty__uint32.size) (by decide) rfl) ?_
      clear henv a; intro a henv
      refine sAny_take (i := 3) [4, 9, 12, 13] (fun w' => w'.heap[g57]? = some (.cells #[.bool b3, .slice A3 n3 c3] 25 (0, 0))) (v := .slice A3 n3 c3) rfl (by kernel_rfl) (fun _ _ _ h => h) (fun _ _ _ hS => hS.1.oat (k := 4) rfl) henv rfl (hst.oat (k := 4) rfl) (fun w' hg => rn_load1 henv ty__uint32 rfl hg rfl) ?_
      clear henv a; intro a henv
      refine tA (i := 5) [6, 9, 12, 13] (v := .pointer (some ⟨g57, 0, none⟩)) rfl (by kernel_rfl) (fun _ _ _ h => h) henv rfl (fun _ => rn_fieldAddr henv fd_anvil_anvillaw04_Num_0 (ty_bool.size) (by decide) rfl) ?_
      clear henv a; intro a henv
      refine sAny_take (i := 6) [9, 12, 13] (fun w' => w'.heap[g57]? = some (.cells #[.bool b3, .slice A3 n3 c3] 25 (0, 0))) (v := .bool b3) rfl (by kernel_rfl) (fun _ _ _ h => h) (fun _ _ _ hS => hS.1.oat (k := 4) rfl) henv rfl (hst.oat (k := 4) rfl) (fun w' hg => rn_load1 henv ty_bool rfl hg rfl) ?_
      clear henv a; intro a henv
      refine tA (i := 7) [8, 9, 12, 13] (v := .pointer (some ⟨g57, 1, none⟩)) rfl (by kernel_rfl) (fun _ _ _ h => h) henv rfl (fun _ => rn_fieldAddr henv fd_anvil_anvillaw04_Num_1 (ty__uint32.size) (by decide) rfl) ?_
      clear henv a; intro a henv
      refine sAny_take (i := 8) [9, 12, 13] (fun w' => w'.heap[g57]? = some (.cells #[.bool b3, .slice A3 n3 c3] 25 (0, 0))) (v := .slice A3 n3 c3) rfl (by kernel_rfl) (fun _ _ _ h => h) (fun _ _ _ hS => hS.1.oat (k := 4) rfl) henv rfl (hst.oat (k := 4) rfl) (fun w' hg => rn_load1 henv ty__uint32 rfl hg rfl) ?_
      clear henv a; intro a henv
      refine sAny_all (rs := [4, 10, 11]) (by kernel_rfl) (by simp) ?_
      simp only [List.forall_mem_cons, List.not_mem_nil, false_implies, implies_true, and_true]
      refine ⟨?_, ?_, ?_⟩
      · refine ⟨_, rfl, rfl, op_call henv rfl Tryd.call19 rfl (make_zv (show U32 _ A3 n3 c3 xs3 from hst.pat (k := 6) rfl) hv3 (by omega)) ?_⟩
        rintro e w226 ⟨_, rfl, ⟨A223, c224, rfl, hz225⟩, hb⟩
        refine ⟨_, rfl, ?_⟩
        clear henv a; intro a henv
        replace hst := (hst.call hb).addZ hz225 ⟨nou_bk rfl, nou_bk rfl, nou_bk rfl, nou_bk rfl, nou_bk rfl, nou_bk rfl, nou_bk rfl, trivial⟩
        clear hz225
        clear hb
        refine ⟨.inr ⟨hst.kn.pick (rg 0 7) (rg 1 10), .inr (hst.kn.pick [] [])⟩, ?_⟩
        refine sAny_all (rs := [9, 10, 11]) (by kernel_rfl) (by simp) ?_
        simp only [List.forall_mem_cons, List.not_mem_nil, false_implies, implies_true, and_true]
        refine ⟨?_, ?_, ?_⟩
        · refine ⟨_, rfl, rfl, op_call henv rfl Tryd.call20 rfl (make_rv (show U32 _ A3 n3 c3 xs3 from hst.pat (k := 7) rfl) hv3 (by omega)) ?_⟩
          rintro e w230 ⟨_, rfl, ⟨A227, c228, rfl, hz229⟩, hb⟩
          refine ⟨_, rfl, ?_⟩
          clear henv a; intro a henv
          replace hst := (hst.call hb).addR hz229 ⟨nou_bk rfl, nou_bk rfl, nou_bk rfl, nou_bk rfl, nou_bk rfl, nou_bk rfl, nou_bk rfl, trivial⟩
          clear hz229
          clear hb
          refine ⟨.inr ⟨hst.kn.pick (rg 0 7) (rg 2 10), .inr (hst.kn.pick [] [])⟩, ?_⟩
          refine sAny_all (rs := [10, 11]) (by kernel_rfl) (by simp) ?_
          simp only [List.forall_mem_cons, List.not_mem_nil, false_implies, implies_true, and_true]
          refine ⟨?_, ?_⟩
          · refine ⟨_, rfl, rfl, op_alloc (c := #[.bool (neg 0), .slice none (zl 0) 0]) henv hst rfl zero_anvil_integer_Int zcells ?_⟩
            clear henv hst a; intro a w232 g231 henv hst
            refine ⟨.inr ⟨hst.kn.pick (rg 1 7) (rg 2 10), .inr (hst.kn.pick [] [])⟩, ?_⟩
            refine sAny_one (i := 11) (by kernel_rfl) rfl rfl (op_alloc (c := #[.bool (neg 0), .slice none (dl 0) 0]) henv hst rfl zero_anvil_anvilref02_Int rcells ?_)
            clear henv hst a; intro a w234 g233 henv hst
            refine ⟨.inr ⟨hst.kn.pick (rg 2 7) (rg 2 10), .inr (hst.kn.pick [] [])⟩, ?_⟩
            refine sAny_one (i := 12) (by kernel_rfl) rfl rfl (op_store (k := 1) (c' := #[.bool (neg z3), .slice A223 (zl z3) c224]) henv hst (ty_anvil_integer_Int.size) rfl rfl rfl rfl (by simp) rfl rfl ?_)
            clear henv hst a; intro a w235 henv hst
            refine ⟨.inr ⟨hst.kn.pick (rg 2 7) (rg 2 10), .inl rfl⟩, ?_⟩
            refine sAny_one (i := 13) (by kernel_rfl) rfl rfl (op_store (k := 0) (c' := #[.bool (neg z3), .slice A227 (dl z3) c228]) henv hst (ty_anvil_anvilref02_Int.size) rfl rfl rfl rfl (by simp) rfl rfl ?_)
            clear henv hst a; intro a w236 henv hst
            refine ⟨.inr ⟨hst.kn.pick (rg 2 7) (rg 2 10), .inl rfl⟩, ?_⟩
            refine sAny_done (by kernel_rfl) ?_ _
            exact th_n ⟨A223, c224, A227, c228, g231, g233, henv.sub ⟨rfl, rfl, rfl, rfl, rfl, rfl, rfl, rfl, rfl, rfl, rfl, rfl, rfl, rfl, rfl, rfl, rfl, rfl, rfl, rfl, rfl, rfl, rfl, rfl, rfl, rfl, rfl, rfl, rfl, rfl, rfl, rfl, rfl, trivial⟩, hst.pick [0, 1, 2, 3, 4, 5, 6, 7, 8] [0, 1, 2, 3, 4, 5, 6, 7, 8, 9, 10, 11] (by decide)⟩
          · refine ⟨_, rfl, rfl, op_alloc (c := #[.bool (neg 0), .slice none (dl 0) 0]) henv hst rfl zero_anvil_anvilref02_Int rcells ?_⟩
            clear henv hst a; intro a w238 g237 henv hst
            refine ⟨.inr ⟨hst.kn.pick (rg 1 7) (rg 2 10), .inr (hst.kn.pick [] [])⟩, ?_⟩
            refine sAny_one (i := 10) (by kernel_rfl) rfl rfl (op_alloc (c := #[.bool (neg 0), .slice none (zl 0) 0]) henv hst rfl zero_anvil_integer_Int zcells ?_)
            clear henv hst a; intro a w240 g239 henv hst
            refine ⟨.inr ⟨hst.kn.pick (rg 2 7) (rg 2 10), .inr (hst.kn.pick [] [])⟩, ?_⟩
            refine sAny_one (i := 12) (by kernel_rfl) rfl rfl (op_store (k := 0) (c' := #[.bool (neg z3), .slice A223 (zl z3) c224]) henv hst (ty_anvil_integer_Int.size) rfl rfl rfl rfl (by simp) rfl rfl ?_)
            clear henv hst a; intro a w241 henv hst
            refine ⟨.inr ⟨hst.kn.pick (rg 2 7) (rg 2 10), .inl rfl⟩, ?_⟩
            refine sAny_one (i := 13) (by kernel_rfl) rfl rfl (op_store (k := 1) (c' := #[.bool (neg z3), .slice A227 (dl z3) c228]) henv hst (ty_anvil_anvilref02_Int.size) rfl rfl rfl rfl (by simp) rfl rfl ?_)
            clear henv hst a; intro a w242 henv hst
            refine ⟨.inr ⟨hst.kn.pick (rg 2 7) (rg 2 10), .inl rfl⟩, ?_⟩
            refine sAny_done (by kernel_rfl) ?_ _
            exact th_n ⟨A223, c224, A227, c228, g239, g237, henv.sub ⟨rfl, rfl, rfl, rfl, rfl, rfl, rfl, rfl, rfl, rfl, rfl, rfl, rfl, rfl, rfl, rfl, rfl, rfl, rfl, rfl, rfl, rfl, rfl, rfl, rfl, rfl, rfl, rfl, rfl, rfl, rfl, rfl, rfl, trivial⟩, hst.pick [1, 0, 2, 3, 4, 5, 6, 7, 8] [0, 1, 2, 3, 4, 5, 6, 7, 8, 9, 10, 11] (by decide)⟩
        · refine ⟨_, rfl, rfl, op_alloc (c := #[.bool (neg 0), .slice none (zl 0) 0]) henv hst rfl zero_anvil_integer_Int zcells ?_⟩
          clear henv hst a; intro a w244 g243 henv hst
          refine ⟨.inr ⟨hst.kn.pick (rg 1 7) (rg 1 10), .inr (hst.kn.pick [] [])⟩, ?_⟩
          refine sAny_all (rs := [9, 11]) (by kernel_rfl) (by simp) ?_
          simp only [List.forall_mem_cons, List.not_mem_nil, false_implies, implies_true, and_true]
          refine ⟨?_, ?_⟩
          · refine ⟨_, rfl, rfl, op_call henv rfl Tryd.call20 rfl (make_rv (show U32 _ A3 n3 c3 xs3 from hst.pat (k := 7) rfl) hv3 (by omega)) ?_⟩
            rintro e w248 ⟨_, rfl, ⟨A245, c246, rfl, hz247⟩, hb⟩
            refine ⟨_, rfl, ?_⟩
            clear henv a; intro a henv
            replace hst := (hst.call hb).addR hz247 ⟨nou_bk rfl, nou_bk rfl, nou_bk rfl, nou_bk rfl, nou_bk rfl, nou_bk rfl, nou_bk rfl, nou_bk rfl, trivial⟩
            clear hz247
            clear hb
            refine ⟨.inr ⟨hst.kn.pick (rg 1 7) (rg 2 10), .inr (hst.kn.pick [] [])⟩, ?_⟩
            refine sAny_one (i := 11) (by kernel_rfl) rfl rfl (op_alloc (c := #[.bool (neg 0), .slice none (dl 0) 0]) henv hst rfl zero_anvil_anvilref02_Int rcells ?_)
            clear henv hst a; intro a w250 g249 henv hst
            refine ⟨.inr ⟨hst.kn.pick (rg 2 7) (rg 2 10), .inr (hst.kn.pick [] [])⟩, ?_⟩
            refine sAny_one (i := 12) (by kernel_rfl) rfl rfl (op_store (k := 1) (c' := #[.bool (neg z3), .slice A223 (zl z3) c224]) henv hst (ty_anvil_integer_Int.size) rfl rfl rfl rfl (by simp) rfl rfl ?_)
            clear henv hst a; intro a w251 henv hst
            refine ⟨.inr ⟨hst.kn.pick (rg 2 7) (rg 2 10), .inl rfl⟩, ?_⟩
            refine sAny_one (i := 13) (by kernel_rfl) rfl rfl (op_store (k := 0) (c' := #[.bool (neg z3), .slice A245 (dl z3) c246]) henv hst (ty_anvil_anvilref02_Int.size) rfl rfl rfl rfl (by simp) rfl rfl ?_)
            clear henv hst a; intro a w252 henv hst
            refine ⟨.inr ⟨hst.kn.pick (rg 2 7) (rg 2 10), .inl rfl⟩, ?_⟩
            refine sAny_done (by kernel_rfl) ?_ _
            exact th_n ⟨A223, c224, A245, c246, g243, g249, henv.sub ⟨rfl, rfl, rfl, rfl, rfl, rfl, rfl, rfl, rfl, rfl, rfl, rfl, rfl, rfl, rfl, rfl, rfl, rfl, rfl, rfl, rfl, rfl, rfl, rfl, rfl, rfl, rfl, rfl, rfl, rfl, rfl, rfl, rfl, trivial⟩, hst.pick [0, 1, 2, 3, 4, 5, 6, 7, 8] [0, 1, 2, 3, 4, 5, 6, 7, 8, 9, 10, 11] (by decide)⟩
          · refine ⟨_, rfl, rfl, op_alloc (c := #[.bool (neg 0), .slice none (dl 0) 0]) henv hst rfl zero_anvil_anvilref02_Int rcells ?_⟩
            clear henv hst a; intro a w254 g253 henv hst
            refine ⟨.inr ⟨hst.kn.pick (rg 2 7) (rg 1 10), .inr (hst.kn.pick [] [])⟩, ?_⟩
            refine sAny_one (i := 9) (by kernel_rfl) rfl rfl (op_call henv rfl Tryd.call20 rfl (make_rv (show U32 _ A3 n3 c3 xs3 from hst.pat (k := 7) rfl) hv3 (by omega)) ?_)
            rintro e w258 ⟨_, rfl, ⟨A255, c256, rfl, hz257⟩, hb⟩
            refine ⟨_, rfl, ?_⟩
            clear henv a; intro a henv
            replace hst := (hst.call hb).addR hz257 ⟨nou_bk rfl, nou_bk rfl, nou_bk rfl, nou_bk rfl, nou_bk rfl, nou_bk rfl, nou_bk rfl, nou_bk rfl, nou_bk rfl, trivial⟩
            clear hz257
            clear hb
            refine ⟨.inr ⟨hst.kn.pick (rg 2 7) (rg 2 10), .inr (hst.kn.pick [] [])⟩, ?_⟩
            refine sAny_one (i := 12) (by kernel_rfl) rfl rfl (op_store (k := 1) (c' := #[.bool (neg z3), .slice A223 (zl z3) c224]) henv hst (ty_anvil_integer_Int.size) rfl rfl rfl rfl (by simp) rfl rfl ?_)
            clear henv hst a; intro a w259 henv hst
            refine ⟨.inr ⟨hst.kn.pick (rg 2 7) (rg 2 10), .inl rfl⟩, ?_⟩
            refine sAny_one (i := 13) (by kernel_rfl) rfl rfl (op_store (k := 0) (c' := #[.bool (neg z3), .slice A255 (dl z3) c256]) henv hst (ty_anvil_anvilref02_Int.size) rfl rfl rfl rfl (by simp) rfl rfl ?_)
            clear henv hst a; intro a w260 henv hst
            refine ⟨.inr ⟨hst.kn.pick (rg 2 7) (rg 2 10), .inl rfl⟩, ?_⟩
            refine sAny_done (by kernel_rfl) ?_ _
            exact th_n ⟨A223, c224, A255, c256, g243, g253, henv.sub ⟨rfl, rfl, rfl, rfl, rfl, rfl, rfl, rfl, rfl, rfl, rfl, rfl, rfl, rfl, rfl, rfl, rfl, rfl, rfl, rfl, rfl, rfl, rfl, rfl, rfl, rfl, rfl, rfl, rfl, rfl, rfl, rfl, rfl, trivial⟩, hst.pick [0, 1, 2, 3, 4, 5, 6, 7, 8] [0, 1, 2, 3, 4, 5, 6, 7, 8, 9, 10, 11] (by decide)⟩
        · refine ⟨_, rfl, rfl, op_alloc (c := #[.bool (neg 0), .slice none (dl 0) 0]) henv hst rfl zero_anvil_anvilref02_Int rcells ?_⟩
          clear henv hst a; intro a w262 g261 henv hst
          refine ⟨.inr ⟨hst.kn.pick (rg 1 7) (rg 1 10), .inr (hst.kn.pick [] [])⟩, ?_⟩
          refine sAny_all (rs := [9, 10]) (by kernel_rfl) (by simp) ?_
          simp only [List.forall_mem_cons, List.not_mem_nil, false_implies, implies_true, and_true]
          refine ⟨?_, ?_⟩
          · refine ⟨_, rfl, rfl, op_call henv rfl Tryd.call20 rfl (make_rv (show U32 _ A3 n3 c3 xs3 from hst.pat (k := 7) rfl) hv3 (by omega)) ?_⟩
            rintro e w266 ⟨_, rfl, ⟨A263, c264, rfl, hz265⟩, hb⟩
            refine ⟨_, rfl, ?_⟩
            clear henv a; intro a henv
            replace hst := (hst.call hb).addR hz265 ⟨nou_bk rfl, nou_bk rfl, nou_bk rfl, nou_bk rfl, nou_bk rfl, nou_bk rfl, nou_bk rfl, nou_bk rfl, trivial⟩
            clear hz265
            clear hb
            refine ⟨.inr ⟨hst.kn.pick (rg 1 7) (rg 2 10), .inr (hst.kn.pick [] [])⟩, ?_⟩
            refine sAny_one (i := 10) (by kernel_rfl) rfl rfl (op_alloc (c := #[.bool (neg 0), .slice none (zl 0) 0]) henv hst rfl zero_anvil_integer_Int zcells ?_)
            clear henv hst a; intro a w268 g267 henv hst
            refine ⟨.inr ⟨hst.kn.pick (rg 2 7) (rg 2 10), .inr (hst.kn.pick [] [])⟩, ?_⟩
            refine sAny_one (i := 12) (by kernel_rfl) rfl rfl (op_store (k := 0) (c' := #[.bool (neg z3), .slice A223 (zl z3) c224]) henv hst (ty_anvil_integer_Int.size) rfl rfl rfl rfl (by simp) rfl rfl ?_)
            clear henv hst a; intro a w269 henv hst
            refine ⟨.inr ⟨hst.kn.pick (rg 2 7) (rg 2 10), .inl rfl⟩, ?_⟩
            refine sAny_one (i := 13) (by kernel_rfl) rfl rfl (op_store (k := 1) (c' := #[.bool (neg z3), .slice A263 (dl z3) c264]) henv hst (ty_anvil_anvilref02_Int.size) rfl rfl rfl rfl (by simp) rfl rfl ?_)
            clear henv hst a; intro a w270 henv hst
            refine ⟨.inr ⟨hst.kn.pick (rg 2 7) (rg 2 10), .inl rfl⟩, ?_⟩
            refine sAny_done (by kernel_rfl) ?_ _
            exact th_n ⟨A223, c224, A263, c264, g267, g261, henv.sub ⟨rfl, rfl, rfl, rfl, rfl, rfl, rfl, rfl, rfl, rfl, rfl, rfl, rfl, rfl, rfl, rfl, rfl, rfl, rfl, rfl, rfl, rfl, rfl, rfl, rfl, rfl, rfl, rfl, rfl, rfl, rfl, rfl, rfl, trivial⟩, hst.pick [1, 0, 2, 3, 4, 5, 6, 7, 8] [0, 1, 2, 3, 4, 5, 6, 7, 8, 9, 10, 11] (by decide)⟩
          · refine ⟨_, rfl, rfl, op_alloc (c := #[.bool (neg 0), .slice none (zl 0) 0]) henv hst rfl zero_anvil_integer_Int zcells ?_⟩
            clear henv hst a; intro a w272 g271 henv hst
            refine ⟨.inr ⟨hst.kn.pick (rg 2 7) (rg 1 10), .inr (hst.kn.pick [] [])⟩, ?_⟩
            refine sAny_one (i := 9) (by kernel_rfl) rfl rfl (op_call henv rfl Tryd.call20 rfl (make_rv (show U32 _ A3 n3 c3 xs3 from hst.pat (k := 7) rfl) hv3 (by omega)) ?_)
            rintro e w276 ⟨_, rfl, ⟨A273, c274, rfl, hz275⟩, hb⟩
            refine ⟨_, rfl, ?_⟩
            clear henv a; intro a henv
            replace hst := (hst.call hb).addR hz275 ⟨nou_bk rfl, nou_bk rfl, nou_bk rfl, nou_bk rfl, nou_bk rfl, nou_bk rfl, nou_bk rfl, nou_bk rfl, nou_bk rfl, trivial⟩
            clear hz275
            clear hb
            refine ⟨.inr ⟨hst.kn.pick (rg 2 7) (rg 2 10), .inr (hst.kn.pick [] [])⟩, ?_⟩
            refine sAny_one (i := 12) (by kernel_rfl) rfl rfl (op_store (k := 0) (c' := #[.bool (neg z3), .slice A223 (zl z3) c224]) henv hst (ty_anvil_integer_Int.size) rfl rfl rfl rfl (by simp) rfl rfl ?_)
            clear henv hst a; intro a w277 henv hst
            refine ⟨.inr ⟨hst.kn.pick (rg 2 7) (rg 2 10), .inl rfl⟩, ?_⟩
            refine sAny_one (i := 13) (by kernel_rfl) rfl rfl (op_store (k := 1) (c' := #[.bool (neg z3), .slice A273 (dl z3) c274]) henv hst (ty_anvil_anvilref02_Int.size) rfl rfl rfl rfl (by simp) rfl rfl ?_)
            clear henv hst a; intro a w278 henv hst
            refine ⟨.inr ⟨hst.kn.pick (rg 2 7) (rg 2 10), .inl rfl⟩, ?_⟩
            refine sAny_done (by kernel_rfl) ?_ _
            exact th_n ⟨A223, c224, A273, c274, g271, g261, henv.sub ⟨rfl, rfl, rfl, rfl, rfl, rfl, rfl, rfl, rfl, rfl, rfl, rfl, rfl, rfl, rfl, rfl, rfl, rfl, rfl, rfl, rfl, rfl, rfl, rfl, rfl, rfl, rfl, rfl, rfl, rfl, rfl, rfl, rfl, trivial⟩, hst.pick [1, 0, 2, 3, 4, 5, 6, 7, 8] [0, 1, 2, 3, 4, 5, 6, 7, 8, 9, 10, 11] (by decide)⟩
      · refine ⟨_, rfl, rfl, op_alloc (c := #[.bool (neg 0), .slice none (zl 0) 0]) henv hst rfl zero_anvil_integer_Int zcells ?_⟩
        clear henv hst a; intro a w280 g279 henv hst
        refine ⟨.inr ⟨hst.kn.pick (rg 1 7) (rg 0 10), .inr (hst.kn.pick [] [])⟩, ?_⟩
        refine sAny_all (rs := [4, 11]) (by kernel_rfl) (by simp) ?_
        simp only [List.forall_mem_cons, List.not_mem_nil, false_implies, implies_true, and_true]
        refine ⟨?_, ?_⟩
        · refine ⟨_, rfl, rfl, op_call henv rfl Tryd.call19 rfl (make_zv (show U32 _ A3 n3 c3 xs3 from hst.pat (k := 6) rfl) hv3 (by omega)) ?_⟩
          rintro e w284 ⟨_, rfl, ⟨A281, c282, rfl, hz283⟩, hb⟩
          refine ⟨_, rfl, ?_⟩
          clear henv a; intro a henv
          replace hst := (hst.call hb).addZ hz283 ⟨nou_bk rfl, nou_bk rfl, nou_bk rfl, nou_bk rfl, nou_bk rfl, nou_bk rfl, nou_bk rfl, nou_bk rfl, trivial⟩
          clear hz283
          clear hb
          refine ⟨.inr ⟨hst.kn.pick (rg 1 7) (rg 1 10), .inr (hst.kn.pick [] [])⟩, ?_⟩
          refine sAny_all (rs := [9, 11]) (by kernel_rfl) (by simp) ?_
          simp only [List.forall_mem_cons, List.not_mem_nil, false_implies, implies_true, and_true]
          refine ⟨?_, ?_⟩
          · refine ⟨_, rfl, rfl, op_call henv rfl Tryd.call20 rfl (make_rv (show U32 _ A3 n3 c3 xs3 from hst.pat (k := 7) rfl) hv3 (by omega)) ?_⟩
            rintro e w288 ⟨_, rfl, ⟨A285, c286, rfl, hz287⟩, hb⟩
            refine ⟨_, rfl, ?_⟩
            clear henv a; intro a henv
            replace hst := (hst.call hb).addR hz287 ⟨nou_bk rfl, nou_bk rfl, nou_bk rfl, nou_bk rfl, nou_bk rfl, nou_bk rfl, nou_bk rfl, nou_bk rfl, trivial⟩
            clear hz287
            clear hb
            refine ⟨.inr ⟨hst.kn.pick (rg 1 7) (rg 2 10), .inr (hst.kn.pick [] [])⟩, ?_⟩
            refine sAny_one (i := 11) (by kernel_rfl) rfl rfl (op_alloc (c := #[.bool (neg 0), .slice none (dl 0) 0]) henv hst rfl zero_anvil_anvilref02_Int rcells ?_)
            clear henv hst a; intro a w290 g289 henv hst
            refine ⟨.inr ⟨hst.kn.pick (rg 2 7) (rg 2 10), .inr (hst.kn.pick [] [])⟩, ?_⟩
            refine sAny_one (i := 12) (by kernel_rfl) rfl rfl (op_store (k := 1) (c' := #[.bool (neg z3), .slice A281 (zl z3) c282]) henv hst (ty_anvil_integer_Int.size) rfl rfl rfl rfl (by simp) rfl rfl ?_)
            clear henv hst a; intro a w291 henv hst
            refine ⟨.inr ⟨hst.kn.pick (rg 2 7) (rg 2 10), .inl rfl⟩, ?_⟩
            refine sAny_one (i := 13) (by kernel_rfl) rfl rfl (op_store (k := 0) (c' := #[.bool (neg z3), .slice A285 (dl z3) c286]) henv hst (ty_anvil_anvilref02_Int.size) rfl rfl rfl rfl (by simp) rfl rfl ?_)
            clear henv hst a; intro a w292 henv hst
            refine ⟨.inr ⟨hst.kn.pick (rg 2 7) (rg 2 10), .inl rfl⟩, ?_⟩
            refine sAny_done (by kernel_rfl) ?_ _
            exact th_n ⟨A281, c282, A285, c286, g279, g289, henv.sub ⟨rfl, rfl, rfl, rfl, rfl, rfl, rfl, rfl, rfl, rfl, rfl, rfl, rfl, rfl, rfl, rfl, rfl, rfl, rfl, rfl, rfl, rfl, rfl, rfl, rfl, rfl, rfl, rfl, rfl, rfl, rfl, rfl, rfl, trivial⟩, hst.pick [0, 1, 2, 3, 4, 5, 6, 7, 8] [0, 1, 2, 3, 4, 5, 6, 7, 8, 9, 10, 11] (by decide)⟩
          · refine ⟨_, rfl, rfl, op_alloc (c := #[.bool (neg 0), .slice none (dl 0) 0]) henv hst rfl zero_anvil_anvilref02_Int rcells ?_⟩
            clear henv hst a; intro a w294 g293 henv hst
            refine ⟨.inr ⟨hst.kn.pick (rg 2 7) (rg 1 10), .inr (hst.kn.pick [] [])⟩, ?_⟩
            refine sAny_one (i := 9) (by kernel_rfl) rfl rfl (op_call henv rfl Tryd.call20 rfl (make_rv (show U32 _ A3 n3 c3 xs3 from hst.pat (k := 7) rfl) hv3 (by omega)) ?_)
            rintro e w298 ⟨_, rfl, ⟨A295, c296, rfl, hz297⟩, hb⟩
            refine ⟨_, rfl, ?_⟩
            clear henv a; intro a henv
            replace hst := (hst.call hb).addR hz297 ⟨nou_bk rfl, nou_bk rfl, nou_bk rfl, nou_bk rfl, nou_bk rfl, nou_bk rfl, nou_bk rfl, nou_bk rfl, nou_bk rfl, trivial⟩
            clear hz297
            clear hb
            refine ⟨.inr ⟨hst.kn.pick (rg 2 7) (rg 2 10), .inr (hst.kn.pick [] [])⟩, ?_⟩
            refine sAny_one (i := 12) (by kernel_rfl) rfl rfl (op_store (k := 1) (c' := #[.bool (neg z3), .slice A281 (zl z3) c282]) henv hst (ty_anvil_integer_Int.size) rfl rfl rfl rfl (by simp) rfl rfl ?_)
            clear henv hst a; intro a w299 henv hst
            refine ⟨.inr ⟨hst.kn.pick (rg 2 7) (rg 2 10), .inl rfl⟩, ?_⟩
            refine sAny_one (i := 13) (by kernel_rfl) rfl rfl (op_store (k := 0) (c' := #[.bool (neg z3), .slice A295 (dl z3) c296]) henv hst (ty_anvil_anvilref02_Int.size) rfl rfl rfl rfl (by simp) rfl rfl ?_)
            clear henv hst a; intro a w300 henv hst
            refine ⟨.inr ⟨hst.kn.pick (rg 2 7) (rg 2 10), .inl rfl⟩, ?_⟩
            refine sAny_done (by kernel_rfl) ?_ _
            exact th_n ⟨A281, c282, A295, c296, g279, g293, henv.sub ⟨rfl, rfl, rfl, rfl, rfl, rfl, rfl, rfl, rfl, rfl, rfl, rfl, rfl, rfl, rfl, rfl, rfl, rfl, rfl, rfl, rfl, rfl, rfl, rfl, rfl, rfl, rfl, rfl, rfl, rfl, rfl, rfl, rfl, trivial⟩, hst.pick [0, 1, 2, 3, 4, 5, 6, 7, 8] [0, 1, 2, 3, 4, 5, 6, 7, 8, 9, 10, 11] (by decide)⟩
        · refine ⟨_, rfl, rfl, op_alloc (c := #[.bool (neg 0), .slice none (dl 0) 0]) henv hst rfl zero_anvil_anvilref02_Int rcells ?_⟩
          clear henv hst a; intro a w302 g301 henv hst
          refine ⟨.inr ⟨hst.kn.pick (rg 2 7) (rg 0 10), .inr (hst.kn.pick [] [])⟩, ?_⟩
          refine sAny_one (i := 4) (by kernel_rfl) rfl rfl (op_call henv rfl Tryd.call19 rfl (make_zv (show U32 _ A3 n3 c3 xs3 from hst.pat (k := 6) rfl) hv3 (by omega)) ?_)
          rintro e w306 ⟨_, rfl, ⟨A303, c304, rfl, hz305⟩, hb⟩
          refine ⟨_, rfl, ?_⟩
          clear henv a; intro a henv
          replace hst := (hst.call hb).addZ hz305 ⟨nou_bk rfl, nou_bk rfl, nou_bk rfl, nou_bk rfl, nou_bk rfl, nou_bk rfl, nou_bk rfl, nou_bk rfl, nou_bk rfl, trivial⟩
          clear hz305
          clear hb
          refine ⟨.inr ⟨hst.kn.pick (rg 2 7) (rg 1 10), .inr (hst.kn.pick [] [])⟩, ?_⟩
          refine sAny_one (i := 9) (by kernel_rfl) rfl rfl (op_call henv rfl Tryd.call20 rfl (make_rv (show U32 _ A3 n3 c3 xs3 from hst.pat (k := 7) rfl) hv3 (by omega)) ?_)
          rintro e w310 ⟨_, rfl, ⟨A307, c308, rfl, hz309⟩, hb⟩
          refine ⟨_, rfl, ?_⟩
          clear henv a; intro a henv
          replace hst := (hst.call hb).addR hz309 ⟨nou_bk rfl, nou_bk rfl, nou_bk rfl, nou_bk rfl, nou_bk rfl, nou_bk rfl, nou_bk rfl, nou_bk rfl, nou_bk rfl, trivial⟩
          clear hz309
          clear hb
          refine ⟨.inr ⟨hst.kn.pick (rg 2 7) (rg 2 10), .inr (hst.kn.pick [] [])⟩, ?_⟩
          refine sAny_one (i := 12) (by kernel_rfl) rfl rfl (op_store (k := 1) (c' := #[.bool (neg z3), .slice A303 (zl z3) c304]) henv hst (ty_anvil_integer_Int.size) rfl rfl rfl rfl (by simp) rfl rfl ?_)
          clear henv hst a; intro a w311 henv hst
          refine ⟨.inr ⟨hst.kn.pick (rg 2 7) (rg 2 10), .inl rfl⟩, ?_⟩
          refine sAny_one (i := 13) (by kernel_rfl) rfl rfl (op_store (k := 0) (c' := #[.bool (neg z3), .slice A307 (dl z3) c308]) henv hst (ty_anvil_anvilref02_Int.size) rfl rfl rfl rfl (by simp) rfl rfl ?_)
          clear henv hst a; intro a w312 henv hst
          refine ⟨.inr ⟨hst.kn.pick (rg 2 7) (rg 2 10), .inl rfl⟩, ?_⟩
          refine sAny_done (by kernel_rfl) ?_ _
          exact th_n ⟨A303, c304, A307, c308, g279, g301, henv.sub ⟨rfl, rfl, rfl, rfl, rfl, rfl, rfl, rfl, rfl, rfl, rfl, rfl, rfl, rfl, rfl, rfl, rfl, rfl, rfl, rfl, rfl, rfl, rfl, rfl, rfl, rfl, rfl, rfl, rfl, rfl, rfl, rfl, rfl, trivial⟩, hst.pick [0, 1, 2, 3, 4, 5, 6, 7, 8] [0, 1, 2, 3, 4, 5, 6, 7, 8, 9, 10, 11] (by decide)⟩
      · refine ⟨_, rfl, rfl, op_alloc (c := #[.bool (neg 0), .slice none (dl 0) 0]) henv hst rfl zero_anvil_anvilref02_Int rcells ?_⟩
        clear henv hst a; intro a w314 g313 henv hst
        refine ⟨.inr ⟨hst.kn.pick (rg 1 7) (rg 0 10), .inr (hst.kn.pick [] [])⟩, ?_⟩
        refine sAny_all (rs := [4, 10]) (by kernel_rfl) (by simp) ?_
        simp only [List.forall_mem_cons, List.not_mem_nil, false_implies, implies_true, and_true]
        refine ⟨?_, ?_⟩
        · refine ⟨_, rfl, rfl, op_call henv rfl Tryd.call19 rfl (make_zv (show U32 _ A3 n3 c3 xs3 from hst.pat (k := 6) rfl) hv3 (by omega)) ?_⟩
          rintro e w318 ⟨_, rfl, ⟨A315, c316, rfl, hz317⟩, hb⟩
          refine ⟨_, rfl, ?_⟩
          clear henv a; intro a henv
          replace hst := (hst.call hb).addZ hz317 ⟨nou_bk rfl, nou_bk rfl, nou_bk rfl, nou_bk rfl, nou_bk rfl, nou_bk rfl, nou_bk rfl, nou_bk rfl, trivial⟩
          clear hz317
          clear hb
          refine ⟨.inr ⟨hst.kn.pick (rg 1 7) (rg 1 10), .inr (hst.kn.pick [] [])⟩, ?_⟩
          refine sAny_all (rs := [9, 10]) (by kernel_rfl) (by simp) ?_
          simp only [List.forall_mem_cons, List.not_mem_nil, false_implies, implies_true, and_true]
          refine ⟨?_, ?_⟩
          · refine ⟨_, rfl, rfl, op_call henv rfl Tryd.call20 rfl (make_rv (show U32 _ A3 n3 c3 xs3 from hst.pat (k := 7) rfl) hv3 (by omega)) ?_⟩
            rintro e w322 ⟨_, rfl, ⟨A319, c320, rfl, hz321⟩, hb⟩
            refine ⟨_, rfl, ?_⟩
            clear henv a; intro a henv
            replace hst := (hst.call hb).addR hz321 ⟨nou_bk rfl, nou_bk rfl, nou_bk rfl, nou_bk rfl, nou_bk rfl, nou_bk rfl, nou_bk rfl, nou_bk rfl, trivial⟩
            clear hz321
            clear hb
            refine ⟨.inr ⟨hst.kn.pick (rg 1 7) (rg 2 10), .inr (hst.kn.pick [] [])⟩, ?_⟩
            refine sAny_one (i := 10) (by kernel_rfl) rfl rfl (op_alloc (c := #[.bool (neg 0), .slice none (zl 0) 0]) henv hst rfl zero_anvil_integer_Int zcells ?_)
            clear henv hst a; intro a w324 g323 henv hst
            refine ⟨.inr ⟨hst.kn.pick (rg 2 7) (rg 2 10), .inr (hst.kn.pick [] [])⟩, ?_⟩
            refine sAny_one (i := 12) (by kernel_rfl) rfl rfl (op_store (k := 0) (c' := #[.bool (neg z3), .slice A315 (zl z3) c316]) henv hst (ty_anvil_integer_Int.size) rfl rfl rfl rfl (by simp) rfl rfl ?_)
            clear henv hst a; intro a w325 henv hst
            refine ⟨.inr ⟨hst.kn.pick (rg 2 7) (rg 2 10), .inl rfl⟩, ?_⟩
            refine sAny_one (i := 13) (by kernel_rfl) rfl rfl (op_store (k := 1) (c' := #[.bool (neg z3), .slice A319 (dl z3) c320]) henv hst (ty_anvil_anvilref02_Int.size) rfl rfl rfl rfl (by simp) rfl rfl ?_)
            clear henv hst a; intro a w326 henv hst
            refine ⟨.inr ⟨hst.kn.pick (rg 2 7) (rg 2 10), .inl rfl⟩, ?_⟩
            refine sAny_done (by kernel_rfl) ?_ _
            exact th_n ⟨A315, c316, A319, c320, g323, g313, henv.sub ⟨rfl, rfl, rfl, rfl, rfl, rfl, rfl, rfl, rfl, rfl, rfl, rfl, rfl, rfl, rfl, rfl, rfl, rfl, rfl, rfl, rfl, rfl, rfl, rfl, rfl, rfl, rfl, rfl, rfl, rfl, rfl, rfl, rfl, trivial⟩, hst.pick [1, 0, 2, 3, 4, 5, 6, 7, 8] [0, 1, 2, 3, 4, 5, 6, 7, 8, 9, 10, 11] (by decide)⟩
          · refine ⟨_, rfl, rfl, op_alloc (c := #[.bool (neg 0), .slice none (zl 0) 0]) henv hst rfl zero_anvil_integer_Int zcells ?_⟩
            clear henv hst a; intro a w328 g327 henv hst
            refine ⟨.inr ⟨hst.kn.pick (rg 2 7) (rg 1 10), .inr (hst.kn.pick [] [])⟩, ?_⟩
            refine sAny_one (i := 9) (by kernel_rfl) rfl rfl (op_call henv rfl Tryd.call20 rfl (make_rv (show U32 _ A3 n3 c3 xs3 from hst.pat (k := 7) rfl) hv3 (by omega)) ?_)
            rintro e w332 ⟨_, rfl, ⟨A329, c330, rfl, hz331⟩, hb⟩
            refine ⟨_, rfl, ?_⟩
            clear henv a; intro a henv
            replace hst := (hst.call hb).addR hz331 ⟨nou_bk rfl, nou_bk rfl, nou_bk rfl, nou_bk rfl, nou_bk rfl, nou_bk rfl, nou_bk rfl, nou_bk rfl, nou_bk rfl, trivial⟩
            clear hz331
            clear hb
            refine ⟨.inr ⟨hst.kn.pick (rg 2 7) (rg 2 10), .inr (hst.kn.pick [] [])⟩, ?_⟩
            refine sAny_one (i := 12) (by kernel_rfl) rfl rfl (op_store (k := 0) (c' := #[.bool (neg z3), .slice A315 (zl z3) c316]) henv hst (ty_anvil_integer_Int.size) rfl rfl rfl rfl (by simp) rfl rfl ?_)
            clear henv hst a; intro a w333 henv hst
            refine ⟨.inr ⟨hst.kn.pick (rg 2 7) (rg 2 10), .inl rfl⟩, ?_⟩
            refine sAny_one (i := 13) (by kernel_rfl) rfl rfl (op_store (k := 1) (c' := #[.bool (neg z3), .slice A329 (dl z3) c330]) henv hst (ty_anvil_anvilref02_Int.size) rfl rfl rfl rfl (by simp) rfl rfl ?_)
            clear henv hst a; intro a w334 henv hst
            refine ⟨.inr ⟨hst.kn.pick (rg 2 7) (rg 2 10), .inl rfl⟩, ?_⟩
            refine sAny_done (by kernel_rfl) ?_ _
            exact th_n ⟨A315, c316, A329, c330, g327, g313, henv.sub ⟨rfl, rfl, rfl, rfl, rfl, rfl, rfl, rfl, rfl, rfl, rfl, rfl, rfl, rfl, rfl, rfl, rfl, rfl, rfl, rfl, rfl, rfl, rfl, rfl, rfl, rfl, rfl, rfl, rfl, rfl, rfl, rfl, rfl, trivial⟩, hst.pick [1, 0, 2, 3, 4, 5, 6, 7, 8] [0, 1, 2, 3, 4, 5, 6, 7, 8, 9, 10, 11] (by decide)⟩
        · refine ⟨_, rfl, rfl, op_alloc (c := #[.bool (neg 0), .slice none (zl 0) 0]) henv hst rfl zero_anvil_integer_Int zcells ?_⟩
          clear henv hst a; intro a w336 g335 henv hst
          refine ⟨.inr ⟨hst.kn.pick (rg 2 7) (rg 0 10), .inr (hst.kn.pick [] [])⟩, ?_⟩
          refine sAny_one (i := 4) (by kernel_rfl) rfl rfl (op_call henv rfl Tryd.call19 rfl (make_zv (show U32 _ A3 n3 c3 xs3 from hst.pat (k := 6) rfl) hv3 (by omega)) ?_)
          rintro e w340 ⟨_, rfl, ⟨A337, c338, rfl, hz339⟩, hb⟩
          refine ⟨_, rfl, ?_⟩
          clear henv a; intro a henv
          replace hst := (hst.call hb).addZ hz339 ⟨nou_bk rfl, nou_bk rfl, nou_bk rfl, nou_bk rfl, nou_bk rfl, nou_bk rfl, nou_bk rfl, nou_bk rfl, nou_bk rfl, trivial⟩
          clear hz339
          clear hb
          refine ⟨.inr ⟨hst.kn.pick (rg 2 7) (rg 1 10), .inr (hst.kn.pick [] [])⟩, ?_⟩
          refine sAny_one (i := 9) (by kernel_rfl) rfl rfl (op_call henv rfl Tryd.call20 rfl (make_rv (show U32 _ A3 n3 c3 xs3 from hst.pat (k := 7) rfl) hv3 (by omega)) ?_)
          rintro e w344 ⟨_, rfl, ⟨A341, c342, rfl, hz343⟩, hb⟩
          refine ⟨_, rfl, ?_⟩
          clear henv a; intro a henv
          replace hst := (hst.call hb).addR hz343 ⟨nou_bk rfl, nou_bk rfl, nou_bk rfl, nou_bk rfl, nou_bk rfl, nou_bk rfl, nou_bk rfl, nou_bk rfl, nou_bk rfl, trivial⟩
          clear hz343
          clear hb
          refine ⟨.inr ⟨hst.kn.pick (rg 2 7) (rg 2 10), .inr (hst.kn.pick [] [])⟩, ?_⟩
          refine sAny_one (i := 12) (by kernel_rfl) rfl rfl (op_store (k := 0) (c' := #[.bool (neg z3), .slice A337 (zl z3) c338]) henv hst (ty_anvil_integer_Int.size) rfl rfl rfl rfl (by simp) rfl rfl ?_)
          clear henv hst a; intro a w345 henv hst
          refine ⟨.inr ⟨hst.kn.pick (rg 2 7) (rg 2 10), .inl rfl⟩, ?_⟩
          refine sAny_one (i := 13) (by kernel_rfl) rfl rfl (op_store (k := 1) (c' := #[.bool (neg z3), .slice A341 (dl z3) c342]) henv hst (ty_anvil_anvilref02_Int.size) rfl rfl rfl rfl (by simp) rfl rfl ?_)
          clear henv hst a; intro a w346 henv hst
          refine ⟨.inr ⟨hst.kn.pick (rg 2 7) (rg 2 10), .inl rfl⟩, ?_⟩
          refine sAny_done (by kernel_rfl) ?_ _
          exact th_n ⟨A337, c338, A341, c342, g335, g313, henv.sub ⟨rfl, rfl, rfl, rfl, rfl, rfl, rfl, rfl, rfl, rfl, rfl, rfl, rfl, rfl, rfl, rfl, rfl, rfl, rfl, rfl, rfl, rfl, rfl, rfl, rfl, rfl, rfl, rfl, rfl, rfl, rfl, rfl, rfl, trivial⟩, hst.pick [1, 0, 2, 3, 4, 5, 6, 7, 8] [0, 1, 2, 3, 4, 5, 6, 7, 8, 9, 10, 11] (by decide)⟩
    clear henv hst a
    rintro a w347 ⟨A223, c224, A227, c228, g231, g233, henv, hst⟩
    refine wp_seq ?_
    refine region_seq ?_
    revert a
    refine mA rfl rfl ?_
    refine mA rfl rfl ?_
    intro a henv
    refine seq_step rfl (op_call henv rfl Tryd.call21 rfl (row_add' (hst.pat (k := 7) rfl) hz78 (hst.pat (k := 5) rfl) hz89 ((hkx.mono (by decide))) ((hky.mono (by decide))) (by omega)) ?_)
    rintro e w354 ⟨_, rfl, ⟨A348, c349, es350, rfl, hr, hl351, hz352⟩, hb⟩
    refine ⟨_, rfl, ?_⟩
    clear henv a; intro a henv
    replace hst := hst.freshRow hb hr (ap_N hr.2.1 ⟨nou_rowS, ⟨nou_bk rfl, nou_bk rfl, nou_bk rfl, nou_bk rfl, nou_bk rfl, nou_bk rfl, nou_bk rfl, nou_bk rfl, nou_bk rfl, trivial⟩⟩)
    clear hr
    clear hb
    revert a
    refine mA rfl rfl ?_
    refine sA (v := .slice A348 n0 c349) rfl (fun _ henv => rn_extract henv rfl rfl) ?_
    refine sA (v := .int .i64 0) rfl (fun _ henv => rn_extract henv rfl rfl) ?_
    refine aA rfl rfl ?_
    refine aA rfl rfl ?_
    intro a henv
    refine wpList_nil ?_
    refine th_n ?_
    refine wp_seq ?_
    refine region_seq ?_
    revert a
    refine mA rfl rfl ?_
    refine mA rfl rfl ?_
    intro a henv
    refine seq_step rfl (op_call henv rfl Tryd.call22 rfl (row_sub' (hst.pat (k := 8) rfl) hz78 (hst.pat (k := 6) rfl) hz89 ((hkx.mono (by decide))) ((hky.mono (by decide))) (by omega)) ?_)
    rintro e w361 ⟨_, rfl, ⟨A355, c356, es357, rfl, hr, hl358, hz359⟩, hb⟩
    refine ⟨_, rfl, ?_⟩
    clear henv a; intro a henv
    replace hst := hst.freshRow hb hr (ap_N hr.2.1 ⟨nou_rowS, ⟨nou_rowS, nou_bk rfl, nou_bk rfl, nou_bk rfl, nou_bk rfl, nou_bk rfl, nou_bk rfl, nou_bk rfl, nou_bk rfl, nou_bk rfl, trivial⟩⟩)
    clear hr
    clear hb
    revert a
    refine mA rfl rfl ?_
    refine sA (v := .slice A355 n0 c356) rfl (fun _ henv => rn_extract henv rfl rfl) ?_
    refine sA (v := .int .i64 0) rfl (fun _ henv => rn_extract henv rfl rfl) ?_
    refine aA rfl rfl ?_
    refine aA rfl rfl ?_
    intro a henv
    refine wpList_nil ?_
    refine th_n ?_
    refine wp_seq ?_
    refine region_seq ?_
    revert a
    refine sA (v := .agg #[.bool (neg z2), .slice A97 (zl z2) c98]) rfl (fun _ henv => rn_load0 henv ty_anvil_integer_Int rfl (hst.oat (k := 5) rfl) rfl) ?_
    refine mA rfl rfl ?_
    refine sA (v := .agg #[.bool (neg z3), .slice A223 (zl z3) c224]) rfl (fun _ henv => rn_load0 henv ty_anvil_integer_Int rfl (hst.oat (k := 3) rfl) rfl) ?_
    refine mA rfl rfl ?_
    intro a henv
    refine seq_step rfl (op_call henv rfl Tryd.call23 rfl (row_combine (hst.pat (k := 9) rfl) hz78 (hst.pat (k := 7) rfl) hz89 (show ZIn _ A97 c98 z2 from hst.pat (k := 5) rfl) (show ZIn _ A223 c224 z3 from hst.pat (k := 3) rfl) (by omega) (by omega) ((hkx.mono (by decide))) ((hky.mono (by decide))) (by omega)) ?_)
    rintro e w368 ⟨_, rfl, ⟨A362, c363, es364, rfl, hr, hl365, hz366⟩, hb⟩
    refine ⟨_, rfl, ?_⟩
    clear henv a; intro a henv
    replace hst := hst.freshRow hb hr (ap_N hr.2.1 ⟨nou_rowS, ⟨nou_rowS, nou_rowS, nou_bk rfl, nou_bk rfl, nou_bk rfl, nou_bk rfl, nou_bk rfl, nou_bk rfl, nou_bk rfl, nou_bk rfl, nou_bk rfl, trivial⟩⟩)
    clear hr
    clear hb
    revert a
    refine mA rfl rfl ?_
    refine sA (v := .slice A362 n0 c363) rfl (fun _ henv => rn_extract henv rfl rfl) ?_
    refine sA (v := .int .i64 0) rfl (fun _ henv => rn_extract henv rfl rfl) ?_
    refine aA rfl rfl ?_
    refine aA rfl rfl ?_
    intro a henv
    refine wpList_nil ?_
    refine th_n ?_
    refine wp_seq ?_
    refine region_seq ?_
    revert a
    refine mA rfl rfl ?_
    refine mA rfl rfl ?_
    intro a henv
    refine seq_step rfl (op_call henv rfl Tryd.call24 rfl (row_dot (hst.pat (k := 10) rfl) hz78 (hst.pat (k := 8) rfl) hz89 ((hkx.mono (by decide))) ((hky.mono (by decide))) (by omega)) ?_)
    rintro e w372 ⟨_, rfl, ⟨A369, c370, rfl, hz371⟩, hb⟩
    refine ⟨_, rfl, ?_⟩
    clear henv a; intro a henv
    replace hst := (hst.call hb).addZ hz371 ⟨nou_rowS, nou_rowS, nou_rowS, nou_bk rfl, nou_bk rfl, nou_bk rfl, nou_bk rfl, nou_bk rfl, nou_bk rfl, nou_bk rfl, nou_bk rfl, nou_bk rfl, trivial⟩
    clear hz371
    clear hb
    revert a
    refine mA rfl rfl ?_
    refine sA (v := .agg #[.bool (neg (dotL (es0.map vz) (es1.map vz))), .slice A369 (zl (dotL (es0.map vz) (es1.map vz))) c370]) rfl (fun _ henv => rn_extract henv rfl rfl) ?_
    refine sA (v := .int .i64 0) rfl (fun _ henv => rn_extract henv rfl rfl) ?_
    intro a henv
    refine seq_step rfl (op_alloc (c := #[.bool (neg 0), .slice none (zl 0) 0]) henv hst rfl zero_anvil_integer_Int zcells ?_)
    clear henv hst a; intro a w374 g373 henv hst
    refine seq_step rfl (op_store (k := 0) (c' := #[.bool (neg (dotL (es0.map vz) (es1.map vz))), .slice A369 (zl (dotL (es0.map vz) (es1.map vz))) c370]) henv hst (ty_anvil_integer_Int.size) rfl rfl rfl rfl (by simp) rfl rfl ?_)
    clear henv hst a; intro a w375 henv hst
    refine sv (v := .int .i64 0) henv rfl (rn_assign henv rfl) ?_
    clear henv a; intro a henv
    refine wpList_nil ?_
    refine th_n ?_
    refine wp_seq ?_
    refine region_any (n := 7) (Sk [bk g373 #[.bool (neg (dotL (es0.map vz) (es1.map vz))), .slice A369 (zl (dotL (es0.map vz) (es1.map vz))) c370] 36, rowS notU 36 2 A362 n0 c363 (fl fN es364), rowS notU 36 2 A355 n0 c356 (fl fN es357), rowS notU 36 2 A348 n0 c349 (fl fN es350), bk g233 #[.bool (neg z3), .slice A227 (dl z3) c228] 39, bk g231 #[.bool (neg z3), .slice A223 (zl z3) c224] 36, bk g107 #[.bool (neg z2), .slice A101 (dl z2) c102] 39, bk g105 #[.bool (neg z2), .slice A97 (zl z2) c98] 36, bk g70 #[.slice A0 n0 c0, .slice A1 n0 c1, .slice (some ⟨g68, 0, none⟩) 2 2] 22, bk g68 #[.bool b2, .slice A2 n2 c2, .bool b3, .slice A3 n3 c3] 25, bk g57 #[.bool b3, .slice A3 n3 c3] 25, bk g55 #[.bool b2, .slice A2 n2 c2] 25, bk g51 #[.slice A0 n0 c0, .slice A1 n0 c1, .bool b2, .slice A2 n2 c2, .bool b3, .slice A3 n3 c3] 27] [pfZ A369 c370 (dotL (es0.map vz) (es1.map vz)), pfEs FN es364, pfEs FN es357, pfEs FN es350, pfR A227 c228 z3, pfZ A223 c224 z3, pfR A101 c102 z2, pfZ A97 c98 z2, pfRow fM FM 2 A90 n0 c91 es92, pfRow fN FN 2 A85 n0 c86 es87, pfRow fM FM 2 A79 n0 c80 es81, pfRow fN FN 2 A74 n0 c75 es76, pfU A3 n3 c3 xs3, pfU A2 n2 c2 xs2, pfRow fU FU 2 A1 n0 c1 es1, pfRow fU FU 2 A0 n0 c0 es0] [] []) mixed rfl henv hst ?_
    clear henv hst; intro w376 henv hst
    refine tM (i := 0) [1, 4, 5, 6] rfl (by kernel_rfl) (fun _ _ _ h => h) henv rfl rfl ?_
    clear henv a; intro a henv
    refine tM (i := 2) [4, 5, 6] rfl (by kernel_rfl) (fun _ _ _ h => h) henv rfl rfl ?_
    clear henv a; intro a henv
    refine tL (i := 3) 7 7 [4, 5, 6] rfl (by kernel_rfl) (fun _ _ _ h => h) henv rfl ty_anvil_integer_Int rfl hst rfl rfl rfl ?_
    clear henv a; intro a henv
    refine sAny_one (i := 1) (by kernel_rfl) rfl rfl (op_call henv rfl Tryd.call25 rfl (row_neg (hst.pat (k := 11) rfl) hz78 (by omega)) ?_)
    rintro e w383 ⟨_, rfl, ⟨A377, c378, es379, rfl, hr, hl380, hz381⟩, hb⟩
    refine ⟨_, rfl, ?_⟩
    clear henv a; intro a henv
    replace hst := hst.freshRow hb hr (ap_N hr.2.1 ⟨nou_rowS, ⟨nou_bk rfl, nou_rowS, nou_rowS, nou_rowS, nou_bk rfl, nou_bk rfl, nou_bk rfl, nou_bk rfl, nou_bk rfl, nou_bk rfl, nou_bk rfl, nou_bk rfl, nou_bk rfl, trivial⟩⟩)
    clear hr
    clear hb
    refine ⟨.inr ⟨hst.kn.pick (rg 1 13) (rg 1 16), .inr (hst.kn.pick [] [])⟩, ?_⟩
    refine sAny_one (i := 4) (by kernel_rfl) rfl rfl (op_call henv rfl Tryd.call26 rfl (row_scale (hst.pat (k := 12) rfl) hz78 (show ZIn _ A97 c98 z2 from hst.pat (k := 8) rfl) (by omega) ((hkx.mono (by decide))) (by omega)) ?_)
    rintro e w390 ⟨_, rfl, ⟨A384, c385, es386, rfl, hr, hl387, hz388⟩, hb⟩
    refine ⟨_, rfl, ?_⟩
    clear henv a; intro a henv
    replace hst := hst.freshRow hb hr (ap_N hr.2.1 ⟨nou_rowS, ⟨nou_rowS, nou_bk rfl, nou_rowS, nou_rowS, nou_rowS, nou_bk rfl, nou_bk rfl, nou_bk rfl, nou_bk rfl, nou_bk rfl, nou_bk rfl, nou_bk rfl, nou_bk rfl, nou_bk rfl, trivial⟩⟩)
    clear hr
    clear hb
    refine ⟨.inr ⟨hst.kn.pick (rg 2 13) (rg 2 16), .inr (hst.kn.pick [] [])⟩, ?_⟩
    refine tA (i := 5) [6] (v := .slice A377 n0 c378) rfl (by kernel_rfl) (fun _ _ _ h => h) henv rfl (fun _ => rn_assign henv rfl) ?_
    clear henv a; intro a henv
    refine tA (i := 6) [] (v := .slice A384 n0 c385) rfl (by kernel_rfl) (fun _ _ _ h => h) henv rfl (fun _ => rn_assign henv rfl) ?_
    clear henv a; intro a henv
    refine sAny_done (by kernel_rfl) ?_ _
    refine th_n ?_
    refine wp_seq ?_
    refine wp_seq ?_
    refine region_seq ?_
    revert a
    refine mA rfl rfl ?_
    refine mA rfl rfl ?_
    intro a henv
    refine seq_step rfl (op_call henv rfl Tryd.call29 rfl (of_r (n := (-1 : Int)) (by decide) (by decide)) ?_)
    rintro e w394 ⟨_, rfl, ⟨A391, c392, rfl, hz393⟩, hb⟩
    refine ⟨_, rfl, ?_⟩
    clear henv a; intro a henv
    replace hst := (hst.call hb).addR hz393 ⟨nou_rowS, nou_rowS, nou_bk rfl, nou_rowS, nou_rowS, nou_rowS, nou_bk rfl, nou_bk rfl, nou_bk rfl, nou_bk rfl, nou_bk rfl, nou_bk rfl, nou_bk rfl, nou_bk rfl, nou_bk rfl, trivial⟩
    clear hz393
    clear hb
    refine seq_step rfl (op_call henv rfl Tryd.call28 rfl (ref_scale (m := (-1 : Int)) (hst.pat (k := 13) rfl) hz83 (show RIn _ A391 c392 (-1) from hst.pat (k := 0) rfl) (zl_small (by decide)) ((hkx.mono (by decide))) (by omega)) ?_)
    rintro e w400 ⟨_, rfl, ⟨A395, c396, es397, rfl, hr, hl398, hz399⟩, hb⟩
    refine ⟨_, rfl, ?_⟩
    clear henv a; intro a henv
    replace hst := hst.freshRd hb hr hl398 (ap_M hr.2.1 ⟨nou_rowS, nou_rowS, nou_bk rfl, nou_rowS, nou_rowS, nou_rowS, nou_bk rfl, nou_bk rfl, nou_bk rfl, nou_bk rfl, nou_bk rfl, nou_bk rfl, nou_bk rfl, nou_bk rfl, nou_bk rfl, trivial⟩)
    clear hr
    clear hb
    refine seq_step rfl (op_call henv rfl Tryd.call27 rfl (row_is ⟨rowS_rd (hst.owns (k := 1) rfl), hl380, hst.pat (k := 3) rfl⟩ hz381 (hst.pat (k := 0) rfl) (hz399.trans (map_neg_one _)) ((hkn.mono (by decide)))) ?_)
    rintro e w401 ⟨rfl, hb⟩
    refine ⟨_, rfl, ?_⟩
    clear henv a; intro a henv
    replace hst := hst.call hb
    clear hb
    revert a
    refine sA (v := .bool false) rfl (fun _ henv => rn_un henv rfl rfl) ?_
    refine mA rfl rfl ?_
    refine gA (v := .slice A384 n0 c385) rfl rfl rfl rfl (fun _ henv => rn_move henv rfl) ?_
    refine gA (v := .slice A79 n0 c80) rfl rfl rfl rfl (fun _ henv => rn_move henv rfl) ?_
    refine gA (v := .agg #[.bool (neg z2), .slice A101 (dl z2) c102]) rfl rfl rfl rfl (fun _ henv => rn_load0 henv ty_anvil_anvilref02_Int rfl (hst.oat (k := 8) rfl) rfl) ?_
    intro a henv
    refine seq_g rfl henv rfl rfl (op_call henv rfl Tryd.call28 rfl (ref_scale (m := z2) (hst.pat (k := 14) rfl) hz83 (show RIn _ A101 c102 z2 from hst.pat (k := 10) rfl) (by omega) ((hkx.mono (by decide))) (by omega)) ?_)
    rintro e w407 ⟨_, rfl, ⟨A402, c403, es404, rfl, hr, hl405, hz406⟩, hb⟩
    refine ⟨_, rfl, ?_⟩
    clear henv a; intro a henv
    replace hst := hst.freshRd hb hr hl405 (ap_M hr.2.1 ⟨nou_rowS, nou_rowS, nou_bk rfl, nou_rowS, nou_rowS, nou_rowS, nou_bk rfl, nou_bk rfl, nou_bk rfl, nou_bk rfl, nou_bk rfl, nou_bk rfl, nou_bk rfl, nou_bk rfl, nou_bk rfl, trivial⟩)
    clear hr
    clear hb
    refine seq_g rfl henv rfl rfl (op_call henv rfl Tryd.call27 rfl (row_is ⟨rowS_rd (hst.owns (k := 0) rfl), hl387, hst.pat (k := 3) rfl⟩ hz388 (hst.pat (k := 0) rfl) hz406 ((hkm.mono (by decide)))) ?_)
    rintro e w408 ⟨rfl, hb⟩
    refine ⟨_, rfl, ?_⟩
    clear henv a; intro a henv
    replace hst := hst.call hb
    clear hb
    revert a
    refine gA (v := .bool false) rfl rfl rfl rfl (fun _ henv => rn_un henv rfl rfl) ?_
    refine sA (v := .bool false) rfl (fun _ henv => rn_pick henv rfl rfl) ?_
    refine mA rfl rfl ?_
    refine gA (v := .slice A377 n0 c378) rfl rfl rfl rfl (fun _ henv => rn_move henv rfl) ?_
    refine gA (v := .slice A74 n0 c75) rfl rfl rfl rfl (fun _ henv => rn_move henv rfl) ?_
    refine gA (v := .slice A79 n0 c80) rfl rfl rfl rfl (fun _ henv => rn_move henv rfl) ?_
    intro a henv
    refine seq_g rfl henv rfl rfl (op_call henv rfl Tryd.call30 rfl (row_own (hst.toRest (k := 1) rfl [16, 15]) hz78 hz83 ((hkx.mono (by decide)))) ?_)
    rintro e w409 ⟨rfl, hst2⟩
    refine ⟨_, rfl, ?_⟩
    clear henv a; intro a henv
    replace hst := hst.rest (k := 1) rfl hst2
    clear hst2
    replace hst : St w0 _ [rowS notU 36 2 A384 n0 c385 (fl fN es386), bk g373 #[.bool (neg (dotL (es0.map vz) (es1.map vz))), .slice A369 (zl (dotL (es0.map vz) (es1.map vz))) c370] 36, rowS notU 36 2 A362 n0 c363 (fl fN es364), rowS notU 36 2 A355 n0 c356 (fl fN es357), rowS notU 36 2 A348 n0 c349 (fl fN es350), bk g233 #[.bool (neg z3), .slice A227 (dl z3) c228] 39, bk g231 #[.bool (neg z3), .slice A223 (zl z3) c224] 36, bk g107 #[.bool (neg z2), .slice A101 (dl z2) c102] 39, bk g105 #[.bool (neg z2), .slice A97 (zl z2) c98] 36, bk g70 #[.slice A0 n0 c0, .slice A1 n0 c1, .slice (some ⟨g68, 0, none⟩) 2 2] 22, bk g68 #[.bool b2, .slice A2 n2 c2, .bool b3, .slice A3 n3 c3] 25, bk g57 #[.bool b3, .slice A3 n3 c3] 25, bk g55 #[.bool b2, .slice A2 n2 c2] 25, bk g51 #[.slice A0 n0 c0, .slice A1 n0 c1, .bool b2, .slice A2 n2 c2, .bool b3, .slice A3 n3 c3] 27] [pfRow fM FM 2 A402 n0 c403 es404, pfRow fM FM 2 A395 n0 c396 es397, pfR A391 c392 (-1), pfEs FN es386, pfEs FN es379, pfZ A369 c370 (dotL (es0.map vz) (es1.map vz)), pfEs FN es364, pfEs FN es357, pfEs FN es350, pfR A227 c228 z3, pfZ A223 c224 z3, pfR A101 c102 z2, pfZ A97 c98 z2, pfRow fM FM 2 A90 n0 c91 es92, pfRow fN FN 2 A85 n0 c86 es87, pfRow fM FM 2 A79 n0 c80 es81, pfRow fN FN 2 A74 n0 c75 es76, pfU A3 n3 c3 xs3, pfU A2 n2 c2 xs2, pfRow fU FU 2 A1 n0 c1 es1, pfRow fU FU 2 A0 n0 c0 es0] := hst
    revert a
    refine gA (v := .bool false) rfl rfl rfl rfl (fun _ henv => rn_un henv rfl rfl) ?_
    refine sA (v := .bool false) rfl (fun _ henv => rn_pick henv rfl rfl) ?_
    refine mA rfl rfl ?_
    refine gA (v := .slice A384 n0 c385) rfl rfl rfl rfl (fun _ henv => rn_move henv rfl) ?_
    refine gA (v := .slice A74 n0 c75) rfl rfl rfl rfl (fun _ henv => rn_move henv rfl) ?_
    refine gA (v := .slice A79 n0 c80) rfl rfl rfl rfl (fun _ henv => rn_move henv rfl) ?_
    intro a henv
    refine seq_g rfl henv rfl rfl (op_call henv rfl Tryd.call30 rfl (row_own (hst.toRest (k := 0) rfl [16, 15]) hz78 hz83 ((hkx.mono (by decide)))) ?_)
    rintro e w410 ⟨rfl, hst2⟩
    refine ⟨_, rfl, ?_⟩
    clear henv a; intro a henv
    replace hst := hst.rest (k := 0) rfl hst2
    clear hst2
    replace hst : St w0 _ [bk g373 #[.bool (neg (dotL (es0.map vz) (es1.map vz))), .slice A369 (zl (dotL (es0.map vz) (es1.map vz))) c370] 36, rowS notU 36 2 A362 n0 c363 (fl fN es364), rowS notU 36 2 A355 n0 c356 (fl fN es357), rowS notU 36 2 A348 n0 c349 (fl fN es350), bk g233 #[.bool (neg z3), .slice A227 (dl z3) c228] 39, bk g231 #[.bool (neg z3), .slice A223 (zl z3) c224] 36, bk g107 #[.bool (neg z2), .slice A101 (dl z2) c102] 39, bk g105 #[.bool (neg z2), .slice A97 (zl z2) c98] 36, bk g70 #[.slice A0 n0 c0, .slice A1 n0 c1, .slice (some ⟨g68, 0, none⟩) 2 2] 22, bk g68 #[.bool b2, .slice A2 n2 c2, .bool b3, .slice A3 n3 c3] 25, bk g57 #[.bool b3, .slice A3 n3 c3] 25, bk g55 #[.bool b2, .slice A2 n2 c2] 25, bk g51 #[.slice A0 n0 c0, .slice A1 n0 c1, .bool b2, .slice A2 n2 c2, .bool b3, .slice A3 n3 c3] 27] [pfRow fM FM 2 A402 n0 c403 es404, pfRow fM FM 2 A395 n0 c396 es397, pfR A391 c392 (-1), pfEs FN es386, pfEs FN es379, pfZ A369 c370 (dotL (es0.map vz) (es1.map vz)), pfEs FN es364, pfEs FN es357, pfEs FN es350, pfR A227 c228 z3, pfZ A223 c224 z3, pfR A101 c102 z2, pfZ A97 c98 z2, pfRow fM FM 2 A90 n0 c91 es92, pfRow fN FN 2 A85 n0 c86 es87, pfRow fM FM 2 A79 n0 c80 es81, pfRow fN FN 2 A74 n0 c75 es76, pfU A3 n3 c3 xs3, pfU A2 n2 c2 xs2, pfRow fU FU 2 A1 n0 c1 es1, pfRow fU FU 2 A0 n0 c0 es0] := hst
    revert a
    refine gA (v := .bool false) rfl rfl rfl rfl (fun _ henv => rn_un henv rfl rfl) ?_
    refine sA (v := .bool false) rfl (fun _ henv => rn_pick henv rfl rfl) ?_
    refine mA rfl rfl ?_
    intro a henv
    refine seq_g rfl henv rfl rfl (op_call henv rfl Tryd.call16 rfl (row_live) ?_)
    rintro e w411 ⟨rfl, hb⟩
    refine ⟨_, rfl, ?_⟩
    clear henv a; intro a henv
    replace hst := hst.call hb
    clear hb
    revert a
    refine gA (v := .bool false) rfl rfl rfl rfl (fun _ henv => rn_un henv rfl rfl) ?_
    refine sA (v := .bool false) rfl (fun _ henv => rn_pick henv rfl rfl) ?_
    intro a henv
    refine wpList_nil ?_
    refine th_n ?_
    refine if_f henv rfl (rfl) ?_
    refine wp_skip ?_
    refine th_n ?_
    refine wp_seq ?_
    refine wp_seq ?_
    refine region_seq ?_
    revert a
    refine mA rfl rfl ?_
    refine sA (v := .int .i64 (n0 : Nat)) rfl (fun _ henv => rn_len henv Tryd.underlying22 rfl) ?_
    refine mA rfl rfl ?_
    refine sA (v := .int .i64 (n0 : Nat)) rfl (fun _ henv => rn_len henv Tryd.underlying22 rfl) ?_
    refine sA (v := .bool (((n0 : Nat) : Int) != ((n0 : Nat) : Int))) rfl (fun _ henv => rn_bin henv rfl rfl rfl) ?_
    intro a henv
    rw [show (((n0 : Nat) : Int) != ((n0 : Nat) : Int)) = false from (bne_self_eq_false _)] at henv
    refine wpList_nil ?_
    refine th_n ?_
    refine if_f henv rfl (rfl) ?_
    refine wp_skip ?_
    refine th_n ?_
    refine wp_seq ?_
    refine wp_seq ?_
    refine region_any (n := 48) (Sk [bk g373 #[.bool (neg (dotL (es0.map vz) (es1.map vz))), .slice A369 (zl (dotL (es0.map vz) (es1.map vz))) c370] 36, rowS notU 36 2 A362 n0 c363 (fl fN es364), rowS notU 36 2 A355 n0 c356 (fl fN es357), rowS notU 36 2 A348 n0 c349 (fl fN es350), bk g233 #[.bool (neg z3), .slice A227 (dl z3) c228] 39, bk g231 #[.bool (neg z3), .slice A223 (zl z3) c224] 36, bk g107 #[.bool (neg z2), .slice A101 (dl z2) c102] 39, bk g105 #[.bool (neg z2), .slice A97 (zl z2) c98] 36, bk g70 #[.slice A0 n0 c0, .slice A1 n0 c1, .slice (some ⟨g68, 0, none⟩) 2 2] 22, bk g68 #[.bool b2, .slice A2 n2 c2, .bool b3, .slice A3 n3 c3] 25, bk g57 #[.bool b3, .slice A3 n3 c3] 25, bk g55 #[.bool b2, .slice A2 n2 c2] 25, bk g51 #[.slice A0 n0 c0, .slice A1 n0 c1, .bool b2, .slice A2 n2 c2, .bool b3, .slice A3 n3 c3] 27] [pfRow fM FM 2 A402 n0 c403 es404, pfRow fM FM 2 A395 n0 c396 es397, pfR A391 c392 (-1), pfEs FN es386, pfEs FN es379, pfZ A369 c370 (dotL (es0.map vz) (es1.map vz)), pfEs FN es364, pfEs FN es357, pfEs FN es350, pfR A227 c228 z3, pfZ A223 c224 z3, pfR A101 c102 z2, pfZ A97 c98 z2, pfRow fM FM 2 A90 n0 c91 es92, pfRow fN FN 2 A85 n0 c86 es87, pfRow fM FM 2 A79 n0 c80 es81, pfRow fN FN 2 A74 n0 c75 es76, pfU A3 n3 c3 xs3, pfU A2 n2 c2 xs2, pfRow fU FU 2 A1 n0 c1 es1, pfRow fU FU 2 A0 n0 c0 es0] [] []) mixed rfl henv hst ?_
    clear henv hst; intro w412 henv hst
    refine tM (i := 0) (rg 1 47) rfl (by kernel_rfl) (fun _ _ _ h => h) henv rfl rfl ?_
    clear henv a; intro a henv
    refine tA (i := 1) (rg 2 46) (v := .bool false) rfl (by kernel_rfl) (fun _ _ _ h => h) henv rfl (fun _ => rn_bin henv rfl rfl rfl) ?_
    clear henv a; intro a henv
    refine tM (i := 2) (rg 3 45) rfl (by kernel_rfl) (fun _ _ _ h => h) henv rfl rfl ?_
    clear henv a; intro a henv
    refine tAg (i := 3) (rg 4 44) (v := .int .i64 0) rfl (by kernel_rfl) (fun _ _ _ h => h) henv rfl rfl rfl rfl (fun _ => rn_move henv rfl) ?_
    clear henv a; intro a henv
    refine tAg (i := 4) (rg 5 43) (v := .bool false) rfl (by kernel_rfl) (fun _ _ _ h => h) henv rfl rfl rfl rfl (fun _ => rn_bin henv rfl rfl rfl) ?_
    clear henv a; intro a henv
    refine tA (i := 5) (rg 6 42) (v := .bool false) rfl (by kernel_rfl) (fun _ _ _ h => h) henv rfl (fun _ => rn_pick henv rfl rfl) ?_
    clear henv a; intro a henv
    refine tM (i := 6) (rg 7 41) rfl (by kernel_rfl) (fun _ _ _ h => h) henv rfl rfl ?_
    clear henv a; intro a henv
    refine tAg (i := 7) (rg 8 40) (v := .int .i64 0) rfl (by kernel_rfl) (fun _ _ _ h => h) henv rfl rfl rfl rfl (fun _ => rn_move henv rfl) ?_
    clear henv a; intro a henv
    refine tAg (i := 8) (rg 9 39) (v := .bool false) rfl (by kernel_rfl) (fun _ _ _ h => h) henv rfl rfl rfl rfl (fun _ => rn_bin henv rfl rfl rfl) ?_
    clear henv a; intro a henv
    refine tA (i := 9) (rg 10 38) (v := .bool false) rfl (by kernel_rfl) (fun _ _ _ h => h) henv rfl (fun _ => rn_pick henv rfl rfl) ?_
    clear henv a; intro a henv
    refine tM (i := 10) (rg 11 37) rfl (by kernel_rfl) (fun _ _ _ h => h) henv rfl rfl ?_
    clear henv a; intro a henv
    refine tAg (i := 11) (rg 12 36) (v := .int .i64 0) rfl (by kernel_rfl) (fun _ _ _ h => h) henv rfl rfl rfl rfl (fun _ => rn_move henv rfl) ?_
    clear henv a; intro a henv
    refine tAg (i := 12) (rg 13 35) (v := .bool false) rfl (by kernel_rfl) (fun _ _ _ h => h) henv rfl rfl rfl rfl (fun _ => rn_bin henv rfl rfl rfl) ?_
    clear henv a; intro a henv
    refine tA (i := 13) (rg 14 34) (v := .bool false) rfl (by kernel_rfl) (fun _ _ _ h => h) henv rfl (fun _ => rn_pick henv rfl rfl) ?_
    clear henv a; intro a henv
    refine tM (i := 14) (rg 15 33) rfl (by kernel_rfl) (fun _ _ _ h => h) henv rfl rfl ?_
    clear henv a; intro a henv
    refine tAg (i := 15) (rg 19 29) (v := .slice A348 n0 c349) rfl (by kernel_rfl) (fun _ _ _ h => h) henv rfl rfl rfl rfl (fun _ => rn_move henv rfl) ?_
    clear henv a; intro a henv
    refine tAg (i := 16) (rg 18 30) (v := .slice A79 n0 c80) rfl (by kernel_rfl) (fun _ _ _ h => h) henv rfl rfl rfl rfl (fun _ => rn_move henv rfl) ?_
    clear henv a; intro a henv
    refine tAg (i := 17) (rg 18 30) (v := .slice A90 n0 c91) rfl (by kernel_rfl) (fun _ _ _ h => h) henv rfl rfl rfl rfl (fun _ => rn_move henv rfl) ?_
    clear henv a; intro a henv
    refine sAny_oneg (i := 18) (by kernel_rfl) rfl rfl henv rfl rfl rfl (op_call henv rfl Tryd.call32 rfl (ref_add (hst.pat (k := 15) rfl) hz83 (hst.pat (k := 13) rfl) hz94 ((hkx.mono (by decide))) ((hky.mono (by decide))) (by omega)) ?_)
    rintro e w418 ⟨_, rfl, ⟨A413, c414, es415, rfl, hr, hl416, hz417⟩, hb⟩
    refine ⟨_, rfl, ?_⟩
    clear henv a; intro a henv
    replace hst := hst.freshRd hb hr hl416 (ap_M hr.2.1 ⟨nou_bk rfl, nou_rowS, nou_rowS, nou_rowS, nou_bk rfl, nou_bk rfl, nou_bk rfl, nou_bk rfl, nou_bk rfl, nou_bk rfl, nou_bk rfl, nou_bk rfl, nou_bk rfl, trivial⟩)
    clear hr
    clear hb
    refine ⟨.inr ⟨hst.kn.pick (rg 0 13) (rg 1 21), .inr (hst.kn.pick [] [])⟩, ?_⟩
    refine sAny_oneg (i := 19) (by kernel_rfl) rfl rfl henv rfl rfl rfl (op_call henv rfl Tryd.call27 rfl (row_is ⟨rowS_rd (hst.owns (k := 3) rfl), hl351, hst.pat (k := 9) rfl⟩ hz352 (hst.pat (k := 0) rfl) hz417 ((hka.mono (by decide)))) ?_)
    rintro e w419 ⟨rfl, hb⟩
    refine ⟨_, rfl, ?_⟩
    clear henv a; intro a henv
    replace hst := hst.call hb
    clear hb
    refine ⟨.inr ⟨hst.kn.pick (rg 0 13) (rg 1 21), .inr (hst.kn.pick [] [])⟩, ?_⟩
    refine tAg (i := 20) (rg 21 27) (v := .bool false) rfl (by kernel_rfl) (fun _ _ _ h => h) henv rfl rfl rfl rfl (fun _ => rn_un henv rfl rfl) ?_
    clear henv a; intro a henv
    refine tA (i := 21) (rg 22 26) (v := .bool false) rfl (by kernel_rfl) (fun _ _ _ h => h) henv rfl (fun _ => rn_pick henv rfl rfl) ?_
    clear henv a; intro a henv
    refine tM (i := 22) (rg 23 25) rfl (by kernel_rfl) (fun _ _ _ h => h) henv rfl rfl ?_
    clear henv a; intro a henv
    refine tAg (i := 23) (rg 27 21) (v := .slice A355 n0 c356) rfl (by kernel_rfl) (fun _ _ _ h => h) henv rfl rfl rfl rfl (fun _ => rn_move henv rfl) ?_
    clear henv a; intro a henv
    refine tAg (i := 24) (rg 26 22) (v := .slice A79 n0 c80) rfl (by kernel_rfl) (fun _ _ _ h => h) henv rfl rfl rfl rfl (fun _ => rn_move henv rfl) ?_
    clear henv a; intro a henv
    refine tAg (i := 25) (rg 26 22) (v := .slice A90 n0 c91) rfl (by kernel_rfl) (fun _ _ _ h => h) henv rfl rfl rfl rfl (fun _ => rn_move henv rfl) ?_
    clear henv a; intro a henv
    refine sAny_oneg (i := 26) (by kernel_rfl) rfl rfl henv rfl rfl rfl (op_call henv rfl Tryd.call33 rfl (ref_sub (hst.pat (k := 16) rfl) hz83 (hst.pat (k := 14) rfl) hz94 ((hkx.mono (by decide))) ((hky.mono (by decide))) (by omega)) ?_)
    rintro e w425 ⟨_, rfl, ⟨A420, c421, es422, rfl, hr, hl423, hz424⟩, hb⟩
    refine ⟨_, rfl, ?_⟩
    clear henv a; intro a henv
    replace hst := hst.freshRd hb hr hl423 (ap_M hr.2.1 ⟨nou_bk rfl, nou_rowS, nou_rowS, nou_rowS, nou_bk rfl, nou_bk rfl, nou_bk rfl, nou_bk rfl, nou_bk rfl, nou_bk rfl, nou_bk rfl, nou_bk rfl, nou_bk rfl, trivial⟩)
    clear hr
    clear hb
    refine ⟨.inr ⟨hst.kn.pick (rg 0 13) (rg 2 21), .inr (hst.kn.pick [] [])⟩, ?_⟩
    refine sAny_oneg (i := 27) (by kernel_rfl) rfl rfl henv rfl rfl rfl (op_call henv rfl Tryd.call27 rfl (row_is ⟨rowS_rd (hst.owns (k := 2) rfl), hl358, hst.pat (k := 9) rfl⟩ hz359 (hst.pat (k := 0) rfl) hz424 ((hks.mono (by decide)))) ?_)
    rintro e w426 ⟨rfl, hb⟩
    refine ⟨_, rfl, ?_⟩
    clear henv a; intro a henv
    replace hst := hst.call hb
    clear hb
    refine ⟨.inr ⟨hst.kn.pick (rg 0 13) (rg 2 21), .inr (hst.kn.pick [] [])⟩, ?_⟩
    refine tAg (i := 28) (rg 29 19) (v := .bool false) rfl (by kernel_rfl) (fun _ _ _ h => h) henv rfl rfl rfl rfl (fun _ => rn_un henv rfl rfl) ?_
    clear henv a; intro a henv
    refine tA (i := 29) (rg 30 18) (v := .bool false) rfl (by kernel_rfl) (fun _ _ _ h => h) henv rfl (fun _ => rn_pick henv rfl rfl) ?_
    clear henv a; intro a henv
    refine tM (i := 30) (rg 31 17) rfl (by kernel_rfl) (fun _ _ _ h => h) henv rfl rfl ?_
    clear henv a; intro a henv
    refine tAg (i := 31) (rg 37 11) (v := .slice A362 n0 c363) rfl (by kernel_rfl) (fun _ _ _ h => h) henv rfl rfl rfl rfl (fun _ => rn_move henv rfl) ?_
    clear henv a; intro a henv
    refine tLg (i := 32) 6 6 (rg 36 12) rfl (by kernel_rfl) (fun _ _ _ h => h) henv rfl rfl rfl rfl ty_anvil_anvilref02_Int rfl hst rfl rfl rfl ?_
    clear henv a; intro a henv
    refine tAg (i := 33) (rg 36 12) (v := .slice A79 n0 c80) rfl (by kernel_rfl) (fun _ _ _ h => h) henv rfl rfl rfl rfl (fun _ => rn_move henv rfl) ?_
    clear henv a; intro a henv
    refine tLg (i := 34) 4 4 (rg 36 12) rfl (by kernel_rfl) (fun _ _ _ h => h) henv rfl rfl rfl rfl ty_anvil_anvilref02_Int rfl hst rfl rfl rfl ?_
    clear henv a; intro a henv
    refine tAg (i := 35) (rg 36 12) (v := .slice A90 n0 c91) rfl (by kernel_rfl) (fun _ _ _ h => h) henv rfl rfl rfl rfl (fun _ => rn_move henv rfl) ?_
    clear henv a; intro a henv
    refine sAny_oneg (i := 36) (by kernel_rfl) rfl rfl henv rfl rfl rfl (op_call henv rfl Tryd.call34 rfl (ref_combine (hst.pat (k := 17) rfl) hz83 (hst.pat (k := 15) rfl) hz94 (show RIn _ A101 c102 z2 from hst.pat (k := 13) rfl) (show RIn _ A227 c228 z3 from hst.pat (k := 11) rfl) (by omega) (by omega) ((hkx.mono (by decide))) ((hky.mono (by decide))) (by omega)) ?_)
    rintro e w432 ⟨_, rfl, ⟨A427, c428, es429, rfl, hr, hl430, hz431⟩, hb⟩
    refine ⟨_, rfl, ?_⟩
    clear henv a; intro a henv
    replace hst := hst.freshRd hb hr hl430 (ap_M hr.2.1 ⟨nou_bk rfl, nou_rowS, nou_rowS, nou_rowS, nou_bk rfl, nou_bk rfl, nou_bk rfl, nou_bk rfl, nou_bk rfl, nou_bk rfl, nou_bk rfl, nou_bk rfl, nou_bk rfl, trivial⟩)
    clear hr
    clear hb
    refine ⟨.inr ⟨hst.kn.pick (rg 0 13) (rg 3 21), .inr (hst.kn.pick [] [])⟩, ?_⟩
    refine sAny_oneg (i := 37) (by kernel_rfl) rfl rfl henv rfl rfl rfl (op_call henv rfl Tryd.call27 rfl (row_is ⟨rowS_rd (hst.owns (k := 1) rfl), hl365, hst.pat (k := 9) rfl⟩ hz366 (hst.pat (k := 0) rfl) hz431 ((hkc.mono (by decide)))) ?_)
    rintro e w433 ⟨rfl, hb⟩
    refine ⟨_, rfl, ?_⟩
    clear henv a; intro a henv
    replace hst := hst.call hb
    clear hb
    refine ⟨.inr ⟨hst.kn.pick (rg 0 13) (rg 3 21), .inr (hst.kn.pick [] [])⟩, ?_⟩
    refine tAg (i := 38) (rg 39 9) (v := .bool false) rfl (by kernel_rfl) (fun _ _ _ h => h) henv rfl rfl rfl rfl (fun _ => rn_un henv rfl rfl) ?_
    clear henv a; intro a henv
    refine tA (i := 39) (rg 40 8) (v := .bool false) rfl (by kernel_rfl) (fun _ _ _ h => h) henv rfl (fun _ => rn_pick henv rfl rfl) ?_
    clear henv a; intro a henv
    refine tM (i := 40) (rg 41 7) rfl (by kernel_rfl) (fun _ _ _ h => h) henv rfl rfl ?_
    clear henv a; intro a henv
    refine tLg (i := 41) 0 0 [45, 46, 47] rfl (by kernel_rfl) (fun _ _ _ h => h) henv rfl rfl rfl rfl ty_anvil_integer_Int rfl hst rfl rfl rfl ?_
    clear henv a; intro a henv
    refine tAg (i := 42) (rg 44 4) (v := .slice A79 n0 c80) rfl (by kernel_rfl) (fun _ _ _ h => h) henv rfl rfl rfl rfl (fun _ => rn_move henv rfl) ?_
    clear henv a; intro a henv
    refine tAg (i := 43) (rg 44 4) (v := .slice A90 n0 c91) rfl (by kernel_rfl) (fun _ _ _ h => h) henv rfl rfl rfl rfl (fun _ => rn_move henv rfl) ?_
    clear henv a; intro a henv
    refine sAny_oneg (i := 44) (by kernel_rfl) rfl rfl henv rfl rfl rfl (op_call henv rfl Tryd.call36 rfl (ref_dot (hst.pat (k := 18) rfl) hz83 (hst.pat (k := 16) rfl) hz94 ((hkx.mono (by decide))) ((hky.mono (by decide))) (by omega)) ?_)
    rintro e w437 ⟨_, rfl, ⟨A434, c435, rfl, hz436⟩, hb⟩
    refine ⟨_, rfl, ?_⟩
    clear henv a; intro a henv
    replace hst := (hst.call hb).addR hz436 ⟨nou_bk rfl, nou_rowS, nou_rowS, nou_rowS, nou_bk rfl, nou_bk rfl, nou_bk rfl, nou_bk rfl, nou_bk rfl, nou_bk rfl, nou_bk rfl, nou_bk rfl, nou_bk rfl, trivial⟩
    clear hz436
    clear hb
    refine ⟨.inr ⟨hst.kn.pick (rg 0 13) (rg 4 21), .inr (hst.kn.pick [] [])⟩, ?_⟩
    refine sAny_oneg (i := 45) (by kernel_rfl) rfl rfl henv rfl rfl rfl (op_call henv rfl Tryd.call35 rfl (num_one (z := (dotL (es0.map vz) (es1.map vz))) (show ZIn _ A369 c370 (dotL (es0.map vz) (es1.map vz)) from hst.pat (k := 9) rfl) (show RIn _ A434 c435 (dotL (es0.map vz) (es1.map vz)) from hst.pat (k := 0) rfl) hdz) ?_)
    rintro e w438 ⟨rfl, hb⟩
    refine ⟨_, rfl, ?_⟩
    clear henv a; intro a henv
    replace hst := hst.call hb
    clear hb
    refine ⟨.inr ⟨hst.kn.pick (rg 0 13) (rg 4 21), .inr (hst.kn.pick [] [])⟩, ?_⟩
    refine tAg (i := 46) [47] (v := .bool false) rfl (by kernel_rfl) (fun _ _ _ h => h) henv rfl rfl rfl rfl (fun _ => rn_un henv rfl rfl) ?_
    clear henv a; intro a henv
    refine tA (i := 47) [] (v := .bool false) rfl (by kernel_rfl) (fun _ _ _ h => h) henv rfl (fun _ => rn_pick henv rfl rfl) ?_
    clear henv a; intro a henv
    refine sAny_done (by kernel_rfl) ?_ _
    refine th_n ?_
    refine if_f henv rfl (rfl) ?_
    refine wp_skip ?_
    refine th_n ?_
    refine wp_seq ?_
    refine region_seq ?_
    revert a
    refine mA rfl rfl ?_
    refine mA rfl rfl ?_
    refine mA rfl rfl ?_
    intro a henv
    refine seq_step rfl (op_call henv rfl Tryd.call30 rfl (row_own (hst.toRest (k := 3) rfl [20, 19]) hz78 hz83 ((hkx.mono (by decide)))) ?_)
    rintro e w439 ⟨rfl, hst2⟩
    refine ⟨_, rfl, ?_⟩
    clear henv a; intro a henv
    replace hst := hst.rest (k := 3) rfl hst2
    clear hst2
    replace hst : St w0 _ [bk g373 #[.bool (neg (dotL (es0.map vz) (es1.map vz))), .slice A369 (zl (dotL (es0.map vz) (es1.map vz))) c370] 36, rowS notU 36 2 A362 n0 c363 (fl fN es364), rowS notU 36 2 A355 n0 c356 (fl fN es357), bk g233 #[.bool (neg z3), .slice A227 (dl z3) c228] 39, bk g231 #[.bool (neg z3), .slice A223 (zl z3) c224] 36, bk g107 #[.bool (neg z2), .slice A101 (dl z2) c102] 39, bk g105 #[.bool (neg z2), .slice A97 (zl z2) c98] 36, bk g70 #[.slice A0 n0 c0, .slice A1 n0 c1, .slice (some ⟨g68, 0, none⟩) 2 2] 22, bk g68 #[.bool b2, .slice A2 n2 c2, .bool b3, .slice A3 n3 c3] 25, bk g57 #[.bool b3, .slice A3 n3 c3] 25, bk g55 #[.bool b2, .slice A2 n2 c2] 25, bk g51 #[.slice A0 n0 c0, .slice A1 n0 c1, .bool b2, .slice A2 n2 c2, .bool b3, .slice A3 n3 c3] 27] [pfR A434 c435 (dotL (es0.map vz) (es1.map vz)), pfRow fM FM 2 A427 n0 c428 es429, pfRow fM FM 2 A420 n0 c421 es422, pfRow fM FM 2 A413 n0 c414 es415, pfRow fM FM 2 A402 n0 c403 es404, pfRow fM FM 2 A395 n0 c396 es397, pfR A391 c392 (-1), pfEs FN es386, pfEs FN es379, pfZ A369 c370 (dotL (es0.map vz) (es1.map vz)), pfEs FN es364, pfEs FN es357, pfEs FN es350, pfR A227 c228 z3, pfZ A223 c224 z3, pfR A101 c102 z2, pfZ A97 c98 z2, pfRow fM FM 2 A90 n0 c91 es92, pfRow fN FN 2 A85 n0 c86 es87, pfRow fM FM 2 A79 n0 c80 es81, pfRow fN FN 2 A74 n0 c75 es76, pfU A3 n3 c3 xs3, pfU A2 n2 c2 xs2, pfRow fU FU 2 A1 n0 c1 es1, pfRow fU FU 2 A0 n0 c0 es0] := hst
    revert a
    refine mA rfl rfl ?_
    refine gA (v := .slice A355 n0 c356) rfl rfl rfl rfl (fun _ henv => rn_move henv rfl) ?_
    refine gA (v := .slice A85 n0 c86) rfl rfl rfl rfl (fun _ henv => rn_move henv rfl) ?_
    refine gA (v := .slice A90 n0 c91) rfl rfl rfl rfl (fun _ henv => rn_move henv rfl) ?_
    intro a henv
    refine seq_g rfl henv rfl rfl (op_call henv rfl Tryd.call30 rfl (row_own (hst.toRest (k := 2) rfl [18, 17]) hz89 hz94 ((hky.mono (by decide)))) ?_)
    rintro e w440 ⟨rfl, hst2⟩
    refine ⟨_, rfl, ?_⟩
    clear henv a; intro a henv
    replace hst := hst.rest (k := 2) rfl hst2
    clear hst2
    replace hst : St w0 _ [bk g373 #[.bool (neg (dotL (es0.map vz) (es1.map vz))), .slice A369 (zl (dotL (es0.map vz) (es1.map vz))) c370] 36, rowS notU 36 2 A362 n0 c363 (fl fN es364), bk g233 #[.bool (neg z3), .slice A227 (dl z3) c228] 39, bk g231 #[.bool (neg z3), .slice A223 (zl z3) c224] 36, bk g107 #[.bool (neg z2), .slice A101 (dl z2) c102] 39, bk g105 #[.bool (neg z2), .slice A97 (zl z2) c98] 36, bk g70 #[.slice A0 n0 c0, .slice A1 n0 c1, .slice (some ⟨g68, 0, none⟩) 2 2] 22, bk g68 #[.bool b2, .slice A2 n2 c2, .bool b3, .slice A3 n3 c3] 25, bk g57 #[.bool b3, .slice A3 n3 c3] 25, bk g55 #[.bool b2, .slice A2 n2 c2] 25, bk g51 #[.slice A0 n0 c0, .slice A1 n0 c1, .bool b2, .slice A2 n2 c2, .bool b3, .slice A3 n3 c3] 27] [pfR A434 c435 (dotL (es0.map vz) (es1.map vz)), pfRow fM FM 2 A427 n0 c428 es429, pfRow fM FM 2 A420 n0 c421 es422, pfRow fM FM 2 A413 n0 c414 es415, pfRow fM FM 2 A402 n0 c403 es404, pfRow fM FM 2 A395 n0 c396 es397, pfR A391 c392 (-1), pfEs FN es386, pfEs FN es379, pfZ A369 c370 (dotL (es0.map vz) (es1.map vz)), pfEs FN es364, pfEs FN es357, pfEs FN es350, pfR A227 c228 z3, pfZ A223 c224 z3, pfR A101 c102 z2, pfZ A97 c98 z2, pfRow fM FM 2 A90 n0 c91 es92, pfRow fN FN 2 A85 n0 c86 es87, pfRow fM FM 2 A79 n0 c80 es81, pfRow fN FN 2 A74 n0 c75 es76, pfU A3 n3 c3 xs3, pfU A2 n2 c2 xs2, pfRow fU FU 2 A1 n0 c1 es1, pfRow fU FU 2 A0 n0 c0 es0] := hst
    revert a
    refine sA (v := .bool true) rfl (fun _ henv => rn_pick henv rfl rfl) ?_
    refine mA rfl rfl ?_
    refine gA (v := .slice A362 n0 c363) rfl rfl rfl rfl (fun _ henv => rn_move henv rfl) ?_
    refine gA (v := .slice A74 n0 c75) rfl rfl rfl rfl (fun _ henv => rn_move henv rfl) ?_
    refine gA (v := .slice A79 n0 c80) rfl rfl rfl rfl (fun _ henv => rn_move henv rfl) ?_
    intro a henv
    refine seq_g rfl henv rfl rfl (op_call henv rfl Tryd.call30 rfl (row_own (hst.toRest (k := 1) rfl [20, 19]) hz78 hz83 ((hkx.mono (by decide)))) ?_)
    rintro e w441 ⟨rfl, hst2⟩
    refine ⟨_, rfl, ?_⟩
    clear henv a; intro a henv
    replace hst := hst.rest (k := 1) rfl hst2
    clear hst2
    replace hst : St w0 _ [bk g373 #[.bool (neg (dotL (es0.map vz) (es1.map vz))), .slice A369 (zl (dotL (es0.map vz) (es1.map vz))) c370] 36, bk g233 #[.bool (neg z3), .slice A227 (dl z3) c228] 39, bk g231 #[.bool (neg z3), .slice A223 (zl z3) c224] 36, bk g107 #[.bool (neg z2), .slice A101 (dl z2) c102] 39, bk g105 #[.bool (neg z2), .slice A97 (zl z2) c98] 36, bk g70 #[.slice A0 n0 c0, .slice A1 n0 c1, .slice (some ⟨g68, 0, none⟩) 2 2] 22, bk g68 #[.bool b2, .slice A2 n2 c2, .bool b3, .slice A3 n3 c3] 25, bk g57 #[.bool b3, .slice A3 n3 c3] 25, bk g55 #[.bool b2, .slice A2 n2 c2] 25, bk g51 #[.slice A0 n0 c0, .slice A1 n0 c1, .bool b2, .slice A2 n2 c2, .bool b3, .slice A3 n3 c3] 27] [pfR A434 c435 (dotL (es0.map vz) (es1.map vz)), pfRow fM FM 2 A427 n0 c428 es429, pfRow fM FM 2 A420 n0 c421 es422, pfRow fM FM 2 A413 n0 c414 es415, pfRow fM FM 2 A402 n0 c403 es404, pfRow fM FM 2 A395 n0 c396 es397, pfR A391 c392 (-1), pfEs FN es386, pfEs FN es379, pfZ A369 c370 (dotL (es0.map vz) (es1.map vz)), pfEs FN es364, pfEs FN es357, pfEs FN es350, pfR A227 c228 z3, pfZ A223 c224 z3, pfR A101 c102 z2, pfZ A97 c98 z2, pfRow fM FM 2 A90 n0 c91 es92, pfRow fN FN 2 A85 n0 c86 es87, pfRow fM FM 2 A79 n0 c80 es81, pfRow fN FN 2 A74 n0 c75 es76, pfU A3 n3 c3 xs3, pfU A2 n2 c2 xs2, pfRow fU FU 2 A1 n0 c1 es1, pfRow fU FU 2 A0 n0 c0 es0] := hst
    revert a
    refine sA (v := .bool true) rfl (fun _ henv => rn_pick henv rfl rfl) ?_
    refine aA rfl rfl ?_
    intro a henv
    refine wpList_nil ?_
    refine th_n ?_
    refine wp_ret ?_
    refine leave henv (res1 Tryd.results3 (RV.tmp henv rfl)) ?_
    exact ⟨rfl, hst.below⟩
set_option maxRecDepth 100000 in
set_option maxHeartbeats 8000000 in
theorem rsums_ne {A0 A1 A2 A3 : Option Addr} {n0 c0 n1 c1 n2 c2 n3 c3 : Nat} {es0 es1 : List UE} {b2 b3 : Bool} {xs2 xs3 : List Nat} {z2 z3 : Int} {w0 : World} (h0 : (pfRow fU FU 2 A0 n0 c0 es0).P w0) (hn0 : n0 ≤ 35184372088832) (hs0 : Sz es0) (h1 : (pfRow fU FU 2 A1 n1 c1 es1).P w0) (hn1 : n1 ≤ 35184372088832) (hs1 : Sz es1) (h2 : U32 w0 A2 n2 c2 xs2) (hn2 : n2 ≤ 35184372088832) (h3 : U32 w0 A3 n3 c3 xs3) (hn3 : n3 ≤ 35184372088832) (hv2 : sg b2 (val 4294967296 xs2) = z2) (hv3 : sg b3 (val 4294967296 xs3) = z3) (hne : n0 ≠ n1) :
    Calls Tryd.prog 3 #[.agg #[.slice A0 n0 c0, .slice A1 n1 c1, .bool b2, .slice A2 n2 c2, .bool b3, .slice A3 n3 c3]] w0 fun e w' => e = .returned (.bool true) ∧ Below w0.heap.size w0 w' := by
  refine enter Tryd.func3 rfl Tryd.ntmps3 rfl ?_
  intro a henv hst
  replace hst := (((hst.argRow h0).argRow h1).addU h2 trivial).addU h3 trivial
  clear h0 h1 h2 h3
  replace hst : St w0 _ [] [pfU A3 n3 c3 xs3, pfU A2 n2 c2 xs2, pfRow fU FU 2 A1 n1 c1 es1, pfRow fU FU 2 A0 n0 c0 es0] := hst
  refine wp_seq ?_
  refine region_seq ?_
  refine seq_step rfl (op_box (c := #[.slice A0 n0 c0, .slice A1 n1 c1, .bool b2, .slice A2 n2 c2, .bool b3, .slice A3 n3 c3]) henv hst rfl rfl rfl ?_)
  clear henv hst a; intro a w52 g51 henv hst
  refine sv (v := .bool false) henv rfl (rn_assign henv rfl) ?_
  clear henv a; intro a henv
  refine wpList_nil ?_
  refine th_n ?_
  refine wp_seq ?_
  refine wp_seq ?_
  refine region_seq ?_
  refine seq_step rfl (op_call henv rfl Tryd.call16 rfl (row_live) ?_)
  rintro e w53 ⟨rfl, hb⟩
  refine ⟨_, rfl, ?_⟩
  clear henv a; intro a henv
  replace hst := hst.call hb
  clear hb
  refine sv (v := .bool false) henv rfl (rn_un henv rfl rfl) ?_
  clear henv a; intro a henv
  refine wpList_nil ?_
  refine th_n ?_
  refine if_f henv rfl (rfl) ?_
  refine wp_skip ?_
  refine th_n ?_
  refine wp_seq ?_
  refine cut (fun a w => ∃ g55 : Nat, ∃ g57 : Nat, Env 238 a [(0, .agg #[.slice A0 n0 c0, .slice A1 n1 c1, .bool b2, .slice A2 n2 c2, .bool b3, .slice A3 n3 c3]), (2, .bool false), (25, .bool true), (26, .bool false), (5, .pointer (some ⟨g55, 0, none⟩)), (6, .pointer (some ⟨g57, 0, none⟩)), (3, .slice A0 n0 c0), (4, .slice A1 n1 c1)] ∧ St w0 w [bk g57 #[.bool b3, .slice A3 n3 c3] 25, bk g55 #[.bool b2, .slice A2 n2 c2] 25, bk g51 #[.slice A0 n0 c0, .slice A1 n1 c1, .bool b2, .slice A2 n2 c2, .bool b3, .slice A3 n3 c3] 27] [pfU A3 n3 c3 xs3, pfU A2 n2 c2 xs2, pfRow fU FU 2 A1 n1 c1 es1, pfRow fU FU 2 A0 n0 c0 es0]) ?_ ?_
  · refine region_any (n := 14) (Sk [bk g51 #[.slice A0 n0 c0, .slice A1 n1 c1, .bool b2, .slice A2 n2 c2, .bool b3, .slice A3 n3 c3] 27] [pfU A3 n3 c3 xs3, pfU A2 n2 c2 xs2, pfRow fU FU 2 A1 n1 c1 es1, pfRow fU FU 2 A0 n0 c0 es0] [12, 13] []) mixed rfl henv hst ?_
    clear henv hst; intro w54 henv hst
    refine tA (i := 0) [1, 10, 11, 12, 13] (v := .pointer (some ⟨g51, 0, none⟩)) rfl (by kernel_rfl) (fun _ _ _ h => h) henv rfl (fun _ => rn_fieldAddr henv fd_anvil_anvillaw04_Two_0 (ty__anvillaw04_Num.size) (by decide) rfl) ?_
    clear henv a; intro a henv
    refine sAny_take (i := 1) [10, 11, 12, 13] (fun w' => w'.heap[g51]? = some (.cells #[.slice A0 n0 c0, .slice A1 n1 c1, .bool b2, .slice A2 n2 c2, .bool b3, .slice A3 n3 c3] 27 (0, 0))) (v := .slice A0 n0 c0) rfl (by kernel_rfl) (fun _ _ _ h => h) (fun _ _ _ hS => hS.1.oat (k := 0) rfl) henv rfl (hst.oat (k := 0) rfl) (fun w' hg => rn_load1 henv ty__anvillaw04_Num rfl hg rfl) ?_
    clear henv a; intro a henv
    refine tA (i := 2) [3, 11, 12, 13] (v := .pointer (some ⟨g51, 1, none⟩)) rfl (by kernel_rfl) (fun _ _ _ h => h) henv rfl (fun _ => rn_fieldAddr henv fd_anvil_anvillaw04_Two_1 (ty__anvillaw04_Num.size) (by decide) rfl) ?_
    clear henv a; intro a henv
    refine sAny_take (i := 3) [11, 12, 13] (fun w' => w'.heap[g51]? = some (.cells #[.slice A0 n0 c0, .slice A1 n1 c1, .bool b2, .slice A2 n2 c2, .bool b3, .slice A3 n3 c3] 27 (0, 0))) (v := .slice A1 n1 c1) rfl (by kernel_rfl) (fun _ _ _ h => h) (fun _ _ _ hS => hS.1.oat (k := 0) rfl) henv rfl (hst.oat (k := 0) rfl) (fun w' hg => rn_load1 henv ty__anvillaw04_Num rfl hg rfl) ?_
    clear henv a; intro a henv
    refine tA (i := 4) [5, 12, 13] (v := .pointer (some ⟨g51, 2, none⟩)) rfl (by kernel_rfl) (fun _ _ _ h => h) henv rfl (fun _ => rn_fieldAddr henv fd_anvil_anvillaw04_Two_2 (ty_anvil_anvillaw04_Num.size) (by decide) rfl) ?_
    clear henv a; intro a henv
    refine sAny_take (i := 5) [12, 13] (fun w' => w'.heap[g51]? = some (.cells #[.slice A0 n0 c0, .slice A1 n1 c1, .bool b2, .slice A2 n2 c2, .bool b3, .slice A3 n3 c3] 27 (0, 0))) (v := .agg #[.bool b2, .slice A2 n2 c2]) rfl (by kernel_rfl) (fun _ _ _ h => h) (fun _ _ _ hS => hS.1.oat (k := 0) rfl) henv rfl (hst.oat (k := 0) rfl) (fun w' hg => rn_load henv ty_anvil_anvillaw04_Num rfl hg rfl rfl) ?_
    clear henv a; intro a henv
    refine tA (i := 6) [7, 13] (v := .pointer (some ⟨g51, 4, none⟩)) rfl (by kernel_rfl) (fun _ _ _ h => h) henv rfl (fun _ => rn_fieldAddr henv fd_anvil_anvillaw04_Two_3 (ty_anvil_anvillaw04_Num.size) (by decide) rfl) ?_
    clear henv a; intro a henv
    refine sAny_take (i := 7) [13] (fun w' => w'.heap[g51]? = some (.cells #[.slice A0 n0 c0, .slice A1 n1 c1, .bool b2, .slice A2 n2 c2, .bool b3, .slice A3 n3 c3] 27 (0, 0))) (v := .agg #[.bool b3, .slice A3 n3 c3]) rfl (by kernel_rfl) (fun _ _ _ h => h) (fun _ _ _ hS => hS.1.oat (k := 0) rfl) henv rfl (hst.oat (k := 0) rfl) (fun w' hg => rn_load henv ty_anvil_anvillaw04_Num rfl hg rfl rfl) ?_
    clear henv a; intro a henv
    refine sAny_all (rs := [8, 9]) (by kernel_rfl) (by simp) ?_
    simp only [List.forall_mem_cons, List.not_mem_nil, false_implies, implies_true, and_true]
    refine ⟨?_, ?_⟩
    · refine ⟨_, rfl, rfl, op_alloc (c := #[.bool false, .slice none 0 0]) henv hst rfl zero_anvil_anvillaw04_Num rfl ?_⟩
      clear henv hst a; intro a w56 g55 henv hst
      refine ⟨.inr ⟨hst.kn.pick [1] (rg 0 4), .inr (hst.kn.pick [] [])⟩, ?_⟩
      refine sAny_one (i := 9) (by kernel_rfl) rfl rfl (op_alloc (c := #[.bool false, .slice none 0 0]) henv hst rfl zero_anvil_anvillaw04_Num rfl ?_)
      clear henv hst a; intro a w58 g57 henv hst
      refine ⟨.inr ⟨hst.kn.pick [2] (rg 0 4), .inr (hst.kn.pick [] [])⟩, ?_⟩
      refine tA (i := 10) [11, 12, 13] (v := .slice A0 n0 c0) rfl (by kernel_rfl) (fun _ _ _ h => h) henv rfl (fun _ => rn_assign henv rfl) ?_
      clear henv a; intro a henv
      refine tA (i := 11) [12, 13] (v := .slice A1 n1 c1) rfl (by kernel_rfl) (fun _ _ _ h => h) henv rfl (fun _ => rn_assign henv rfl) ?_
      clear henv a; intro a henv
      refine sAny_one (i := 12) (by kernel_rfl) rfl rfl (op_store (k := 1) (c' := #[.bool b2, .slice A2 n2 c2]) henv hst (ty_anvil_anvillaw04_Num.size) rfl rfl rfl rfl (by simp) rfl rfl ?_)
      clear henv hst a; intro a w59 henv hst
      refine ⟨.inr ⟨hst.kn.pick [2] (rg 0 4), .inl rfl⟩, ?_⟩
      refine sAny_one (i := 13) (by kernel_rfl) rfl rfl (op_store (k := 0) (c' := #[.bool b3, .slice A3 n3 c3]) henv hst (ty_anvil_anvillaw04_Num.size) rfl rfl rfl rfl (by simp) rfl rfl ?_)
      clear henv hst a; intro a w60 henv hst
      refine ⟨.inr ⟨hst.kn.pick [2] (rg 0 4), .inl rfl⟩, ?_⟩
      refine sAny_done (by kernel_rfl) ?_ _
      exact th_n ⟨g55, g57, henv.sub ⟨rfl, rfl, rfl, rfl, rfl, rfl, rfl, rfl, trivial⟩, hst.pick [0, 1, 2] [0, 1, 2, 3] (by decide)⟩
    · refine ⟨_, rfl, rfl, op_alloc (c := #[.bool false, .slice none 0 0]) henv hst rfl zero_anvil_anvillaw04_Num rfl ?_⟩
      clear henv hst a; intro a w62 g61 henv hst
      refine ⟨.inr ⟨hst.kn.pick [1] (rg 0 4), .inr (hst.kn.pick [] [])⟩, ?_⟩
      refine sAny_one (i := 8) (by kernel_rfl) rfl rfl (op_alloc (c := #[.bool false, .slice none 0 0]) henv hst rfl zero_anvil_anvillaw04_Num rfl ?_)
      clear henv hst a; intro a w64 g63 henv hst
      refine ⟨.inr ⟨hst.kn.pick [2] (rg 0 4), .inr (hst.kn.pick [] [])⟩, ?_⟩
      refine tA (i := 10) [11, 12, 13] (v := .slice A0 n0 c0) rfl (by kernel_rfl) (fun _ _ _ h => h) henv rfl (fun _ => rn_assign henv rfl) ?_
      clear henv a; intro a henv
      refine tA (i := 11) [12, 13] (v := .slice A1 n1 c1) rfl (by kernel_rfl) (fun _ _ _ h => h) henv rfl (fun _ => rn_assign henv rfl) ?_
      clear henv a; intro a henv
      refine sAny_one (i := 12) (by kernel_rfl) rfl rfl (op_store (k := 0) (c' := #[.bool b2, .slice A2 n2 c2]) henv hst (ty_anvil_anvillaw04_Num.size) rfl rfl rfl rfl (by simp) rfl rfl ?_)
      clear henv hst a; intro a w65 henv hst
      refine ⟨.inr ⟨hst.kn.pick [2] (rg 0 4), .inl rfl⟩, ?_⟩
      refine sAny_one (i := 13) (by kernel_rfl) rfl rfl (op_store (k := 1) (c' := #[.bool b3, .slice A3 n3 c3]) henv hst (ty_anvil_anvillaw04_Num.size) rfl rfl rfl rfl (by simp) rfl rfl ?_)
      clear henv hst a; intro a w66 henv hst
      refine ⟨.inr ⟨hst.kn.pick [2] (rg 0 4), .inl rfl⟩, ?_⟩
      refine sAny_done (by kernel_rfl) ?_ _
      exact th_n ⟨g63, g61, henv.sub ⟨rfl, rfl, rfl, rfl, rfl, rfl, rfl, rfl, trivial⟩, hst.pick [1, 0, 2] [0, 1, 2, 3] (by decide)⟩
  clear henv hst a
  rintro a w67 ⟨g55, g57, henv, hst⟩
  refine wp_seq ?_
  refine wp_seq ?_
  refine region_seq ?_
  revert a
  refine mA rfl rfl ?_
  refine mA rfl rfl ?_
  refine sA (v := .agg #[.bool b2, .slice A2 n2 c2]) rfl (fun _ henv => rn_load0 henv ty_anvil_anvillaw04_Num rfl (hst.oat (k := 1) rfl) rfl) ?_
  refine sA (v := .agg #[.bool b3, .slice A3 n3 c3]) rfl (fun _ henv => rn_load0 henv ty_anvil_anvillaw04_Num rfl (hst.oat (k := 0) rfl) rfl) ?_
  intro a henv
  refine seq_step rfl (op_buildSlice (z := 2) (pv := #[(0, .agg #[.bool b2, .slice A2 n2 c2]), (1, .agg #[.bool b3, .slice A3 n3 c3])]) (c := #[.bool b2, .slice A2 n2 c2, .bool b3, .slice A3 n3 c3]) henv hst rfl Tryd.underlying22 (ty_anvil_anvillaw04_Num.size) zero_anvil_anvillaw04_Num (by decide) (by decide) rfl (by kernel_rfl) ?_)
  clear henv hst a; intro a w69 g68 henv hst
  refine seq_step rfl (op_buildSlice (z := 1) (pv := #[(0, .slice A0 n0 c0), (1, .slice A1 n1 c1), (2, .slice (some ⟨g68, 0, none⟩) 2 2)]) (c := #[.slice A0 n0 c0, .slice A1 n1 c1, .slice (some ⟨g68, 0, none⟩) 2 2]) henv hst rfl Tryd.underlying139 (ty__anvillaw04_Num.size) zero__anvillaw04_Num (by decide) (by decide) rfl (by kernel_rfl) ?_)
  clear henv hst a; intro a w71 g70 henv hst
  refine seq_step rfl (op_call henv rfl Tryd.call17 rfl (row_long (pv3 (v0 := (A0, n0, c0, es0)) (v1 := (A1, n1, c1, es1)) (v2 := (some ⟨g68, 0, none⟩, 2, 2, [(b2, A2, n2, c2, xs2), (b3, A3, n3, c3, xs3)])) (hst.oat (k := 0) rfl) (hst.pat (k := 3) rfl) (hst.pat (k := 2) rfl) (pu2 (e0 := (b2, A2, n2, c2, xs2)) (e1 := (b3, A3, n3, c3, xs3)) (hst.oat (k := 1) rfl) (show U32 _ A2 n2 c2 xs2 from hst.pat (k := 1) rfl) (show U32 _ A3 n3 c3 xs3 from hst.pat (k := 0) rfl))) (lg_cons hn0 hs0 (lg_cons hn1 hs1 (lg_cons (show 2 ≤ 35184372088832 by decide) (sz_cons hn2 (sz_cons hn3 sz_nil)) lg_nil)))) ?_)
  rintro e w72 ⟨bl, rfl, hbl, hb⟩
  refine ⟨_, rfl, ?_⟩
  clear henv a; intro a henv
  replace hst := hst.call hb
  clear hb
  refine wpList_nil ?_
  refine th_n ?_
  refine if_split henv rfl (fun hc73 => ?_) (fun hc73 => ?_)
  · refine wp_seq ?_
    refine region_seq ?_
    refine sv (v := .bool true) henv rfl (rn_assign henv rfl) ?_
    clear henv a; intro a henv
    refine wpList_nil ?_
    refine th_n ?_
    refine wp_ret ?_
    refine th_r ?_
    refine leave henv (res1 Tryd.results3 (RV.tmp henv rfl)) ?_
    exact ⟨rfl, hst.below⟩
  · obtain ⟨hx0, hx1, hx2, hx3, hx4, hx5⟩ := tv_three (hbl hc73)
    replace hx4 : n2 ≤ 300 := hx4; replace hx5 : n3 ≤ 300 := hx5
    have hkx : Zk 300 (es0.map vz) := Zk.vz (hst.pat (k := 3) rfl).2.2 hx2
    have hky : Zk 300 (es1.map vz) := Zk.vz (hst.pat (k := 2) rfl).2.2 hx3
    have hle0 : es0.length = n0 := (hst.pat (k := 3) rfl).2.1
    replace hle0 : es0.length ≤ 300 := by omega
    have hz2s : zl z2 ≤ 300 := by rw [← hv2]; exact zl_vze (show U32 _ A2 n2 c2 xs2 from hst.pat (k := 1) rfl) hx4
    have hz3s : zl z3 ≤ 300 := by rw [← hv3]; exact zl_vze (show U32 _ A3 n3 c3 xs3 from hst.pat (k := 0) rfl) hx5
    have hkn : Zk 300 ((es0.map vz).map (- ·)) := hkx.map fun z hz => by rw [zl_neg]; exact hz
    have hkm : Zk 600 ((es0.map vz).map (z2 * ·)) := hkx.map fun z hz => Nat.le_trans (zl_mul _ _) (by omega)
    have hka : Zk 601 (List.zipWith (· + ·) (es0.map vz) (es1.map vz)) := hkx.zip hky fun x y h1 h2 => Nat.le_trans (zl_add _ _) (by omega)
    have hks : Zk 601 (List.zipWith (· - ·) (es0.map vz) (es1.map vz)) := hkx.zip hky fun x y h1 h2 => by have := zl_add x (-y); rw [zl_neg] at this; show zl (x + -y) ≤ 601; omega
    have hkc : Zk 1201 (List.zipWith (fun x y => z2 * x + z3 * y) (es0.map vz) (es1.map vz)) := hkx.zip hky fun x y h1 h2 => by have := zl_add (z2 * x) (z3 * y); have := zl_mul z2 x; have := zl_mul z3 y; omega
    have hdz : zl (dotL (es0.map vz) (es1.map vz)) ≤ 100000 := dot_bd hkx hky (by rw [List.length_map]; exact hle0)
    refine wp_skip ?_
    refine th_n ?_
    refine wp_seq ?_
    refine region_seq ?_
    refine sv (v := .slice A0 n0 c0) henv rfl (rn_move henv rfl) ?_
    clear henv a; intro a henv
    refine seq_step rfl (op_call henv rfl Tryd.call18 rfl (row_of2 (hst.pat (k := 3) rfl) (fun e he => Nat.le_trans (tl_mem he) (by omega)) (by omega)) ?_)
    rintro e w84 ⟨_, _, rfl, ⟨A74, c75, es76, rfl, hr, hl77, hz78⟩, ⟨A79, c80, es81, rfl, hr2, hl82, hz83⟩, hb⟩
    refine ⟨_, rfl, ?_⟩
    clear henv a; intro a henv
    replace hst := hst.fresh2 hb hr hl77 (ap_N hr.2.1 ⟨nou_bk rfl, nou_bk rfl, nou_bk rfl, nou_bk rfl, nou_bk rfl, trivial⟩) hr2 hl82 (ap_M hr2.2.1 ⟨nou_bk rfl, nou_bk rfl, nou_bk rfl, nou_bk rfl, nou_bk rfl, trivial⟩)
    clear hr
    clear hr2
    clear hb
    revert a
    refine mA rfl rfl ?_
    refine sA (v := .slice A74 n0 c75) rfl (fun _ henv => rn_extract henv rfl rfl) ?_
    refine sA (v := .slice A79 n0 c80) rfl (fun _ henv => rn_extract henv rfl rfl) ?_
    refine aA rfl rfl ?_
    refine aA rfl rfl ?_
    intro a henv
    refine wpList_nil ?_
    refine th_n ?_
    refine wp_seq ?_
    refine region_seq ?_
    refine sv (v := .slice A1 n1 c1) henv rfl (rn_move henv rfl) ?_
    clear henv a; intro a henv
    refine seq_step rfl (op_call henv rfl Tryd.call18 rfl (row_of2 (hst.pat (k := 4) rfl) (fun e he => Nat.le_trans (tl_mem he) (by omega)) (by omega)) ?_)
    rintro e w95 ⟨_, _, rfl, ⟨A85, c86, es87, rfl, hr, hl88, hz89⟩, ⟨A90, c91, es92, rfl, hr2, hl93, hz94⟩, hb⟩
    refine ⟨_, rfl, ?_⟩
    clear henv a; intro a henv
    replace hst := hst.fresh2 hb hr hl88 (ap_N hr.2.1 ⟨nou_bk rfl, nou_bk rfl, nou_bk rfl, nou_bk rfl, nou_bk rfl, trivial⟩) hr2 hl93 (ap_M hr2.2.1 ⟨nou_bk rfl, nou_bk rfl, nou_bk rfl, nou_bk rfl, nou_bk rfl, trivial⟩)
    clear hr
    clear hr2
    clear hb
    revert a
    refine mA rfl rfl ?_
    refine sA (v := .slice A85 n1 c86) rfl (fun _ henv => rn_extract henv rfl rfl) ?_
    refine sA (v := .slice A90 n1 c91) rfl (fun _ henv => rn_extract henv rfl rfl) ?_
    refine aA rfl rfl ?_
    refine aA rfl rfl ?_
    intro a henv
    refine wpList_nil ?_
    refine th_n ?_
    refine wp_seq ?_
    refine cut (fun a w => ∃ A97 : Option Addr, ∃ c98 : Nat, ∃ A101 : Option Addr, ∃ c102 : Nat, ∃ g105 : Nat, ∃ g107 : Nat, Env 238 a [(0, .agg #[.slice A0 n0 c0, .slice A1 n1 c1, .bool b2, .slice A2 n2 c2, .bool b3, .slice A3 n3 c3]), (2, .bool false), (25, .bool true), (26, .bool false), (5, .pointer (some ⟨g55, 0, none⟩)), (6, .pointer (some ⟨g57, 0, none⟩)), (3, .slice A0 n0 c0), (4, .slice A1 n1 c1), (35, .slice A0 n0 c0), (36, .slice A1 n1 c1), (37, .agg #[.bool b2, .slice A2 n2 c2]), (38, .agg #[.bool b3, .slice A3 n3 c3]), (39, .slice (some ⟨g68, 0, none⟩) 2 2), (40, .slice (some ⟨g70, 0, none⟩) 3 3), (41, .bool bl), (43, .slice A0 n0 c0), (44, .tuple #[.slice A74 n0 c75, .slice A79 n0 c80]), (42, .tuple #[.slice A74 n0 c75, .slice A79 n0 c80]), (45, .slice A74 n0 c75), (46, .slice A79 n0 c80), (7, .slice A74 n0 c75), (8, .slice A79 n0 c80), (48, .slice A1 n1 c1), (49, .tuple #[.slice A85 n1 c86, .slice A90 n1 c91]), (47, .tuple #[.slice A85 n1 c86, .slice A90 n1 c91]), (50, .slice A85 n1 c86), (51, .slice A90 n1 c91), (9, .slice A85 n1 c86), (10, .slice A90 n1 c91), (11, .pointer (some ⟨g105, 0, none⟩)), (12, .pointer (some ⟨g107, 0, none⟩))] ∧ St w0 w [bk g107 #[.bool (neg z2), .slice A101 (dl z2) c102] 39, bk g105 #[.bool (neg z2), .slice A97 (zl z2) c98] 36, bk g70 #[.slice A0 n0 c0, .slice A1 n1 c1, .slice (some ⟨g68, 0, none⟩) 2 2] 22, bk g68 #[.bool b2, .slice A2 n2 c2, .bool b3, .slice A3 n3 c3] 25, bk g57 #[.bool b3, .slice A3 n3 c3] 25, bk g55 #[.bool b2, .slice A2 n2 c2] 25, bk g51 #[.slice A0 n0 c0, .slice A1 n1 c1, .bool b2, .slice A2 n2 c2, .bool b3, .slice A3 n3 c3] 27] [pfR A101 c102 z2, pfZ A97 c98 z2, pfRow fM FM 2 A90 n1 c91 es92, pfRow fN FN 2 A85 n1 c86 es87, pfRow fM FM 2 A79 n0 c80 es81, pfRow fN FN 2 A74 n0 c75 es76, pfU A3 n3 c3 xs3, pfU A2 n2 c2 xs2, pfRow fU FU 2 A1 n1 c1 es1, pfRow fU FU 2 A0 n0 c0 es0]) ?_ ?_
    · refine region_any (n := 14) (Sk [bk g70 #[.slice A0 n0 c0, .slice A1 n1 c1, .slice (some ⟨g68, 0, none⟩) 2 2] 22, bk g68 #[.bool b2, .slice A2 n2 c2, .bool b3, .slice A3 n3 c3] 25, bk g57 #[.bool b3, .slice A3 n3 c3] 25, bk g55 #[.bool b2, .slice A2 n2 c2] 25, bk g51 #[.slice A0 n0 c0, .slice A1 n1 c1, .bool b2, .slice A2 n2 c2, .bool b3, .slice A3 n3 c3] 27] [pfRow fM FM 2 A90 n1 c91 es92, pfRow fN FN 2 A85 n1 c86 es87, pfRow fM FM 2 A79 n0 c80 es81, pfRow fN FN 2 A74 n0 c75 es76, pfU A3 n3 c3 xs3, pfU A2 n2 c2 xs2, pfRow fU FU 2 A1 n1 c1 es1, pfRow fU FU 2 A0 n0 c0 es0] [12, 13] []) mixed rfl henv hst ?_
      clear henv hst; intro w96 henv hst
      refine tA (i := 0) [1, 4, 9, 12, 13] (v := .pointer (some ⟨g55, 0, none⟩)) rfl (by kernel_rfl) (fun _ _ _ h => h) henv rfl (fun _ => rn_fieldAddr henv fd_anvil_anvillaw04_Num_0 (ty_bool.size) (by decide) rfl) ?_
      clear henv a; intro a henv
      refine sAny_take (i := 1) [4, 9, 12, 13] (fun w' => w'.heap[g55]? = some (.cells #[.bool b2, .slice A2 n2 c2] 25 (0, 0))) (v := .bool b2) rfl (by kernel_rfl) (fun _ _ _ h => h) (fun _ _ _ hS => hS.1.oat (k := 3) rfl) henv rfl (hst.oat (k := 3) rfl) (fun w' hg => rn_load1 henv ty_bool rfl hg rfl) ?_
      clear henv a; intro a henv
      refine tA (i := 2) [3, 4, 9, 12, 13] (v := .pointer (some ⟨g55, 1, none⟩)) rfl (by kernel_rfl) (fun _ _ _ h => h) henv rfl (fun _ => rn_fieldAddr henv fd_anvil_anvillaw04_Num_1 (ty__uint32.size) (by decide) rfl) ?_
      clear henv a; intro a henv
      refine sAny_take (i := 3) [4, 9, 12, 13] (fun w' => w'.heap[g55]? = some (.cells #[.bool b2, .slice A2 n2 c2] 25 (0, 0))) (v := .slice A2 n2 c2) rfl (by kernel_rfl) (fun _ _ _ h => h) (fun _ _ _ hS => hS.1.oat (k := 3) rfl) henv rfl (hst.oat (k := 3) rfl) (fun w' hg => rn_load1 henv ty__uint32 rfl hg rfl) ?_
      clear henv a; intro a henv
      refine tA (i := 5) [6, 9, 12, 13] (v := .pointer (some ⟨g55, 0, none⟩)) rfl (by kernel_rfl) (fun _ _ _ h => h) henv rfl (fun _ => rn_fieldAddr henv fd_anvil_anvillaw04_Num_0 (ty_bool.size) (by decide) rfl) ?_
      clear henv a; intro a henv
      refine sAny_take (i := 6) [9, 12, 13] (fun w' => w'.heap[g55]? = some (.cells #[.bool b2, .slice A2 n2 c2] 25 (0, 0))) (v := .bool b2) rfl (by kernel_rfl) (fun _ _ _ h => h) (fun _ _ _ hS => hS.1.oat (k := 3) rfl) henv rfl (hst.oat (k := 3) rfl) (fun w' hg => rn_load1 henv ty_bool rfl hg rfl) ?_
      clear henv a; intro a henv
      refine tA (i := 7) [8, 9, 12, 13] (v := .pointer (some ⟨g55, 1, none⟩)) rfl (by kernel_rfl) (fun _ _ _ h => h) henv rfl (fun _ => rn_fieldAddr henv fd_anvil_anvillaw04_Num_1 (ty__uint32.size) (by decide) rfl) ?_
      clear henv a; intro a henv
      refine sAny_take (i := 8) [9, 12, 13] (fun w' => w'.heap[g55]? = some (.cells #[.bool b2, .slice A2 n2 c2] 25 (0, 0))) (v := .slice A2 n2 c2) rfl (by kernel_rfl) (fun _ _ _ h => h) (fun _ _ _ hS => hS.1.oat (k := 3) rfl) henv rfl (hst.oat (k := 3) rfl) (fun w' hg => rn_load1 henv ty__uint32 rfl hg rfl) ?_
      clear henv a; intro a henv
      refine sAny_all (rs := [4, 10, 11]) (by kernel_rfl) (by simp) ?_
      simp only [List.forall_mem_cons, List.not_mem_nil, false_implies, implies_true, and_true]
      refine ⟨?_, ?_, ?_⟩
      · refine ⟨_, rfl, rfl, op_call henv rfl Tryd.call19 rfl (make_zv (show U32 _ A2 n2 c2 xs2 from hst.pat (k := 5) rfl) hv2 (by omega)) ?_⟩
        rintro e w100 ⟨_, rfl, ⟨A97, c98, rfl, hz99⟩, hb⟩
        refine ⟨_, rfl, ?_⟩
        clear henv a; intro a henv
        replace hst := (hst.call hb).addZ hz99 ⟨nou_bk rfl, nou_bk rfl, nou_bk rfl, nou_bk rfl, nou_bk rfl, trivial⟩
        clear hz99
        clear hb
        refine ⟨.inr ⟨hst.kn.pick (rg 0 5) (rg 1 8), .inr (hst.kn.pick [] [])⟩, ?_⟩
        refine sAny_all (rs := [9, 10, 11]) (by kernel_rfl) (by simp) ?_
        simp only [List.forall_mem_cons, List.not_mem_nil, false_implies, implies_true, and_true]
        refine ⟨?_, ?_, ?_⟩
        · refine ⟨_, rfl, rfl, op_call henv rfl Tryd.call20 rfl (make_rv (show U32 _ A2 n2 c2 xs2 from hst.pat (k := 6) rfl) hv2 (by omega)) ?_⟩
          rintro e w104 ⟨_, rfl, ⟨A101, c102, rfl, hz103⟩, hb⟩
          refine ⟨_, rfl, ?_⟩
          clear henv a; intro a henv
          replace hst := (hst.call hb).addR hz103 ⟨nou_bk rfl, nou_bk rfl, nou_bk rfl, nou_bk rfl, nou_bk rfl, trivial⟩
          clear hz103
          clear hb
          refine ⟨.inr ⟨hst.kn.pick (rg 0 5) (rg 2 8), .inr (hst.kn.pick [] [])⟩, ?_⟩
          refine sAny_all (rs := [10, 11]) (by kernel_rfl) (by simp) ?_
          simp only [List.forall_mem_cons, List.not_mem_nil, false_implies, implies_true, and_true]
          refine ⟨?_, ?_⟩
          · refine ⟨_, rfl, rfl, op_alloc (c := #[.bool (neg 0), .slice none (zl 0) 0]) henv hst rfl zero_anvil_integer_Int zcells ?_⟩
            clear henv hst a; intro a w106 g105 henv hst
            refine ⟨.inr ⟨hst.kn.pick (rg 1 5) (rg 2 8), .inr (hst.kn.pick [] [])⟩, ?_⟩
            refine sAny_one (i := 11) (by kernel_rfl) rfl rfl (op_alloc (c := #[.bool (neg 0), .slice none (dl 0) 0]) henv hst rfl zero_anvil_anvilref02_Int rcells ?_)
            clear henv hst a; intro a w108 g107 henv hst
            refine ⟨.inr ⟨hst.kn.pick (rg 2 5) (rg 2 8), .inr (hst.kn.pick [] [])⟩, ?_⟩
            refine sAny_one (i := 12) (by kernel_rfl) rfl rfl (op_store (k := 1) (c' := #[.bool (neg z2), .slice A97 (zl z2) c98]) henv hst (ty_anvil_integer_Int.size) rfl rfl rfl rfl (by simp) rfl rfl ?_)
            clear henv hst a; intro a w109 henv hst
            refine ⟨.inr ⟨hst.kn.pick (rg 2 5) (rg 2 8), .inl rfl⟩, ?_⟩
            refine sAny_one (i := 13) (by kernel_rfl) rfl rfl (op_store (k := 0) (c' := #[.bool (neg z2), .slice A101 (dl z2) c102]) henv hst (ty_anvil_anvilref02_Int.size) rfl rfl rfl rfl (by simp) rfl rfl ?_)
            clear henv hst a; intro a w110 henv hst
            refine ⟨.inr ⟨hst.kn.pick (rg 2 5) (rg 2 8), .inl rfl⟩, ?_⟩
            refine sAny_done (by kernel_rfl) ?_ _
            exact th_n ⟨A97, c98, A101, c102, g105, g107, henv.sub ⟨rfl, rfl, rfl, rfl, rfl, rfl, rfl, rfl, rfl, rfl, rfl, rfl, rfl, rfl, rfl, rfl, rfl, rfl, rfl, rfl, rfl, rfl, rfl, rfl, rfl, rfl, rfl, rfl, rfl, rfl, rfl, trivial⟩, hst.pick [0, 1, 2, 3, 4, 5, 6] [0, 1, 2, 3, 4, 5, 6, 7, 8, 9] (by decide)⟩
          · refine ⟨_, rfl, rfl, op_alloc (c := #[.bool (neg 0), .slice none (dl 0) 0]) henv hst rfl zero_anvil_anvilref02_Int rcells ?_⟩
            clear henv hst a; intro a w112 g111 henv hst
            refine ⟨.inr ⟨hst.kn.pick (rg 1 5) (rg 2 8), .inr (hst.kn.pick [] [])⟩, ?_⟩
            refine sAny_one (i := 10) (by kernel_rfl) rfl rfl (op_alloc (c := #[.bool (neg 0), .slice none (zl 0) 0]) henv hst rfl zero_anvil_integer_Int zcells ?_)
            clear henv hst a; intro a w114 g113 henv hst
            refine ⟨.inr ⟨hst.kn.pick (rg 2 5) (rg 2 8), .inr (hst.kn.pick [] [])⟩, ?_⟩
            refine sAny_one (i := 12) (by kernel_rfl) rfl rfl (op_store (k := 0) (c' := #[.bool (neg z2), .slice A97 (zl z2) c98]) henv hst (ty_anvil_integer_Int.size) rfl rfl rfl rfl (by simp) rfl rfl ?_)
            clear henv hst a; intro a w115 henv hst
            refine ⟨.inr ⟨hst.kn.pick (rg 2 5) (rg 2 8), .inl rfl⟩, ?_⟩
            refine sAny_one (i := 13) (by kernel_rfl) rfl rfl (op_store (k := 1) (c' := #[.bool (neg z2), .slice A101 (dl z2) c102]) henv hst (ty_anvil_anvilref02_Int.size) rfl rfl rfl rfl (by simp) rfl rfl ?_)
            clear henv hst a; intro a w116 henv hst
            refine ⟨.inr ⟨hst.kn.pick (rg 2 5) (rg 2 8), .inl rfl⟩, ?_⟩
            refine sAny_done (by kernel_rfl) ?_ _
            exact th_n ⟨A97, c98, A101, c102, g113, g111, henv.sub ⟨rfl, rfl, rfl, rfl, rfl, rfl, rfl, rfl, rfl, rfl, rfl, rfl, rfl, rfl, rfl, rfl, rfl, rfl, rfl, rfl, rfl, rfl, rfl, rfl, rfl, rfl, rfl, rfl, rfl, rfl, rfl, trivial⟩, hst.pick [1, 0, 2, 3, 4, 5, 6] [0, 1, 2, 3, 4, 5, 6, 7, 8, 9] (by decide)⟩
        · refine ⟨_, rfl, rfl, op_alloc (c := #[.bool (neg 0), .slice none (zl 0) 0]) henv hst rfl zero_anvil_integer_Int zcells ?_⟩
          clear henv hst a; intro a w118 g117 henv hst
          refine ⟨.inr ⟨hst.kn.pick (rg 1 5) (rg 1 8), .inr (hst.kn.pick [] [])⟩, ?_⟩
          refine sAny_all (rs := [9, 11]) (by kernel_rfl) (by simp) ?_
          simp only [List.forall_mem_cons, List.not_mem_nil, false_implies, implies_true, and_true]
          refine ⟨?_, ?_⟩
          · refine ⟨_, rfl, rfl, op_call henv rfl Tryd.call20 rfl (make_rv (show U32 _ A2 n2 c2 xs2 from hst.pat (k := 6) rfl) hv2 (by omega)) ?_⟩
            rintro e w122 ⟨_, rfl, ⟨A119, c120, rfl, hz121⟩, hb⟩
            refine ⟨_, rfl, ?_⟩
            clear henv a; intro a henv
            replace hst := (hst.call hb).addR hz121 ⟨nou_bk rfl, nou_bk rfl, nou_bk rfl, nou_bk rfl, nou_bk rfl, nou_bk rfl, trivial⟩
            clear hz121
            clear hb
            refine ⟨.inr ⟨hst.kn.pick (rg 1 5) (rg 2 8), .inr (hst.kn.pick [] [])⟩, ?_⟩
            refine sAny_one (i := 11) (by kernel_rfl) rfl rfl (op_alloc (c := #[.bool (neg 0), .slice none (dl 0) 0]) henv hst rfl zero_anvil_anvilref02_Int rcells ?_)
            clear henv hst a; intro a w124 g123 henv hst
            refine ⟨.inr ⟨hst.kn.pick (rg 2 5) (rg 2 8), .inr (hst.kn.pick [] [])⟩, ?_⟩
            refine sAny_one (i := 12) (by kernel_rfl) rfl rfl (op_store (k := 1) (c' := #[.bool (neg z2), .slice A97 (zl z2) c98]) henv hst (ty_anvil_integer_Int.size) rfl rfl rfl rfl (by simp) rfl rfl ?_)
            clear henv hst a; intro a w125 henv hst
            refine ⟨.inr ⟨hst.kn.pick (rg 2 5) (rg 2 8), .inl rfl⟩, ?_⟩
            refine sAny_one (i := 13) (by kernel_rfl) rfl rfl (op_store (k := 0) (c' := #[.bool (neg z2), .slice A119 (dl z2) c120]) henv hst (ty_anvil_anvilref02_Int.size) rfl rfl rfl rfl (by simp) rfl rfl ?_)
            clear henv hst a; intro a w126 henv hst
            refine ⟨.inr ⟨hst.kn.pick (rg 2 5) (rg 2 8), .inl rfl⟩, ?_⟩
            refine sAny_done (by kernel_rfl) ?_ _
            exact th_n ⟨A97, c98, A119, c120, g117, g123, henv.sub ⟨rfl, rfl, rfl, rfl, rfl, rfl, rfl, rfl, rfl, rfl, rfl, rfl, rfl, rfl, rfl, rfl, rfl, rfl, rfl, rfl, rfl, rfl, rfl, rfl, rfl, rfl, rfl, rfl, rfl, rfl, rfl, trivial⟩, hst.pick [0, 1, 2, 3, 4, 5, 6] [0, 1, 2, 3, 4, 5, 6, 7, 8, 9] (by decide)⟩
          · refine ⟨_, rfl, rfl, op_alloc (c := #[.bool (neg 0), .slice none (dl 0) 0]) henv hst rfl zero_anvil_anvilref02_Int rcells ?_⟩
            clear henv hst a; intro a w128 g127 henv hst
            refine ⟨.inr ⟨hst.kn.pick (rg 2 5) (rg 1 8), .inr (hst.kn.pick [] [])⟩, ?_⟩
            refine sAny_one (i := 9) (by kernel_rfl) rfl rfl (op_call henv rfl Tryd.call20 rfl (make_rv (show U32 _ A2 n2 c2 xs2 from hst.pat (k := 6) rfl) hv2 (by omega)) ?_)
            rintro e w132 ⟨_, rfl, ⟨A129, c130, rfl, hz131⟩, hb⟩
            refine ⟨_, rfl, ?_⟩
            clear henv a; intro a henv
            replace hst := (hst.call hb).addR hz131 ⟨nou_bk rfl, nou_bk rfl, nou_bk rfl, nou_bk rfl, nou_bk rfl, nou_bk rfl, nou_bk rfl, trivial⟩
            clear hz131
            clear hb
            refine ⟨.inr ⟨hst.kn.pick (rg 2 5) (rg 2 8), .inr (hst.kn.pick [] [])⟩, ?_⟩
            refine sAny_one (i := 12) (by kernel_rfl) rfl rfl (op_store (k := 1) (c' := #[.bool (neg z2), .slice A97 (zl z2) c98]) henv hst (ty_anvil_integer_Int.size) rfl rfl rfl rfl (by simp) rfl rfl ?_)
            clear henv hst a; intro a w133 henv hst
            refine ⟨.inr ⟨hst.kn.pick (rg 2 5) (rg 2 8), .inl rfl⟩, ?_⟩
            refine sAny_one (i := 13) (by kernel_rfl) rfl rfl (op_store (k := 0) (c' := #[.bool (neg z2), .slice A129 (dl z2) c130]) henv hst (ty_anvil_anvilref02_Int.size) rfl rfl rfl rfl (by simp) rfl rfl ?_)
            clear henv hst a; intro a w134 henv hst
            refine ⟨.inr ⟨hst.kn.pick (rg 2 5) (rg 2 8), .inl rfl⟩, ?_⟩
            refine sAny_done (by kernel_rfl) ?_ _
            exact th_n ⟨A97, c98, A129, c130, g117, g127, henv.sub ⟨rfl, rfl, rfl, rfl, rfl, rfl, rfl, rfl, rfl, rfl, rfl, rfl, rfl, rfl, rfl, rfl, rfl, rfl, rfl, rfl, rfl, rfl, rfl, rfl, rfl, rfl, rfl, rfl, rfl, rfl, rfl, trivial⟩, hst.pick [0, 1, 2, 3, 4, 5, 6] [0, 1, 2, 3, 4, 5, 6, 7, 8, 9] (by decide)⟩
        · refine ⟨_, rfl, rfl, op_alloc (c := #[.bool (neg 0), .slice none (dl 0) 0]) henv hst rfl zero_anvil_anvilref02_Int rcells ?_⟩
          clear henv hst a; intro a w136 g135 henv hst
          refine ⟨.inr ⟨hst.kn.pick (rg 1 5) (rg 1 8), .inr (hst.kn.pick [] [])⟩, ?_⟩
          refine sAny_all (rs := [9, 10]) (by kernel_rfl) (by simp) ?_
          simp only [List.forall_mem_cons, List.not_mem_nil, false_implies, implies_true, and_true]
          refine ⟨?_, ?_⟩
          · refine ⟨_, rfl, rfl, op_call henv rfl Tryd.call20 rfl (make_rv (show U32 _ A2 n2 c2 xs2 from hst.pat (k := 6) rfl) hv2 (by omega)) ?_⟩
            rintro e w140 ⟨_, rfl, ⟨A137, c138, rfl, hz139⟩, hb⟩
            refine ⟨_, rfl, ?_⟩
            clear henv a; intro a henv
            replace hst := (hst.call hb).addR hz139 ⟨nou_bk rfl, nou_bk rfl, nou_bk rfl, nou_bk rfl, nou_bk rfl, nou_bk rfl, trivial⟩
            clear hz139
            clear hb
            refine ⟨.inr ⟨hst.kn.pick (rg 1 5) (rg 2 8), .inr (hst.kn.pick [] [])⟩, ?_⟩
            refine sAny_one (i := 10) (by kernel_rfl) rfl rfl (op_alloc (c := #[.bool (neg 0), .slice none (zl 0) 0]) henv hst rfl zero_anvil_integer_Int zcells ?_)
            clear henv hst a; intro a w142 g141 henv hst
            refine ⟨.inr ⟨hst.kn.pick (rg 2 5) (rg 2 8), .inr (hst.kn.pick [] [])⟩, ?_⟩
            refine sAny_one (i := 12) (by kernel_rfl) rfl rfl (op_store (k := 0) (c' := #[.bool (neg z2), .slice A97 (zl z2) c98]) henv hst (ty_anvil_integer_Int.size) rfl rfl rfl rfl (by simp) rfl rfl ?_)
            clear henv hst a; intro a w143 henv hst
            refine ⟨.inr ⟨hst.kn.pick (rg 2 5) (rg 2 8), .inl rfl⟩, ?_⟩
            refine sAny_one (i := 13) (by kernel_rfl) rfl rfl (op_store (k := 1) (c' := #[.bool (neg z2), .slice A137 (dl z2) c138]) henv hst (ty_anvil_anvilref02_Int.size) rfl rfl rfl rfl (by simp) rfl rfl ?_)
            clear henv hst a; intro a w144 henv hst
            refine ⟨.inr ⟨hst.kn.pick (rg 2 5) (rg 2 8), .inl rfl⟩, ?_⟩
            refine sAny_done (by kernel_rfl) ?_ _
            exact th_n ⟨A97, c98, A137, c138, g141, g135, henv.sub ⟨rfl, rfl, rfl, rfl, rfl, rfl, rfl, rfl, rfl, rfl, rfl, rfl, rfl, rfl, rfl, rfl, rfl, rfl, rfl, rfl, rfl, rfl, rfl, rfl, rfl, rfl, rfl, rfl, rfl, rfl, rfl, trivial⟩, hst.pick [1, 0, 2, 3, 4, 5, 6] [0, 1, 2, 3, 4, 5, 6, 7, 8, 9] (by decide)⟩
          · refine ⟨_, rfl, rfl, op_alloc (c := #[.bool (neg 0), .slice none (zl 0) 0]) henv hst rfl zero_anvil_integer_Int zcells ?_⟩
            clear henv hst a; intro a w146 g145 henv hst
            refine ⟨.inr ⟨hst.kn.pick (rg 2 5) (rg 1 8), .inr (hst.kn.pick [] [])⟩, ?_⟩
            refine sAny_one (i := 9) (by kernel_rfl) rfl rfl (op_call henv rfl Tryd.call20 rfl (make_rv (show U32 _ A2 n2 c2 xs2 from hst.pat (k := 6) rfl) hv2 (by omega)) ?_)
            rintro e w150 ⟨_, rfl, ⟨A147, c148, rfl, hz149⟩, hb⟩
            refine ⟨_, rfl, ?_⟩
            clear henv a; intro a henv
            replace hst := (hst.call hb).addR hz149 ⟨nou_bk rfl, nou_bk rfl, nou_bk rfl, nou_bk rfl, nou_bk rfl, nou_bk rfl, nou_bk rfl, trivial⟩
            clear hz149
            clear hb
            refine ⟨.inr ⟨hst.kn.pick (rg 2 5) (rg 2 8), .inr (hst.kn.pick [] [])⟩, ?_⟩
            refine sAny_one (i := 12) (by kernel_rfl) rfl rfl (op_store (k := 0) (c' := #[.bool (neg z2), .slice A97 (zl z2) c98]) henv hst (ty_anvil_integer_Int.size) rfl rfl rfl rfl (by simp) rfl rfl ?_)
            clear henv hst a; intro a w151 henv hst
            refine ⟨.inr ⟨hst.kn.pick (rg 2 5) (rg 2 8), .inl rfl⟩, ?_⟩
            refine sAny_one (i := 13) (by kernel_rfl) rfl rfl (op_store (k := 1) (c' := #[.bool (neg z2), .slice A147 (dl z2) c148]) henv hst (ty_anvil_anvilref02_Int.size) rfl rfl rfl rfl (by simp) rfl rfl ?_)
            clear henv hst a; intro a w152 henv hst
            refine ⟨.inr ⟨hst.kn.pick (rg 2 5) (rg 2 8), .inl rfl⟩, ?_⟩
            refine sAny_done (by kernel_rfl) ?_ _
            exact th_n ⟨A97, c98, A147, c148, g145, g135, henv.sub ⟨rfl, rfl, rfl, rfl, rfl, rfl, rfl, rfl, rfl, rfl, rfl, rfl, rfl, rfl, rfl, rfl, rfl, rfl, rfl, rfl, rfl, rfl, rfl, rfl, rfl, rfl, rfl, rfl, rfl, rfl, rfl, trivial⟩, hst.pick [1, 0, 2, 3, 4, 5, 6] [0, 1, 2, 3, 4, 5, 6, 7, 8, 9] (by decide)⟩
      · refine ⟨_, rfl, rfl, op_alloc (c := #[.bool (neg 0), .slice none (zl 0) 0]) henv hst rfl zero_anvil_integer_Int zcells ?_⟩
        clear henv hst a; intro a w154 g153 henv hst
        refine ⟨.inr ⟨hst.kn.pick (rg 1 5) (rg 0 8), .inr (hst.kn.pick [] [])⟩, ?_⟩
        refine sAny_all (rs := [4, 11]) (by kernel_rfl) (by simp) ?_
        simp only [List.forall_mem_cons, List.not_mem_nil, false_implies, implies_true, and_true]
        refine ⟨?_, ?_⟩
        · refine ⟨_, rfl, rfl, op_call henv rfl Tryd.call19 rfl (make_zv (show U32 _ A2 n2 c2 xs2 from hst.pat (k := 5) rfl) hv2 (by omega)) ?_⟩
          rintro e w158 ⟨_, rfl, ⟨A155, c156, rfl, hz157⟩, hb⟩
          refine ⟨_, rfl, ?_⟩
          clear henv a; intro a henv
          replace hst := (hst.call hb).addZ hz157 ⟨nou_bk rfl, nou_bk rfl, nou_bk rfl, nou_bk rfl, nou_bk rfl, nou_bk rfl, trivial⟩
          clear hz157
          clear hb
          refine ⟨.inr ⟨hst.kn.pick (rg 1 5) (rg 1 8), .inr (hst.kn.pick [] [])⟩, ?_⟩
          refine sAny_all (rs := [9, 11]) (by kernel_rfl) (by simp) ?_
          simp only [List.forall_mem_cons, List.not_mem_nil, false_implies, implies_true, and_true]
          refine ⟨?_, ?_⟩
          · refine ⟨_, rfl, rfl, op_call henv rfl Tryd.call20 rfl (make_rv (show U32 _ A2 n2 c2 xs2 from hst.pat (k := 6) rfl) hv2 (by omega)) ?_⟩
            rintro e w162 ⟨_, rfl, ⟨A159, c160, rfl, hz161⟩, hb⟩
            refine ⟨_, rfl, ?_⟩
            clear henv a; intro a henv
            replace hst := (hst.call hb).addR hz161 ⟨nou_bk rfl, nou_bk rfl, nou_bk rfl, nou_bk rfl, nou_bk rfl, nou_bk rfl, trivial⟩
            clear hz161
            clear hb
            refine ⟨.inr ⟨hst.kn.pick (rg 1 5) (rg 2 8), .inr (hst.kn.pick [] [])⟩, ?_⟩
            refine sAny_one (i := 11) (by kernel_rfl) rfl rfl (op_alloc (c := #[.bool (neg 0), .slice none (dl 0) 0]) henv hst rfl zero_anvil_anvilref02_Int rcells ?_)
            clear henv hst a; intro a w164 g163 henv hst
            refine ⟨.inr ⟨hst.kn.pick (rg 2 5) (rg 2 8), .inr (hst.kn.pick [] [])⟩, ?_⟩
            refine sAny_one (i := 12) (by kernel_rfl) rfl rfl (op_store (k := 1) (c' := #[.bool (neg z2), .slice A155 (zl z2) c156]) henv hst (ty_anvil_integer_Int.size) rfl rfl rfl rfl (by simp) rfl rfl ?_)
            clear henv hst a; intro a w165 henv hst
            refine ⟨.inr ⟨hst.kn.pick (rg 2 5) (rg 2 8), .inl rfl⟩, ?_⟩
            refine sAny_one (i := 13) (by kernel_rfl) rfl rfl (op_store (k := 0) (c' := #[.bool (neg z2), .slice A159 (dl z2) c160]) henv hst (ty_anvil_anvilref02_Int.size) rfl rfl rfl rfl (by simp) rfl rfl ?_)
            clear henv hst a; intro a w166 henv hst
            refine ⟨.inr ⟨hst.kn.pick (rg 2 5) (rg 2 8), .inl rfl⟩, ?_⟩
            refine sAny_done (by kernel_rfl) ?_ _
            exact th_n ⟨A155, c156, A159, c160, g153, g163, henv.sub ⟨rfl, rfl, rfl, rfl, rfl, rfl, rfl, rfl, rfl, rfl, rfl, rfl, rfl, rfl, rfl, rfl, rfl, rfl, rfl, rfl, rfl, rfl, rfl, rfl, rfl, rfl, rfl, rfl, rfl, rfl, rfl, trivial⟩, hst.pick [0, 1, 2, 3, 4, 5, 6] [0, 1, 2, 3, 4, 5, 6, 7, 8, 9] (by decide)⟩
          · refine ⟨_, rfl, rfl, op_alloc (c := #[.bool (neg 0), .slice none (dl 0) 0]) henv hst rfl zero_anvil_anvilref02_Int rcells ?_⟩
            clear henv hst a; intro a w168 g167 henv hst
            refine ⟨.inr ⟨hst.kn.pick (rg 2 5) (rg 1 8), .inr (hst.kn.pick [] [])⟩, ?_⟩
            refine sAny_one (i := 9) (by kernel_rfl) rfl rfl (op_call henv rfl Tryd.call20 rfl (make_rv (show U32 _ A2 n2 c2 xs2 from hst.pat (k := 6) rfl) hv2 (by omega)) ?_)
            rintro e w172 ⟨_, rfl, ⟨A169, c170, rfl, hz171⟩, hb⟩
            refine ⟨_, rfl, ?_⟩
            clear henv a; intro a henv
            replace hst := (hst.call hb).addR hz171 ⟨nou_bk rfl, nou_bk rfl, nou_bk rfl, nou_bk rfl, nou_bk rfl, nou_bk rfl, nou_bk rfl, trivial⟩
            clear hz171
            clear hb
            refine ⟨.inr ⟨hst.kn.pick (rg 2 5) (rg 2 8), .inr (hst.kn.pick [] [])⟩, ?_⟩
            refine sAny_one (i := 12) (by kernel_rfl) rfl rfl (op_store (k := 1) (c' := #[.bool (neg z2), .slice A155 (zl z2) c156]) henv hst (ty_anvil_integer_Int.size) rfl rfl rfl rfl (by simp) rfl rfl ?_)
            clear henv hst a; intro a w173 henv hst
            refine ⟨.inr ⟨hst.kn.pick (rg 2 5) (rg 2 8), .inl rfl⟩, ?_⟩
            refine sAny_one (i := 13) (by kernel_rfl) rfl rfl (op_store (k := 0) (c' := #[.bool (neg z2), .slice A169 (dl z2) c170]) henv hst (ty_anvil_anvilref02_Int.size) rfl rfl rfl rfl (by simp) rfl rfl ?_)
            clear henv hst a; intro a w174 henv hst
            refine ⟨.inr ⟨hst.kn.pick (rg 2 5) (rg 2 8), .inl rfl⟩, ?_⟩
            refine sAny_done (by kernel_rfl) ?_ _
            exact th_n ⟨A155, c156, A169, c170, g153, g167, henv.sub ⟨rfl, rfl, rfl, rfl, rfl, rfl, rfl, rfl, rfl, rfl, rfl, rfl, rfl, rfl, rfl, rfl, rfl, rfl, rfl, rfl, rfl, rfl, rfl, rfl, rfl, rfl, rfl, rfl, rfl, rfl, rfl, trivial⟩, hst.pick [0, 1, 2, 3, 4, 5, 6] [0, 1, 2, 3, 4, 5, 6, 7, 8, 9] (by decide)⟩
        · refine ⟨_, rfl, rfl, op_alloc (c := #[.bool (neg 0), .slice none (dl 0) 0]) henv hst rfl zero_anvil_anvilref02_Int rcells ?_⟩
          clear henv hst a; intro a w176 g175 henv hst
          refine ⟨.inr ⟨hst.kn.pick (rg 2 5) (rg 0 8), .inr (hst.kn.pick [] [])⟩, ?_⟩
          refine sAny_one (i := 4) (by kernel_rfl) rfl rfl (op_call henv rfl Tryd.call19 rfl (make_zv (show U32 _ A2 n2 c2 xs2 from hst.pat (k := 5) rfl) hv2 (by omega)) ?_)
          rintro e w180 ⟨_, rfl, ⟨A177, c178, rfl, hz179⟩, hb⟩
          refine ⟨_, rfl, ?_⟩
          clear henv a; intro a henv
          replace hst := (hst.call hb).addZ hz179 ⟨nou_bk rfl, nou_bk rfl, nou_bk rfl, nou_bk rfl, nou_bk rfl, nou_bk rfl, nou_bk rfl, trivial⟩
          clear hz179
          clear hb
          refine ⟨.inr ⟨hst.kn.pick (rg 2 5) (rg 1 8), .inr (hst.kn.pick [] [])⟩, ?_⟩
          refine sAny_one (i := 9) (by kernel_rfl) rfl rfl (op_call henv rfl Tryd.call20 rfl (make_rv (show U32 _ A2 n2 c2 xs2 from hst.pat (k := 6) rfl) hv2 (by omega)) ?_)
          rintro e w184 ⟨_, rfl, ⟨A181, c182, rfl, hz183⟩, hb⟩
          refine ⟨_, rfl, ?_⟩
          clear henv a; intro a henv
          replace hst := (hst.call hb).addR hz183 ⟨nou_bk rfl, nou_bk rfl, nou_bk rfl, nou_bk rfl, nou_bk rfl, nou_bk rfl, nou_bk rfl, trivial⟩
          clear hz183
          clear hb
          refine ⟨.inr ⟨hst.kn.pick (rg 2 5) (rg 2 8), .inr (hst.kn.pick [] [])⟩, ?_⟩
          refine sAny_one (i := 12) (by kernel_rfl) rfl rfl (op_store (k := 1) (c' := #[.bool (neg z2), .slice A177 (zl z2) c178]) henv hst (ty_anvil_integer_Int.size) rfl rfl rfl rfl (by simp) rfl rfl ?_)
          clear henv hst a; intro a w185 henv hst
          refine ⟨.inr ⟨hst.kn.pick (rg 2 5) (rg 2 8), .inl rfl⟩, ?_⟩
          refine sAny_one (i := 13) (by kernel_rfl) rfl rfl (op_store (k := 0) (c' := #[.bool (neg z2), .slice A181 (dl z2) c182]) henv hst (ty_anvil_anvilref02_Int.size) rfl rfl rfl rfl (by simp) rfl rfl ?_)
          clear henv hst a; intro a w186 henv hst
          refine ⟨.inr ⟨hst.kn.pick (rg 2 5) (rg 2 8), .inl rfl⟩, ?_⟩
          refine sAny_done (by kernel_rfl) ?_ _
          exact th_n ⟨A177, c178, A181, c182, g153, g175, henv.sub ⟨rfl, rfl, rfl, rfl, rfl, rfl, rfl, rfl, rfl, rfl, rfl, rfl, rfl, rfl, rfl, rfl, rfl, rfl, rfl, rfl, rfl, rfl, rfl, rfl, rfl, rfl, rfl, rfl, rfl, rfl, rfl, trivial⟩, hst.pick [0, 1, 2, 3, 4, 5, 6] [0, 1, 2, 3, 4, 5, 6, 7, 8, 9] (by decide)⟩
      · refine ⟨_, rfl, rfl, op_alloc (c := #[.bool (neg 0), .slice none (dl 0) 0]) henv hst rfl zero_anvil_anvilref02_Int rcells ?_⟩
        clear henv hst a; intro a w188 g187 henv hst
        refine ⟨.inr ⟨hst.kn.pick (rg 1 5) (rg 0 8), .inr (hst.kn.pick [] [])⟩, ?_⟩
        refine sAny_all (rs := [4, 10]) (by kernel_rfl) (by simp) ?_
        simp only [List.forall_mem_cons, List.not_mem_nil, false_implies, implies_true, and_true]
        refine ⟨?_, ?_⟩
        · refine ⟨_, rfl, rfl, op_call henv rfl Tryd.call19 rfl (make_zv (show U32 _ A2 n2 c2 xs2 from hst.pat (k := 5) rfl) hv2 (by omega)) ?_⟩
          rintro e w192 ⟨_, rfl, ⟨A189, c190, rfl, hz191⟩, hb⟩
          refine ⟨_, rfl, ?_⟩
          clear henv a; intro a henv
          replace hst := (hst.call hb).addZ hz191 ⟨nou_bk rfl, nou_bk rfl, nou_bk rfl, nou_bk rfl, nou_bk rfl, nou_bk rfl, trivial⟩
          clear hz191
          clear hb
          refine ⟨.inr ⟨hst.kn.pick (rg 1 5) (rg 1 8), .inr (hst.kn.pick [] [])⟩, ?_⟩
          refine sAny_all (rs := [9, 10]) (by kernel_rfl) (by simp) ?_
          simp only [List.forall_mem_cons, List.not_mem_nil, false_implies, implies_true, and_true]
          refine ⟨?_, ?_⟩
          · refine ⟨_, rfl, rfl, op_call henv rfl Tryd.call20 rfl (make_rv (show U32 _ A2 n2 c2 xs2 from hst.pat (k := 6) rfl) hv2 (by omega)) ?_⟩
            rintro e w196 ⟨_, rfl, ⟨A193, c194, rfl, hz195⟩, hb⟩
            refine ⟨_, rfl, ?_⟩
            clear henv a; intro a henv
            replace hst := (hst.call hb).addR hz195 ⟨nou_bk rfl, nou_bk rfl, nou_bk rfl, nou_bk rfl, nou_bk rfl, nou_bk rfl, trivial⟩
            clear hz195
            clear hb
            refine ⟨.inr ⟨hst.kn.pick (rg 1 5) (rg 2 8), .inr (hst.kn.pick [] [])⟩, ?_⟩
            refine sAny_one (i := 10) (by kernel_rfl) rfl rfl (op_alloc (c := #[.bool (neg 0), .slice none (zl 0) 0]) henv hst rfl zero_anvil_integer_Int zcells ?_)
            clear henv hst a; intro a w198 g197 henv hst
            refine ⟨.inr ⟨hst.kn.pick (rg 2 5) (rg 2 8), .inr (hst.kn.pick [] [])⟩, ?_⟩
            refine sAny_one (i := 12) (by kernel_rfl) rfl rfl (op_store (k := 0) (c' := #[.bool (neg z2), .slice A189 (zl z2) c190]) henv hst (ty_anvil_integer_Int.size) rfl rfl rfl rfl (by simp) rfl rfl ?_)
            clear henv hst a; intro a w199 henv hst
            refine ⟨.inr ⟨hst.kn.pick (rg 2 5) (rg 2 8), .inl rfl⟩, ?_⟩
            refine sAny_one (i := 13) (by kernel_rfl) rfl rfl (op_store (k := 1) (c' := #[.bool (neg z2), .slice A193 (dl z2) c194]) henv hst (ty_anvil_anvilref02_Int.size) rfl rfl rfl rfl (by simp) rfl rfl ?_)
            clear henv hst a; intro a w200 henv hst
            refine ⟨.inr ⟨hst.kn.pick (rg 2 5) (rg 2 8), .inl rfl⟩, ?_⟩
            refine sAny_done (by kernel_rfl) ?_ _
            exact th_n ⟨A189, c190, A193, c194, g197, g187, henv.sub ⟨rfl, rfl, rfl, rfl, rfl, rfl, rfl, rfl, rfl, rfl, rfl, rfl, rfl, rfl, rfl, rfl, rfl, rfl, rfl, rfl, rfl, rfl, rfl, rfl, rfl, rfl, rfl, rfl, rfl, rfl, rfl, trivial⟩, hst.pick [1, 0, 2, 3, 4, 5, 6] [0, 1, 2, 3, 4, 5, 6, 7, 8, 9] (by decide)⟩
          · refine ⟨_, rfl, rfl, op_alloc (c := #[.bool (neg 0), .slice none (zl 0) 0]) henv hst rfl zero_anvil_integer_Int zcells ?_⟩
            clear henv hst a; intro a w202 g201 henv hst
            refine ⟨.inr ⟨hst.kn.pick (rg 2 5) (rg 1 8), .inr (hst.kn.pick [] [])⟩, ?_⟩
            refine sAny_one (i := 9) (by kernel_rfl) rfl rfl (op_call henv rfl Tryd.call20 rfl (make_rv (show U32 _ A2 n2 c2 xs2 from hst.pat (k := 6) rfl) hv2 (by omega)) ?_)
            rintro e w206 ⟨_, rfl, ⟨A203, c204, rfl, hz205⟩, hb⟩
            refine ⟨_, rfl, ?_⟩
            clear henv a; intro a henv
            replace hst := (hst.call hb).addR hz205 ⟨nou_bk rfl, nou_bk rfl, nou_bk rfl, nou_bk rfl, nou_bk rfl, nou_bk rfl, nou_bk rfl, trivial⟩
            clear hz205
            clear hb
            refine ⟨.inr ⟨hst.kn.pick (rg 2 5) (rg 2 8), .inr (hst.kn.pick [] [])⟩, ?_⟩
            refine sAny_one (i := 12) (by kernel_rfl) rfl rfl (op_store (k := 0) (c' := #[.bool (neg z2), .slice A189 (zl z2) c190]) henv hst (ty_anvil_integer_Int.size) rfl rfl rfl rfl (by simp) rfl rfl ?_)
            clear henv hst a; intro a w207 henv hst
            refine ⟨.inr ⟨hst.kn.pick (rg 2 5) (rg 2 8), .inl rfl⟩, ?_⟩
            refine sAny_one (i := 13) (by kernel_rfl) rfl rfl (op_store (k := 1) (c' := #[.bool (neg z2), .slice A203 (dl z2) c204]) henv hst (ty_anvil_anvilref02_Int.size) rfl rfl rfl rfl (by simp) rfl rfl ?_)
            clear henv hst a; intro a w208 henv hst
            refine ⟨.inr ⟨hst.kn.pick (rg 2 5) (rg 2 8), .inl rfl⟩, ?_⟩
            refine sAny_done (by kernel_rfl) ?_ _
            exact th_n ⟨A189, c190, A203, c204, g201, g187, henv.sub ⟨rfl, rfl, rfl, rfl, rfl, rfl, rfl, rfl, rfl, rfl, rfl, rfl, rfl, rfl, rfl, rfl, rfl, rfl, rfl, rfl, rfl, rfl, rfl, rfl, rfl, rfl, rfl, rfl, rfl, rfl, rfl, trivial⟩, hst.pick [1, 0, 2, 3, 4, 5, 6] [0, 1, 2, 3, 4, 5, 6, 7, 8, 9] (by decide)⟩
        · refine ⟨_, rfl, rfl, op_alloc (c := #[.bool (neg 0), .slice none (zl 0) 0]) henv hst rfl zero_anvil_integer_Int zcells ?_⟩
          clear henv hst a; intro a w210 g209 henv hst
          refine ⟨.inr ⟨hst.kn.pick (rg 2 5) (rg 0 8), .inr (hst.kn.pick [] [])⟩, ?_⟩
          refine sAny_one (i := 4) (by kernel_rfl) rfl rfl (op_call henv rfl Tryd.call19 rfl (make_zv (show U32 _ A2 n2 c2 xs2 from hst.pat (k := 5) rfl) hv2 (by omega)) ?_)
          rintro e w214 ⟨_, rfl, ⟨A211, c212, rfl, hz213⟩, hb⟩
          refine ⟨_, rfl, ?_⟩
          clear henv a; intro a henv
          replace hst := (hst.call hb).addZ hz213 ⟨nou_bk rfl, nou_bk rfl, nou_bk rfl, nou_bk rfl, nou_bk rfl, nou_bk rfl, nou_bk rfl, trivial⟩
          clear hz213
          clear hb
          refine ⟨.inr ⟨hst.kn.pick (rg 2 5) (rg 1 8), .inr (hst.kn.pick [] [])⟩, ?_⟩
          refine sAny_one (i := 9) (by kernel_rfl) rfl rfl (op_call henv rfl Tryd.call20 rfl (make_rv (show U32 _ A2 n2 c2 xs2 from hst.pat (k := 6) rfl) hv2 (by omega)) ?_)
          rintro e w218 ⟨_, rfl, ⟨A215, c216, rfl, hz217⟩, hb⟩
          refine ⟨_, rfl, ?_⟩
          clear henv a; intro a henv
          replace hst := (hst.call hb).addR hz217 ⟨nou_bk rfl, nou_bk rfl, nou_bk rfl, nou_bk rfl, nou_bk rfl, nou_bk rfl, nou_bk rfl, trivial⟩
          clear hz217
          clear hb
          refine ⟨.inr ⟨hst.kn.pick (rg 2 5) (rg 2 8), .inr (hst.kn.pick [] [])⟩, ?_⟩
          refine sAny_one (i := 12) (by kernel_rfl) rfl rfl (op_store (k := 0) (c' := #[.bool (neg z2), .slice A211 (zl z2) c212]) henv hst (ty_anvil_integer_Int.size) rfl rfl rfl rfl (by simp) rfl rfl ?_)
          clear henv hst a; intro a w219 henv hst
          refine ⟨.inr ⟨hst.kn.pick (rg 2 5) (rg 2 8), .inl rfl⟩, ?_⟩
          refine sAny_one (i := 13) (by kernel_rfl) rfl rfl (op_store (k := 1) (c' := #[.bool (neg z2), .slice A215 (dl z2) c216]) henv hst (ty_anvil_anvilref02_Int.size) rfl rfl rfl rfl (by simp) rfl rfl ?_)
          clear henv hst a; intro a w220 henv hst
          refine ⟨.inr ⟨hst.kn.pick (rg 2 5) (rg 2 8), .inl rfl⟩, ?_⟩
          refine sAny_done (by kernel_rfl) ?_ _
          exact th_n ⟨A211, c212, A215, c216, g209, g187, henv.sub ⟨rfl, rfl, rfl, rfl, rfl, rfl, rfl, rfl, rfl, rfl, rfl, rfl, rfl, rfl, rfl, rfl, rfl, rfl, rfl, rfl, rfl, rfl, rfl, rfl, rfl, rfl, rfl, rfl, rfl, rfl, rfl, trivial⟩, hst.pick [1, 0, 2, 3, 4, 5, 6] [0, 1, 2, 3, 4, 5, 6, 7, 8, 9] (by decide)⟩
    clear henv hst a
    rintro a w221 ⟨A97, c98, A101, c102, g105, g107, henv, hst⟩
    refine wp_seq ?_
    refine cut (fun a w => ∃ A223 : Option Addr, ∃ c224 : Nat, ∃ A227 : Option Addr, ∃ c228 : Nat, ∃ g231 : Nat, ∃ g233 : Nat, Env 238 a [(0, .agg #[.slice A0 n0 c0, .slice A1 n1 c1, .bool b2, .slice A2 n2 c2, .bool b3, .slice A3 n3 c3]), (2, .bool false), (25, .bool true), (26, .bool false), (5, .pointer (some ⟨g55, 0, none⟩)), (6, .pointer (some ⟨g57, 0, none⟩)), (3, .slice A0 n0 c0), (4, .slice A1 n1 c1), (35, .slice A0 n0 c0), (36, .slice A1 n1 c1), (37, .agg #[.bool b2, .slice A2 n2 c2]), (38, .agg #[.bool b3, .slice A3 n3 c3]), (39, .slice (some ⟨g68, 0, none⟩) 2 2), (40, .slice (some ⟨g70, 0, none⟩) 3 3), (41, .bool bl), (43, .slice A0 n0 c0), (44, .tuple #[.slice A74 n0 c75, .slice A79 n0 c80]), (42, .tuple #[.slice A74 n0 c75, .slice A79 n0 c80]), (45, .slice A74 n0 c75), (46, .slice A79 n0 c80), (7, .slice A74 n0 c75), (8, .slice A79 n0 c80), (48, .slice A1 n1 c1), (49, .tuple #[.slice A85 n1 c86, .slice A90 n1 c91]), (47, .tuple #[.slice A85 n1 c86, .slice A90 n1 c91]), (50, .slice A85 n1 c86), (51, .slice A90 n1 c91), (9, .slice A85 n1 c86), (10, .slice A90 n1 c91), (11, .pointer (some ⟨g105, 0, none⟩)), (12, .pointer (some ⟨g107, 0, none⟩)), (13, .pointer (some ⟨g231, 0, none⟩)), (14, .pointer (some ⟨g233, 0, none⟩))] ∧ St w0 w [bk g233 #[.bool (neg z3), .slice A227 (dl z3) c228] 39, bk g231 #[.bool (neg z3), .slice A223 (zl z3) c224] 36, bk g107 #[.bool (neg z2), .slice A101 (dl z2) c102] 39, bk g105 #[.bool (neg z2), .slice A97 (zl z2) c98] 36, bk g70 #[.slice A0 n0 c0, .slice A1 n1 c1, .slice (some ⟨g68, 0, none⟩) 2 2] 22, bk g68 #[.bool b2, .slice A2 n2 c2, .bool b3, .slice A3 n3 c3] 25, bk g57 #[.bool b3, .slice A3 n3 c3] 25, bk g55 #[.bool b2, .slice A2 n2 c2] 25, bk g51 #[.slice A0 n0 c0, .slice A1 n1 c1, .bool b2, .slice A2 n2 c2, .bool b3, .slice A3 n3 c3] 27] [pfR A227 c228 z3, pfZ A223 c224 z3, pfR A101 c102 z2, pfZ A97 c98 z2, pfRow fM FM 2 A90 n1 c91 es92, pfRow fN FN 2 A85 n1 c86 es87, pfRow fM FM 2 A79 n0 c80 es81, pfRow fN FN 2 A74 n0 c75 es76, pfU A3 n3 c3 xs3, pfU A2 n2 c2 xs2, pfRow fU FU 2 A1 n1 c1 es1, pfRow fU FU 2 A0 n0 c0 es0]) ?_ ?_
    · refine region_any (n := 14) (Sk [bk g107 #[.bool (neg z2), .slice A101 (dl z2) c102] 39, bk g105 #[.bool (neg z2), .slice A97 (zl z2) c98] 36, bk g70 #[.slice A0 n0 c0, .slice A1 n1 c1, .slice (some ⟨g68, 0, none⟩) 2 2] 22, bk g68 #[.bool b2, .slice A2 n2 c2, .bool b3, .slice A3 n3 c3] 25, bk g57 #[.bool b3, .slice A3 n3 c3] 25, bk g55 #[.bool b2, .slice A2 n2 c2] 25, bk g51 #[.slice A0 n0 c0, .slice A1 n1 c1, .bool b2, .slice A2 n2 c2, .bool b3, .slice A3 n3 c3] 27] [pfR A101 c102 z2, pfZ A97 c98 z2, pfRow fM FM 2 A90 n1 c91 es92, pfRow fN FN 2 A85 n1 c86 es87, pfRow fM FM 2 A79 n0 c80 es81, pfRow fN FN 2 A74 n0 c75 es76, pfU A3 n3 c3 xs3, pfU A2 n2 c2 xs2, pfRow fU FU 2 A1 n1 c1 es1, pfRow fU FU 2 A0 n0 c0 es0] [12, 13] []) mixed rfl henv hst ?_
      clear henv hst; intro w222 henv hst
      refine tA (i := 0) [1, 4, 9, 12, 13] (v := .pointer (some ⟨g57, 0, none⟩)) rfl (by kernel_rfl) (fun _ _ _ h => h) henv rfl (fun _ => rn_fieldAddr henv fd_anvil_anvillaw04_Num_0 (ty_bool.size) (by decide) rfl) ?_
      clear henv a; intro a henv
      refine sAny_take (i := 1) [4, 9, 12, 13] (fun w' => w'.heap[g57]? = some (.cells #[.bool b3, .slice A3 n3 c3] 25 (0, 0))) (v := .bool b3) rfl (by kernel_rfl) (fun _ _ _ h => h) (fun _ _ _ hS => hS.1.oat (k := 4) rfl) henv rfl (hst.oat (k := 4) rfl) (fun w' hg => rn_load1 henv ty_bool rfl hg rfl) ?_
      clear henv a; intro a henv
      refine tA (i := 2) [3, 4, 9, 12, 13] (v := .pointer (some ⟨g57, 1, none⟩)) rfl (by kernel_rfl) (fun _ _ _ h => h) henv rfl (fun _ => rn_fieldAddr henv fd_anvil_anvillaw04_Num_1 (ty__uint32.size) (by decide) rfl) ?_
      clear henv a; intro a henv
      refine sAny_take (i := 3) [4, 9, 12, 13] (fun w' => w'.heap[g57]? = some (.cells #[.bool b3, .slice A3 n3 c3] 25 (0, 0))) (v := .slice A3 n3 c3) rfl (by kernel_rfl) (fun _ _ _ h => h) (fun _ _ _ hS => hS.1.oat (k := 4) rfl) henv rfl (hst.oat (k := 4) rfl) (fun w' hg => rn_load1 henv ty__uint32 rfl hg rfl) ?_
      clear henv a; intro a henv
      refine tA (i := 5) [6, 9, 12, 13] (v := .pointer (some ⟨g57, 0, none⟩)) rfl (by kernel_rfl) (fun _ _ _ h => h) henv rfl (fun _ => rn_fieldAddr henv fd_anvil_anvillaw04_Num_0 (ty_bool.size) (by decide) rfl) ?_
      clear henv a; intro a henv
      refine sAny_take (i := 6) [9, 12, 13] (fun w' => w'.heap[g57]? = some (.cells #[.bool b3, .slice A3 n3 c3] 25 (0, 0))) (v := .bool b3) rfl (by kernel_rfl) (fun _ _ _ h => h) (fun _ _ _ hS => hS.1.oat (k := 4) rfl) henv rfl (hst.oat (k := 4) rfl) (fun w' hg => rn_load1 henv ty_bool rfl hg rfl) ?_
      clear henv a; intro a henv
      refine tA (i := 7) [8, 9, 12, 13] (v := .pointer (some ⟨g57, 1, none⟩)) rfl (by kernel_rfl) (fun _ _ _ h => h) henv rfl (fun _ => rn_fieldAddr henv fd_anvil_anvillaw04_Num_1 (ty__uint32.size) (by decide) rfl) ?_
      clear henv a; intro a henv
      refine sAny_take (i := 8) [9, 12, 13] (fun w' => w'.heap[g57]? = some (.cells #[.bool b3, .slice A3 n3 c3] 25 (0, 0))) (v := .slice A3 n3 c3) rfl (by kernel_rfl) (fun _ _ _ h => h) (fun _ _ _ hS => hS.1.oat (k := 4) rfl) henv rfl (hst.oat (k := 4) rfl) (fun w' hg => rn_load1 henv ty__uint32 rfl hg rfl) ?_
      clear henv a; intro a henv
      refine sAny_all (rs := [4, 10, 11]) (by kernel_rfl) (by simp) ?_
      simp only [List.forall_mem_cons, List.not_mem_nil, false_implies, implies_true, and_true]
      refine ⟨?_, ?_, ?_⟩
      · refine ⟨_, rfl, rfl, op_call henv rfl Tryd.call19 rfl (make_zv (show U32 _ A3 n3 c3 xs3 from hst.pat (k := 6) rfl) hv3 (by omega)) ?_⟩
        rintro e w226 ⟨_, rfl, ⟨A223, c224, rfl, hz225⟩, hb⟩
        refine ⟨_, rfl, ?_⟩
        clear henv a; intro a henv
        replace hst := (hst.call hb).addZ hz225 ⟨nou_bk rfl, nou_bk rfl, nou_bk rfl, nou_bk rfl, nou_bk rfl, nou_bk rfl, nou_bk rfl, trivial⟩
        clear hz225
        clear hb
        refine ⟨.inr ⟨hst.kn.pick (rg 0 7) (rg 1 10), .inr (hst.kn.pick [] [])⟩, ?_⟩
        refine sAny_all (rs := [9, 10, 11]) (by kernel_rfl) (by simp) ?_
        simp only [List.forall_mem_cons, List.not_mem_nil, false_implies, implies_true, and_true]
        refine ⟨?_, ?_, ?_⟩
        · refine ⟨_, rfl, rfl, op_call henv rfl Tryd.call20 rfl (make_rv (show U32 _ A3 n3 c3 xs3 from hst.pat (k := 7) rfl) hv3 (by omega)) ?_⟩
          rintro e w230 ⟨_, rfl, ⟨A227, c228, rfl, hz229⟩, hb⟩
          refine ⟨_, rfl, ?_⟩
          clear henv a; intro a henv
          replace hst := (hst.call hb).addR hz229 ⟨nou_bk rfl, nou_bk rfl, nou_bk rfl, nou_bk rfl, nou_bk rfl, nou_bk rfl, nou_bk rfl, trivial⟩
          clear hz229
          clear hb
          refine ⟨.inr ⟨hst.kn.pick (rg 0 7) (rg 2 10), .inr (hst.kn.pick [] [])⟩, ?_⟩
          refine sAny_all (rs := [10, 11]) (by kernel_rfl) (by simp) ?_
          simp only [List.forall_mem_cons, List.not_mem_nil, false_implies, implies_true, and_true]
          refine ⟨?_, ?_⟩
          · refine ⟨_, rfl, rfl, op_alloc (c := #[.bool (neg 0), .slice none (zl 0) 0]) henv hst rfl zero_anvil_integer_Int zcells ?_⟩
            clear henv hst a; intro a w232 g231 henv hst
            refine ⟨.inr ⟨hst.kn.pick (rg 1 7) (rg 2 10), .inr (hst.kn.pick [] [])⟩, ?_⟩
            refine sAny_one (i := 11) (by kernel_rfl) rfl rfl (op_alloc (c := #[.bool (neg 0), .slice none (dl 0) 0]) henv hst rfl zero_anvil_anvilref02_Int rcells ?_)
            clear henv hst a; intro a w234 g233 henv hst
            refine ⟨.inr ⟨hst.kn.pick (rg 2 7) (rg 2 10), .inr (hst.kn.pick [] [])⟩, ?_⟩
            refine sAny_one (i := 12) (by kernel_rfl) rfl rfl (op_store (k := 1) (c' := #[.bool (neg z3), .slice A223 (zl z3) c224]) henv hst (ty_anvil_integer_Int.size) rfl rfl rfl rfl (by simp) rfl rfl ?_)
            clear henv hst a; intro a w235 henv hst
            refine ⟨.inr ⟨hst.kn.pick (rg 2 7) (rg 2 10), .inl rfl⟩, ?_⟩
            refine sAny_one (i := 13) (by kernel_rfl) rfl rfl (op_store (k := 0) (c' := #[.bool (neg z3), .slice A227 (dl z3) c228]) henv hst (ty_anvil_anvilref02_Int.size) rfl rfl rfl rfl (by simp) rfl rfl ?_)
            clear henv hst a; intro a w236 henv hst
            refine ⟨.inr ⟨hst.kn.pick (rg 2 7) (rg 2 10), .inl rfl⟩, ?_⟩
            refine sAny_done (by kernel_rfl) ?_ _
            exact th_n ⟨A223, c224, A227, c228, g231, g233, henv.sub ⟨rfl, rfl, rfl, rfl, rfl, rfl, rfl, rfl, rfl, rfl, rfl, rfl, rfl, rfl, rfl, rfl, rfl, rfl, rfl, rfl, rfl, rfl, rfl, rfl, rfl, rfl, rfl, rfl, rfl, rfl, rfl, rfl, rfl, trivial⟩, hst.pick [0, 1, 2, 3, 4, 5, 6, 7, 8] [0, 1, 2, 3, 4, 5, 6, 7, 8, 9, 10, 11] (by decide)⟩
          · refine ⟨_, rfl, rfl, op_alloc (c := #[.bool (neg 0), .slice none (dl 0) 0]) henv hst rfl zero_anvil_anvilref02_Int rcells ?_⟩
            clear henv hst a; intro a w238 g237 henv hst
            refine ⟨.inr ⟨hst.kn.pick (rg 1 7) (rg 2 10), .inr (hst.kn.pick [] [])⟩, ?_⟩
            refine sAny_one (i := 10) (by kernel_rfl) rfl rfl (op_alloc (c := #[.bool (neg 0), .slice none (zl 0) 0]) henv hst rfl zero_anvil_integer_Int zcells ?_)
            clear henv hst a; intro a w240 g239 henv hst
            refine ⟨.inr ⟨hst.kn.pick (rg 2 7) (rg 2 10), .inr (hst.kn.pick [] [])⟩, ?_⟩
            refine sAny_one (i := 12) (by kernel_rfl) rfl rfl (op_store (k := 0) (c' := #[.bool (neg z3), .slice A223 (zl z3) c224]) henv hst (ty_anvil_integer_Int.size) rfl rfl rfl rfl (by simp) rfl rfl ?_)
            clear henv hst a; intro a w241 henv hst
            refine ⟨.inr ⟨hst.kn.pick (rg 2 7) (rg 2 10), .inl rfl⟩, ?_⟩
            refine sAny_one (i := 13) (by kernel_rfl) rfl rfl (op_store (k := 1) (c' := #[.bool (neg z3), .slice A227 (dl z3) c228]) henv hst (ty_anvil_anvilref02_Int.size) rfl rfl rfl rfl (by simp) rfl rfl ?_)
            clear henv hst a; intro a w242 henv hst
            refine ⟨.inr ⟨hst.kn.pick (rg 2 7) (rg 2 10), .inl rfl⟩, ?_⟩
            refine sAny_done (by kernel_rfl) ?_ _
            exact th_n ⟨A223, c224, A227, c228, g239, g237, henv.sub ⟨rfl, rfl, rfl, rfl, rfl, rfl, rfl, rfl, rfl, rfl, rfl, rfl, rfl, rfl, rfl, rfl, rfl, rfl, rfl, rfl, rfl, rfl, rfl, rfl, rfl, rfl, rfl, rfl, rfl, rfl, rfl, rfl, rfl, trivial⟩, hst.pick [1, 0, 2, 3, 4, 5, 6, 7, 8] [0, 1, 2, 3, 4, 5, 6, 7, 8, 9, 10, 11] (by decide)⟩
        · refine ⟨_, rfl, rfl, op_alloc (c := #[.bool (neg 0), .slice none (zl 0) 0]) henv hst rfl zero_anvil_integer_Int zcells ?_⟩
          clear henv hst a; intro a w244 g243 henv hst
          refine ⟨.inr ⟨hst.kn.pick (rg 1 7) (rg 1 10), .inr (hst.kn.pick [] [])⟩, ?_⟩
          refine sAny_all (rs := [9, 11]) (by kernel_rfl) (by simp) ?_
          simp only [List.forall_mem_cons, List.not_mem_nil, false_implies, implies_true, and_true]
          refine ⟨?_, ?_⟩
          · refine ⟨_, rfl, rfl, op_call henv rfl Tryd.call20 rfl (make_rv (show U32 _ A3 n3 c3 xs3 from hst.pat (k := 7) rfl) hv3 (by omega)) ?_⟩
            rintro e w248 ⟨_, rfl, ⟨A245, c246, rfl, hz247⟩, hb⟩
            refine ⟨_, rfl, ?_⟩
            clear henv a; intro a henv
            replace hst := (hst.call hb).addR hz247 ⟨nou_bk rfl, nou_bk rfl, nou_bk rfl, nou_bk rfl, nou_bk rfl, nou_bk rfl, nou_bk rfl, nou_bk rfl, trivial⟩
            clear hz247
            clear hb
            refine ⟨.inr ⟨hst.kn.pick (rg 1 7) (rg 2 10), .inr (hst.kn.pick [] [])⟩, ?_⟩
            refine sAny_one (i := 11) (by kernel_rfl) rfl rfl (op_alloc (c := #[.bool (neg 0), .slice none (dl 0) 0]) henv hst rfl zero_anvil_anvilref02_Int rcells ?_)
            clear henv hst a; intro a w250 g249 henv hst
            refine ⟨.inr ⟨hst.kn.pick (rg 2 7) (rg 2 10), .inr (hst.kn.pick [] [])⟩, ?_⟩
            refine sAny_one (i := 12) (by kernel_rfl) rfl rfl (op_store (k := 1) (c' := #[.bool (neg z3), .slice A223 (zl z3) c224]) henv hst (ty_anvil_integer_Int.size) rfl rfl rfl rfl (by simp) rfl rfl ?_)
            clear henv hst a; intro a w251 henv hst
            refine ⟨.inr ⟨hst.kn.pick (rg 2 7) (rg 2 10), .inl rfl⟩, ?_⟩
            refine sAny_one (i := 13) (by kernel_rfl) rfl rfl (op_store (k := 0) (c' := #[.bool (neg z3), .slice A245 (dl z3) c246]) henv hst (ty_anvil_anvilref02_Int.size) rfl rfl rfl rfl (by simp) rfl rfl ?_)
            clear henv hst a; intro a w252 henv hst
            refine ⟨.inr ⟨hst.kn.pick (rg 2 7) (rg 2 10), .inl rfl⟩, ?_⟩
            refine sAny_done (by kernel_rfl) ?_ _
            exact th_n ⟨A223, c224, A245, c246, g243, g249, henv.sub ⟨rfl, rfl, rfl, rfl, rfl, rfl, rfl, rfl, rfl, rfl, rfl, rfl, rfl, rfl, rfl, rfl, rfl, rfl, rfl, rfl, rfl, rfl, rfl, rfl, rfl, rfl, rfl, rfl, rfl, rfl, rfl, rfl, rfl, trivial⟩, hst.pick [0, 1, 2, 3, 4, 5, 6, 7, 8] [0, 1, 2, 3, 4, 5, 6, 7, 8, 9, 10, 11] (by decide)⟩
          · refine ⟨_, rfl, rfl, op_alloc (c := #[.bool (neg 0), .slice none (dl 0) 0]) henv hst rfl zero_anvil_anvilref02_Int rcells ?_⟩
            clear henv hst a; intro a w254 g253 henv hst
            refine ⟨.inr ⟨hst.kn.pick (rg 2 7) (rg 1 10), .inr (hst.kn.pick [] [])⟩, ?_⟩
            refine sAny_one (i := 9) (by kernel_rfl) rfl rfl (op_call henv rfl Tryd.call20 rfl (make_rv (show U32 _ A3 n3 c3 xs3 from hst.pat (k := 7) rfl) hv3 (by omega)) ?_)
            rintro e w258 ⟨_, rfl, ⟨A255, c256, rfl, hz257⟩, hb⟩
            refine ⟨_, rfl, ?_⟩
            clear henv a; intro a henv
            replace hst := (hst.call hb).addR hz257 ⟨nou_bk rfl, nou_bk rfl, nou_bk rfl, nou_bk rfl, nou_bk rfl, nou_bk rfl, nou_bk rfl, nou_bk rfl, nou_bk rfl, trivial⟩
            clear hz257
            clear hb
            refine ⟨.inr ⟨hst.kn.pick (rg 2 7) (rg 2 10), .inr (hst.kn.pick [] [])⟩, ?_⟩
            refine sAny_one (i := 12) (by kernel_rfl) rfl rfl (op_store (k := 1) (c' := #[.bool (neg z3), .slice A223 (zl z3) c224]) henv hst (ty_anvil_integer_Int.size) rfl rfl rfl rfl (by simp) rfl rfl ?_)
            clear henv hst a; intro a w259 henv hst
            refine ⟨.inr ⟨hst.kn.pick (rg 2 7) (rg 2 10), .inl rfl⟩, ?_⟩
            refine sAny_one (i := 13) (by kernel_rfl) rfl rfl (op_store (k := 0) (c' := #[.bool (neg z3), .slice A255 (dl z3) c256]) henv hst (ty_anvil_anvilref02_Int.size) rfl rfl rfl rfl (by simp) rfl rfl ?_)
            clear henv hst a; intro a w260 henv hst
            refine ⟨.inr ⟨hst.kn.pick (rg 2 7) (rg 2 10), .inl rfl⟩, ?_⟩
            refine sAny_done (by kernel_rfl) ?_ _
            exact th_n ⟨A223, c224, A255, c256, g243, g253, henv.sub ⟨rfl, rfl, rfl, rfl, rfl, rfl, rfl, rfl, rfl, rfl, rfl, rfl, rfl, rfl, rfl, rfl, rfl, rfl, rfl, rfl, rfl, rfl, rfl, rfl, rfl, rfl, rfl, rfl, rfl, rfl, rfl, rfl, rfl, trivial⟩, hst.pick [0, 1, 2, 3, 4, 5, 6, 7, 8] [0, 1, 2, 3, 4, 5, 6, 7, 8, 9, 10, 11] (by decide)⟩
        · refine ⟨_, rfl, rfl, op_alloc (c := #[.bool (neg 0), .slice none (dl 0) 0]) henv hst rfl zero_anvil_anvilref02_Int rcells ?_⟩
          clear henv hst a; intro a w262 g261 henv hst
          refine ⟨.inr ⟨hst.kn.pick (rg 1 7) (rg 1 10), .inr (hst.kn.pick [] [])⟩, ?_⟩
          refine sAny_all (rs := [9, 10]) (by kernel_rfl) (by simp) ?_
          simp only [List.forall_mem_cons, List.not_mem_nil, false_implies, implies_true, and_true]
          refine ⟨?_, ?_⟩
          · refine ⟨_, rfl, rfl, op_call henv rfl Tryd.call20 rfl (make_rv (show U32 _ A3 n3 c3 xs3 from hst.pat (k := 7) rfl) hv3 (by omega)) ?_⟩
            rintro e w266 ⟨_, rfl, ⟨A263, c264, rfl, hz265⟩, hb⟩
            refine ⟨_, rfl, ?_⟩
            clear henv a; intro a henv
            replace hst := (hst.call hb).addR hz265 ⟨nou_bk rfl, nou_bk rfl, nou_bk rfl, nou_bk rfl, nou_bk rfl, nou_bk rfl, nou_bk rfl, nou_bk rfl, trivial⟩
            clear hz265
            clear hb
            refine ⟨.inr ⟨hst.kn.pick (rg 1 7) (rg 2 10), .inr (hst.kn.pick [] [])⟩, ?_⟩
            refine sAny_one (i := 10) (by kernel_rfl) rfl rfl (op_alloc (c := #[.bool (neg 0), .slice none (zl 0) 0]) henv hst rfl zero_anvil_integer_Int zcells ?_)
            clear henv hst a; intro a w268 g267 henv hst
            refine ⟨.inr ⟨hst.kn.pick (rg 2 7) (rg 2 10), .inr (hst.kn.pick [] [])⟩, ?_⟩
            refine sAny_one (i := 12) (by kernel_rfl) rfl rfl (op_store (k := 0) (c' := #[.bool (neg z3), .slice A223 (zl z3) c224]) henv hst (ty_anvil_integer_Int.size) rfl rfl rfl rfl (by simp) rfl rfl ?_)
            clear henv hst a; intro a w269 henv hst
            refine ⟨.inr ⟨hst.kn.pick (rg 2 7) (rg 2 10), .inl rfl⟩, ?_⟩
            refine sAny_one (i := 13) (by kernel_rfl) rfl rfl (op_store (k := 1) (c' := #[.bool (neg z3), .slice A263 (dl z3) c264]) henv hst (ty_anvil_anvilref02_Int.size) rfl rfl rfl rfl (by simp) rfl rfl ?_)
            clear henv hst a; intro a w270 henv hst
            refine ⟨.inr ⟨hst.kn.pick (rg 2 7) (rg 2 10), .inl rfl⟩, ?_⟩
            refine sAny_done (by kernel_rfl) ?_ _
            exact th_n ⟨A223, c224, A263, c264, g267, g261, henv.sub ⟨rfl, rfl, rfl, rfl, rfl, rfl, rfl, rfl, rfl, rfl, rfl, rfl, rfl, rfl, rfl, rfl, rfl, rfl, rfl, rfl, rfl, rfl, rfl, rfl, rfl, rfl, rfl, rfl, rfl, rfl, rfl, rfl, rfl, trivial⟩, hst.pick [1, 0, 2, 3, 4, 5, 6, 7, 8] [0, 1, 2, 3, 4, 5, 6, 7, 8, 9, 10, 11] (by decide)⟩
          · refine ⟨_, rfl, rfl, op_alloc (c := #[.bool (neg 0), .slice none (zl 0) 0]) henv hst rfl zero_anvil_integer_Int zcells ?_⟩
            clear henv hst a; intro a w272 g271 henv hst
            refine ⟨.inr ⟨hst.kn.pick (rg 2 7) (rg 1 10), .inr (hst.kn.pick [] [])⟩, ?_⟩
            refine sAny_one (i := 9) (by kernel_rfl) rfl rfl (op_call henv rfl Tryd.call20 rfl (make_rv (show U32 _ A3 n3 c3 xs3 from hst.pat (k := 7) rfl) hv3 (by omega)) ?_)
            rintro e w276 ⟨_, rfl, ⟨A273, c274, rfl, hz275⟩, hb⟩
            refine ⟨_, rfl, ?_⟩
            clear henv a; intro a henv
            replace hst := (hst.call hb).addR hz275 ⟨nou_bk rfl, nou_bk rfl, nou_bk rfl, nou_bk rfl, nou_bk rfl, nou_bk rfl, nou_bk rfl, nou_bk rfl, nou_bk rfl, trivial⟩
            clear hz275
            clear hb
            refine ⟨.inr ⟨hst.kn.pick (rg 2 7) (rg 2 10), .inr (hst.kn.pick [] [])⟩, ?_⟩
            refine sAny_one (i := 12) (by kernel_rfl) rfl rfl (op_store (k := 0) (c' := #[.bool (neg z3), .slice A223 (zl z3) c224]) henv hst (ty_anvil_integer_Int.size) rfl rfl rfl rfl (by simp) rfl rfl ?_)
            clear henv hst a; intro a w277 henv hst
            refine ⟨.inr ⟨hst.kn.pick (rg 2 7) (rg 2 10), .inl rfl⟩, ?_⟩
            refine sAny_one (i := 13) (by kernel_rfl) rfl rfl (op_store (k := 1) (c' := #[.bool (neg z3), .slice A273 (dl z3) c274]) henv hst (ty_anvil_anvilref02_Int.size) rfl rfl rfl rfl (by simp) rfl rfl ?_)
            clear henv hst a; intro a w278 henv hst
            refine ⟨.inr ⟨hst.kn.pick (rg 2 7) (rg 2 10), .inl rfl⟩, ?_⟩
            refine sAny_done (by kernel_rfl) ?_ _
            exact th_n ⟨A223, c224, A273, c274, g271, g261, henv.sub ⟨rfl, rfl, rfl, rfl, rfl, rfl, rfl, rfl, rfl, rfl, rfl, rfl, rfl, rfl, rfl, rfl, rfl, rfl, rfl, rfl, rfl, rfl, rfl, rfl, rfl, rfl, rfl, rfl, rfl, rfl, rfl, rfl, rfl, trivial⟩, hst.pick [1, 0, 2, 3, 4, 5, 6, 7, 8] [0, 1, 2, 3, 4, 5, 6, 7, 8, 9, 10, 11] (by decide)⟩
      · refine ⟨_, rfl, rfl, op_alloc (c := #[.bool (neg 0), .slice none (zl 0) 0]) henv hst rfl zero_anvil_integer_Int zcells ?_⟩
        clear henv hst a; intro a w280 g279 henv hst
        refine ⟨.inr ⟨hst.kn.pick (rg 1 7) (rg 0 10), .inr (hst.kn.pick [] [])⟩, ?_⟩
        refine sAny_all (rs := [4, 11]) (by kernel_rfl) (by simp) ?_
        simp only [List.forall_mem_cons, List.not_mem_nil, false_implies, implies_true, and_true]
        refine ⟨?_, ?_⟩
        · refine ⟨_, rfl, rfl, op_call henv rfl Tryd.call19 rfl (make_zv (show U32 _ A3 n3 c3 xs3 from hst.pat (k := 6) rfl) hv3 (by omega)) ?_⟩
          rintro e w284 ⟨_, rfl, ⟨A281, c282, rfl, hz283⟩, hb⟩
          refine ⟨_, rfl, ?_⟩
          clear henv a; intro a henv
          replace hst := (hst.call hb).addZ hz283 ⟨nou_bk rfl, nou_bk rfl, nou_bk rfl, nou_bk rfl, nou_bk rfl, nou_bk rfl, nou_bk rfl, nou_bk rfl, trivial⟩
          clear hz283
          clear hb
          refine ⟨.inr ⟨hst.kn.pick (rg 1 7) (rg 1 10), .inr (hst.kn.pick [] [])⟩, ?_⟩
          refine sAny_all (rs := [9, 11]) (by kernel_rfl) (by simp) ?_
          simp only [List.forall_mem_cons, List.not_mem_nil, false_implies, implies_true, and_true]
          refine ⟨?_, ?_⟩
          · refine ⟨_, rfl, rfl, op_call henv rfl Tryd.call20 rfl (make_rv (show U32 _ A3 n3 c3 xs3 from hst.pat (k := 7) rfl) hv3 (by omega)) ?_⟩
            rintro e w288 ⟨_, rfl, ⟨A285, c286, rfl, hz287⟩, hb⟩
            refine ⟨_, rfl, ?_⟩
            clear henv a; intro a henv
            replace hst := (hst.call hb).addR hz287 ⟨nou_bk rfl, nou_bk rfl, nou_bk rfl, nou_bk rfl, nou_bk rfl, nou_bk rfl, nou_bk rfl, nou_bk rfl, trivial⟩
            clear hz287
            clear hb
            refine ⟨.inr ⟨hst.kn.pick (rg 1 7) (rg 2 10), .inr (hst.kn.pick [] [])⟩, ?_⟩
            refine sAny_one (i := 11) (by kernel_rfl) rfl rfl (op_alloc (c := #[.bool (neg 0), .slice none (dl 0) 0]) henv hst rfl zero_anvil_anvilref02_Int rcells ?_)
            clear henv hst a; intro a w290 g289 henv hst
            refine ⟨.inr ⟨hst.kn.pick (rg 2 7) (rg 2 10), .inr (hst.kn.pick [] [])⟩, ?_⟩
            refine sAny_one (i := 12) (by kernel_rfl) rfl rfl (op_store (k := 1) (c' := #[.bool (neg z3), .slice A281 (zl z3) c282]) henv hst (ty_anvil_integer_Int.size) rfl rfl rfl rfl (by simp) rfl rfl ?_)
            clear henv hst a; intro a w291 henv hst
            refine ⟨.inr ⟨hst.kn.pick (rg 2 7) (rg 2 10), .inl rfl⟩, ?_⟩
            refine sAny_one (i := 13) (by kernel_rfl) rfl rfl (op_store (k := 0) (c' := #[.bool (neg z3), .slice A285 (dl z3) c286]) henv hst (ty_anvil_anvilref02_Int.size) rfl rfl rfl rfl (by simp) rfl rfl ?_)
            clear henv hst a; intro a w292 henv hst
            refine ⟨.inr ⟨hst.kn.pick (rg 2 7) (rg 2 10), .inl rfl⟩, ?_⟩
            refine sAny_done (by kernel_rfl) ?_ _
            exact th_n ⟨A281, c282, A285, c286, g279, g289, henv.sub ⟨rfl, rfl, rfl, rfl, rfl, rfl, rfl, rfl, rfl, rfl, rfl, rfl, rfl, rfl, rfl, rfl, rfl, rfl, rfl, rfl, rfl, rfl, rfl, rfl, rfl, rfl, rfl, rfl, rfl, rfl, rfl, rfl, rfl, trivial⟩, hst.pick [0, 1, 2, 3, 4, 5, 6, 7, 8] [0, 1, 2, 3, 4, 5, 6, 7, 8, 9, 10, 11] (by decide)⟩
          · refine ⟨_, rfl, rfl, op_alloc (c := #[.bool (neg 0), .slice none (dl 0) 0]) henv hst rfl zero_anvil_anvilref02_Int rcells ?_⟩
            clear henv hst a; intro a w294 g293 henv hst
            refine ⟨.inr ⟨hst.kn.pick (rg 2 7) (rg 1 10), .inr (hst.kn.pick [] [])⟩, ?_⟩
            refine sAny_one (i := 9) (by kernel_rfl) rfl rfl (op_call henv rfl Tryd.call20 rfl (make_rv (show U32 _ A3 n3 c3 xs3 from hst.pat (k := 7) rfl) hv3 (by omega)) ?_)
            rintro e w298 ⟨_, rfl, ⟨A295, c296, rfl, hz297⟩, hb⟩
            refine ⟨_, rfl, ?_⟩
            clear henv a; intro a henv
            replace hst := (hst.call hb).addR hz297 ⟨nou_bk rfl, nou_bk rfl, nou_bk rfl, nou_bk rfl, nou_bk rfl, nou_bk rfl, nou_bk rfl, nou_bk rfl, nou_bk rfl, trivial⟩
            clear hz297
            clear hb
            refine ⟨.inr ⟨hst.kn.pick (rg 2 7) (rg 2 10), .inr (hst.kn.pick [] [])⟩, ?_⟩
            refine sAny_one (i := 12) (by kernel_rfl) rfl rfl (op_store (k := 1) (c' := #[.bool (neg z3), .slice A281 (zl z3) c282]) henv hst (ty_anvil_integer_Int.size) rfl rfl rfl rfl (by simp) rfl rfl ?_)
            clear henv hst a; intro a w299 henv hst
            refine ⟨.inr ⟨hst.kn.pick (rg 2 7) (rg 2 10), .inl rfl⟩, ?_⟩
            refine sAny_one (i := 13) (by kernel_rfl) rfl rfl (op_store (k := 0) (c' := #[.bool (neg z3), .slice A295 (dl z3) c296]) henv hst (ty_anvil_anvilref02_Int.size) rfl rfl rfl rfl (by simp) rfl rfl ?_)
            clear henv hst a; intro a w300 henv hst
            refine ⟨.inr ⟨hst.kn.pick (rg 2 7) (rg 2 10), .inl rfl⟩, ?_⟩
            refine sAny_done (by kernel_rfl) ?_ _
            exact th_n ⟨A281, c282, A295, c296, g279, g293, henv.sub ⟨rfl, rfl, rfl, rfl, rfl, rfl, rfl, rfl, rfl, rfl, rfl, rfl, rfl, rfl, rfl, rfl, rfl, rfl, rfl, rfl, rfl, rfl, rfl, rfl, rfl, rfl, rfl, rfl, rfl, rfl, rfl, rfl, rfl, trivial⟩, hst.pick [0, 1, 2, 3, 4, 5, 6, 7, 8] [0, 1, 2, 3, 4, 5, 6, 7, 8, 9, 10, 11] (by decide)⟩
        · refine ⟨_, rfl, rfl, op_alloc (c := #[.bool (neg 0), .slice none (dl 0) 0]) henv hst rfl zero_anvil_anvilref02_Int rcells ?_⟩
          clear henv hst a; intro a w302 g301 henv hst
          refine ⟨.inr ⟨hst.kn.pick (rg 2 7) (rg 0 10), .inr (hst.kn.pick [] [])⟩, ?_⟩
          refine sAny_one (i := 4) (by kernel_rfl) rfl rfl (op_call henv rfl Tryd.call19 rfl (make_zv (show U32 _ A3 n3 c3 xs3 from hst.pat (k := 6) rfl) hv3 (by omega)) ?_)
          rintro e w306 ⟨_, rfl, ⟨A303, c304, rfl, hz305⟩, hb⟩
          refine ⟨_, rfl, ?_⟩
          clear henv a; intro a henv
          replace hst := (hst.call hb).addZ hz305 ⟨nou_bk rfl, nou_bk rfl, nou_bk rfl, nou_bk rfl, nou_bk rfl, nou_bk rfl, nou_bk rfl, nou_bk rfl, nou_bk rfl, trivial⟩
          clear hz305
          clear hb
          refine ⟨.inr ⟨hst.kn.pick (rg 2 7) (rg 1 10), .inr (hst.kn.pick [] [])⟩, ?_⟩
          refine sAny_one (i := 9) (by kernel_rfl) rfl rfl (op_call henv rfl Tryd.call20 rfl (make_rv (show U32 _ A3 n3 c3 xs3 from hst.pat (k := 7) rfl) hv3 (by omega)) ?_)
          rintro e w310 ⟨_, rfl, ⟨A307, c308, rfl, hz309⟩, hb⟩
          refine ⟨_, rfl, ?_⟩
          clear henv a; intro a henv
          replace hst := (hst.call hb).addR hz309 ⟨nou_bk rfl, nou_bk rfl, nou_bk rfl, nou_bk rfl, nou_bk rfl, nou_bk rfl, nou_bk rfl, nou_bk rfl, nou_bk rfl, trivial⟩
          clear hz309
          clear hb
          refine ⟨.inr ⟨hst.kn.pick (rg 2 7) (rg 2 10), .inr (hst.kn.pick [] [])⟩, ?_⟩
          refine sAny_one (i := 12) (by kernel_rfl) rfl rfl (op_store (k := 1) (c' := #[.bool (neg z3), .slice A303 (zl z3) c304]) henv hst (ty_anvil_integer_Int.size) rfl rfl rfl rfl (by simp) rfl rfl ?_)
          clear henv hst a; intro a w311 henv hst
          refine ⟨.inr ⟨hst.kn.pick (rg 2 7) (rg 2 10), .inl rfl⟩, ?_⟩
          refine sAny_one (i := 13) (by kernel_rfl) rfl rfl (op_store (k := 0) (c' := #[.bool (neg z3), .slice A307 (dl z3) c308]) henv hst (ty_anvil_anvilref02_Int.size) rfl rfl rfl rfl (by simp) rfl rfl ?_)
          clear henv hst a; intro a w312 henv hst
          refine ⟨.inr ⟨hst.kn.pick (rg 2 7) (rg 2 10), .inl rfl⟩, ?_⟩
          refine sAny_done (by kernel_rfl) ?_ _
          exact th_n ⟨A303, c304, A307, c308, g279, g301, henv.sub ⟨rfl, rfl, rfl, rfl, rfl, rfl, rfl, rfl, rfl, rfl, rfl, rfl, rfl, rfl, rfl, rfl, rfl, rfl, rfl, rfl, rfl, rfl, rfl, rfl, rfl, rfl, rfl, rfl, rfl, rfl, rfl, rfl, rfl, trivial⟩, hst.pick [0, 1, 2, 3, 4, 5, 6, 7, 8] [0, 1, 2, 3, 4, 5, 6, 7, 8, 9, 10, 11] (by decide)⟩
      · refine ⟨_, rfl, rfl, op_alloc (c := #[.bool (neg 0), .slice none (dl 0) 0]) henv hst rfl zero_anvil_anvilref02_Int rcells ?_⟩
        clear henv hst a; intro a w314 g313 henv hst
        refine ⟨.inr ⟨hst.kn.pick (rg 1 7) (rg 0 10), .inr (hst.kn.pick [] [])⟩, ?_⟩
        refine sAny_all (rs := [4, 10]) (by kernel_rfl) (by simp) ?_
        simp only [List.forall_mem_cons, List.not_mem_nil, false_implies, implies_true, and_true]
        refine ⟨?_, ?_⟩
        · refine ⟨_, rfl, rfl, op_call henv rfl Tryd.call19 rfl (make_zv (show U32 _ A3 n3 c3 xs3 from hst.pat (k := 6) rfl) hv3 (by omega)) ?_⟩
          rintro e w318 ⟨_, rfl, ⟨A315, c316, rfl, hz317⟩, hb⟩
          refine ⟨_, rfl, ?_⟩
          clear henv a; intro a henv
          replace hst := (hst.call hb).addZ hz317 ⟨nou_bk rfl, nou_bk rfl, nou_bk rfl, nou_bk rfl, nou_bk rfl, nou_bk rfl, nou_bk rfl, nou_bk rfl, trivial⟩
          clear hz317
          clear hb
          refine ⟨.inr ⟨hst.kn.pick (rg 1 7) (rg 1 10), .inr (hst.kn.pick [] [])⟩, ?_⟩
          refine sAny_all (rs := [9, 10]) (by kernel_rfl) (by simp) ?_
          simp only [List.forall_mem_cons, List.not_mem_nil, false_implies, implies_true, and_true]
          refine ⟨?_, ?_⟩
          · refine ⟨_, rfl, rfl, op_call henv rfl Tryd.call20 rfl (make_rv (show U32 _ A3 n3 c3 xs3 from hst.pat (k := 7) rfl) hv3 (by omega)) ?_⟩
            rintro e w322 ⟨_, rfl, ⟨A319, c320, rfl, hz321⟩, hb⟩
            refine ⟨_, rfl, ?_⟩
            clear henv a; intro a henv
            replace hst := (hst.call hb).addR hz321 ⟨nou_bk rfl, nou_bk rfl, nou_bk rfl, nou_bk rfl, nou_bk rfl, nou_bk rfl, nou_bk rfl, nou_bk rfl, trivial⟩
            clear hz321
            clear hb
            refine ⟨.inr ⟨hst.kn.pick (rg 1 7) (rg 2 10), .inr (hst.kn.pick [] [])⟩, ?_⟩
            refine sAny_one (i := 10) (by kernel_rfl) rfl rfl (op_alloc (c := #[.bool (neg 0), .slice none (zl 0) 0]) henv hst rfl zero_anvil_integer_Int zcells ?_)
            clear henv hst a; intro a w324 g323 henv hst
            refine ⟨.inr ⟨hst.kn.pick (rg 2 7) (rg 2 10), .inr (hst.kn.pick [] [])⟩, ?_⟩
            refine sAny_one (i := 12) (by kernel_rfl) rfl rfl (op_store (k := 0) (c' := #[.bool (neg z3), .slice A315 (zl z3) c316]) henv hst (ty_anvil_integer_Int.size) rfl rfl rfl rfl (by simp) rfl rfl ?_)
            clear henv hst a; intro a w325 henv hst
            refine ⟨.inr ⟨hst.kn.pick (rg 2 7) (rg 2 10), .inl rfl⟩, ?_⟩
            refine sAny_one (i := 13) (by kernel_rfl) rfl rfl (op_store (k := 1) (c' := #[.bool (neg z3), .slice A319 (dl z3) c320]) henv hst (ty_anvil_anvilref02_Int.size) rfl rfl rfl rfl (by simp) rfl rfl ?_)
            clear henv hst a; intro a w326 henv hst
            refine ⟨.inr ⟨hst.kn.pick (rg 2 7) (rg 2 10), .inl rfl⟩, ?_⟩
            refine sAny_done (by kernel_rfl) ?_ _
            exact th_n ⟨A315, c316, A319, c320, g323, g313, henv.sub ⟨rfl, rfl, rfl, rfl, rfl, rfl, rfl, rfl, rfl, rfl, rfl, rfl, rfl, rfl, rfl, rfl, rfl, rfl, rfl, rfl, rfl, rfl, rfl, rfl, rfl, rfl, rfl, rfl, rfl, rfl, rfl, rfl, rfl, trivial⟩, hst.pick [1, 0, 2, 3, 4, 5, 6, 7, 8] [0, 1, 2, 3, 4, 5, 6, 7, 8, 9, 10, 11] (by decide)⟩
          · refine ⟨_, rfl, rfl, op_alloc (c := #[.bool (neg 0), .slice none (zl 0) 0]) henv hst rfl zero_anvil_integer_Int zcells ?_⟩
            clear henv hst a; intro a w328 g327 henv hst
            refine ⟨.inr ⟨hst.kn.pick (rg 2 7) (rg 1 10), .inr (hst.kn.pick [] [])⟩, ?_⟩
            refine sAny_one (i := 9) (by kernel_rfl) rfl rfl (op_call henv rfl Tryd.call20 rfl (make_rv (show U32 _ A3 n3 c3 xs3 from hst.pat (k := 7) rfl) hv3 (by omega)) ?_)
            rintro e w332 ⟨_, rfl, ⟨A329, c330, rfl, hz331⟩, hb⟩
            refine ⟨_, rfl, ?_⟩
            clear henv a; intro a henv
            replace hst := (hst.call hb).addR hz331 ⟨nou_bk rfl, nou_bk rfl, nou_bk rfl, nou_bk rfl, nou_bk rfl, nou_bk rfl, nou_bk rfl, nou_bk rfl, nou_bk rfl, trivial⟩
            clear hz331
            clear hb
            refine ⟨.inr ⟨hst.kn.pick (rg 2 7) (rg 2 10), .inr (hst.kn.pick [] [])⟩, ?_⟩
            refine sAny_one (i := 12) (by kernel_rfl) rfl rfl (op_store (k := 0) (c' := #[.bool (neg z3), .slice A315 (zl z3) c316]) henv hst (ty_anvil_integer_Int.size) rfl rfl rfl rfl (by simp) rfl rfl ?_)
            clear henv hst a; intro a w333 henv hst
            refine ⟨.inr ⟨hst.kn.pick (rg 2 7) (rg 2 10), .inl rfl⟩, ?_⟩
            refine sAny_one (i := 13) (by kernel_rfl) rfl rfl (op_store (k := 1) (c' := #[.bool (neg z3), .slice A329 (dl z3) c330]) henv hst (ty_anvil_anvilref02_Int.size) rfl rfl rfl rfl (by simp) rfl rfl ?_)
            clear henv hst a; intro a w334 henv hst
            refine ⟨.inr ⟨hst.kn.pick (rg 2 7) (rg 2 10), .inl rfl⟩, ?_⟩
            refine sAny_done (by kernel_rfl) ?_ _
            exact th_n ⟨A315, c316, A329, c330, g327, g313, henv.sub ⟨rfl, rfl, rfl, rfl, rfl, rfl, rfl, rfl, rfl, rfl, rfl, rfl, rfl, rfl, rfl, rfl, rfl, rfl, rfl, rfl, rfl, rfl, rfl, rfl, rfl, rfl, rfl, rfl, rfl, rfl, rfl, rfl, rfl, trivial⟩, hst.pick [1, 0, 2, 3, 4, 5, 6, 7, 8] [0, 1, 2, 3, 4, 5, 6, 7, 8, 9, 10, 11] (by decide)⟩
        · refine ⟨_, rfl, rfl, op_alloc (c := #[.bool (neg 0), .slice none (zl 0) 0]) henv hst rfl zero_anvil_integer_Int zcells ?_⟩
          clear henv hst a; intro a w336 g335 henv hst
          refine ⟨.inr ⟨hst.kn.pick (rg 2 7) (rg 0 10), .inr (hst.kn.pick [] [])⟩, ?_⟩
          refine sAny_one (i := 4) (by kernel_rfl) rfl rfl (op_call henv rfl Tryd.call19 rfl (make_zv (show U32 _ A3 n3 c3 xs3 from hst.pat (k := 6) rfl) hv3 (by omega)) ?_)
          rintro e w340 ⟨_, rfl, ⟨A337, c338, rfl, hz339⟩, hb⟩
          refine ⟨_, rfl, ?_⟩
          clear henv a; intro a henv
          replace hst := (hst.call hb).addZ hz339 ⟨nou_bk rfl, nou_bk rfl, nou_bk rfl, nou_bk rfl, nou_bk rfl, nou_bk rfl, nou_bk rfl, nou_bk rfl, nou_bk rfl, trivial⟩
          clear hz339
          clear hb
          refine ⟨.inr ⟨hst.kn.pick (rg 2 7) (rg 1 10), .inr (hst.kn.pick [] [])⟩, ?_⟩
          refine sAny_one (i := 9) (by kernel_rfl) rfl rfl (op_call henv rfl Tryd.call20 rfl (make_rv (show U32 _ A3 n3 c3 xs3 from hst.pat (k := 7) rfl) hv3 (by omega)) ?_)
          rintro e w344 ⟨_, rfl, ⟨A341, c342, rfl, hz343⟩, hb⟩
          refine ⟨_, rfl, ?_⟩
          clear henv a; intro a henv
          replace hst := (hst.call hb).addR hz343 ⟨nou_bk rfl, nou_bk rfl, nou_bk rfl, nou_bk rfl, nou_bk rfl, nou_bk rfl, nou_bk rfl, nou_bk rfl, nou_bk rfl, trivial⟩
          clear hz343
          clear hb
          refine ⟨.inr ⟨hst.kn.pick (rg 2 7) (rg 2 10), .inr (hst.kn.pick [] [])⟩, ?_⟩
          refine sAny_one (i := 12) (by kernel_rfl) rfl rfl (op_store (k := 0) (c' := #[.bool (neg z3), .slice A337 (zl z3) c338]) henv hst (ty_anvil_integer_Int.size) rfl rfl rfl rfl (by simp) rfl rfl ?_)
          clear henv hst a; intro a w345 henv hst
          refine ⟨.inr ⟨hst.kn.pick (rg 2 7) (rg 2 10), .inl rfl⟩, ?_⟩
          refine sAny_one (i := 13) (by kernel_rfl) rfl rfl (op_store (k := 1) (c' := #[.bool (neg z3), .slice A341 (dl z3) c342]) henv hst (ty_anvil_anvilref02_Int.size) rfl rfl rfl rfl (by simp) rfl rfl ?_)
          clear henv hst a; intro a w346 henv hst
          refine ⟨.inr ⟨hst.kn.pick (rg 2 7) (rg 2 10), .inl rfl⟩, ?_⟩
          refine sAny_done (by kernel_rfl) ?_ _
          exact th_n ⟨A337, c338, A341, c342, g335, g313, henv.sub ⟨rfl, rfl, rfl, rfl, rfl, rfl, rfl, rfl, rfl, rfl, rfl, rfl, rfl, rfl, rfl, rfl, rfl, rfl, rfl, rfl, rfl, rfl, rfl, rfl, rfl, rfl, rfl, rfl, rfl, rfl, rfl, rfl, rfl, trivial⟩, hst.pick [1, 0, 2, 3, 4, 5, 6, 7, 8] [0, 1, 2, 3, 4, 5, 6, 7, 8, 9, 10, 11] (by decide)⟩
    clear henv hst a
    rintro a w347 ⟨A223, c224, A227, c228, g231, g233, henv, hst⟩
    refine wp_seq ?_
    refine region_seq ?_
    revert a
    refine mA rfl rfl ?_
    refine mA rfl rfl ?_
    intro a henv
    refine seq_step rfl (op_call henv rfl Tryd.call21 rfl (row_add_ne hne) ?_)
    rintro e w348 ⟨rfl, hb⟩
    refine ⟨_, rfl, ?_⟩
    clear henv a; intro a henv
    replace hst := hst.call hb
    clear hb
    revert a
    refine mA rfl rfl ?_
    refine sA (v := .slice none 0 0) rfl (fun _ henv => rn_extract henv rfl rfl) ?_
    refine sA (v := .int .i64 5) rfl (fun _ henv => rn_extract henv rfl rfl) ?_
    refine aA rfl rfl ?_
    refine aA rfl rfl ?_
    intro a henv
    refine wpList_nil ?_
    refine th_n ?_
    refine wp_seq ?_
    refine region_seq ?_
    revert a
    refine mA rfl rfl ?_
    refine mA rfl rfl ?_
    intro a henv
    refine seq_step rfl (op_call henv rfl Tryd.call22 rfl (row_sub_ne hne) ?_)
    rintro e w349 ⟨rfl, hb⟩
    refine ⟨_, rfl, ?_⟩
    clear henv a; intro a henv
    replace hst := hst.call hb
    clear hb
    revert a
    refine mA rfl rfl ?_
    refine sA (v := .slice none 0 0) rfl (fun _ henv => rn_extract henv rfl rfl) ?_
    refine sA (v := .int .i64 5) rfl (fun _ henv => rn_extract henv rfl rfl) ?_
    refine aA rfl rfl ?_
    refine aA rfl rfl ?_
    intro a henv
    refine wpList_nil ?_
    refine th_n ?_
    refine wp_seq ?_
    refine region_seq ?_
    revert a
    refine sA (v := .agg #[.bool (neg z2), .slice A97 (zl z2) c98]) rfl (fun _ henv => rn_load0 henv ty_anvil_integer_Int rfl (hst.oat (k := 3) rfl) rfl) ?_
    refine mA rfl rfl ?_
    refine sA (v := .agg #[.bool (neg z3), .slice A223 (zl z3) c224]) rfl (fun _ henv => rn_load0 henv ty_anvil_integer_Int rfl (hst.oat (k := 1) rfl) rfl) ?_
    refine mA rfl rfl ?_
    intro a henv
    refine seq_step rfl (op_call henv rfl Tryd.call23 rfl (row_combine_ne hne) ?_)
    rintro e w350 ⟨rfl, hb⟩
    refine ⟨_, rfl, ?_⟩
    clear henv a; intro a henv
    replace hst := hst.call hb
    clear hb
    revert a
    refine mA rfl rfl ?_
    refine sA (v := .slice none 0 0) rfl (fun _ henv => rn_extract henv rfl rfl) ?_
    refine sA (v := .int .i64 5) rfl (fun _ henv => rn_extract henv rfl rfl) ?_
    refine aA rfl rfl ?_
    refine aA rfl rfl ?_
    intro a henv
    refine wpList_nil ?_
    refine th_n ?_
    refine wp_seq ?_
    refine region_seq ?_
    revert a
    refine mA rfl rfl ?_
    refine mA rfl rfl ?_
    intro a henv
    refine seq_step rfl (op_call henv rfl Tryd.call24 rfl (row_dot_ne hne) ?_)
    rintro e w354 ⟨_, rfl, ⟨A351, c352, rfl, hz353⟩, hb⟩
    refine ⟨_, rfl, ?_⟩
    clear henv a; intro a henv
    replace hst := (hst.call hb).addZ hz353 ⟨nou_bk rfl, nou_bk rfl, nou_bk rfl, nou_bk rfl, nou_bk rfl, nou_bk rfl, nou_bk rfl, nou_bk rfl, nou_bk rfl, trivial⟩
    clear hz353
    clear hb
    revert a
    refine mA rfl rfl ?_
    refine sA (v := .agg #[.bool (neg (sumL [])), .slice A351 (zl (sumL [])) c352]) rfl (fun _ henv => rn_extract henv rfl rfl) ?_
    refine sA (v := .int .i64 5) rfl (fun _ henv => rn_extract henv rfl rfl) ?_
    intro a henv
    refine seq_step rfl (op_alloc (c := #[.bool (neg 0), .slice none (zl 0) 0]) henv hst rfl zero_anvil_integer_Int zcells ?_)
    clear henv hst a; intro a w356 g355 henv hst
    refine seq_step rfl (op_store (k := 0) (c' := #[.bool (neg (sumL [])), .slice A351 (zl (sumL [])) c352]) henv hst (ty_anvil_integer_Int.size) rfl rfl rfl rfl (by simp) rfl rfl ?_)
    clear henv hst a; intro a w357 henv hst
    refine sv (v := .int .i64 5) henv rfl (rn_assign henv rfl) ?_
    clear henv a; intro a henv
    refine wpList_nil ?_
    refine th_n ?_
    refine wp_seq ?_
    refine region_any (n := 7) (Sk [bk g355 #[.bool (neg (sumL [])), .slice A351 (zl (sumL [])) c352] 36, bk g233 #[.bool (neg z3), .slice A227 (dl z3) c228] 39, bk g231 #[.bool (neg z3), .slice A223 (zl z3) c224] 36, bk g107 #[.bool (neg z2), .slice A101 (dl z2) c102] 39, bk g105 #[.bool (neg z2), .slice A97 (zl z2) c98] 36, bk g70 #[.slice A0 n0 c0, .slice A1 n1 c1, .slice (some ⟨g68, 0, none⟩) 2 2] 22, bk g68 #[.bool b2, .slice A2 n2 c2, .bool b3, .slice A3 n3 c3] 25, bk g57 #[.bool b3, .slice A3 n3 c3] 25, bk g55 #[.bool b2, .slice A2 n2 c2] 25, bk g51 #[.slice A0 n0 c0, .slice A1 n1 c1, .bool b2, .slice A2 n2 c2, .bool b3, .slice A3 n3 c3] 27] [pfZ A351 c352 (sumL []), pfR A227 c228 z3, pfZ A223 c224 z3, pfR A101 c102 z2, pfZ A97 c98 z2, pfRow fM FM 2 A90 n1 c91 es92, pfRow fN FN 2 A85 n1 c86 es87, pfRow fM FM 2 A79 n0 c80 es81, pfRow fN FN 2 A74 n0 c75 es76, pfU A3 n3 c3 xs3, pfU A2 n2 c2 xs2, pfRow fU FU 2 A1 n1 c1 es1, pfRow fU FU 2 A0 n0 c0 es0] [] []) mixed rfl henv hst ?_
    clear henv hst; intro w358 henv hst
    refine tM (i := 0) [1, 4, 5, 6] rfl (by kernel_rfl) (fun _ _ _ h => h) henv rfl rfl ?_
    clear henv a; intro a henv
    refine tM (i := 2) [4, 5, 6] rfl (by kernel_rfl) (fun _ _ _ h => h) henv rfl rfl ?_
    clear henv a; intro a henv
    refine tL (i := 3) 4 4 [4, 5, 6] rfl (by kernel_rfl) (fun _ _ _ h => h) henv rfl ty_anvil_integer_Int rfl hst rfl rfl rfl ?_
    clear henv a; intro a henv
    refine sAny_one (i := 1) (by kernel_rfl) rfl rfl (op_call henv rfl Tryd.call25 rfl (row_neg (hst.pat (k := 8) rfl) hz78 (by omega)) ?_)
    rintro e w365 ⟨_, rfl, ⟨A359, c360, es361, rfl, hr, hl362, hz363⟩, hb⟩
    refine ⟨_, rfl, ?_⟩
    clear henv a; intro a henv
    replace hst := hst.freshRow hb hr (ap_N hr.2.1 ⟨nou_rowS, ⟨nou_bk rfl, nou_bk rfl, nou_bk rfl, nou_bk rfl, nou_bk rfl, nou_bk rfl, nou_bk rfl, nou_bk rfl, nou_bk rfl, nou_bk rfl, trivial⟩⟩)
    clear hr
    clear hb
    refine ⟨.inr ⟨hst.kn.pick (rg 1 10) (rg 1 13), .inr (hst.kn.pick [] [])⟩, ?_⟩
    refine sAny_one (i := 4) (by kernel_rfl) rfl rfl (op_call henv rfl Tryd.call26 rfl (row_scale (hst.pat (k := 9) rfl) hz78 (show ZIn _ A97 c98 z2 from hst.pat (k := 5) rfl) (by omega) ((hkx.mono (by decide))) (by omega)) ?_)
    rintro e w372 ⟨_, rfl, ⟨A366, c367, es368, rfl, hr, hl369, hz370⟩, hb⟩
    refine ⟨_, rfl, ?_⟩
    clear henv a; intro a henv
    replace hst := hst.freshRow hb hr (ap_N hr.2.1 ⟨nou_rowS, ⟨nou_rowS, nou_bk rfl, nou_bk rfl, nou_bk rfl, nou_bk rfl, nou_bk rfl, nou_bk rfl, nou_bk rfl, nou_bk rfl, nou_bk rfl, nou_bk rfl, trivial⟩⟩)
    clear hr
    clear hb
    refine ⟨.inr ⟨hst.kn.pick (rg 2 10) (rg 2 13), .inr (hst.kn.pick [] [])⟩, ?_⟩
    refine tA (i := 5) [6] (v := .slice A359 n0 c360) rfl (by kernel_rfl) (fun _ _ _ h => h) henv rfl (fun _ => rn_assign henv rfl) ?_
    clear henv a; intro a henv
    refine tA (i := 6) [] (v := .slice A366 n0 c367) rfl (by kernel_rfl) (fun _ _ _ h => h) henv rfl (fun _ => rn_assign henv rfl) ?_
    clear henv a; intro a henv
    refine sAny_done (by kernel_rfl) ?_ _
    refine th_n ?_
    refine wp_seq ?_
    refine wp_seq ?_
    refine region_seq ?_
    revert a
    refine mA rfl rfl ?_
    refine mA rfl rfl ?_
    intro a henv
    refine seq_step rfl (op_call henv rfl Tryd.call29 rfl (of_r (n := (-1 : Int)) (by decide) (by decide)) ?_)
    rintro e w376 ⟨_, rfl, ⟨A373, c374, rfl, hz375⟩, hb⟩
    refine ⟨_, rfl, ?_⟩
    clear henv a; intro a henv
    replace hst := (hst.call hb).addR hz375 ⟨nou_rowS, nou_rowS, nou_bk rfl, nou_bk rfl, nou_bk rfl, nou_bk rfl, nou_bk rfl, nou_bk rfl, nou_bk rfl, nou_bk rfl, nou_bk rfl, nou_bk rfl, trivial⟩
    clear hz375
    clear hb
    refine seq_step rfl (op_call henv rfl Tryd.call28 rfl (ref_scale (m := (-1 : Int)) (hst.pat (k := 10) rfl) hz83 (show RIn _ A373 c374 (-1) from hst.pat (k := 0) rfl) (zl_small (by decide)) ((hkx.mono (by decide))) (by omega)) ?_)
    rintro e w382 ⟨_, rfl, ⟨A377, c378, es379, rfl, hr, hl380, hz381⟩, hb⟩
    refine ⟨_, rfl, ?_⟩
    clear henv a; intro a henv
    replace hst := hst.freshRd hb hr hl380 (ap_M hr.2.1 ⟨nou_rowS, nou_rowS, nou_bk rfl, nou_bk rfl, nou_bk rfl, nou_bk rfl, nou_bk rfl, nou_bk rfl, nou_bk rfl, nou_bk rfl, nou_bk rfl, nou_bk rfl, trivial⟩)
    clear hr
    clear hb
    refine seq_step rfl (op_call henv rfl Tryd.call27 rfl (row_is ⟨rowS_rd (hst.owns (k := 1) rfl), hl362, hst.pat (k := 3) rfl⟩ hz363 (hst.pat (k := 0) rfl) (hz381.trans (map_neg_one _)) ((hkn.mono (by decide)))) ?_)
    rintro e w383 ⟨rfl, hb⟩
    refine ⟨_, rfl, ?_⟩
    clear henv a; intro a henv
    replace hst := hst.call hb
    clear hb
    revert a
    refine sA (v := .bool false) rfl (fun _ henv => rn_un henv rfl rfl) ?_
    refine mA rfl rfl ?_
    refine gA (v := .slice A366 n0 c367) rfl rfl rfl rfl (fun _ henv => rn_move henv rfl) ?_
    refine gA (v := .slice A79 n0 c80) rfl rfl rfl rfl (fun _ henv => rn_move henv rfl) ?_
    refine gA (v := .agg #[.bool (neg z2), .slice A101 (dl z2) c102]) rfl rfl rfl rfl (fun _ henv => rn_load0 henv ty_anvil_anvilref02_Int rfl (hst.oat (k := 5) rfl) rfl) ?_
    intro a henv
    refine seq_g rfl henv rfl rfl (op_call henv rfl Tryd.call28 rfl (ref_scale (m := z2) (hst.pat (k := 11) rfl) hz83 (show RIn _ A101 c102 z2 from hst.pat (k := 7) rfl) (by omega) ((hkx.mono (by decide))) (by omega)) ?_)
    rintro e w389 ⟨_, rfl, ⟨A384, c385, es386, rfl, hr, hl387, hz388⟩, hb⟩
    refine ⟨_, rfl, ?_⟩
    clear henv a; intro a henv
    replace hst := hst.freshRd hb hr hl387 (ap_M hr.2.1 ⟨nou_rowS, nou_rowS, nou_bk rfl, nou_bk rfl, nou_bk rfl, nou_bk rfl, nou_bk rfl, nou_bk rfl, nou_bk rfl, nou_bk rfl, nou_bk rfl, nou_bk rfl, trivial⟩)
    clear hr
    clear hb
    refine seq_g rfl henv rfl rfl (op_call henv rfl Tryd.call27 rfl (row_is ⟨rowS_rd (hst.owns (k := 0) rfl), hl369, hst.pat (k := 3) rfl⟩ hz370 (hst.pat (k := 0) rfl) hz388 ((hkm.mono (by decide)))) ?_)
    rintro e w390 ⟨rfl, hb⟩
    refine ⟨_, rfl, ?_⟩
    clear henv a; intro a henv
    replace hst := hst.call hb
    clear hb
    revert a
    refine gA (v := .bool false) rfl rfl rfl rfl (fun _ henv => rn_un henv rfl rfl) ?_
    refine sA (v := .bool false) rfl (fun _ henv => rn_pick henv rfl rfl) ?_
    refine mA rfl rfl ?_
    refine gA (v := .slice A359 n0 c360) rfl rfl rfl rfl (fun _ henv => rn_move henv rfl) ?_
    refine gA (v := .slice A74 n0 c75) rfl rfl rfl rfl (fun _ henv => rn_move henv rfl) ?_
    refine gA (v := .slice A79 n0 c80) rfl rfl rfl rfl (fun _ henv => rn_move henv rfl) ?_
    intro a henv
    refine seq_g rfl henv rfl rfl (op_call henv rfl Tryd.call30 rfl (row_own (hst.toRest (k := 1) rfl [13, 12]) hz78 hz83 ((hkx.mono (by decide)))) ?_)
    rintro e w391 ⟨rfl, hst2⟩
    refine ⟨_, rfl, ?_⟩
    clear henv a; intro a henv
    replace hst := hst.rest (k := 1) rfl hst2
    clear hst2
    replace hst : St w0 _ [rowS notU 36 2 A366 n0 c367 (fl fN es368), bk g355 #[.bool (neg (sumL [])), .slice A351 (zl (sumL [])) c352] 36, bk g233 #[.bool (neg z3), .slice A227 (dl z3) c228] 39, bk g231 #[.bool (neg z3), .slice A223 (zl z3) c224] 36, bk g107 #[.bool (neg z2), .slice A101 (dl z2) c102] 39, bk g105 #[.bool (neg z2), .slice A97 (zl z2) c98] 36, bk g70 #[.slice A0 n0 c0, .slice A1 n1 c1, .slice (some ⟨g68, 0, none⟩) 2 2] 22, bk g68 #[.bool b2, .slice A2 n2 c2, .bool b3, .slice A3 n3 c3] 25, bk g57 #[.bool b3, .slice A3 n3 c3] 25, bk g55 #[.bool b2, .slice A2 n2 c2] 25, bk g51 #[.slice A0 n0 c0, .slice A1 n1 c1, .bool b2, .slice A2 n2 c2, .bool b3, .slice A3 n3 c3] 27] [pfRow fM FM 2 A384 n0 c385 es386, pfRow fM FM 2 A377 n0 c378 es379, pfR A373 c374 (-1), pfEs FN es368, pfEs FN es361, pfZ A351 c352 (sumL []), pfR A227 c228 z3, pfZ A223 c224 z3, pfR A101 c102 z2, pfZ A97 c98 z2, pfRow fM FM 2 A90 n1 c91 es92, pfRow fN FN 2 A85 n1 c86 es87, pfRow fM FM 2 A79 n0 c80 es81, pfRow fN FN 2 A74 n0 c75 es76, pfU A3 n3 c3 xs3, pfU A2 n2 c2 xs2, pfRow fU FU 2 A1 n1 c1 es1, pfRow fU FU 2 A0 n0 c0 es0] := hst
    revert a
    refine gA (v := .bool false) rfl rfl rfl rfl (fun _ henv => rn_un henv rfl rfl) ?_
    refine sA (v := .bool false) rfl (fun _ henv => rn_pick henv rfl rfl) ?_
    refine mA rfl rfl ?_
    refine gA (v := .slice A366 n0 c367) rfl rfl rfl rfl (fun _ henv => rn_move henv rfl) ?_
    refine gA (v := .slice A74 n0 c75) rfl rfl rfl rfl (fun _ henv => rn_move henv rfl) ?_
    refine gA (v := .slice A79 n0 c80) rfl rfl rfl rfl (fun _ henv => rn_move henv rfl) ?_
    intro a henv
    refine seq_g rfl henv rfl rfl (op_call henv rfl Tryd.call30 rfl (row_own (hst.toRest (k := 0) rfl [13, 12]) hz78 hz83 ((hkx.mono (by decide)))) ?_)
    rintro e w392 ⟨rfl, hst2⟩
    refine ⟨_, rfl, ?_⟩
    clear henv a; intro a henv
    replace hst := hst.rest (k := 0) rfl hst2
    clear hst2
    replace hst : St w0 _ [bk g355 #[.bool (neg (sumL [])), .slice A351 (zl (sumL [])) c352] 36, bk g233 #[.bool (neg z3), .slice A227 (dl z3) c228] 39, bk g231 #[.bool (neg z3), .slice A223 (zl z3) c224] 36, bk g107 #[.bool (neg z2), .slice A101 (dl z2) c102] 39, bk g105 #[.bool (neg z2), .slice A97 (zl z2) c98] 36, bk g70 #[.slice A0 n0 c0, .slice A1 n1 c1, .slice (some ⟨g68, 0, none⟩) 2 2] 22, bk g68 #[.bool b2, .slice A2 n2 c2, .bool b3, .slice A3 n3 c3] 25, bk g57 #[.bool b3, .slice A3 n3 c3] 25, bk g55 #[.bool b2, .slice A2 n2 c2] 25, bk g51 #[.slice A0 n0 c0, .slice A1 n1 c1, .bool b2, .slice A2 n2 c2, .bool b3, .slice A3 n3 c3] 27] [pfRow fM FM 2 A384 n0 c385 es386, pfRow fM FM 2 A377 n0 c378 es379, pfR A373 c374 (-1), pfEs FN es368, pfEs FN es361, pfZ A351 c352 (sumL []), pfR A227 c228 z3, pfZ A223 c224 z3, pfR A101 c102 z2, pfZ A97 c98 z2, pfRow fM FM 2 A90 n1 c91 es92, pfRow fN FN 2 A85 n1 c86 es87, pfRow fM FM 2 A79 n0 c80 es81, pfRow fN FN 2 A74 n0 c75 es76, pfU A3 n3 c3 xs3, pfU A2 n2 c2 xs2, pfRow fU FU 2 A1 n1 c1 es1, pfRow fU FU 2 A0 n0 c0 es0] := hst
    revert a
    refine gA (v := .bool false) rfl rfl rfl rfl (fun _ henv => rn_un henv rfl rfl) ?_
    refine sA (v := .bool false) rfl (fun _ henv => rn_pick henv rfl rfl) ?_
    refine mA rfl rfl ?_
    intro a henv
    refine seq_g rfl henv rfl rfl (op_call henv rfl Tryd.call16 rfl (row_live) ?_)
    rintro e w393 ⟨rfl, hb⟩
    refine ⟨_, rfl, ?_⟩
    clear henv a; intro a henv
    replace hst := hst.call hb
    clear hb
    revert a
    refine gA (v := .bool false) rfl rfl rfl rfl (fun _ henv => rn_un henv rfl rfl) ?_
    refine sA (v := .bool false) rfl (fun _ henv => rn_pick henv rfl rfl) ?_
    intro a henv
    refine wpList_nil ?_
    refine th_n ?_
    refine if_f henv rfl (rfl) ?_
    refine wp_skip ?_
    refine th_n ?_
    refine wp_seq ?_
    refine wp_seq ?_
    refine region_seq ?_
    revert a
    refine mA rfl rfl ?_
    refine sA (v := .int .i64 (n0 : Nat)) rfl (fun _ henv => rn_len henv Tryd.underlying22 rfl) ?_
    refine mA rfl rfl ?_
    refine sA (v := .int .i64 (n1 : Nat)) rfl (fun _ henv => rn_len henv Tryd.underlying22 rfl) ?_
    refine sA (v := .bool (((n0 : Nat) : Int) != ((n1 : Nat) : Int))) rfl (fun _ henv => rn_bin henv rfl rfl rfl) ?_
    intro a henv
    rw [show (((n0 : Nat) : Int) != ((n1 : Nat) : Int)) = true from (bne_iff_ne.2 (by omega))] at henv
    refine wpList_nil ?_
    refine th_n ?_
    refine if_t henv rfl (rfl) ?_
    refine wp_seq ?_
    refine region_seq ?_
    revert a
    refine mA rfl rfl ?_
    refine sA (v := .int .i64 0) rfl (fun _ henv => rn_len henv Tryd.underlying30 rfl) ?_
    refine sA (v := .bool true) rfl (fun _ henv => rn_bin henv rfl rfl rfl) ?_
    refine mA rfl rfl ?_
    refine gA (v := .slice none 0 0) rfl rfl rfl rfl (fun _ henv => rn_move henv rfl) ?_
    refine gA (v := .int .i64 0) rfl rfl rfl rfl (fun _ henv => rn_len henv Tryd.underlying30 rfl) ?_
    refine gA (v := .bool true) rfl rfl rfl rfl (fun _ henv => rn_bin henv rfl rfl rfl) ?_
    refine sA (v := .bool true) rfl (fun _ henv => rn_pick henv rfl rfl) ?_
    refine mA rfl rfl ?_
    refine gA (v := .slice none 0 0) rfl rfl rfl rfl (fun _ henv => rn_move henv rfl) ?_
    refine gA (v := .int .i64 0) rfl rfl rfl rfl (fun _ henv => rn_len henv Tryd.underlying30 rfl) ?_
    refine gA (v := .bool true) rfl rfl rfl rfl (fun _ henv => rn_bin henv rfl rfl rfl) ?_
    refine sA (v := .bool true) rfl (fun _ henv => rn_pick henv rfl rfl) ?_
    refine mA rfl rfl ?_
    refine gA (v := .agg #[.bool (neg (sumL [])), .slice A351 (zl (sumL [])) c352]) rfl rfl rfl rfl (fun _ henv => rn_load0 henv ty_anvil_integer_Int rfl (hst.oat (k := 0) rfl) rfl) ?_
    intro a henv
    refine seq_g rfl henv rfl rfl (op_call henv rfl Tryd.call31 rfl (sign_z (z := (sumL []))) ?_)
    rintro e w394 ⟨rfl, hb⟩
    refine ⟨_, rfl, ?_⟩
    clear henv a; intro a henv
    replace hst := hst.call hb
    clear hb
    refine seq_g rfl henv rfl rfl (op_val (v := .bool ((sumL []).sign == (0 : Int))) henv rfl (rn_bin henv rfl rfl rfl) ?_)
    clear henv a; intro a henv
    rw [show ((sumL []).sign == (0 : Int)) = true from rfl] at henv
    revert a
    refine sA (v := .bool true) rfl (fun _ henv => rn_pick henv rfl rfl) ?_
    refine mA rfl rfl ?_
    refine gA (v := .int .i64 5) rfl rfl rfl rfl (fun _ henv => rn_move henv rfl) ?_
    refine gA (v := .bool true) rfl rfl rfl rfl (fun _ henv => rn_bin henv rfl rfl rfl) ?_
    refine sA (v := .bool true) rfl (fun _ henv => rn_pick henv rfl rfl) ?_
    refine mA rfl rfl ?_
    refine gA (v := .int .i64 5) rfl rfl rfl rfl (fun _ henv => rn_move henv rfl) ?_
    refine gA (v := .bool true) rfl rfl rfl rfl (fun _ henv => rn_bin henv rfl rfl rfl) ?_
    refine sA (v := .bool true) rfl (fun _ henv => rn_pick henv rfl rfl) ?_
    refine mA rfl rfl ?_
    refine gA (v := .int .i64 5) rfl rfl rfl rfl (fun _ henv => rn_move henv rfl) ?_
    refine gA (v := .bool true) rfl rfl rfl rfl (fun _ henv => rn_bin henv rfl rfl rfl) ?_
    refine sA (v := .bool true) rfl (fun _ henv => rn_pick henv rfl rfl) ?_
    refine mA rfl rfl ?_
    refine gA (v := .int .i64 5) rfl rfl rfl rfl (fun _ henv => rn_move henv rfl) ?_
    refine gA (v := .bool true) rfl rfl rfl rfl (fun _ henv => rn_bin henv rfl rfl rfl) ?_
    refine sA (v := .bool true) rfl (fun _ henv => rn_pick henv rfl rfl) ?_
    refine aA rfl rfl ?_
    intro a henv
    refine wpList_nil ?_
    refine th_n ?_
    refine wp_ret ?_
    refine th_r ?_
    refine leave henv (res1 Tryd.results3 (RV.tmp henv rfl)) ?_
    exact ⟨rfl, hst.below⟩
theorem rsums_law {A0 A1 A2 A3 : Option Addr} {n0 c0 n1 c1 n2 c2 n3 c3 : Nat} {es0 es1 : List UE} {b2 b3 : Bool} {xs2 xs3 : List Nat}  {w0 : World} (h0 : (pfRow fU FU 2 A0 n0 c0 es0).P w0) (hn0 : n0 ≤ 35184372088832) (hs0 : Sz es0) (h1 : (pfRow fU FU 2 A1 n1 c1 es1).P w0) (hn1 : n1 ≤ 35184372088832) (hs1 : Sz es1) (h2 : U32 w0 A2 n2 c2 xs2) (hn2 : n2 ≤ 35184372088832) (h3 : U32 w0 A3 n3 c3 xs3) (hn3 : n3 ≤ 35184372088832) :
    Calls Tryd.prog 3 #[.agg #[.slice A0 n0 c0, .slice A1 n1 c1, .bool b2, .slice A2 n2 c2, .bool b3, .slice A3 n3 c3]] w0 fun e w' => e = .returned (.bool true) ∧ Below w0.heap.size w0 w' := by
  by_cases hne : n0 = n1
  · subst hne
    exact rsums_eq h0 hn0 hs0 h1 hn1 hs1 h2 hn2 h3 hn3 rfl rfl
  · exact rsums_ne h0 hn0 hs0 h1 hn1 hs1 h2 hn2 h3 hn3 rfl rfl hne
end Go.Proofs.YtegglooojlheoaaDoor.W
