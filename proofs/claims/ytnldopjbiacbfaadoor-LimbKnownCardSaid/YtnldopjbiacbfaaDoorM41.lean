/- LimbKnown: the law's walk. Printed by pv/gen_lknown.py. No condition. -/
import Derived.Test.YtnldopjbiacbfaaDoorM38
import Derived.Test.YtnldopjbiacbfaaDoorM40

namespace Go.Proofs.YtnldopjbiacbfaaDoor.W
open Go.RowKit Anv Go.Lib

theorem Lk {N : Nat} {xs : List Nat} (h : N = val 4294967296 xs) (hl : AllLt 4294967296 xs) (hn : Anv.Norm xs) : L N = xs := by
  subst h
  exact dig_val (b := 4294967296) (by decide) hl hn
theorem blen_k {N k : Nat} (h1 : 2 ^ k ≤ N) (h2 : N < 2 ^ (k + 1)) : blen N = k + 1 := by
  have h0 : N ≠ 0 := by have := Nat.pow_pos (n := k) (show 0 < 2 by decide); omega
  have h3 := blen_le h2
  have h4 := lt_blen N
  rcases Nat.lt_or_ge k (blen N) with h | h
  · omega
  · have := Nat.pow_le_pow_right (show 0 < 2 by decide) h
    omega
theorem tz_k {N j k : Nat} (h : IsTz N j) (g : IsTz N k) : (((k : Nat) : Int) == ((j : Nat) : Int)) = true := by rw [h.uniq g]; simp
theorem shr_big {A : Option Addr} {n c N s : Nat} {w : World} (h : NumIn w A n c N) (hn : nl N ≤ 100) (hs0 : 3200 ≤ s) (hs : s ≤ 9223372036854775807) :
    Calls Tryd.prog 56 #[.slice A n c, .int .i64 s] w fun e w' => ∃ v, e = .returned (.tuple #[v, .int .i64 0]) ∧ NumAt w.heap.size w' v 0 ∧ Below w.heap.size w w' := by
  refine (shr_num h (by omega) hs).mono ?_
  have h1 : N < 4294967296 ^ nl N := lt_pow_dig (by decide) N
  have h2 : 4294967296 ^ nl N ≤ 2 ^ s := by
    rw [show (4294967296 : Nat) = 2 ^ 32 from rfl, ← Nat.pow_mul]
    exact Nat.pow_le_pow_right (by decide) (by omega)
  rw [Nat.div_eq_of_lt (Nat.lt_of_lt_of_le h1 h2)]
  exact fun _ _ h => h
section
variable {N : Nat} {dq : List Deferred} {a : Act} {l : List (Nat × Value)} {w : World} {d : Nat} {ty : TypeId} {pos : String} {af : Array Edge} {gd : Option (Nat × Bool)}
theorem rn_known {x y : Operand} {s : ByteArray} {v u : Int} (h : EnvD dq N a l) (hx : evl l x = some (.string s)) (hy : evl l y = some (.agg #[.int .i64 v, .int .i64 u])) :
    (execOp a.eval ⟨some d, .build 83 #[(0, x), (1, y)], ty, pos, af, gd⟩).run Tryd.prog w = .ok (.value (.agg #[.string s, .int .i64 v, .int .i64 u])) w := by
  have hz : (zeroValue 83).run Tryd.prog w = .ok (.agg #[.string ⟨#[]⟩, .int .i64 0, .int .i64 0]) w := by obtain ⟨i, hi, hv⟩ := zero_struct_text_string_e_api_Spot_; simp [zeroValue, typeInfo, hi, hv]
  simp [execOp, h.ev hx, h.ev hy, Instr.build, hz, run_underlying Tryd.underlying83, Sem.run_bind, run_sizeOf ty_string.size, run_sizeOf ty_anvil_api_Spot.size, Instr.fill, Value.cells]
end

set_option maxRecDepth 100000 in
theorem sub_low {A B : Option Addr} {n c m d N M : Nat} {xs ys : List Nat} {w0 : World} (h : U32 w0 A n c xs) (k : U32 w0 B m d ys) (hN : val 4294967296 xs = N) (hM : val 4294967296 ys = M) (hlt : N < M) :
    Calls Tryd.prog 49 #[.slice A n c, .slice B m d] w0 fun e w' => e = .returned (.tuple #[.slice none 0 0, .int .i64 5]) ∧ Below w0.heap.size w0 w' := by
  refine enter Tryd.func49 rfl Tryd.ntmps49 rfl ?_
  intro a henv hst
  replace hst := ((hst.addU h trivial).addU k trivial)
  refine wp_seq ?_
  refine region_seq ?_
  refine seq_step rfl (op_val (v := .slice none 0 0) henv rfl (rn_assign henv rfl) ?_)
  clear henv a; intro a henv
  refine seq_step rfl (op_val (v := .int .i64 0) henv rfl (rn_assign henv rfl) ?_)
  clear henv a; intro a henv
  refine wpList_nil ?_
  refine th_n ?_
  refine wp_seq ?_
  refine wp_seq ?_
  refine region_seq ?_
  refine seq_step rfl (op_val (v := .slice A n c) henv rfl (rn_move henv rfl) ?_)
  clear henv a; intro a henv
  refine seq_step rfl (op_val (v := .slice B m d) henv rfl (rn_move henv rfl) ?_)
  clear henv a; intro a henv
  refine seq_step rfl (op_call henv rfl Tryd.call35 rfl (cmp_num' (N := N) (M := M) ⟨_, (show U32 _ A n c xs from hst.pat (k := 1) rfl), hN⟩ ⟨_, (show U32 _ B m d ys from hst.pat (k := 0) rfl), hM⟩) ?_)
  rintro e w1 ⟨rfl, hb⟩
  refine ⟨_, rfl, ?_⟩
  clear henv a; intro a henv
  replace hst := hst.call hb
  clear hb
  refine seq_step rfl (op_val (v := .bool (decide ((cmpI N M) < (0 : Int)))) henv rfl (rn_bin henv rfl rfl rfl) ?_)
  clear henv a; intro a henv
  rw [show (decide ((cmpI N M) < (0 : Int))) = true from decide_eq_true ((cmpI_neg N M).2 hlt)] at henv
  refine wpList_nil ?_
  refine th_n ?_
  refine if_t henv rfl (rfl) ?_
  refine wp_seq ?_
  refine region_seq ?_
  refine seq_step rfl (op_val (v := .slice none 0 0) henv rfl (rn_assign henv rfl) ?_)
  clear henv a; intro a henv
  refine seq_step rfl (op_val (v := .int .i64 5) henv rfl (rn_assign henv rfl) ?_)
  clear henv a; intro a henv
  refine wpList_nil ?_
  refine th_n ?_
  refine wp_ret ?_
  refine th_r ?_
  refine leave henv (res2 Tryd.results49 (RV.tmp henv rfl) (RV.tmp henv rfl)) ?_
  exact ⟨rfl, hst.below⟩

set_option maxRecDepth 100000 in
set_option maxHeartbeats 4000000 in
theorem known_law {w0 : World} (hT : Deb w0) :
    Calls Tryd.prog 15 #[] w0 fun e w' => e = .returned (.bool true) ∧ Below w0.heap.size w0 w' := by
  have hk0 : nl 0 ≤ 2 := nl_le_of_lt (by decide)
  have hk1 : nl 1 ≤ 2 := nl_le_of_lt (by decide)
  have hk2 : nl 2 ≤ 2 := nl_le_of_lt (by decide)
  have hk5 : nl 5 ≤ 2 := nl_le_of_lt (by decide)
  have hk6 : nl 6 ≤ 2 := nl_le_of_lt (by decide)
  have hk7 : nl 7 ≤ 2 := nl_le_of_lt (by decide)
  have hk12 : nl 12 ≤ 2 := nl_le_of_lt (by decide)
  have hk18 : nl 18 ≤ 2 := nl_le_of_lt (by decide)
  have hk4294967295 : nl 4294967295 ≤ 2 := nl_le_of_lt (by decide)
  have hk4294967296 : nl 4294967296 ≤ 2 := nl_le_of_lt (by decide)
  have hk8589934592 : nl 8589934592 ≤ 2 := nl_le_of_lt (by decide)
  have hk17179869184 : nl 17179869184 ≤ 2 := nl_le_of_lt (by decide)
  have hk429496729 : nl 429496729 ≤ 2 := nl_le_of_lt (by decide)
  refine enter Tryd.func15 rfl Tryd.ntmps15 rfl ?_
  intro a henv hst
  replace hst := hst.addT hT hT
  refine wp_seq ?_
  refine region_seq ?_
  refine seq_step rfl (op_val (v := .bool false) henv rfl (rn_assign henv rfl) ?_)
  clear henv a; intro a henv
  refine wpList_nil ?_
  refine th_n ?_
  refine wp_seq ?_
  refine wp_seq ?_
  refine region_seq ?_
  refine seq_step rfl (op_val (v := .bool false) henv rfl (rn_move henv rfl) ?_)
  clear henv a; intro a henv
  refine seq_g rfl henv rfl rfl (op_call henv rfl Tryd.call32 rfl (works_true _) ?_)
  rintro e w1 ⟨rfl, hb⟩
  refine ⟨_, rfl, ?_⟩
  clear henv a; intro a henv
  replace hst := hst.call hb
  clear hb
  refine seq_g rfl henv rfl rfl (op_val (v := .bool false) henv rfl (rn_un henv rfl rfl) ?_)
  clear henv a; intro a henv
  refine seq_step rfl (op_val (v := .bool false) henv rfl (rn_pick henv rfl rfl) ?_)
  clear henv a; intro a henv
  refine wpList_nil ?_
  refine th_n ?_
  refine if_f henv rfl (rfl) ?_
  refine wp_skip ?_
  refine th_n ?_
  refine wp_seq ?_
  refine wp_seq ?_
  refine region_seq ?_
  refine seq_step rfl (op_buildSlice (z := 1) (pv := #[(0, .int .u32 1), (1, .int .u32 0), (2, .int .u32 0)]) (c := #[.int .u32 1, .int .u32 0, .int .u32 0]) henv hst rfl Tryd.underlying22 (ty_uint32.size) zero_uint32 (by decide) (by decide) rfl (by kernel_rfl) ?_)
  clear henv hst a; intro a w3 g2 henv hst
  replace hst := hst.giveU (k := 0) (n := 3) (xs := [1, 0, 0]) rfl (by intro x hx; simp at hx; omega) rfl (by decide)
  refine seq_step rfl (op_call henv rfl Tryd.call34 rfl (norm_num (N := 1) ⟨_, (show U32 _ (some ⟨g2, 0, none⟩) 3 3 ([1, 0, 0]) from hst.pat (k := 0) rfl), (by decide)⟩ (by omega)) ?_)
  rintro e w6 ⟨_, rfl, ⟨A4, c5, rfl, hU, hA⟩, hb⟩
  refine ⟨_, rfl, ?_⟩
  clear henv a; intro a henv
  replace hst := hst.freshU hb hU hA
  clear hU
  clear hA
  clear hb
  refine seq_step rfl (op_buildSlice (z := 1) (pv := #[(0, .int .u32 1)]) (c := #[.int .u32 1]) henv hst rfl Tryd.underlying22 (ty_uint32.size) zero_uint32 (by decide) (by decide) rfl (by kernel_rfl) ?_)
  clear henv hst a; intro a w8 g7 henv hst
  replace hst := hst.giveU (k := 0) (n := 1) (xs := [1]) rfl (by intro x hx; simp at hx; omega) rfl (by decide)
  refine seq_step rfl (op_call henv rfl Tryd.call36 rfl (equal_u (show U32 _ A4 (nl 1) c5 (L 1) from hst.pat (k := 1) rfl) (show U32 _ (some ⟨g7, 0, none⟩) 1 1 ([1]) from hst.pat (k := 0) rfl)) ?_)
  rintro e w9 ⟨rfl, hb⟩
  refine ⟨_, rfl, ?_⟩
  clear henv a; intro a henv
  replace hst := hst.call hb
  clear hb
  rw [show (decide ((L 1) = [1])) = true from decide_eq_true (Lk (xs := [1]) (by decide) (by intro x hx; simp at hx; omega) (by simp [Anv.Norm]))] at henv
  refine seq_step rfl (op_val (v := .bool false) henv rfl (rn_un henv rfl rfl) ?_)
  clear henv a; intro a henv
  refine seq_step rfl (op_val (v := .bool false) henv rfl (rn_move henv rfl) ?_)
  clear henv a; intro a henv
  refine seq_g rfl henv rfl rfl (op_buildSlice (z := 1) (pv := #[(0, .int .u32 0)]) (c := #[.int .u32 0]) henv hst rfl Tryd.underlying22 (ty_uint32.size) zero_uint32 (by decide) (by decide) rfl (by kernel_rfl) ?_)
  clear henv hst a; intro a w11 g10 henv hst
  replace hst := hst.giveU (k := 0) (n := 1) (xs := [0]) rfl (by intro x hx; simp at hx; omega) rfl (by decide)
  refine seq_g rfl henv rfl rfl (op_call henv rfl Tryd.call34 rfl (norm_num (N := 0) ⟨_, (show U32 _ (some ⟨g10, 0, none⟩) 1 1 ([0]) from hst.pat (k := 0) rfl), (by decide)⟩ (by omega)) ?_)
  rintro e w14 ⟨_, rfl, ⟨A12, c13, rfl, hU, hA⟩, hb⟩
  refine ⟨_, rfl, ?_⟩
  clear henv a; intro a henv
  replace hst := hst.freshU hb hU hA
  clear hU
  clear hA
  clear hb
  refine seq_g rfl henv rfl rfl (op_val (v := .int .i64 (nl 0 : Nat)) henv rfl (rn_len henv Tryd.underlying22 rfl) ?_)
  clear henv a; intro a henv
  refine seq_g rfl henv rfl rfl (op_val (v := .bool (((nl 0 : Nat) : Int) != (0 : Int))) henv rfl (rn_bin henv rfl rfl rfl) ?_)
  clear henv a; intro a henv
  rw [show (((nl 0 : Nat) : Int) != (0 : Int)) = false from (by rw [nl_zero]; rfl)] at henv
  refine seq_step rfl (op_val (v := .bool false) henv rfl (rn_pick henv rfl rfl) ?_)
  clear henv a; intro a henv
  refine seq_step rfl (op_val (v := .bool false) henv rfl (rn_move henv rfl) ?_)
  clear henv a; intro a henv
  refine seq_g rfl henv rfl rfl (op_buildSlice (z := 1) (pv := #[(0, .int .u32 1), (1, .int .u32 0)]) (c := #[.int .u32 1, .int .u32 0]) henv hst rfl Tryd.underlying22 (ty_uint32.size) zero_uint32 (by decide) (by decide) rfl (by kernel_rfl) ?_)
  clear henv hst a; intro a w16 g15 henv hst
  replace hst := hst.giveU (k := 0) (n := 2) (xs := [1, 0]) rfl (by intro x hx; simp at hx; omega) rfl (by decide)
  refine seq_g rfl henv rfl rfl (op_buildSlice (z := 1) (pv := #[(0, .int .u32 1)]) (c := #[.int .u32 1]) henv hst rfl Tryd.underlying22 (ty_uint32.size) zero_uint32 (by decide) (by decide) rfl (by kernel_rfl) ?_)
  clear henv hst a; intro a w18 g17 henv hst
  replace hst := hst.giveU (k := 0) (n := 1) (xs := [1]) rfl (by intro x hx; simp at hx; omega) rfl (by decide)
  refine seq_g rfl henv rfl rfl (op_call henv rfl Tryd.call35 rfl (cmp_num' (N := 1) (M := 1) ⟨_, (show U32 _ (some ⟨g15, 0, none⟩) 2 2 ([1, 0]) from hst.pat (k := 1) rfl), (by decide)⟩ ⟨_, (show U32 _ (some ⟨g17, 0, none⟩) 1 1 ([1]) from hst.pat (k := 0) rfl), (by decide)⟩) ?_)
  rintro e w19 ⟨rfl, hb⟩
  refine ⟨_, rfl, ?_⟩
  clear henv a; intro a henv
  replace hst := hst.call hb
  clear hb
  refine seq_g rfl henv rfl rfl (op_val (v := .bool ((cmpI 1 1) != (0 : Int))) henv rfl (rn_bin henv rfl rfl rfl) ?_)
  clear henv a; intro a henv
  rw [show ((cmpI 1 1) != (0 : Int)) = false from (by rw [cmpI_eq]; rfl)] at henv
  refine seq_step rfl (op_val (v := .bool false) henv rfl (rn_pick henv rfl rfl) ?_)
  clear henv a; intro a henv
  refine seq_step rfl (op_val (v := .bool false) henv rfl (rn_move henv rfl) ?_)
  clear henv a; intro a henv
  refine seq_g rfl henv rfl rfl (op_buildSlice (z := 1) (pv := #[(0, .int .u32 0), (1, .int .u32 1)]) (c := #[.int .u32 0, .int .u32 1]) henv hst rfl Tryd.underlying22 (ty_uint32.size) zero_uint32 (by decide) (by decide) rfl (by kernel_rfl) ?_)
  clear henv hst a; intro a w21 g20 henv hst
  replace hst := hst.giveU (k := 0) (n := 2) (xs := [0, 1]) rfl (by intro x hx; simp at hx; omega) rfl (by decide)
  refine seq_g rfl henv rfl rfl (op_buildSlice (z := 1) (pv := #[(0, .int .u32 4294967295)]) (c := #[.int .u32 4294967295]) henv hst rfl Tryd.underlying22 (ty_uint32.size) zero_uint32 (by decide) (by decide) rfl (by kernel_rfl) ?_)
  clear henv hst a; intro a w23 g22 henv hst
  replace hst := hst.giveU (k := 0) (n := 1) (xs := [4294967295]) rfl (by intro x hx; simp at hx; omega) rfl (by decide)
  refine seq_g rfl henv rfl rfl (op_call henv rfl Tryd.call35 rfl (cmp_num' (N := 4294967296) (M := 4294967295) ⟨_, (show U32 _ (some ⟨g20, 0, none⟩) 2 2 ([0, 1]) from hst.pat (k := 1) rfl), (by decide)⟩ ⟨_, (show U32 _ (some ⟨g22, 0, none⟩) 1 1 ([4294967295]) from hst.pat (k := 0) rfl), (by decide)⟩) ?_)
  rintro e w24 ⟨rfl, hb⟩
  refine ⟨_, rfl, ?_⟩
  clear henv a; intro a henv
  replace hst := hst.call hb
  clear hb
  refine seq_g rfl henv rfl rfl (op_val (v := .bool ((cmpI 4294967296 4294967295) != (1 : Int))) henv rfl (rn_bin henv rfl rfl rfl) ?_)
  clear henv a; intro a henv
  rw [show ((cmpI 4294967296 4294967295) != (1 : Int)) = false from (by rw [cmpI_gt (by decide)]; rfl)] at henv
  refine seq_step rfl (op_val (v := .bool false) henv rfl (rn_pick henv rfl rfl) ?_)
  clear henv a; intro a henv
  refine seq_step rfl (op_val (v := .bool false) henv rfl (rn_move henv rfl) ?_)
  clear henv a; intro a henv
  refine seq_g rfl henv rfl rfl (op_buildSlice (z := 1) (pv := #[(0, .int .u32 4294967295)]) (c := #[.int .u32 4294967295]) henv hst rfl Tryd.underlying22 (ty_uint32.size) zero_uint32 (by decide) (by decide) rfl (by kernel_rfl) ?_)
  clear henv hst a; intro a w26 g25 henv hst
  replace hst := hst.giveU (k := 0) (n := 1) (xs := [4294967295]) rfl (by intro x hx; simp at hx; omega) rfl (by decide)
  refine seq_g rfl henv rfl rfl (op_buildSlice (z := 1) (pv := #[(0, .int .u32 1)]) (c := #[.int .u32 1]) henv hst rfl Tryd.underlying22 (ty_uint32.size) zero_uint32 (by decide) (by decide) rfl (by kernel_rfl) ?_)
  clear henv hst a; intro a w28 g27 henv hst
  replace hst := hst.giveU (k := 0) (n := 1) (xs := [1]) rfl (by intro x hx; simp at hx; omega) rfl (by decide)
  have hs29 := nl_add 4294967295 1
  refine seq_g rfl henv rfl rfl (op_call henv rfl Tryd.call37 rfl (add_num (N := 4294967295) (M := 1) ⟨_, (show U32 _ (some ⟨g25, 0, none⟩) 1 1 ([4294967295]) from hst.pat (k := 1) rfl), (by decide)⟩ ⟨_, (show U32 _ (some ⟨g27, 0, none⟩) 1 1 ([1]) from hst.pat (k := 0) rfl), (by decide)⟩ (by omega) (by omega)) ?_)
  rintro e w32 ⟨_, rfl, ⟨A30, c31, rfl, hU, hA⟩, hb⟩
  refine ⟨_, rfl, ?_⟩
  clear henv a; intro a henv
  replace hst := hst.freshU hb hU hA
  clear hU
  clear hA
  clear hb
  refine seq_g rfl henv rfl rfl (op_buildSlice (z := 1) (pv := #[(0, .int .u32 0), (1, .int .u32 1)]) (c := #[.int .u32 0, .int .u32 1]) henv hst rfl Tryd.underlying22 (ty_uint32.size) zero_uint32 (by decide) (by decide) rfl (by kernel_rfl) ?_)
  clear henv hst a; intro a w34 g33 henv hst
  replace hst := hst.giveU (k := 0) (n := 2) (xs := [0, 1]) rfl (by intro x hx; simp at hx; omega) rfl (by decide)
  refine seq_g rfl henv rfl rfl (op_call henv rfl Tryd.call36 rfl (equal_u (show U32 _ A30 (nl 4294967296) c31 (L 4294967296) from hst.pat (k := 1) rfl) (show U32 _ (some ⟨g33, 0, none⟩) 2 2 ([0, 1]) from hst.pat (k := 0) rfl)) ?_)
  rintro e w35 ⟨rfl, hb⟩
  refine ⟨_, rfl, ?_⟩
  clear henv a; intro a henv
  replace hst := hst.call hb
  clear hb
  rw [show (decide ((L 4294967296) = [0, 1])) = true from decide_eq_true (Lk (xs := [0, 1]) (by decide) (by intro x hx; simp at hx; omega) (by simp [Anv.Norm]))] at henv
  refine seq_g rfl henv rfl rfl (op_val (v := .bool false) henv rfl (rn_un henv rfl rfl) ?_)
  clear henv a; intro a henv
  refine seq_step rfl (op_val (v := .bool false) henv rfl (rn_pick henv rfl rfl) ?_)
  clear henv a; intro a henv
  refine wpList_nil ?_
  refine th_n ?_
  refine if_f henv rfl (rfl) ?_
  refine wp_skip ?_
  refine th_n ?_
  refine wp_seq ?_
  refine region_seq ?_
  refine seq_step rfl (op_buildSlice (z := 1) (pv := #[(0, .int .u32 0), (1, .int .u32 1)]) (c := #[.int .u32 0, .int .u32 1]) henv hst rfl Tryd.underlying22 (ty_uint32.size) zero_uint32 (by decide) (by decide) rfl (by kernel_rfl) ?_)
  clear henv hst a; intro a w37 g36 henv hst
  replace hst := hst.giveU (k := 0) (n := 2) (xs := [0, 1]) rfl (by intro x hx; simp at hx; omega) rfl (by decide)
  refine seq_step rfl (op_buildSlice (z := 1) (pv := #[(0, .int .u32 1)]) (c := #[.int .u32 1]) henv hst rfl Tryd.underlying22 (ty_uint32.size) zero_uint32 (by decide) (by decide) rfl (by kernel_rfl) ?_)
  clear henv hst a; intro a w39 g38 henv hst
  replace hst := hst.giveU (k := 0) (n := 1) (xs := [1]) rfl (by intro x hx; simp at hx; omega) rfl (by decide)
  have hs40 := nl_sub 4294967296 1
  refine seq_step rfl (op_call henv rfl Tryd.call49 rfl (sub_num (N := 4294967296) (M := 1) ⟨_, (show U32 _ (some ⟨g36, 0, none⟩) 2 2 ([0, 1]) from hst.pat (k := 1) rfl), (by decide)⟩ ⟨_, (show U32 _ (some ⟨g38, 0, none⟩) 1 1 ([1]) from hst.pat (k := 0) rfl), (by decide)⟩ (by omega) (by decide)) ?_)
  rintro e w43 ⟨_, rfl, ⟨A41, c42, rfl, hU, hA⟩, hb⟩
  refine ⟨_, rfl, ?_⟩
  clear henv a; intro a henv
  replace hst := hst.freshU hb hU hA
  clear hU
  clear hA
  clear hb
  refine seq_step rfl (op_val (v := .tuple #[.slice A41 (nl 4294967295) c42, .int .i64 0]) henv rfl (rn_move henv rfl) ?_)
  clear henv a; intro a henv
  refine seq_step rfl (op_val (v := .slice A41 (nl 4294967295) c42) henv rfl (rn_extract henv rfl rfl) ?_)
  clear henv a; intro a henv
  refine seq_step rfl (op_val (v := .int .i64 0) henv rfl (rn_extract henv rfl rfl) ?_)
  clear henv a; intro a henv
  refine seq_step rfl (op_val (v := .slice A41 (nl 4294967295) c42) henv rfl (rn_assign henv rfl) ?_)
  clear henv a; intro a henv
  refine seq_step rfl (op_val (v := .int .i64 0) henv rfl (rn_assign henv rfl) ?_)
  clear henv a; intro a henv
  refine wpList_nil ?_
  refine th_n ?_
  refine wp_seq ?_
  refine region_seq ?_
  refine seq_step rfl (op_buildSlice (z := 1) (pv := #[(0, .int .u32 1)]) (c := #[.int .u32 1]) henv hst rfl Tryd.underlying22 (ty_uint32.size) zero_uint32 (by decide) (by decide) rfl (by kernel_rfl) ?_)
  clear henv hst a; intro a w45 g44 henv hst
  replace hst := hst.giveU (k := 0) (n := 1) (xs := [1]) rfl (by intro x hx; simp at hx; omega) rfl (by decide)
  refine seq_step rfl (op_buildSlice (z := 1) (pv := #[(0, .int .u32 2)]) (c := #[.int .u32 2]) henv hst rfl Tryd.underlying22 (ty_uint32.size) zero_uint32 (by decide) (by decide) rfl (by kernel_rfl) ?_)
  clear henv hst a; intro a w47 g46 henv hst
  replace hst := hst.giveU (k := 0) (n := 1) (xs := [2]) rfl (by intro x hx; simp at hx; omega) rfl (by decide)
  refine seq_step rfl (op_call henv rfl Tryd.call49 rfl (sub_low (N := 1) (M := 2) (show U32 _ (some ⟨g44, 0, none⟩) 1 1 ([1]) from hst.pat (k := 1) rfl) (show U32 _ (some ⟨g46, 0, none⟩) 1 1 ([2]) from hst.pat (k := 0) rfl) (by decide) (by decide) (by decide)) ?_)
  rintro e w48 ⟨rfl, hb⟩
  refine ⟨_, rfl, ?_⟩
  clear henv a; intro a henv
  replace hst := hst.call hb
  clear hb
  refine seq_step rfl (op_val (v := .tuple #[.slice none 0 0, .int .i64 5]) henv rfl (rn_move henv rfl) ?_)
  clear henv a; intro a henv
  refine seq_step rfl (op_val (v := .slice none 0 0) henv rfl (rn_extract henv rfl rfl) ?_)
  clear henv a; intro a henv
  refine seq_step rfl (op_val (v := .int .i64 5) henv rfl (rn_extract henv rfl rfl) ?_)
  clear henv a; intro a henv
  refine seq_step rfl (op_val (v := .slice none 0 0) henv rfl (rn_assign henv rfl) ?_)
  clear henv a; intro a henv
  refine seq_step rfl (op_val (v := .int .i64 5) henv rfl (rn_assign henv rfl) ?_)
  clear henv a; intro a henv
  refine wpList_nil ?_
  refine th_n ?_
  refine wp_seq ?_
  refine region_seq ?_
  refine seq_step rfl (op_buildSlice (z := 1) (pv := #[(0, .int .u32 0), (1, .int .u32 0)]) (c := #[.int .u32 0, .int .u32 0]) henv hst rfl Tryd.underlying22 (ty_uint32.size) zero_uint32 (by decide) (by decide) rfl (by kernel_rfl) ?_)
  clear henv hst a; intro a w50 g49 henv hst
  replace hst := hst.giveU (k := 0) (n := 2) (xs := [0, 0]) rfl (by intro x hx; simp at hx; omega) rfl (by decide)
  have hs51 := nl_sub 0 0
  refine seq_step rfl (op_call henv rfl Tryd.call49 rfl (sub_num (N := 0) (M := 0) ⟨_, (show U32 _ (some ⟨g49, 0, none⟩) 2 2 ([0, 0]) from hst.pat (k := 0) rfl), (by decide)⟩ ⟨_, (u32_none _), rfl⟩ (by omega) (by decide)) ?_)
  rintro e w54 ⟨_, rfl, ⟨A52, c53, rfl, hU, hA⟩, hb⟩
  refine ⟨_, rfl, ?_⟩
  clear henv a; intro a henv
  replace hst := hst.freshU hb hU hA
  clear hU
  clear hA
  clear hb
  refine seq_step rfl (op_val (v := .tuple #[.slice A52 (nl 0) c53, .int .i64 0]) henv rfl (rn_move henv rfl) ?_)
  clear henv a; intro a henv
  refine seq_step rfl (op_val (v := .slice A52 (nl 0) c53) henv rfl (rn_extract henv rfl rfl) ?_)
  clear henv a; intro a henv
  refine seq_step rfl (op_val (v := .int .i64 0) henv rfl (rn_extract henv rfl rfl) ?_)
  clear henv a; intro a henv
  refine seq_step rfl (op_val (v := .slice A52 (nl 0) c53) henv rfl (rn_assign henv rfl) ?_)
  clear henv a; intro a henv
  refine seq_step rfl (op_val (v := .int .i64 0) henv rfl (rn_assign henv rfl) ?_)
  clear henv a; intro a henv
  refine wpList_nil ?_
  refine th_n ?_
  refine wp_seq ?_
  refine region_seq ?_
  refine seq_step rfl (op_buildSlice (z := 1) (pv := #[(0, .int .u32 0), (1, .int .u32 1)]) (c := #[.int .u32 0, .int .u32 1]) henv hst rfl Tryd.underlying22 (ty_uint32.size) zero_uint32 (by decide) (by decide) rfl (by kernel_rfl) ?_)
  clear henv hst a; intro a w56 g55 henv hst
  replace hst := hst.giveU (k := 0) (n := 2) (xs := [0, 1]) rfl (by intro x hx; simp at hx; omega) rfl (by decide)
  have hs57 := nl_div 4294967296 10
  refine seq_step rfl (op_call henv rfl Tryd.call39 rfl (divs_num (N := 4294967296) (q := 10) ⟨_, (show U32 _ (some ⟨g55, 0, none⟩) 2 2 ([0, 1]) from hst.pat (k := 0) rfl), (by decide)⟩ (by omega) (by decide) (by decide)) ?_)
  rintro e w60 ⟨_, rfl, ⟨A58, c59, rfl, hU, hA⟩, hb⟩
  refine ⟨_, rfl, ?_⟩
  clear henv a; intro a henv
  replace hst := hst.freshU hb hU hA
  clear hU
  clear hA
  clear hb
  refine seq_step rfl (op_val (v := .tuple #[.slice A58 (nl 429496729) c59, .int .u32 (6 : Nat), .int .i64 0]) henv rfl (rn_move henv rfl) ?_)
  clear henv a; intro a henv
  refine seq_step rfl (op_val (v := .slice A58 (nl 429496729) c59) henv rfl (rn_extract henv rfl rfl) ?_)
  clear henv a; intro a henv
  refine seq_step rfl (op_val (v := .int .u32 (6 : Nat)) henv rfl (rn_extract henv rfl rfl) ?_)
  clear henv a; intro a henv
  refine seq_step rfl (op_val (v := .int .i64 0) henv rfl (rn_extract henv rfl rfl) ?_)
  clear henv a; intro a henv
  refine seq_step rfl (op_val (v := .slice A58 (nl 429496729) c59) henv rfl (rn_assign henv rfl) ?_)
  clear henv a; intro a henv
  refine seq_step rfl (op_val (v := .int .u32 (6 : Nat)) henv rfl (rn_assign henv rfl) ?_)
  clear henv a; intro a henv
  refine seq_step rfl (op_val (v := .int .i64 0) henv rfl (rn_assign henv rfl) ?_)
  clear henv a; intro a henv
  refine wpList_nil ?_
  refine th_n ?_
  refine wp_seq ?_
  refine region_seq ?_
  refine seq_step rfl (op_buildSlice (z := 1) (pv := #[(0, .int .u32 7)]) (c := #[.int .u32 7]) henv hst rfl Tryd.underlying22 (ty_uint32.size) zero_uint32 (by decide) (by decide) rfl (by kernel_rfl) ?_)
  clear henv hst a; intro a w62 g61 henv hst
  replace hst := hst.giveU (k := 0) (n := 1) (xs := [7]) rfl (by intro x hx; simp at hx; omega) rfl (by decide)
  refine seq_step rfl (op_call henv rfl Tryd.call39 rfl divs_zero ?_)
  rintro e w63 ⟨rfl, hb⟩
  refine ⟨_, rfl, ?_⟩
  clear henv a; intro a henv
  replace hst := hst.call hb
  clear hb
  refine seq_step rfl (op_val (v := .tuple #[.slice none 0 0, .int .u32 0, .int .i64 2]) henv rfl (rn_move henv rfl) ?_)
  clear henv a; intro a henv
  refine seq_step rfl (op_val (v := .slice none 0 0) henv rfl (rn_extract henv rfl rfl) ?_)
  clear henv a; intro a henv
  refine seq_step rfl (op_val (v := .int .u32 0) henv rfl (rn_extract henv rfl rfl) ?_)
  clear henv a; intro a henv
  refine seq_step rfl (op_val (v := .int .i64 2) henv rfl (rn_extract henv rfl rfl) ?_)
  clear henv a; intro a henv
  refine seq_step rfl (op_val (v := .slice none 0 0) henv rfl (rn_assign henv rfl) ?_)
  clear henv a; intro a henv
  refine seq_step rfl (op_val (v := .int .u32 0) henv rfl (rn_assign henv rfl) ?_)
  clear henv a; intro a henv
  refine seq_step rfl (op_val (v := .int .i64 2) henv rfl (rn_assign henv rfl) ?_)
  clear henv a; intro a henv
  refine wpList_nil ?_
  refine th_n ?_
  refine wp_seq ?_
  refine region_seq ?_
  refine seq_step rfl (op_buildSlice (z := 1) (pv := #[(0, .int .u32 5)]) (c := #[.int .u32 5]) henv hst rfl Tryd.underlying22 (ty_uint32.size) zero_uint32 (by decide) (by decide) rfl (by kernel_rfl) ?_)
  clear henv hst a; intro a w65 g64 henv hst
  replace hst := hst.giveU (k := 0) (n := 1) (xs := [5]) rfl (by intro x hx; simp at hx; omega) rfl (by decide)
  refine seq_step rfl (op_buildSlice (z := 1) (pv := #[(0, .int .u32 7)]) (c := #[.int .u32 7]) henv hst rfl Tryd.underlying22 (ty_uint32.size) zero_uint32 (by decide) (by decide) rfl (by kernel_rfl) ?_)
  clear henv hst a; intro a w67 g66 henv hst
  replace hst := hst.giveU (k := 0) (n := 1) (xs := [7]) rfl (by intro x hx; simp at hx; omega) rfl (by decide)
  have hs68 := nl_div 5 7
  have hs69 := nl_mod 5 7
  refine seq_step rfl (op_call henv rfl Tryd.call33 rfl (dm_num (N := 5) (M := 7) ⟨_, (show U32 _ (some ⟨g64, 0, none⟩) 1 1 ([5]) from hst.pat (k := 1) rfl), (by decide)⟩ ⟨_, (show U32 _ (some ⟨g66, 0, none⟩) 1 1 ([7]) from hst.pat (k := 0) rfl), (by decide)⟩ (by omega) (by decide)) ?_)
  rintro e w74 ⟨_, _, rfl, ⟨A70, c71, rfl, hU, hA⟩, ⟨A72, c73, rfl, hV, hB⟩, hb⟩
  refine ⟨_, rfl, ?_⟩
  clear henv a; intro a henv
  replace hst := hst.freshU2 hb hU hA hV hB
  clear hU
  clear hA hV hB
  clear hb
  refine seq_step rfl (op_val (v := .tuple #[.slice A70 (nl 0) c71, .slice A72 (nl 5) c73, .int .i64 0]) henv rfl (rn_move henv rfl) ?_)
  clear henv a; intro a henv
  refine seq_step rfl (op_val (v := .slice A70 (nl 0) c71) henv rfl (rn_extract henv rfl rfl) ?_)
  clear henv a; intro a henv
  refine seq_step rfl (op_val (v := .slice A72 (nl 5) c73) henv rfl (rn_extract henv rfl rfl) ?_)
  clear henv a; intro a henv
  refine seq_step rfl (op_val (v := .int .i64 0) henv rfl (rn_extract henv rfl rfl) ?_)
  clear henv a; intro a henv
  refine seq_step rfl (op_val (v := .slice A70 (nl 0) c71) henv rfl (rn_assign henv rfl) ?_)
  clear henv a; intro a henv
  refine seq_step rfl (op_val (v := .slice A72 (nl 5) c73) henv rfl (rn_assign henv rfl) ?_)
  clear henv a; intro a henv
  refine seq_step rfl (op_val (v := .int .i64 0) henv rfl (rn_assign henv rfl) ?_)
  clear henv a; intro a henv
  refine wpList_nil ?_
  refine th_n ?_
  refine wp_seq ?_
  refine region_seq ?_
  refine seq_step rfl (op_buildSlice (z := 1) (pv := #[(0, .int .u32 5)]) (c := #[.int .u32 5]) henv hst rfl Tryd.underlying22 (ty_uint32.size) zero_uint32 (by decide) (by decide) rfl (by kernel_rfl) ?_)
  clear henv hst a; intro a w76 g75 henv hst
  replace hst := hst.giveU (k := 0) (n := 1) (xs := [5]) rfl (by intro x hx; simp at hx; omega) rfl (by decide)
  refine seq_step rfl (op_buildSlice (z := 1) (pv := #[(0, .int .u32 0), (1, .int .u32 0)]) (c := #[.int .u32 0, .int .u32 0]) henv hst rfl Tryd.underlying22 (ty_uint32.size) zero_uint32 (by decide) (by decide) rfl (by kernel_rfl) ?_)
  clear henv hst a; intro a w78 g77 henv hst
  replace hst := hst.giveU (k := 0) (n := 2) (xs := [0, 0]) rfl (by intro x hx; simp at hx; omega) rfl (by decide)
  refine seq_step rfl (op_call henv rfl Tryd.call33 rfl (dm_zero ⟨_, (show U32 _ (some ⟨g77, 0, none⟩) 2 2 ([0, 0]) from hst.pat (k := 0) rfl), (by decide)⟩) ?_)
  rintro e w79 ⟨rfl, hb⟩
  refine ⟨_, rfl, ?_⟩
  clear henv a; intro a henv
  replace hst := hst.call hb
  clear hb
  refine seq_step rfl (op_val (v := .tuple #[.slice none 0 0, .slice none 0 0, .int .i64 2]) henv rfl (rn_move henv rfl) ?_)
  clear henv a; intro a henv
  refine seq_step rfl (op_val (v := .slice none 0 0) henv rfl (rn_extract henv rfl rfl) ?_)
  clear henv a; intro a henv
  refine seq_step rfl (op_val (v := .slice none 0 0) henv rfl (rn_extract henv rfl rfl) ?_)
  clear henv a; intro a henv
  refine seq_step rfl (op_val (v := .int .i64 2) henv rfl (rn_extract henv rfl rfl) ?_)
  clear henv a; intro a henv
  refine seq_step rfl (op_val (v := .slice none 0 0) henv rfl (rn_assign henv rfl) ?_)
  clear henv a; intro a henv
  refine seq_step rfl (op_val (v := .slice none 0 0) henv rfl (rn_assign henv rfl) ?_)
  clear henv a; intro a henv
  refine seq_step rfl (op_val (v := .int .i64 2) henv rfl (rn_assign henv rfl) ?_)
  clear henv a; intro a henv
  refine wpList_nil ?_
  refine th_n ?_
  refine wp_seq ?_
  refine wp_seq ?_
  refine region_seq ?_
  refine seq_step rfl (op_val (v := .slice A41 (nl 4294967295) c42) henv rfl (rn_move henv rfl) ?_)
  clear henv a; intro a henv
  refine seq_step rfl (op_buildSlice (z := 1) (pv := #[(0, .int .u32 4294967295)]) (c := #[.int .u32 4294967295]) henv hst rfl Tryd.underlying22 (ty_uint32.size) zero_uint32 (by decide) (by decide) rfl (by kernel_rfl) ?_)
  clear henv hst a; intro a w81 g80 henv hst
  replace hst := hst.giveU (k := 0) (n := 1) (xs := [4294967295]) rfl (by intro x hx; simp at hx; omega) rfl (by decide)
  refine seq_step rfl (op_call henv rfl Tryd.call36 rfl (equal_u (show U32 _ A41 (nl 4294967295) c42 (L 4294967295) from hst.pat (k := 14) rfl) (show U32 _ (some ⟨g80, 0, none⟩) 1 1 ([4294967295]) from hst.pat (k := 0) rfl)) ?_)
  rintro e w82 ⟨rfl, hb⟩
  refine ⟨_, rfl, ?_⟩
  clear henv a; intro a henv
  replace hst := hst.call hb
  clear hb
  rw [show (decide ((L 4294967295) = [4294967295])) = true from decide_eq_true (Lk (xs := [4294967295]) (by decide) (by intro x hx; simp at hx; omega) (by simp [Anv.Norm]))] at henv
  refine seq_step rfl (op_val (v := .bool false) henv rfl (rn_un henv rfl rfl) ?_)
  clear henv a; intro a henv
  refine seq_step rfl (op_val (v := .bool false) henv rfl (rn_move henv rfl) ?_)
  clear henv a; intro a henv
  refine seq_g rfl henv rfl rfl (op_val (v := .int .i64 0) henv rfl (rn_move henv rfl) ?_)
  clear henv a; intro a henv
  refine seq_g rfl henv rfl rfl (op_val (v := .bool false) henv rfl (rn_bin henv rfl rfl rfl) ?_)
  clear henv a; intro a henv
  refine seq_step rfl (op_val (v := .bool false) henv rfl (rn_pick henv rfl rfl) ?_)
  clear henv a; intro a henv
  refine seq_step rfl (op_val (v := .bool false) henv rfl (rn_move henv rfl) ?_)
  clear henv a; intro a henv
  refine seq_g rfl henv rfl rfl (op_val (v := .slice none 0 0) henv rfl (rn_move henv rfl) ?_)
  clear henv a; intro a henv
  refine seq_g rfl henv rfl rfl (op_val (v := .bool false) henv rfl (rn_nilN (A := none) henv Tryd.underlying22 rfl) ?_)
  clear henv a; intro a henv
  refine seq_step rfl (op_val (v := .bool false) henv rfl (rn_pick henv rfl rfl) ?_)
  clear henv a; intro a henv
  refine seq_step rfl (op_val (v := .bool false) henv rfl (rn_move henv rfl) ?_)
  clear henv a; intro a henv
  refine seq_g rfl henv rfl rfl (op_val (v := .int .i64 5) henv rfl (rn_move henv rfl) ?_)
  clear henv a; intro a henv
  refine seq_g rfl henv rfl rfl (op_val (v := .bool false) henv rfl (rn_bin henv rfl rfl rfl) ?_)
  clear henv a; intro a henv
  refine seq_step rfl (op_val (v := .bool false) henv rfl (rn_pick henv rfl rfl) ?_)
  clear henv a; intro a henv
  refine seq_step rfl (op_val (v := .bool false) henv rfl (rn_move henv rfl) ?_)
  clear henv a; intro a henv
  refine seq_g rfl henv rfl rfl (op_val (v := .slice A52 (nl 0) c53) henv rfl (rn_move henv rfl) ?_)
  clear henv a; intro a henv
  refine seq_g rfl henv rfl rfl (op_val (v := .int .i64 (nl 0 : Nat)) henv rfl (rn_len henv Tryd.underlying22 rfl) ?_)
  clear henv a; intro a henv
  refine seq_g rfl henv rfl rfl (op_val (v := .bool (((nl 0 : Nat) : Int) != (0 : Int))) henv rfl (rn_bin henv rfl rfl rfl) ?_)
  clear henv a; intro a henv
  rw [show (((nl 0 : Nat) : Int) != (0 : Int)) = false from (by rw [nl_zero]; rfl)] at henv
  refine seq_step rfl (op_val (v := .bool false) henv rfl (rn_pick henv rfl rfl) ?_)
  clear henv a; intro a henv
  refine seq_step rfl (op_val (v := .bool false) henv rfl (rn_move henv rfl) ?_)
  clear henv a; intro a henv
  refine seq_g rfl henv rfl rfl (op_val (v := .int .i64 0) henv rfl (rn_move henv rfl) ?_)
  clear henv a; intro a henv
  refine seq_g rfl henv rfl rfl (op_val (v := .bool false) henv rfl (rn_bin henv rfl rfl rfl) ?_)
  clear henv a; intro a henv
  refine seq_step rfl (op_val (v := .bool false) henv rfl (rn_pick henv rfl rfl) ?_)
  clear henv a; intro a henv
  refine seq_step rfl (op_val (v := .bool false) henv rfl (rn_move henv rfl) ?_)
  clear henv a; intro a henv
  refine seq_g rfl henv rfl rfl (op_val (v := .slice A58 (nl 429496729) c59) henv rfl (rn_move henv rfl) ?_)
  clear henv a; intro a henv
  refine seq_g rfl henv rfl rfl (op_buildSlice (z := 1) (pv := #[(0, .int .u32 429496729)]) (c := #[.int .u32 429496729]) henv hst rfl Tryd.underlying22 (ty_uint32.size) zero_uint32 (by decide) (by decide) rfl (by kernel_rfl) ?_)
  clear henv hst a; intro a w84 g83 henv hst
  replace hst := hst.giveU (k := 0) (n := 1) (xs := [429496729]) rfl (by intro x hx; simp at hx; omega) rfl (by decide)
  refine seq_g rfl henv rfl rfl (op_call henv rfl Tryd.call36 rfl (equal_u (show U32 _ A58 (nl 429496729) c59 (L 429496729) from hst.pat (k := 9) rfl) (show U32 _ (some ⟨g83, 0, none⟩) 1 1 ([429496729]) from hst.pat (k := 0) rfl)) ?_)
  rintro e w85 ⟨rfl, hb⟩
  refine ⟨_, rfl, ?_⟩
  clear henv a; intro a henv
  replace hst := hst.call hb
  clear hb
  rw [show (decide ((L 429496729) = [429496729])) = true from decide_eq_true (Lk (xs := [429496729]) (by decide) (by intro x hx; simp at hx; omega) (by simp [Anv.Norm]))] at henv
  refine seq_g rfl henv rfl rfl (op_val (v := .bool false) henv rfl (rn_un henv rfl rfl) ?_)
  clear henv a; intro a henv
  refine seq_step rfl (op_val (v := .bool false) henv rfl (rn_pick henv rfl rfl) ?_)
  clear henv a; intro a henv
  refine seq_step rfl (op_val (v := .bool false) henv rfl (rn_move henv rfl) ?_)
  clear henv a; intro a henv
  refine seq_g rfl henv rfl rfl (op_val (v := .int .u32 (6 : Nat)) henv rfl (rn_move henv rfl) ?_)
  clear henv a; intro a henv
  refine seq_g rfl henv rfl rfl (op_val (v := .bool (((6 : Nat) : Int) != (6 : Int))) henv rfl (rn_bin henv rfl rfl rfl) ?_)
  clear henv a; intro a henv
  rw [show (((6 : Nat) : Int) != (6 : Int)) = false from (by decide)] at henv
  refine seq_step rfl (op_val (v := .bool false) henv rfl (rn_pick henv rfl rfl) ?_)
  clear henv a; intro a henv
  refine seq_step rfl (op_val (v := .bool false) henv rfl (rn_move henv rfl) ?_)
  clear henv a; intro a henv
  refine seq_g rfl henv rfl rfl (op_val (v := .int .i64 0) henv rfl (rn_move henv rfl) ?_)
  clear henv a; intro a henv
  refine seq_g rfl henv rfl rfl (op_val (v := .bool false) henv rfl (rn_bin henv rfl rfl rfl) ?_)
  clear henv a; intro a henv
  refine seq_step rfl (op_val (v := .bool false) henv rfl (rn_pick henv rfl rfl) ?_)
  clear henv a; intro a henv
  refine seq_step rfl (op_val (v := .bool false) henv rfl (rn_move henv rfl) ?_)
  clear henv a; intro a henv
  refine seq_g rfl henv rfl rfl (op_val (v := .int .i64 2) henv rfl (rn_move henv rfl) ?_)
  clear henv a; intro a henv
  refine seq_g rfl henv rfl rfl (op_val (v := .bool false) henv rfl (rn_bin henv rfl rfl rfl) ?_)
  clear henv a; intro a henv
  refine seq_step rfl (op_val (v := .bool false) henv rfl (rn_pick henv rfl rfl) ?_)
  clear henv a; intro a henv
  refine seq_step rfl (op_val (v := .bool false) henv rfl (rn_move henv rfl) ?_)
  clear henv a; intro a henv
  refine seq_g rfl henv rfl rfl (op_val (v := .slice A70 (nl 0) c71) henv rfl (rn_move henv rfl) ?_)
  clear henv a; intro a henv
  refine seq_g rfl henv rfl rfl (op_val (v := .int .i64 (nl 0 : Nat)) henv rfl (rn_len henv Tryd.underlying22 rfl) ?_)
  clear henv a; intro a henv
  refine seq_g rfl henv rfl rfl (op_val (v := .bool (((nl 0 : Nat) : Int) != (0 : Int))) henv rfl (rn_bin henv rfl rfl rfl) ?_)
  clear henv a; intro a henv
  rw [show (((nl 0 : Nat) : Int) != (0 : Int)) = false from (by rw [nl_zero]; rfl)] at henv
  refine seq_step rfl (op_val (v := .bool false) henv rfl (rn_pick henv rfl rfl) ?_)
  clear henv a; intro a henv
  refine seq_step rfl (op_val (v := .bool false) henv rfl (rn_move henv rfl) ?_)
  clear henv a; intro a henv
  refine seq_g rfl henv rfl rfl (op_val (v := .slice A72 (nl 5) c73) henv rfl (rn_move henv rfl) ?_)
  clear henv a; intro a henv
  refine seq_g rfl henv rfl rfl (op_buildSlice (z := 1) (pv := #[(0, .int .u32 5)]) (c := #[.int .u32 5]) henv hst rfl Tryd.underlying22 (ty_uint32.size) zero_uint32 (by decide) (by decide) rfl (by kernel_rfl) ?_)
  clear henv hst a; intro a w87 g86 henv hst
  replace hst := hst.giveU (k := 0) (n := 1) (xs := [5]) rfl (by intro x hx; simp at hx; omega) rfl (by decide)
  refine seq_g rfl henv rfl rfl (op_call henv rfl Tryd.call36 rfl (equal_u (show U32 _ A72 (nl 5) c73 (L 5) from hst.pat (k := 5) rfl) (show U32 _ (some ⟨g86, 0, none⟩) 1 1 ([5]) from hst.pat (k := 0) rfl)) ?_)
  rintro e w88 ⟨rfl, hb⟩
  refine ⟨_, rfl, ?_⟩
  clear henv a; intro a henv
  replace hst := hst.call hb
  clear hb
  rw [show (decide ((L 5) = [5])) = true from decide_eq_true (Lk (xs := [5]) (by decide) (by intro x hx; simp at hx; omega) (by simp [Anv.Norm]))] at henv
  refine seq_g rfl henv rfl rfl (op_val (v := .bool false) henv rfl (rn_un henv rfl rfl) ?_)
  clear henv a; intro a henv
  refine seq_step rfl (op_val (v := .bool false) henv rfl (rn_pick henv rfl rfl) ?_)
  clear henv a; intro a henv
  refine seq_step rfl (op_val (v := .bool false) henv rfl (rn_move henv rfl) ?_)
  clear henv a; intro a henv
  refine seq_g rfl henv rfl rfl (op_val (v := .int .i64 0) henv rfl (rn_move henv rfl) ?_)
  clear henv a; intro a henv
  refine seq_g rfl henv rfl rfl (op_val (v := .bool false) henv rfl (rn_bin henv rfl rfl rfl) ?_)
  clear henv a; intro a henv
  refine seq_step rfl (op_val (v := .bool false) henv rfl (rn_pick henv rfl rfl) ?_)
  clear henv a; intro a henv
  refine seq_step rfl (op_val (v := .bool false) henv rfl (rn_move henv rfl) ?_)
  clear henv a; intro a henv
  refine seq_g rfl henv rfl rfl (op_val (v := .int .i64 2) henv rfl (rn_move henv rfl) ?_)
  clear henv a; intro a henv
  refine seq_g rfl henv rfl rfl (op_val (v := .bool false) henv rfl (rn_bin henv rfl rfl rfl) ?_)
  clear henv a; intro a henv
  refine seq_step rfl (op_val (v := .bool false) henv rfl (rn_pick henv rfl rfl) ?_)
  clear henv a; intro a henv
  refine wpList_nil ?_
  refine th_n ?_
  refine if_f henv rfl (rfl) ?_
  refine wp_skip ?_
  refine th_n ?_
  refine wp_seq ?_
  refine region_seq ?_
  refine seq_step rfl (op_buildSlice (z := 1) (pv := #[(0, .int .u32 1)]) (c := #[.int .u32 1]) henv hst rfl Tryd.underlying22 (ty_uint32.size) zero_uint32 (by decide) (by decide) rfl (by kernel_rfl) ?_)
  clear henv hst a; intro a w90 g89 henv hst
  replace hst := hst.giveU (k := 0) (n := 1) (xs := [1]) rfl (by intro x hx; simp at hx; omega) rfl (by decide)
  have hs93 := nl_shl 1 33
  refine seq_step rfl (op_call henv rfl Tryd.call55 rfl (shl_num (N := 1) (s := 33) ⟨_, (show U32 _ (some ⟨g89, 0, none⟩) 1 1 ([1]) from hst.pat (k := 0) rfl), (by decide)⟩ (by omega) (by omega)) ?_)
  rintro e w94 ⟨_, rfl, ⟨A91, c92, rfl, hU, hA⟩, hb⟩
  refine ⟨_, rfl, ?_⟩
  clear henv a; intro a henv
  replace hst := hst.freshU hb hU hA
  clear hU
  clear hA
  clear hb
  refine seq_step rfl (op_val (v := .tuple #[.slice A91 (nl (1 * 2 ^ 33)) c92, .int .i64 0]) henv rfl (rn_move henv rfl) ?_)
  clear henv a; intro a henv
  refine seq_step rfl (op_val (v := .slice A91 (nl (1 * 2 ^ 33)) c92) henv rfl (rn_extract henv rfl rfl) ?_)
  clear henv a; intro a henv
  refine seq_step rfl (op_val (v := .int .i64 0) henv rfl (rn_extract henv rfl rfl) ?_)
  clear henv a; intro a henv
  refine seq_step rfl (op_val (v := .slice A91 (nl (1 * 2 ^ 33)) c92) henv rfl (rn_assign henv rfl) ?_)
  clear henv a; intro a henv
  refine seq_step rfl (op_val (v := .int .i64 0) henv rfl (rn_assign henv rfl) ?_)
  clear henv a; intro a henv
  refine wpList_nil ?_
  refine th_n ?_
  refine wp_seq ?_
  refine region_seq ?_
  refine seq_step rfl (op_buildSlice (z := 1) (pv := #[(0, .int .u32 1)]) (c := #[.int .u32 1]) henv hst rfl Tryd.underlying22 (ty_uint32.size) zero_uint32 (by decide) (by decide) rfl (by kernel_rfl) ?_)
  clear henv hst a; intro a w96 g95 henv hst
  replace hst := hst.giveU (k := 0) (n := 1) (xs := [1]) rfl (by intro x hx; simp at hx; omega) rfl (by decide)
  refine seq_step rfl (op_call henv rfl Tryd.call55 rfl (shl_neg (by decide)) ?_)
  rintro e w97 ⟨rfl, hb⟩
  refine ⟨_, rfl, ?_⟩
  clear henv a; intro a henv
  replace hst := hst.call hb
  clear hb
  refine seq_step rfl (op_val (v := .tuple #[.slice none 0 0, .int .i64 2]) henv rfl (rn_move henv rfl) ?_)
  clear henv a; intro a henv
  refine seq_step rfl (op_val (v := .slice none 0 0) henv rfl (rn_extract henv rfl rfl) ?_)
  clear henv a; intro a henv
  refine seq_step rfl (op_val (v := .int .i64 2) henv rfl (rn_extract henv rfl rfl) ?_)
  clear henv a; intro a henv
  refine seq_step rfl (op_val (v := .int .i64 2) henv rfl (rn_assign henv rfl) ?_)
  clear henv a; intro a henv
  refine wpList_nil ?_
  refine th_n ?_
  refine wp_seq ?_
  refine region_seq ?_
  refine seq_step rfl (op_call henv rfl Tryd.call55 rfl (shl_far (by decide)) ?_)
  rintro e w98 ⟨rfl, hb⟩
  refine ⟨_, rfl, ?_⟩
  clear henv a; intro a henv
  replace hst := hst.call hb
  clear hb
  refine seq_step rfl (op_val (v := .tuple #[.slice none 0 0, .int .i64 3]) henv rfl (rn_move henv rfl) ?_)
  clear henv a; intro a henv
  refine seq_step rfl (op_val (v := .slice none 0 0) henv rfl (rn_extract henv rfl rfl) ?_)
  clear henv a; intro a henv
  refine seq_step rfl (op_val (v := .int .i64 3) henv rfl (rn_extract henv rfl rfl) ?_)
  clear henv a; intro a henv
  refine seq_step rfl (op_val (v := .int .i64 3) henv rfl (rn_assign henv rfl) ?_)
  clear henv a; intro a henv
  refine wpList_nil ?_
  refine th_n ?_
  refine wp_seq ?_
  refine region_seq ?_
  refine seq_step rfl (op_buildSlice (z := 1) (pv := #[(0, .int .u32 0), (1, .int .u32 2)]) (c := #[.int .u32 0, .int .u32 2]) henv hst rfl Tryd.underlying22 (ty_uint32.size) zero_uint32 (by decide) (by decide) rfl (by kernel_rfl) ?_)
  clear henv hst a; intro a w100 g99 henv hst
  replace hst := hst.giveU (k := 0) (n := 2) (xs := [0, 2]) rfl (by intro x hx; simp at hx; omega) rfl (by decide)
  have hs103 := nl_div 8589934592 (2 ^ 33)
  refine seq_step rfl (op_call henv rfl Tryd.call56 rfl (shr_num (N := 8589934592) (s := 33) ⟨_, (show U32 _ (some ⟨g99, 0, none⟩) 2 2 ([0, 2]) from hst.pat (k := 0) rfl), (by decide)⟩ (by omega) (by decide)) ?_)
  rintro e w104 ⟨_, rfl, ⟨A101, c102, rfl, hU, hA⟩, hb⟩
  refine ⟨_, rfl, ?_⟩
  clear henv a; intro a henv
  replace hst := hst.freshU hb hU hA
  clear hU
  clear hA
  clear hb
  refine seq_step rfl (op_val (v := .tuple #[.slice A101 (nl (8589934592 / 2 ^ 33)) c102, .int .i64 0]) henv rfl (rn_move henv rfl) ?_)
  clear henv a; intro a henv
  refine seq_step rfl (op_val (v := .slice A101 (nl (8589934592 / 2 ^ 33)) c102) henv rfl (rn_extract henv rfl rfl) ?_)
  clear henv a; intro a henv
  refine seq_step rfl (op_val (v := .int .i64 0) henv rfl (rn_extract henv rfl rfl) ?_)
  clear henv a; intro a henv
  refine seq_step rfl (op_val (v := .slice A101 (nl (8589934592 / 2 ^ 33)) c102) henv rfl (rn_assign henv rfl) ?_)
  clear henv a; intro a henv
  refine seq_step rfl (op_val (v := .int .i64 0) henv rfl (rn_assign henv rfl) ?_)
  clear henv a; intro a henv
  refine wpList_nil ?_
  refine th_n ?_
  refine wp_seq ?_
  refine region_seq ?_
  refine seq_step rfl (op_buildSlice (z := 1) (pv := #[(0, .int .u32 1)]) (c := #[.int .u32 1]) henv hst rfl Tryd.underlying22 (ty_uint32.size) zero_uint32 (by decide) (by decide) rfl (by kernel_rfl) ?_)
  clear henv hst a; intro a w106 g105 henv hst
  replace hst := hst.giveU (k := 0) (n := 1) (xs := [1]) rfl (by intro x hx; simp at hx; omega) rfl (by decide)
  refine seq_step rfl (op_call henv rfl Tryd.call56 rfl (shr_big (N := 1) (s := 4611686018427387904) ⟨_, (show U32 _ (some ⟨g105, 0, none⟩) 1 1 ([1]) from hst.pat (k := 0) rfl), (by decide)⟩ (by omega) (by decide) (by decide)) ?_)
  rintro e w109 ⟨_, rfl, ⟨A107, c108, rfl, hU, hA⟩, hb⟩
  refine ⟨_, rfl, ?_⟩
  clear henv a; intro a henv
  replace hst := hst.freshU hb hU hA
  clear hU
  clear hA
  clear hb
  refine seq_step rfl (op_val (v := .tuple #[.slice A107 (nl 0) c108, .int .i64 0]) henv rfl (rn_move henv rfl) ?_)
  clear henv a; intro a henv
  refine seq_step rfl (op_val (v := .slice A107 (nl 0) c108) henv rfl (rn_extract henv rfl rfl) ?_)
  clear henv a; intro a henv
  refine seq_step rfl (op_val (v := .int .i64 0) henv rfl (rn_extract henv rfl rfl) ?_)
  clear henv a; intro a henv
  refine seq_step rfl (op_val (v := .slice A107 (nl 0) c108) henv rfl (rn_assign henv rfl) ?_)
  clear henv a; intro a henv
  refine seq_step rfl (op_val (v := .int .i64 0) henv rfl (rn_assign henv rfl) ?_)
  clear henv a; intro a henv
  refine wpList_nil ?_
  refine th_n ?_
  refine wp_seq ?_
  refine wp_seq ?_
  refine region_seq ?_
  refine seq_step rfl (op_val (v := .slice A91 (nl (1 * 2 ^ 33)) c92) henv rfl (rn_move henv rfl) ?_)
  clear henv a; intro a henv
  refine seq_step rfl (op_buildSlice (z := 1) (pv := #[(0, .int .u32 0), (1, .int .u32 2)]) (c := #[.int .u32 0, .int .u32 2]) henv hst rfl Tryd.underlying22 (ty_uint32.size) zero_uint32 (by decide) (by decide) rfl (by kernel_rfl) ?_)
  clear henv hst a; intro a w111 g110 henv hst
  replace hst := hst.giveU (k := 0) (n := 2) (xs := [0, 2]) rfl (by intro x hx; simp at hx; omega) rfl (by decide)
  refine seq_step rfl (op_call henv rfl Tryd.call36 rfl (equal_u (show U32 _ A91 (nl (1 * 2 ^ 33)) c92 (L (1 * 2 ^ 33)) from hst.pat (k := 6) rfl) (show U32 _ (some ⟨g110, 0, none⟩) 2 2 ([0, 2]) from hst.pat (k := 0) rfl)) ?_)
  rintro e w112 ⟨rfl, hb⟩
  refine ⟨_, rfl, ?_⟩
  clear henv a; intro a henv
  replace hst := hst.call hb
  clear hb
  rw [show (decide ((L (1 * 2 ^ 33)) = [0, 2])) = true from decide_eq_true (Lk (xs := [0, 2]) (by decide) (by intro x hx; simp at hx; omega) (by simp [Anv.Norm]))] at henv
  refine seq_step rfl (op_val (v := .bool false) henv rfl (rn_un henv rfl rfl) ?_)
  clear henv a; intro a henv
  refine seq_step rfl (op_val (v := .bool false) henv rfl (rn_move henv rfl) ?_)
  clear henv a; intro a henv
  refine seq_g rfl henv rfl rfl (op_val (v := .int .i64 0) henv rfl (rn_move henv rfl) ?_)
  clear henv a; intro a henv
  refine seq_g rfl henv rfl rfl (op_val (v := .bool false) henv rfl (rn_bin henv rfl rfl rfl) ?_)
  clear henv a; intro a henv
  refine seq_step rfl (op_val (v := .bool false) henv rfl (rn_pick henv rfl rfl) ?_)
  clear henv a; intro a henv
  refine seq_step rfl (op_val (v := .bool false) henv rfl (rn_move henv rfl) ?_)
  clear henv a; intro a henv
  refine seq_g rfl henv rfl rfl (op_val (v := .int .i64 2) henv rfl (rn_move henv rfl) ?_)
  clear henv a; intro a henv
  refine seq_g rfl henv rfl rfl (op_val (v := .bool false) henv rfl (rn_bin henv rfl rfl rfl) ?_)
  clear henv a; intro a henv
  refine seq_step rfl (op_val (v := .bool false) henv rfl (rn_pick henv rfl rfl) ?_)
  clear henv a; intro a henv
  refine seq_step rfl (op_val (v := .bool false) henv rfl (rn_move henv rfl) ?_)
  clear henv a; intro a henv
  refine seq_g rfl henv rfl rfl (op_val (v := .int .i64 3) henv rfl (rn_move henv rfl) ?_)
  clear henv a; intro a henv
  refine seq_g rfl henv rfl rfl (op_val (v := .bool false) henv rfl (rn_bin henv rfl rfl rfl) ?_)
  clear henv a; intro a henv
  refine seq_step rfl (op_val (v := .bool false) henv rfl (rn_pick henv rfl rfl) ?_)
  clear henv a; intro a henv
  refine seq_step rfl (op_val (v := .bool false) henv rfl (rn_move henv rfl) ?_)
  clear henv a; intro a henv
  refine seq_g rfl henv rfl rfl (op_val (v := .slice A101 (nl (8589934592 / 2 ^ 33)) c102) henv rfl (rn_move henv rfl) ?_)
  clear henv a; intro a henv
  refine seq_g rfl henv rfl rfl (op_buildSlice (z := 1) (pv := #[(0, .int .u32 1)]) (c := #[.int .u32 1]) henv hst rfl Tryd.underlying22 (ty_uint32.size) zero_uint32 (by decide) (by decide) rfl (by kernel_rfl) ?_)
  clear henv hst a; intro a w114 g113 henv hst
  replace hst := hst.giveU (k := 0) (n := 1) (xs := [1]) rfl (by intro x hx; simp at hx; omega) rfl (by decide)
  refine seq_g rfl henv rfl rfl (op_call henv rfl Tryd.call36 rfl (equal_u (show U32 _ A101 (nl (8589934592 / 2 ^ 33)) c102 (L (8589934592 / 2 ^ 33)) from hst.pat (k := 4) rfl) (show U32 _ (some ⟨g113, 0, none⟩) 1 1 ([1]) from hst.pat (k := 0) rfl)) ?_)
  rintro e w115 ⟨rfl, hb⟩
  refine ⟨_, rfl, ?_⟩
  clear henv a; intro a henv
  replace hst := hst.call hb
  clear hb
  rw [show (decide ((L (8589934592 / 2 ^ 33)) = [1])) = true from decide_eq_true (Lk (xs := [1]) (by decide) (by intro x hx; simp at hx; omega) (by simp [Anv.Norm]))] at henv
  refine seq_g rfl henv rfl rfl (op_val (v := .bool false) henv rfl (rn_un henv rfl rfl) ?_)
  clear henv a; intro a henv
  refine seq_step rfl (op_val (v := .bool false) henv rfl (rn_pick henv rfl rfl) ?_)
  clear henv a; intro a henv
  refine seq_step rfl (op_val (v := .bool false) henv rfl (rn_move henv rfl) ?_)
  clear henv a; intro a henv
  refine seq_g rfl henv rfl rfl (op_val (v := .int .i64 0) henv rfl (rn_move henv rfl) ?_)
  clear henv a; intro a henv
  refine seq_g rfl henv rfl rfl (op_val (v := .bool false) henv rfl (rn_bin henv rfl rfl rfl) ?_)
  clear henv a; intro a henv
  refine seq_step rfl (op_val (v := .bool false) henv rfl (rn_pick henv rfl rfl) ?_)
  clear henv a; intro a henv
  refine seq_step rfl (op_val (v := .bool false) henv rfl (rn_move henv rfl) ?_)
  clear henv a; intro a henv
  refine seq_g rfl henv rfl rfl (op_val (v := .slice A107 (nl 0) c108) henv rfl (rn_move henv rfl) ?_)
  clear henv a; intro a henv
  refine seq_g rfl henv rfl rfl (op_val (v := .int .i64 (nl 0 : Nat)) henv rfl (rn_len henv Tryd.underlying22 rfl) ?_)
  clear henv a; intro a henv
  refine seq_g rfl henv rfl rfl (op_val (v := .bool (((nl 0 : Nat) : Int) != (0 : Int))) henv rfl (rn_bin henv rfl rfl rfl) ?_)
  clear henv a; intro a henv
  rw [show (((nl 0 : Nat) : Int) != (0 : Int)) = false from (by rw [nl_zero]; rfl)] at henv
  refine seq_step rfl (op_val (v := .bool false) henv rfl (rn_pick henv rfl rfl) ?_)
  clear henv a; intro a henv
  refine seq_step rfl (op_val (v := .bool false) henv rfl (rn_move henv rfl) ?_)
  clear henv a; intro a henv
  refine seq_g rfl henv rfl rfl (op_val (v := .int .i64 0) henv rfl (rn_move henv rfl) ?_)
  clear henv a; intro a henv
  refine seq_g rfl henv rfl rfl (op_val (v := .bool false) henv rfl (rn_bin henv rfl rfl rfl) ?_)
  clear henv a; intro a henv
  refine seq_step rfl (op_val (v := .bool false) henv rfl (rn_pick henv rfl rfl) ?_)
  clear henv a; intro a henv
  refine wpList_nil ?_
  refine th_n ?_
  refine if_f henv rfl (rfl) ?_
  refine wp_skip ?_
  refine th_n ?_
  refine wp_seq ?_
  refine wp_seq ?_
  refine region_seq ?_
  refine seq_step rfl (op_val (v := .agg #[.int .i64 6, .int .i64 1]) henv rfl (rn_spot2 henv rfl rfl) ?_)
  clear henv a; intro a henv
  refine seq_step rfl (op_val (v := .agg #[.string ⟨#[48, 48, 55]⟩, .int .i64 6, .int .i64 1]) henv rfl (rn_known henv rfl rfl) ?_)
  clear henv a; intro a henv
  refine seq_step rfl (op_val (v := .agg #[.int .i64 6, .int .i64 0]) henv rfl (rn_spot1 henv rfl) ?_)
  clear henv a; intro a henv
  refine seq_step rfl (op_val (v := .agg #[.string ⟨#[]⟩, .int .i64 6, .int .i64 0]) henv rfl (rn_known henv rfl rfl) ?_)
  clear henv a; intro a henv
  refine seq_step rfl (op_val (v := .agg #[.int .i64 6, .int .i64 1]) henv rfl (rn_spot2 henv rfl rfl) ?_)
  clear henv a; intro a henv
  refine seq_step rfl (op_val (v := .agg #[.string ⟨#[49, 120]⟩, .int .i64 6, .int .i64 1]) henv rfl (rn_known henv rfl rfl) ?_)
  clear henv a; intro a henv
  refine seq_step rfl (op_val (v := .agg #[.int .i64 6, .int .i64 0]) henv rfl (rn_spot1 henv rfl) ?_)
  clear henv a; intro a henv
  refine seq_step rfl (op_val (v := .agg #[.string ⟨#[45, 49]⟩, .int .i64 6, .int .i64 0]) henv rfl (rn_known henv rfl rfl) ?_)
  clear henv a; intro a henv
  refine seq_step rfl (op_val (v := .agg #[.int .i64 0, .int .i64 0]) henv rfl (rn_spot0) ?_)
  clear henv a; intro a henv
  refine seq_step rfl (op_val (v := .agg #[.string ⟨#[48]⟩, .int .i64 0, .int .i64 0]) henv rfl (rn_known henv rfl rfl) ?_)
  clear henv a; intro a henv
  refine seq_step rfl (op_val (v := .agg #[.int .i64 0, .int .i64 0]) henv rfl (rn_spot0) ?_)
  clear henv a; intro a henv
  refine seq_step rfl (op_val (v := .agg #[.string ⟨#[52, 50, 57, 52, 57, 54, 55, 50, 57, 54]⟩, .int .i64 0, .int .i64 0]) henv rfl (rn_known henv rfl rfl) ?_)
  clear henv a; intro a henv
  refine seq_step rfl (op_buildSlice (z := 3) (pv := #[(0, .agg #[.string ⟨#[48, 48, 55]⟩, .int .i64 6, .int .i64 1]), (1, .agg #[.string ⟨#[]⟩, .int .i64 6, .int .i64 0]), (2, .agg #[.string ⟨#[49, 120]⟩, .int .i64 6, .int .i64 1]), (3, .agg #[.string ⟨#[45, 49]⟩, .int .i64 6, .int .i64 0]), (4, .agg #[.string ⟨#[48]⟩, .int .i64 0, .int .i64 0]), (5, .agg #[.string ⟨#[52, 50, 57, 52, 57, 54, 55, 50, 57, 54]⟩, .int .i64 0, .int .i64 0])]) (c := #[.string ⟨#[48, 48, 55]⟩, .int .i64 6, .int .i64 1, .string ⟨#[]⟩, .int .i64 6, .int .i64 0, .string ⟨#[49, 120]⟩, .int .i64 6, .int .i64 1, .string ⟨#[45, 49]⟩, .int .i64 6, .int .i64 0, .string ⟨#[48]⟩, .int .i64 0, .int .i64 0, .string ⟨#[52, 50, 57, 52, 57, 54, 55, 50, 57, 54]⟩, .int .i64 0, .int .i64 0]) henv hst rfl Tryd.underlying84 (ty_struct_text_string_e_api_Spot_.size) zero_struct_text_string_e_api_Spot_ (by decide) (by decide) rfl (by kernel_rfl) ?_)
  clear henv hst a; intro a w117 g116 henv hst
  refine seq_step rfl (op_val (v := .int .i64 6) henv rfl (rn_len henv Tryd.underlying84 rfl) ?_)
  clear henv a; intro a henv
  refine seq_step rfl (op_val (v := .int .i64 0) henv rfl (rn_move henv rfl) ?_)
  clear henv a; intro a henv
  refine wpList_nil ?_
  refine th_n ?_
  refine wp_block ?_
  refine wp_loop_ghost (fun mz a w => ∃ j : Nat, 6 - j = mz ∧ Env 312 a [(0, .bool false), (237, .slice (some ⟨g116, 0, none⟩) 6 6), (238, .int .i64 6), (239, .int .i64 (j : Nat))] ∧ St w0 w [bk g116 #[.string ⟨#[48, 48, 55]⟩, .int .i64 6, .int .i64 1, .string ⟨#[]⟩, .int .i64 6, .int .i64 0, .string ⟨#[49, 120]⟩, .int .i64 6, .int .i64 1, .string ⟨#[45, 49]⟩, .int .i64 6, .int .i64 0, .string ⟨#[48]⟩, .int .i64 0, .int .i64 0, .string ⟨#[52, 50, 57, 52, 57, 54, 55, 50, 57, 54]⟩, .int .i64 0, .int .i64 0] 83] [pfT] ∧ j ≤ 6) _ ⟨0, rfl, henv.sub ⟨rfl, rfl, rfl, rfl, trivial⟩, hst.pick [0] [41] (by decide), (Nat.zero_le _)⟩ ?_
  clear henv hst a
  rintro mz a w118 ⟨j, rfl, henv, hst, hj⟩
  rcases (show j = 0 ∨ j = 1 ∨ j = 2 ∨ j = 3 ∨ j = 4 ∨ j = 5 ∨ j = 6 by omega) with rfl | rfl | rfl | rfl | rfl | rfl | rfl
  · refine wp_seq ?_
    refine region_seq ?_
    refine seq_step rfl (op_val (v := .bool true) henv rfl (rn_bin henv rfl rfl rfl) ?_)
    clear henv a; intro a henv
    refine wpList_nil ?_
    refine th_n ?_
    refine wp_seq ?_
    refine if_t henv rfl (rfl) ?_
    refine wp_skip ?_
    refine th_n ?_
    refine wp_seq ?_
    refine wp_block ?_
    refine wp_seq ?_
    refine region_seq ?_
    refine seq_step rfl (op_val (v := .pointer (some ⟨g116, 0, none⟩)) henv rfl (rn_idxO (i := 0) henv Tryd.underlying84 (ty_struct_text_string_e_api_Spot_.size) rfl rfl (by decide) (by omega)) ?_)
    clear henv a; intro a henv
    refine seq_step rfl (op_val (v := .agg #[.string ⟨#[48, 48, 55]⟩, .int .i64 6, .int .i64 1]) henv rfl (rn_load henv ty_struct_text_string_e_api_Spot_ rfl (hst.oat (k := 0) rfl) rfl rfl) ?_)
    clear henv a; intro a henv
    refine seq_step rfl (op_alloc (c := #[.string ⟨#[]⟩, .int .i64 0, .int .i64 0]) henv hst rfl zero_struct_text_string_e_api_Spot_ rfl ?_)
    clear henv hst a; intro a w120 g119 henv hst
    refine seq_step rfl (op_store (k := 0) (c' := #[.string ⟨#[48, 48, 55]⟩, .int .i64 6, .int .i64 1]) henv hst (ty_struct_text_string_e_api_Spot_.size) rfl rfl rfl rfl (by simp) rfl rfl ?_)
    clear henv hst a; intro a w121 henv hst
    refine wpList_nil ?_
    refine th_n ?_
    refine wp_seq ?_
    refine region_seq ?_
    refine seq_step rfl (op_val (v := .pointer (some ⟨g119, 0, none⟩)) henv rfl (rn_fieldAddr henv fd_struct_text_string_e_api_Spot__0 (ty_string.size) (by decide) rfl) ?_)
    clear henv a; intro a henv
    refine seq_step rfl (op_val (v := .string ⟨#[48, 48, 55]⟩) henv rfl (rn_load1 henv ty_string rfl (hst.oat (k := 0) rfl) rfl) ?_)
    clear henv a; intro a henv
    refine seq_step rfl (op_call henv rfl Tryd.call65 rfl (read_bad (l := [48, 48, 55]) (i := 1) (by decide) (by decide) (by unfold BadAt; decide) (by unfold BadAt; decide)) ?_)
    rintro e w122 ⟨rfl, hb⟩
    refine ⟨_, rfl, ?_⟩
    clear henv a; intro a henv
    replace hst := hst.call hb
    clear hb
    refine seq_step rfl (op_val (v := .tuple #[.slice none 0 0, .agg #[.int .i64 6, .int .i64 1]]) henv rfl (rn_move henv rfl) ?_)
    clear henv a; intro a henv
    refine seq_step rfl (op_val (v := .slice none 0 0) henv rfl (rn_extract henv rfl rfl) ?_)
    clear henv a; intro a henv
    refine seq_step rfl (op_val (v := .agg #[.int .i64 6, .int .i64 1]) henv rfl (rn_extract henv rfl rfl) ?_)
    clear henv a; intro a henv
    refine seq_step rfl (op_alloc (c := #[.int .i64 0, .int .i64 0]) henv hst rfl zero_anvil_api_Spot rfl ?_)
    clear henv hst a; intro a w124 g123 henv hst
    refine seq_step rfl (op_val (v := .slice none 0 0) henv rfl (rn_assign henv rfl) ?_)
    clear henv a; intro a henv
    refine seq_step rfl (op_store (k := 0) (c' := #[.int .i64 6, .int .i64 1]) henv hst (ty_anvil_api_Spot.size) rfl rfl rfl rfl (by simp) rfl rfl ?_)
    clear henv hst a; intro a w125 henv hst
    refine wpList_nil ?_
    refine th_n ?_
    refine wp_seq ?_
    refine region_seq ?_
    refine seq_step rfl (op_val (v := .agg #[.int .i64 6, .int .i64 1]) henv rfl (rn_load0 henv ty_anvil_api_Spot rfl (hst.oat (k := 0) rfl) rfl) ?_)
    clear henv a; intro a henv
    refine seq_step rfl (op_val (v := .pointer (some ⟨g119, 1, none⟩)) henv rfl (rn_fieldAddr henv fd_struct_text_string_e_api_Spot__1 (ty_anvil_api_Spot.size) (by decide) rfl) ?_)
    clear henv a; intro a henv
    refine seq_step rfl (op_val (v := .agg #[.int .i64 6, .int .i64 1]) henv rfl (rn_load henv ty_anvil_api_Spot rfl (hst.oat (k := 1) rfl) rfl rfl) ?_)
    clear henv a; intro a henv
    refine seq_step rfl (op_val (v := .bool (!decide ([(6 : Int), (1 : Int)] = [(6 : Int), (1 : Int)]))) henv rfl (rn_neqI [(6 : Int), (1 : Int)] [(6 : Int), (1 : Int)] henv spotI rfl rfl rfl rfl) ?_)
    clear henv a; intro a henv
    rw [show (!decide ([(6 : Int), (1 : Int)] = [(6 : Int), (1 : Int)])) = false from (by decide)] at henv
    refine seq_step rfl (op_val (v := .bool false) henv rfl (rn_move henv rfl) ?_)
    clear henv a; intro a henv
    refine seq_g rfl henv rfl rfl (op_val (v := .pointer (some ⟨g119, 0, none⟩)) henv rfl (rn_fieldAddr henv fd_struct_text_string_e_api_Spot__0 (ty_string.size) (by decide) rfl) ?_)
    clear henv a; intro a henv
    refine seq_g rfl henv rfl rfl (op_val (v := .string ⟨#[48, 48, 55]⟩) henv rfl (rn_load1 henv ty_string rfl (hst.oat (k := 1) rfl) rfl) ?_)
    clear henv a; intro a henv
    refine seq_g rfl henv rfl rfl (op_val (v := .bool (decide (([48, 48, 55] : List UInt8) = [52, 50, 57, 52, 57, 54, 55, 50, 57, 54]))) henv rfl (rn_eqls (s := [48, 48, 55]) (t := [52, 50, 57, 52, 57, 54, 55, 50, 57, 54]) henv rfl rfl) ?_)
    clear henv a; intro a henv
    rw [show (decide (([48, 48, 55] : List UInt8) = [52, 50, 57, 52, 57, 54, 55, 50, 57, 54])) = false from (by decide)] at henv
    refine seq_g rfl henv rfl rfl (op_val (v := .bool false) henv rfl (rn_move henv rfl) ?_)
    clear henv a; intro a henv
    refine seq_skip rfl henv rfl rfl rfl rfl ?_
    clear henv a; intro a henv
    refine seq_skip rfl henv rfl rfl rfl rfl ?_
    clear henv a; intro a henv
    refine seq_skip rfl henv rfl rfl rfl rfl ?_
    clear henv a; intro a henv
    refine seq_skip rfl henv rfl rfl rfl rfl ?_
    clear henv a; intro a henv
    refine seq_g rfl henv rfl rfl (op_val (v := .bool false) henv rfl (rn_pick henv rfl rfl) ?_)
    clear henv a; intro a henv
    refine seq_step rfl (op_val (v := .bool false) henv rfl (rn_pick henv rfl rfl) ?_)
    clear henv a; intro a henv
    refine wpList_nil ?_
    refine th_n ?_
    refine if_f henv rfl (rfl) ?_
    refine wp_skip ?_
    refine bl_n (th_n ?_)
    refine region_seq ?_
    refine seq_step rfl (op_val (v := .int .i64 1) henv rfl (rn_bin henv rfl rfl rfl) ?_)
    clear henv a; intro a henv
    refine seq_step rfl (op_val (v := .int .i64 1) henv rfl (rn_move henv rfl) ?_)
    clear henv a; intro a henv
    refine wpList_nil ?_
    exact th_n ⟨_, (by decide), ⟨1, rfl, henv.sub ⟨rfl, rfl, rfl, rfl, trivial⟩, hst.pick [2] [0] (by decide), (by decide)⟩⟩
  · refine wp_seq ?_
    refine region_seq ?_
    refine seq_step rfl (op_val (v := .bool true) henv rfl (rn_bin henv rfl rfl rfl) ?_)
    clear henv a; intro a henv
    refine wpList_nil ?_
    refine th_n ?_
    refine wp_seq ?_
    refine if_t henv rfl (rfl) ?_
    refine wp_skip ?_
    refine th_n ?_
    refine wp_seq ?_
    refine wp_block ?_
    refine wp_seq ?_
    refine region_seq ?_
    refine seq_step rfl (op_val (v := .pointer (some ⟨g116, 3, none⟩)) henv rfl (rn_idxO (i := 1) henv Tryd.underlying84 (ty_struct_text_string_e_api_Spot_.size) rfl rfl (by decide) (by omega)) ?_)
    clear henv a; intro a henv
    refine seq_step rfl (op_val (v := .agg #[.string ⟨#[]⟩, .int .i64 6, .int .i64 0]) henv rfl (rn_load henv ty_struct_text_string_e_api_Spot_ rfl (hst.oat (k := 0) rfl) rfl rfl) ?_)
    clear henv a; intro a henv
    refine seq_step rfl (op_alloc (c := #[.string ⟨#[]⟩, .int .i64 0, .int .i64 0]) henv hst rfl zero_struct_text_string_e_api_Spot_ rfl ?_)
    clear henv hst a; intro a w127 g126 henv hst
    refine seq_step rfl (op_store (k := 0) (c' := #[.string ⟨#[]⟩, .int .i64 6, .int .i64 0]) henv hst (ty_struct_text_string_e_api_Spot_.size) rfl rfl rfl rfl (by simp) rfl rfl ?_)
    clear henv hst a; intro a w128 henv hst
    refine wpList_nil ?_
    refine th_n ?_
    refine wp_seq ?_
    refine region_seq ?_
    refine seq_step rfl (op_val (v := .pointer (some ⟨g126, 0, none⟩)) henv rfl (rn_fieldAddr henv fd_struct_text_string_e_api_Spot__0 (ty_string.size) (by decide) rfl) ?_)
    clear henv a; intro a henv
    refine seq_step rfl (op_val (v := .string ⟨#[]⟩) henv rfl (rn_load1 henv ty_string rfl (hst.oat (k := 0) rfl) rfl) ?_)
    clear henv a; intro a henv
    refine seq_step rfl (op_call henv rfl Tryd.call65 rfl (read_empty rfl) ?_)
    rintro e w129 ⟨rfl, hb⟩
    refine ⟨_, rfl, ?_⟩
    clear henv a; intro a henv
    replace hst := hst.call hb
    clear hb
    refine seq_step rfl (op_val (v := .tuple #[.slice none 0 0, .agg #[.int .i64 6, .int .i64 0]]) henv rfl (rn_move henv rfl) ?_)
    clear henv a; intro a henv
    refine seq_step rfl (op_val (v := .slice none 0 0) henv rfl (rn_extract henv rfl rfl) ?_)
    clear henv a; intro a henv
    refine seq_step rfl (op_val (v := .agg #[.int .i64 6, .int .i64 0]) henv rfl (rn_extract henv rfl rfl) ?_)
    clear henv a; intro a henv
    refine seq_step rfl (op_alloc (c := #[.int .i64 0, .int .i64 0]) henv hst rfl zero_anvil_api_Spot rfl ?_)
    clear henv hst a; intro a w131 g130 henv hst
    refine seq_step rfl (op_val (v := .slice none 0 0) henv rfl (rn_assign henv rfl) ?_)
    clear henv a; intro a henv
    refine seq_step rfl (op_store (k := 0) (c' := #[.int .i64 6, .int .i64 0]) henv hst (ty_anvil_api_Spot.size) rfl rfl rfl rfl (by simp) rfl rfl ?_)
    clear henv hst a; intro a w132 henv hst
    refine wpList_nil ?_
    refine th_n ?_
    refine wp_seq ?_
    refine region_seq ?_
    refine seq_step rfl (op_val (v := .agg #[.int .i64 6, .int .i64 0]) henv rfl (rn_load0 henv ty_anvil_api_Spot rfl (hst.oat (k := 0) rfl) rfl) ?_)
    clear henv a; intro a henv
    refine seq_step rfl (op_val (v := .pointer (some ⟨g126, 1, none⟩)) henv rfl (rn_fieldAddr henv fd_struct_text_string_e_api_Spot__1 (ty_anvil_api_Spot.size) (by decide) rfl) ?_)
    clear henv a; intro a henv
    refine seq_step rfl (op_val (v := .agg #[.int .i64 6, .int .i64 0]) henv rfl (rn_load henv ty_anvil_api_Spot rfl (hst.oat (k := 1) rfl) rfl rfl) ?_)
    clear henv a; intro a henv
    refine seq_step rfl (op_val (v := .bool (!decide ([(6 : Int), (0 : Int)] = [(6 : Int), (0 : Int)]))) henv rfl (rn_neqI [(6 : Int), (0 : Int)] [(6 : Int), (0 : Int)] henv spotI rfl rfl rfl rfl) ?_)
    clear henv a; intro a henv
    rw [show (!decide ([(6 : Int), (0 : Int)] = [(6 : Int), (0 : Int)])) = false from (by decide)] at henv
    refine seq_step rfl (op_val (v := .bool false) henv rfl (rn_move henv rfl) ?_)
    clear henv a; intro a henv
    refine seq_g rfl henv rfl rfl (op_val (v := .pointer (some ⟨g126, 0, none⟩)) henv rfl (rn_fieldAddr henv fd_struct_text_string_e_api_Spot__0 (ty_string.size) (by decide) rfl) ?_)
    clear henv a; intro a henv
    refine seq_g rfl henv rfl rfl (op_val (v := .string ⟨#[]⟩) henv rfl (rn_load1 henv ty_string rfl (hst.oat (k := 1) rfl) rfl) ?_)
    clear henv a; intro a henv
    refine seq_g rfl henv rfl rfl (op_val (v := .bool (decide (([] : List UInt8) = [52, 50, 57, 52, 57, 54, 55, 50, 57, 54]))) henv rfl (rn_eqls (s := []) (t := [52, 50, 57, 52, 57, 54, 55, 50, 57, 54]) henv rfl rfl) ?_)
    clear henv a; intro a henv
    rw [show (decide (([] : List UInt8) = [52, 50, 57, 52, 57, 54, 55, 50, 57, 54])) = false from (by decide)] at henv
    refine seq_g rfl henv rfl rfl (op_val (v := .bool false) henv rfl (rn_move henv rfl) ?_)
    clear henv a; intro a henv
    refine seq_skip rfl henv rfl rfl rfl rfl ?_
    clear henv a; intro a henv
    refine seq_skip rfl henv rfl rfl rfl rfl ?_
    clear henv a; intro a henv
    refine seq_skip rfl henv rfl rfl rfl rfl ?_
    clear henv a; intro a henv
    refine seq_skip rfl henv rfl rfl rfl rfl ?_
    clear henv a; intro a henv
    refine seq_g rfl henv rfl rfl (op_val (v := .bool false) henv rfl (rn_pick henv rfl rfl) ?_)
    clear henv a; intro a henv
    refine seq_step rfl (op_val (v := .bool false) henv rfl (rn_pick henv rfl rfl) ?_)
    clear henv a; intro a henv
    refine wpList_nil ?_
    refine th_n ?_
    refine if_f henv rfl (rfl) ?_
    refine wp_skip ?_
    refine bl_n (th_n ?_)
    refine region_seq ?_
    refine seq_step rfl (op_val (v := .int .i64 2) henv rfl (rn_bin henv rfl rfl rfl) ?_)
    clear henv a; intro a henv
    refine seq_step rfl (op_val (v := .int .i64 2) henv rfl (rn_move henv rfl) ?_)
    clear henv a; intro a henv
    refine wpList_nil ?_
    exact th_n ⟨_, (by decide), ⟨2, rfl, henv.sub ⟨rfl, rfl, rfl, rfl, trivial⟩, hst.pick [2] [0] (by decide), (by decide)⟩⟩
  · refine wp_seq ?_
    refine region_seq ?_
    refine seq_step rfl (op_val (v := .bool true) henv rfl (rn_bin henv rfl rfl rfl) ?_)
    clear henv a; intro a henv
    refine wpList_nil ?_
    refine th_n ?_
    refine wp_seq ?_
    refine if_t henv rfl (rfl) ?_
    refine wp_skip ?_
    refine th_n ?_
    refine wp_seq ?_
    refine wp_block ?_
    refine wp_seq ?_
    refine region_seq ?_
    refine seq_step rfl (op_val (v := .pointer (some ⟨g116, 6, none⟩)) henv rfl (rn_idxO (i := 2) henv Tryd.underlying84 (ty_struct_text_string_e_api_Spot_.size) rfl rfl (by decide) (by omega)) ?_)
    clear henv a; intro a henv
    refine seq_step rfl (op_val (v := .agg #[.string ⟨#[49, 120]⟩, .int .i64 6, .int .i64 1]) henv rfl (rn_load henv ty_struct_text_string_e_api_Spot_ rfl (hst.oat (k := 0) rfl) rfl rfl) ?_)
    clear henv a; intro a henv
    refine seq_step rfl (op_alloc (c := #[.string ⟨#[]⟩, .int .i64 0, .int .i64 0]) henv hst rfl zero_struct_text_string_e_api_Spot_ rfl ?_)
    clear henv hst a; intro a w134 g133 henv hst
    refine seq_step rfl (op_store (k := 0) (c' := #[.string ⟨#[49, 120]⟩, .int .i64 6, .int .i64 1]) henv hst (ty_struct_text_string_e_api_Spot_.size) rfl rfl rfl rfl (by simp) rfl rfl ?_)
    clear henv hst a; intro a w135 henv hst
    refine wpList_nil ?_
    refine th_n ?_
    refine wp_seq ?_
    refine region_seq ?_
    refine seq_step rfl (op_val (v := .pointer (some ⟨g133, 0, none⟩)) henv rfl (rn_fieldAddr henv fd_struct_text_string_e_api_Spot__0 (ty_string.size) (by decide) rfl) ?_)
    clear henv a; intro a henv
    refine seq_step rfl (op_val (v := .string ⟨#[49, 120]⟩) henv rfl (rn_load1 henv ty_string rfl (hst.oat (k := 0) rfl) rfl) ?_)
    clear henv a; intro a henv
    refine seq_step rfl (op_call henv rfl Tryd.call65 rfl (read_bad (l := [49, 120]) (i := 1) (by decide) (by decide) (by unfold BadAt; decide) (by unfold BadAt; decide)) ?_)
    rintro e w136 ⟨rfl, hb⟩
    refine ⟨_, rfl, ?_⟩
    clear henv a; intro a henv
    replace hst := hst.call hb
    clear hb
    refine seq_step rfl (op_val (v := .tuple #[.slice none 0 0, .agg #[.int .i64 6, .int .i64 1]]) henv rfl (rn_move henv rfl) ?_)
    clear henv a; intro a henv
    refine seq_step rfl (op_val (v := .slice none 0 0) henv rfl (rn_extract henv rfl rfl) ?_)
    clear henv a; intro a henv
    refine seq_step rfl (op_val (v := .agg #[.int .i64 6, .int .i64 1]) henv rfl (rn_extract henv rfl rfl) ?_)
    clear henv a; intro a henv
    refine seq_step rfl (op_alloc (c := #[.int .i64 0, .int .i64 0]) henv hst rfl zero_anvil_api_Spot rfl ?_)
    clear henv hst a; intro a w138 g137 henv hst
    refine seq_step rfl (op_val (v := .slice none 0 0) henv rfl (rn_assign henv rfl) ?_)
    clear henv a; intro a henv
    refine seq_step rfl (op_store (k := 0) (c' := #[.int .i64 6, .int .i64 1]) henv hst (ty_anvil_api_Spot.size) rfl rfl rfl rfl (by simp) rfl rfl ?_)
    clear henv hst a; intro a w139 henv hst
    refine wpList_nil ?_
    refine th_n ?_
    refine wp_seq ?_
    refine region_seq ?_
    refine seq_step rfl (op_val (v := .agg #[.int .i64 6, .int .i64 1]) henv rfl (rn_load0 henv ty_anvil_api_Spot rfl (hst.oat (k := 0) rfl) rfl) ?_)
    clear henv a; intro a henv
    refine seq_step rfl (op_val (v := .pointer (some ⟨g133, 1, none⟩)) henv rfl (rn_fieldAddr henv fd_struct_text_string_e_api_Spot__1 (ty_anvil_api_Spot.size) (by decide) rfl) ?_)
    clear henv a; intro a henv
    refine seq_step rfl (op_val (v := .agg #[.int .i64 6, .int .i64 1]) henv rfl (rn_load henv ty_anvil_api_Spot rfl (hst.oat (k := 1) rfl) rfl rfl) ?_)
    clear henv a; intro a henv
    refine seq_step rfl (op_val (v := .bool (!decide ([(6 : Int), (1 : Int)] = [(6 : Int), (1 : Int)]))) henv rfl (rn_neqI [(6 : Int), (1 : Int)] [(6 : Int), (1 : Int)] henv spotI rfl rfl rfl rfl) ?_)
    clear henv a; intro a henv
    rw [show (!decide ([(6 : Int), (1 : Int)] = [(6 : Int), (1 : Int)])) = false from (by decide)] at henv
    refine seq_step rfl (op_val (v := .bool false) henv rfl (rn_move henv rfl) ?_)
    clear henv a; intro a henv
    refine seq_g rfl henv rfl rfl (op_val (v := .pointer (some ⟨g133, 0, none⟩)) henv rfl (rn_fieldAddr henv fd_struct_text_string_e_api_Spot__0 (ty_string.size) (by decide) rfl) ?_)
    clear henv a; intro a henv
    refine seq_g rfl henv rfl rfl (op_val (v := .string ⟨#[49, 120]⟩) henv rfl (rn_load1 henv ty_string rfl (hst.oat (k := 1) rfl) rfl) ?_)
    clear henv a; intro a henv
    refine seq_g rfl henv rfl rfl (op_val (v := .bool (decide (([49, 120] : List UInt8) = [52, 50, 57, 52, 57, 54, 55, 50, 57, 54]))) henv rfl (rn_eqls (s := [49, 120]) (t := [52, 50, 57, 52, 57, 54, 55, 50, 57, 54]) henv rfl rfl) ?_)
    clear henv a; intro a henv
    rw [show (decide (([49, 120] : List UInt8) = [52, 50, 57, 52, 57, 54, 55, 50, 57, 54])) = false from (by decide)] at henv
    refine seq_g rfl henv rfl rfl (op_val (v := .bool false) henv rfl (rn_move henv rfl) ?_)
    clear henv a; intro a henv
    refine seq_skip rfl henv rfl rfl rfl rfl ?_
    clear henv a; intro a henv
    refine seq_skip rfl henv rfl rfl rfl rfl ?_
    clear henv a; intro a henv
    refine seq_skip rfl henv rfl rfl rfl rfl ?_
    clear henv a; intro a henv
    refine seq_skip rfl henv rfl rfl rfl rfl ?_
    clear henv a; intro a henv
    refine seq_g rfl henv rfl rfl (op_val (v := .bool false) henv rfl (rn_pick henv rfl rfl) ?_)
    clear henv a; intro a henv
    refine seq_step rfl (op_val (v := .bool false) henv rfl (rn_pick henv rfl rfl) ?_)
    clear henv a; intro a henv
    refine wpList_nil ?_
    refine th_n ?_
    refine if_f henv rfl (rfl) ?_
    refine wp_skip ?_
    refine bl_n (th_n ?_)
    refine region_seq ?_
    refine seq_step rfl (op_val (v := .int .i64 3) henv rfl (rn_bin henv rfl rfl rfl) ?_)
    clear henv a; intro a henv
    refine seq_step rfl (op_val (v := .int .i64 3) henv rfl (rn_move henv rfl) ?_)
    clear henv a; intro a henv
    refine wpList_nil ?_
    exact th_n ⟨_, (by decide), ⟨3, rfl, henv.sub ⟨rfl, rfl, rfl, rfl, trivial⟩, hst.pick [2] [0] (by decide), (by decide)⟩⟩
  · refine wp_seq ?_
    refine region_seq ?_
    refine seq_step rfl (op_val (v := .bool true) henv rfl (rn_bin henv rfl rfl rfl) ?_)
    clear henv a; intro a henv
    refine wpList_nil ?_
    refine th_n ?_
    refine wp_seq ?_
    refine if_t henv rfl (rfl) ?_
    refine wp_skip ?_
    refine th_n ?_
    refine wp_seq ?_
    refine wp_block ?_
    refine wp_seq ?_
    refine region_seq ?_
    refine seq_step rfl (op_val (v := .pointer (some ⟨g116, 9, none⟩)) henv rfl (rn_idxO (i := 3) henv Tryd.underlying84 (ty_struct_text_string_e_api_Spot_.size) rfl rfl (by decide) (by omega)) ?_)
    clear henv a; intro a henv
    refine seq_step rfl (op_val (v := .agg #[.string ⟨#[45, 49]⟩, .int .i64 6, .int .i64 0]) henv rfl (rn_load henv ty_struct_text_string_e_api_Spot_ rfl (hst.oat (k := 0) rfl) rfl rfl) ?_)
    clear henv a; intro a henv
    refine seq_step rfl (op_alloc (c := #[.string ⟨#[]⟩, .int .i64 0, .int .i64 0]) henv hst rfl zero_struct_text_string_e_api_Spot_ rfl ?_)
    clear henv hst a; intro a w141 g140 henv hst
    refine seq_step rfl (op_store (k := 0) (c' := #[.string ⟨#[45, 49]⟩, .int .i64 6, .int .i64 0]) henv hst (ty_struct_text_string_e_api_Spot_.size) rfl rfl rfl rfl (by simp) rfl rfl ?_)
    clear henv hst a; intro a w142 henv hst
    refine wpList_nil ?_
    refine th_n ?_
    refine wp_seq ?_
    refine region_seq ?_
    refine seq_step rfl (op_val (v := .pointer (some ⟨g140, 0, none⟩)) henv rfl (rn_fieldAddr henv fd_struct_text_string_e_api_Spot__0 (ty_string.size) (by decide) rfl) ?_)
    clear henv a; intro a henv
    refine seq_step rfl (op_val (v := .string ⟨#[45, 49]⟩) henv rfl (rn_load1 henv ty_string rfl (hst.oat (k := 0) rfl) rfl) ?_)
    clear henv a; intro a henv
    refine seq_step rfl (op_call henv rfl Tryd.call65 rfl (read_bad (l := [45, 49]) (i := 0) (by decide) (by decide) (by unfold BadAt; decide) (by unfold BadAt; decide)) ?_)
    rintro e w143 ⟨rfl, hb⟩
    refine ⟨_, rfl, ?_⟩
    clear henv a; intro a henv
    replace hst := hst.call hb
    clear hb
    refine seq_step rfl (op_val (v := .tuple #[.slice none 0 0, .agg #[.int .i64 6, .int .i64 0]]) henv rfl (rn_move henv rfl) ?_)
    clear henv a; intro a henv
    refine seq_step rfl (op_val (v := .slice none 0 0) henv rfl (rn_extract henv rfl rfl) ?_)
    clear henv a; intro a henv
    refine seq_step rfl (op_val (v := .agg #[.int .i64 6, .int .i64 0]) henv rfl (rn_extract henv rfl rfl) ?_)
    clear henv a; intro a henv
    refine seq_step rfl (op_alloc (c := #[.int .i64 0, .int .i64 0]) henv hst rfl zero_anvil_api_Spot rfl ?_)
    clear henv hst a; intro a w145 g144 henv hst
    refine seq_step rfl (op_val (v := .slice none 0 0) henv rfl (rn_assign henv rfl) ?_)
    clear henv a; intro a henv
    refine seq_step rfl (op_store (k := 0) (c' := #[.int .i64 6, .int .i64 0]) henv hst (ty_anvil_api_Spot.size) rfl rfl rfl rfl (by simp) rfl rfl ?_)
    clear henv hst a; intro a w146 henv hst
    refine wpList_nil ?_
    refine th_n ?_
    refine wp_seq ?_
    refine region_seq ?_
    refine seq_step rfl (op_val (v := .agg #[.int .i64 6, .int .i64 0]) henv rfl (rn_load0 henv ty_anvil_api_Spot rfl (hst.oat (k := 0) rfl) rfl) ?_)
    clear henv a; intro a henv
    refine seq_step rfl (op_val (v := .pointer (some ⟨g140, 1, none⟩)) henv rfl (rn_fieldAddr henv fd_struct_text_string_e_api_Spot__1 (ty_anvil_api_Spot.size) (by decide) rfl) ?_)
    clear henv a; intro a henv
    refine seq_step rfl (op_val (v := .agg #[.int .i64 6, .int .i64 0]) henv rfl (rn_load henv ty_anvil_api_Spot rfl (hst.oat (k := 1) rfl) rfl rfl) ?_)
    clear henv a; intro a henv
    refine seq_step rfl (op_val (v := .bool (!decide ([(6 : Int), (0 : Int)] = [(6 : Int), (0 : Int)]))) henv rfl (rn_neqI [(6 : Int), (0 : Int)] [(6 : Int), (0 : Int)] henv spotI rfl rfl rfl rfl) ?_)
    clear henv a; intro a henv
    rw [show (!decide ([(6 : Int), (0 : Int)] = [(6 : Int), (0 : Int)])) = false from (by decide)] at henv
    refine seq_step rfl (op_val (v := .bool false) henv rfl (rn_move henv rfl) ?_)
    clear henv a; intro a henv
    refine seq_g rfl henv rfl rfl (op_val (v := .pointer (some ⟨g140, 0, none⟩)) henv rfl (rn_fieldAddr henv fd_struct_text_string_e_api_Spot__0 (ty_string.size) (by decide) rfl) ?_)
    clear henv a; intro a henv
    refine seq_g rfl henv rfl rfl (op_val (v := .string ⟨#[45, 49]⟩) henv rfl (rn_load1 henv ty_string rfl (hst.oat (k := 1) rfl) rfl) ?_)
    clear henv a; intro a henv
    refine seq_g rfl henv rfl rfl (op_val (v := .bool (decide (([45, 49] : List UInt8) = [52, 50, 57, 52, 57, 54, 55, 50, 57, 54]))) henv rfl (rn_eqls (s := [45, 49]) (t := [52, 50, 57, 52, 57, 54, 55, 50, 57, 54]) henv rfl rfl) ?_)
    clear henv a; intro a henv
    rw [show (decide (([45, 49] : List UInt8) = [52, 50, 57, 52, 57, 54, 55, 50, 57, 54])) = false from (by decide)] at henv
    refine seq_g rfl henv rfl rfl (op_val (v := .bool false) henv rfl (rn_move henv rfl) ?_)
    clear henv a; intro a henv
    refine seq_skip rfl henv rfl rfl rfl rfl ?_
    clear henv a; intro a henv
    refine seq_skip rfl henv rfl rfl rfl rfl ?_
    clear henv a; intro a henv
    refine seq_skip rfl henv rfl rfl rfl rfl ?_
    clear henv a; intro a henv
    refine seq_skip rfl henv rfl rfl rfl rfl ?_
    clear henv a; intro a henv
    refine seq_g rfl henv rfl rfl (op_val (v := .bool false) henv rfl (rn_pick henv rfl rfl) ?_)
    clear henv a; intro a henv
    refine seq_step rfl (op_val (v := .bool false) henv rfl (rn_pick henv rfl rfl) ?_)
    clear henv a; intro a henv
    refine wpList_nil ?_
    refine th_n ?_
    refine if_f henv rfl (rfl) ?_
    refine wp_skip ?_
    refine bl_n (th_n ?_)
    refine region_seq ?_
    refine seq_step rfl (op_val (v := .int .i64 4) henv rfl (rn_bin henv rfl rfl rfl) ?_)
    clear henv a; intro a henv
    refine seq_step rfl (op_val (v := .int .i64 4) henv rfl (rn_move henv rfl) ?_)
    clear henv a; intro a henv
    refine wpList_nil ?_
    exact th_n ⟨_, (by decide), ⟨4, rfl, henv.sub ⟨rfl, rfl, rfl, rfl, trivial⟩, hst.pick [2] [0] (by decide), (by decide)⟩⟩
  · refine wp_seq ?_
    refine region_seq ?_
    refine seq_step rfl (op_val (v := .bool true) henv rfl (rn_bin henv rfl rfl rfl) ?_)
    clear henv a; intro a henv
    refine wpList_nil ?_
    refine th_n ?_
    refine wp_seq ?_
    refine if_t henv rfl (rfl) ?_
    refine wp_skip ?_
    refine th_n ?_
    refine wp_seq ?_
    refine wp_block ?_
    refine wp_seq ?_
    refine region_seq ?_
    refine seq_step rfl (op_val (v := .pointer (some ⟨g116, 12, none⟩)) henv rfl (rn_idxO (i := 4) henv Tryd.underlying84 (ty_struct_text_string_e_api_Spot_.size) rfl rfl (by decide) (by omega)) ?_)
    clear henv a; intro a henv
    refine seq_step rfl (op_val (v := .agg #[.string ⟨#[48]⟩, .int .i64 0, .int .i64 0]) henv rfl (rn_load henv ty_struct_text_string_e_api_Spot_ rfl (hst.oat (k := 0) rfl) rfl rfl) ?_)
    clear henv a; intro a henv
    refine seq_step rfl (op_alloc (c := #[.string ⟨#[]⟩, .int .i64 0, .int .i64 0]) henv hst rfl zero_struct_text_string_e_api_Spot_ rfl ?_)
    clear henv hst a; intro a w148 g147 henv hst
    refine seq_step rfl (op_store (k := 0) (c' := #[.string ⟨#[48]⟩, .int .i64 0, .int .i64 0]) henv hst (ty_struct_text_string_e_api_Spot_.size) rfl rfl rfl rfl (by simp) rfl rfl ?_)
    clear henv hst a; intro a w149 henv hst
    refine wpList_nil ?_
    refine th_n ?_
    refine wp_seq ?_
    refine region_seq ?_
    refine seq_step rfl (op_val (v := .pointer (some ⟨g147, 0, none⟩)) henv rfl (rn_fieldAddr henv fd_struct_text_string_e_api_Spot__0 (ty_string.size) (by decide) rfl) ?_)
    clear henv a; intro a henv
    refine seq_step rfl (op_val (v := .string ⟨#[48]⟩) henv rfl (rn_load1 henv ty_string rfl (hst.oat (k := 0) rfl) rfl) ?_)
    clear henv a; intro a henv
    refine seq_step rfl (op_call henv rfl Tryd.call65 rfl (read_ok (l := [48]) (by decide) (by decide) (by unfold BadAt; decide)) ?_)
    rintro e w152 ⟨_, rfl, ⟨A150, c151, rfl, hU, hA⟩, hb⟩
    refine ⟨_, rfl, ?_⟩
    clear henv a; intro a henv
    replace hst := hst.freshU hb hU hA
    clear hU
    clear hA
    clear hb
    refine seq_step rfl (op_val (v := .tuple #[.slice A150 (nl (numOf [48])) c151, .agg #[.int .i64 0, .int .i64 0]]) henv rfl (rn_move henv rfl) ?_)
    clear henv a; intro a henv
    refine seq_step rfl (op_val (v := .slice A150 (nl (numOf [48])) c151) henv rfl (rn_extract henv rfl rfl) ?_)
    clear henv a; intro a henv
    refine seq_step rfl (op_val (v := .agg #[.int .i64 0, .int .i64 0]) henv rfl (rn_extract henv rfl rfl) ?_)
    clear henv a; intro a henv
    refine seq_step rfl (op_alloc (c := #[.int .i64 0, .int .i64 0]) henv hst rfl zero_anvil_api_Spot rfl ?_)
    clear henv hst a; intro a w154 g153 henv hst
    refine seq_step rfl (op_val (v := .slice A150 (nl (numOf [48])) c151) henv rfl (rn_assign henv rfl) ?_)
    clear henv a; intro a henv
    refine seq_step rfl (op_store (k := 0) (c' := #[.int .i64 0, .int .i64 0]) henv hst (ty_anvil_api_Spot.size) rfl rfl rfl rfl (by simp) rfl rfl ?_)
    clear henv hst a; intro a w155 henv hst
    refine wpList_nil ?_
    refine th_n ?_
    refine wp_seq ?_
    refine region_seq ?_
    refine seq_step rfl (op_val (v := .agg #[.int .i64 0, .int .i64 0]) henv rfl (rn_load0 henv ty_anvil_api_Spot rfl (hst.oat (k := 0) rfl) rfl) ?_)
    clear henv a; intro a henv
    refine seq_step rfl (op_val (v := .pointer (some ⟨g147, 1, none⟩)) henv rfl (rn_fieldAddr henv fd_struct_text_string_e_api_Spot__1 (ty_anvil_api_Spot.size) (by decide) rfl) ?_)
    clear henv a; intro a henv
    refine seq_step rfl (op_val (v := .agg #[.int .i64 0, .int .i64 0]) henv rfl (rn_load henv ty_anvil_api_Spot rfl (hst.oat (k := 1) rfl) rfl rfl) ?_)
    clear henv a; intro a henv
    refine seq_step rfl (op_val (v := .bool (!decide ([(0 : Int), (0 : Int)] = [(0 : Int), (0 : Int)]))) henv rfl (rn_neqI [(0 : Int), (0 : Int)] [(0 : Int), (0 : Int)] henv spotI rfl rfl rfl rfl) ?_)
    clear henv a; intro a henv
    rw [show (!decide ([(0 : Int), (0 : Int)] = [(0 : Int), (0 : Int)])) = false from (by decide)] at henv
    refine seq_step rfl (op_val (v := .bool false) henv rfl (rn_move henv rfl) ?_)
    clear henv a; intro a henv
    refine seq_g rfl henv rfl rfl (op_val (v := .pointer (some ⟨g147, 0, none⟩)) henv rfl (rn_fieldAddr henv fd_struct_text_string_e_api_Spot__0 (ty_string.size) (by decide) rfl) ?_)
    clear henv a; intro a henv
    refine seq_g rfl henv rfl rfl (op_val (v := .string ⟨#[48]⟩) henv rfl (rn_load1 henv ty_string rfl (hst.oat (k := 1) rfl) rfl) ?_)
    clear henv a; intro a henv
    refine seq_g rfl henv rfl rfl (op_val (v := .bool (decide (([48] : List UInt8) = [52, 50, 57, 52, 57, 54, 55, 50, 57, 54]))) henv rfl (rn_eqls (s := [48]) (t := [52, 50, 57, 52, 57, 54, 55, 50, 57, 54]) henv rfl rfl) ?_)
    clear henv a; intro a henv
    rw [show (decide (([48] : List UInt8) = [52, 50, 57, 52, 57, 54, 55, 50, 57, 54])) = false from (by decide)] at henv
    refine seq_g rfl henv rfl rfl (op_val (v := .bool false) henv rfl (rn_move henv rfl) ?_)
    clear henv a; intro a henv
    refine seq_skip rfl henv rfl rfl rfl rfl ?_
    clear henv a; intro a henv
    refine seq_skip rfl henv rfl rfl rfl rfl ?_
    clear henv a; intro a henv
    refine seq_skip rfl henv rfl rfl rfl rfl ?_
    clear henv a; intro a henv
    refine seq_skip rfl henv rfl rfl rfl rfl ?_
    clear henv a; intro a henv
    refine seq_g rfl henv rfl rfl (op_val (v := .bool false) henv rfl (rn_pick henv rfl rfl) ?_)
    clear henv a; intro a henv
    refine seq_step rfl (op_val (v := .bool false) henv rfl (rn_pick henv rfl rfl) ?_)
    clear henv a; intro a henv
    refine wpList_nil ?_
    refine th_n ?_
    refine if_f henv rfl (rfl) ?_
    refine wp_skip ?_
    refine bl_n (th_n ?_)
    refine region_seq ?_
    refine seq_step rfl (op_val (v := .int .i64 5) henv rfl (rn_bin henv rfl rfl rfl) ?_)
    clear henv a; intro a henv
    refine seq_step rfl (op_val (v := .int .i64 5) henv rfl (rn_move henv rfl) ?_)
    clear henv a; intro a henv
    refine wpList_nil ?_
    exact th_n ⟨_, (by decide), ⟨5, rfl, henv.sub ⟨rfl, rfl, rfl, rfl, trivial⟩, hst.pick [2] [1] (by decide), (by decide)⟩⟩
  · refine wp_seq ?_
    refine region_seq ?_
    refine seq_step rfl (op_val (v := .bool true) henv rfl (rn_bin henv rfl rfl rfl) ?_)
    clear henv a; intro a henv
    refine wpList_nil ?_
    refine th_n ?_
    refine wp_seq ?_
    refine if_t henv rfl (rfl) ?_
    refine wp_skip ?_
    refine th_n ?_
    refine wp_seq ?_
    refine wp_block ?_
    refine wp_seq ?_
    refine region_seq ?_
    refine seq_step rfl (op_val (v := .pointer (some ⟨g116, 15, none⟩)) henv rfl (rn_idxO (i := 5) henv Tryd.underlying84 (ty_struct_text_string_e_api_Spot_.size) rfl rfl (by decide) (by omega)) ?_)
    clear henv a; intro a henv
    refine seq_step rfl (op_val (v := .agg #[.string ⟨#[52, 50, 57, 52, 57, 54, 55, 50, 57, 54]⟩, .int .i64 0, .int .i64 0]) henv rfl (rn_load henv ty_struct_text_string_e_api_Spot_ rfl (hst.oat (k := 0) rfl) rfl rfl) ?_)
    clear henv a; intro a henv
    refine seq_step rfl (op_alloc (c := #[.string ⟨#[]⟩, .int .i64 0, .int .i64 0]) henv hst rfl zero_struct_text_string_e_api_Spot_ rfl ?_)
    clear henv hst a; intro a w157 g156 henv hst
    refine seq_step rfl (op_store (k := 0) (c' := #[.string ⟨#[52, 50, 57, 52, 57, 54, 55, 50, 57, 54]⟩, .int .i64 0, .int .i64 0]) henv hst (ty_struct_text_string_e_api_Spot_.size) rfl rfl rfl rfl (by simp) rfl rfl ?_)
    clear henv hst a; intro a w158 henv hst
    refine wpList_nil ?_
    refine th_n ?_
    refine wp_seq ?_
    refine region_seq ?_
    refine seq_step rfl (op_val (v := .pointer (some ⟨g156, 0, none⟩)) henv rfl (rn_fieldAddr henv fd_struct_text_string_e_api_Spot__0 (ty_string.size) (by decide) rfl) ?_)
    clear henv a; intro a henv
    refine seq_step rfl (op_val (v := .string ⟨#[52, 50, 57, 52, 57, 54, 55, 50, 57, 54]⟩) henv rfl (rn_load1 henv ty_string rfl (hst.oat (k := 0) rfl) rfl) ?_)
    clear henv a; intro a henv
    refine seq_step rfl (op_call henv rfl Tryd.call65 rfl (read_ok (l := [52, 50, 57, 52, 57, 54, 55, 50, 57, 54]) (by decide) (by decide) (by unfold BadAt; decide)) ?_)
    rintro e w161 ⟨_, rfl, ⟨A159, c160, rfl, hU, hA⟩, hb⟩
    refine ⟨_, rfl, ?_⟩
    clear henv a; intro a henv
    replace hst := hst.freshU hb hU hA
    clear hU
    clear hA
    clear hb
    refine seq_step rfl (op_val (v := .tuple #[.slice A159 (nl (numOf [52, 50, 57, 52, 57, 54, 55, 50, 57, 54])) c160, .agg #[.int .i64 0, .int .i64 0]]) henv rfl (rn_move henv rfl) ?_)
    clear henv a; intro a henv
    refine seq_step rfl (op_val (v := .slice A159 (nl (numOf [52, 50, 57, 52, 57, 54, 55, 50, 57, 54])) c160) henv rfl (rn_extract henv rfl rfl) ?_)
    clear henv a; intro a henv
    refine seq_step rfl (op_val (v := .agg #[.int .i64 0, .int .i64 0]) henv rfl (rn_extract henv rfl rfl) ?_)
    clear henv a; intro a henv
    refine seq_step rfl (op_alloc (c := #[.int .i64 0, .int .i64 0]) henv hst rfl zero_anvil_api_Spot rfl ?_)
    clear henv hst a; intro a w163 g162 henv hst
    refine seq_step rfl (op_val (v := .slice A159 (nl (numOf [52, 50, 57, 52, 57, 54, 55, 50, 57, 54])) c160) henv rfl (rn_assign henv rfl) ?_)
    clear henv a; intro a henv
    refine seq_step rfl (op_store (k := 0) (c' := #[.int .i64 0, .int .i64 0]) henv hst (ty_anvil_api_Spot.size) rfl rfl rfl rfl (by simp) rfl rfl ?_)
    clear henv hst a; intro a w164 henv hst
    refine wpList_nil ?_
    refine th_n ?_
    refine wp_seq ?_
    refine region_seq ?_
    refine seq_step rfl (op_val (v := .agg #[.int .i64 0, .int .i64 0]) henv rfl (rn_load0 henv ty_anvil_api_Spot rfl (hst.oat (k := 0) rfl) rfl) ?_)
    clear henv a; intro a henv
    refine seq_step rfl (op_val (v := .pointer (some ⟨g156, 1, none⟩)) henv rfl (rn_fieldAddr henv fd_struct_text_string_e_api_Spot__1 (ty_anvil_api_Spot.size) (by decide) rfl) ?_)
    clear henv a; intro a henv
    refine seq_step rfl (op_val (v := .agg #[.int .i64 0, .int .i64 0]) henv rfl (rn_load henv ty_anvil_api_Spot rfl (hst.oat (k := 1) rfl) rfl rfl) ?_)
    clear henv a; intro a henv
    refine seq_step rfl (op_val (v := .bool (!decide ([(0 : Int), (0 : Int)] = [(0 : Int), (0 : Int)]))) henv rfl (rn_neqI [(0 : Int), (0 : Int)] [(0 : Int), (0 : Int)] henv spotI rfl rfl rfl rfl) ?_)
    clear henv a; intro a henv
    rw [show (!decide ([(0 : Int), (0 : Int)] = [(0 : Int), (0 : Int)])) = false from (by decide)] at henv
    refine seq_step rfl (op_val (v := .bool false) henv rfl (rn_move henv rfl) ?_)
    clear henv a; intro a henv
    refine seq_g rfl henv rfl rfl (op_val (v := .pointer (some ⟨g156, 0, none⟩)) henv rfl (rn_fieldAddr henv fd_struct_text_string_e_api_Spot__0 (ty_string.size) (by decide) rfl) ?_)
    clear henv a; intro a henv
    refine seq_g rfl henv rfl rfl (op_val (v := .string ⟨#[52, 50, 57, 52, 57, 54, 55, 50, 57, 54]⟩) henv rfl (rn_load1 henv ty_string rfl (hst.oat (k := 1) rfl) rfl) ?_)
    clear henv a; intro a henv
    refine seq_g rfl henv rfl rfl (op_val (v := .bool (decide (([52, 50, 57, 52, 57, 54, 55, 50, 57, 54] : List UInt8) = [52, 50, 57, 52, 57, 54, 55, 50, 57, 54]))) henv rfl (rn_eqls (s := [52, 50, 57, 52, 57, 54, 55, 50, 57, 54]) (t := [52, 50, 57, 52, 57, 54, 55, 50, 57, 54]) henv rfl rfl) ?_)
    clear henv a; intro a henv
    rw [show (decide (([52, 50, 57, 52, 57, 54, 55, 50, 57, 54] : List UInt8) = [52, 50, 57, 52, 57, 54, 55, 50, 57, 54])) = true from (by decide)] at henv
    refine seq_g rfl henv rfl rfl (op_val (v := .bool true) henv rfl (rn_move henv rfl) ?_)
    clear henv a; intro a henv
    refine seq_g rfl henv rfl rfl (op_val (v := .slice A159 (nl (numOf [52, 50, 57, 52, 57, 54, 55, 50, 57, 54])) c160) henv rfl (rn_move henv rfl) ?_)
    clear henv a; intro a henv
    refine seq_g rfl henv rfl rfl (op_buildSlice (z := 1) (pv := #[(0, .int .u32 0), (1, .int .u32 1)]) (c := #[.int .u32 0, .int .u32 1]) henv hst rfl Tryd.underlying22 (ty_uint32.size) zero_uint32 (by decide) (by decide) rfl (by kernel_rfl) ?_)
    clear henv hst a; intro a w166 g165 henv hst
    replace hst := hst.giveU (k := 0) (n := 2) (xs := [0, 1]) rfl (by intro x hx; simp at hx; omega) rfl (by decide)
    refine seq_g rfl henv rfl rfl (op_call henv rfl Tryd.call36 rfl (equal_u (show U32 _ A159 (nl (numOf [52, 50, 57, 52, 57, 54, 55, 50, 57, 54])) c160 (L (numOf [52, 50, 57, 52, 57, 54, 55, 50, 57, 54])) from hst.pat (k := 1) rfl) (show U32 _ (some ⟨g165, 0, none⟩) 2 2 ([0, 1]) from hst.pat (k := 0) rfl)) ?_)
    rintro e w167 ⟨rfl, hb⟩
    refine ⟨_, rfl, ?_⟩
    clear henv a; intro a henv
    replace hst := hst.call hb
    clear hb
    rw [show (decide ((L (numOf [52, 50, 57, 52, 57, 54, 55, 50, 57, 54])) = [0, 1])) = true from decide_eq_true (Lk (xs := [0, 1]) (by decide) (by intro x hx; simp at hx; omega) (by simp [Anv.Norm]))] at henv
    refine seq_g rfl henv rfl rfl (op_val (v := .bool false) henv rfl (rn_un henv rfl rfl) ?_)
    clear henv a; intro a henv
    refine seq_g rfl henv rfl rfl (op_val (v := .bool false) henv rfl (rn_pick henv rfl rfl) ?_)
    clear henv a; intro a henv
    refine seq_step rfl (op_val (v := .bool false) henv rfl (rn_pick henv rfl rfl) ?_)
    clear henv a; intro a henv
    refine wpList_nil ?_
    refine th_n ?_
    refine if_f henv rfl (rfl) ?_
    refine wp_skip ?_
    refine bl_n (th_n ?_)
    refine region_seq ?_
    refine seq_step rfl (op_val (v := .int .i64 6) henv rfl (rn_bin henv rfl rfl rfl) ?_)
    clear henv a; intro a henv
    refine seq_step rfl (op_val (v := .int .i64 6) henv rfl (rn_move henv rfl) ?_)
    clear henv a; intro a henv
    refine wpList_nil ?_
    exact th_n ⟨_, (by decide), ⟨6, rfl, henv.sub ⟨rfl, rfl, rfl, rfl, trivial⟩, hst.pick [2] [2] (by decide), (by decide)⟩⟩
  · refine wp_seq ?_
    refine region_seq ?_
    refine seq_step rfl (op_val (v := .bool false) henv rfl (rn_bin henv rfl rfl rfl) ?_)
    clear henv a; intro a henv
    refine wpList_nil ?_
    refine th_n ?_
    refine wp_seq ?_
    refine if_f henv rfl (rfl) ?_
    refine wp_exit ?_
    refine th_x (th_x (bl_x (th_n ?_)))
    refine wp_seq ?_
    refine region_seq ?_
    refine seq_step rfl (op_buildSlice (z := 1) (pv := #[(0, .int .u32 12)]) (c := #[.int .u32 12]) henv hst rfl Tryd.underlying22 (ty_uint32.size) zero_uint32 (by decide) (by decide) rfl (by kernel_rfl) ?_)
    clear henv hst a; intro a w169 g168 henv hst
    replace hst := hst.giveU (k := 0) (n := 1) (xs := [12]) rfl (by intro x hx; simp at hx; omega) rfl (by decide)
    refine seq_step rfl (op_buildSlice (z := 1) (pv := #[(0, .int .u32 18)]) (c := #[.int .u32 18]) henv hst rfl Tryd.underlying22 (ty_uint32.size) zero_uint32 (by decide) (by decide) rfl (by kernel_rfl) ?_)
    clear henv hst a; intro a w171 g170 henv hst
    replace hst := hst.giveU (k := 0) (n := 1) (xs := [18]) rfl (by intro x hx; simp at hx; omega) rfl (by decide)
    have hs172 := nl_gcd 12 18
    refine seq_step rfl (op_call henv rfl Tryd.call44 rfl (gcd_num (N := 12) (M := 18) ⟨_, (show U32 _ (some ⟨g168, 0, none⟩) 1 1 ([12]) from hst.pat (k := 1) rfl), (by decide)⟩ ⟨_, (show U32 _ (some ⟨g170, 0, none⟩) 1 1 ([18]) from hst.pat (k := 0) rfl), (by decide)⟩ (by omega) (by omega)) ?_)
    rintro e w175 ⟨_, rfl, ⟨A173, c174, rfl, hU, hA⟩, hb⟩
    refine ⟨_, rfl, ?_⟩
    clear henv a; intro a henv
    replace hst := hst.freshU hb hU hA
    clear hU
    clear hA
    clear hb
    refine seq_step rfl (op_buildSlice (z := 1) (pv := #[(0, .int .u32 6)]) (c := #[.int .u32 6]) henv hst rfl Tryd.underlying22 (ty_uint32.size) zero_uint32 (by decide) (by decide) rfl (by kernel_rfl) ?_)
    clear henv hst a; intro a w177 g176 henv hst
    replace hst := hst.giveU (k := 0) (n := 1) (xs := [6]) rfl (by intro x hx; simp at hx; omega) rfl (by decide)
    refine seq_step rfl (op_call henv rfl Tryd.call36 rfl (equal_u (show U32 _ A173 (nl (Nat.gcd 12 18)) c174 (L (Nat.gcd 12 18)) from hst.pat (k := 1) rfl) (show U32 _ (some ⟨g176, 0, none⟩) 1 1 ([6]) from hst.pat (k := 0) rfl)) ?_)
    rintro e w178 ⟨rfl, hb⟩
    refine ⟨_, rfl, ?_⟩
    clear henv a; intro a henv
    replace hst := hst.call hb
    clear hb
    rw [show (decide ((L (Nat.gcd 12 18)) = [6])) = true from decide_eq_true (Lk (xs := [6]) (by decide) (by intro x hx; simp at hx; omega) (by simp [Anv.Norm]))] at henv
    refine seq_step rfl (op_val (v := .bool true) henv rfl (rn_move henv rfl) ?_)
    clear henv a; intro a henv
    refine seq_g rfl henv rfl rfl (op_buildSlice (z := 1) (pv := #[(0, .int .u32 5), (1, .int .u32 0)]) (c := #[.int .u32 5, .int .u32 0]) henv hst rfl Tryd.underlying22 (ty_uint32.size) zero_uint32 (by decide) (by decide) rfl (by kernel_rfl) ?_)
    clear henv hst a; intro a w180 g179 henv hst
    replace hst := hst.giveU (k := 0) (n := 2) (xs := [5, 0]) rfl (by intro x hx; simp at hx; omega) rfl (by decide)
    have hs181 := nl_gcd 0 5
    refine seq_g rfl henv rfl rfl (op_call henv rfl Tryd.call44 rfl (gcd_num (N := 0) (M := 5) ⟨_, (u32_none _), rfl⟩ ⟨_, (show U32 _ (some ⟨g179, 0, none⟩) 2 2 ([5, 0]) from hst.pat (k := 0) rfl), (by decide)⟩ (by omega) (by omega)) ?_)
    rintro e w184 ⟨_, rfl, ⟨A182, c183, rfl, hU, hA⟩, hb⟩
    refine ⟨_, rfl, ?_⟩
    clear henv a; intro a henv
    replace hst := hst.freshU hb hU hA
    clear hU
    clear hA
    clear hb
    refine seq_g rfl henv rfl rfl (op_buildSlice (z := 1) (pv := #[(0, .int .u32 5)]) (c := #[.int .u32 5]) henv hst rfl Tryd.underlying22 (ty_uint32.size) zero_uint32 (by decide) (by decide) rfl (by kernel_rfl) ?_)
    clear henv hst a; intro a w186 g185 henv hst
    replace hst := hst.giveU (k := 0) (n := 1) (xs := [5]) rfl (by intro x hx; simp at hx; omega) rfl (by decide)
    refine seq_g rfl henv rfl rfl (op_call henv rfl Tryd.call36 rfl (equal_u (show U32 _ A182 (nl (Nat.gcd 0 5)) c183 (L (Nat.gcd 0 5)) from hst.pat (k := 1) rfl) (show U32 _ (some ⟨g185, 0, none⟩) 1 1 ([5]) from hst.pat (k := 0) rfl)) ?_)
    rintro e w187 ⟨rfl, hb⟩
    refine ⟨_, rfl, ?_⟩
    clear henv a; intro a henv
    replace hst := hst.call hb
    clear hb
    rw [show (decide ((L (Nat.gcd 0 5)) = [5])) = true from decide_eq_true (Lk (xs := [5]) (by decide) (by intro x hx; simp at hx; omega) (by simp [Anv.Norm]))] at henv
    refine seq_step rfl (op_val (v := .bool true) henv rfl (rn_pick henv rfl rfl) ?_)
    clear henv a; intro a henv
    refine seq_step rfl (op_val (v := .bool true) henv rfl (rn_move henv rfl) ?_)
    clear henv a; intro a henv
    have hs188 := nl_gcd 0 0
    refine seq_g rfl henv rfl rfl (op_call henv rfl Tryd.call44 rfl (gcd_num (N := 0) (M := 0) ⟨_, (u32_none _), rfl⟩ ⟨_, (u32_none _), rfl⟩ (by omega) (by omega)) ?_)
    rintro e w191 ⟨_, rfl, ⟨A189, c190, rfl, hU, hA⟩, hb⟩
    refine ⟨_, rfl, ?_⟩
    clear henv a; intro a henv
    replace hst := hst.freshU hb hU hA
    clear hU
    clear hA
    clear hb
    refine seq_g rfl henv rfl rfl (op_val (v := .int .i64 (nl (Nat.gcd 0 0) : Nat)) henv rfl (rn_len henv Tryd.underlying22 rfl) ?_)
    clear henv a; intro a henv
    refine seq_g rfl henv rfl rfl (op_val (v := .bool (((nl (Nat.gcd 0 0) : Nat) : Int) == (0 : Int))) henv rfl (rn_bin henv rfl rfl rfl) ?_)
    clear henv a; intro a henv
    rw [show (((nl (Nat.gcd 0 0) : Nat) : Int) == (0 : Int)) = true from (by rw [show (Nat.gcd 0 0) = 0 by decide, nl_zero]; rfl)] at henv
    refine seq_step rfl (op_val (v := .bool true) henv rfl (rn_pick henv rfl rfl) ?_)
    clear henv a; intro a henv
    refine seq_step rfl (op_val (v := .bool true) henv rfl (rn_move henv rfl) ?_)
    clear henv a; intro a henv
    refine seq_g rfl henv rfl rfl (op_buildSlice (z := 1) (pv := #[(0, .int .u32 0), (1, .int .u32 1)]) (c := #[.int .u32 0, .int .u32 1]) henv hst rfl Tryd.underlying22 (ty_uint32.size) zero_uint32 (by decide) (by decide) rfl (by kernel_rfl) ?_)
    clear henv hst a; intro a w193 g192 henv hst
    replace hst := hst.giveU (k := 0) (n := 2) (xs := [0, 1]) rfl (by intro x hx; simp at hx; omega) rfl (by decide)
    have hs194 := blen_nl 4294967296
    refine seq_g rfl henv rfl rfl (op_call henv rfl Tryd.call57 rfl (lbits_num (N := 4294967296) ⟨_, (show U32 _ (some ⟨g192, 0, none⟩) 2 2 ([0, 1]) from hst.pat (k := 0) rfl), (by decide)⟩ (by omega)) ?_)
    rintro e w195 ⟨rfl, hb⟩
    refine ⟨_, rfl, ?_⟩
    clear henv a; intro a henv
    replace hst := hst.call hb
    clear hb
    refine seq_g rfl henv rfl rfl (op_val (v := .bool (((blen 4294967296 : Nat) : Int) == (33 : Int))) henv rfl (rn_bin henv rfl rfl rfl) ?_)
    clear henv a; intro a henv
    rw [show (((blen 4294967296 : Nat) : Int) == (33 : Int)) = true from (by rw [blen_k (N := 4294967296) (k := 32) (by decide) (by decide)]; rfl)] at henv
    refine seq_step rfl (op_val (v := .bool true) henv rfl (rn_pick henv rfl rfl) ?_)
    clear henv a; intro a henv
    refine seq_step rfl (op_val (v := .bool true) henv rfl (rn_move henv rfl) ?_)
    clear henv a; intro a henv
    have hs196 := blen_nl 0
    refine seq_g rfl henv rfl rfl (op_call henv rfl Tryd.call57 rfl (lbits_num (N := 0) ⟨_, (u32_none _), rfl⟩ (by omega)) ?_)
    rintro e w197 ⟨rfl, hb⟩
    refine ⟨_, rfl, ?_⟩
    clear henv a; intro a henv
    replace hst := hst.call hb
    clear hb
    refine seq_g rfl henv rfl rfl (op_val (v := .bool (((blen 0 : Nat) : Int) == (0 : Int))) henv rfl (rn_bin henv rfl rfl rfl) ?_)
    clear henv a; intro a henv
    rw [show (((blen 0 : Nat) : Int) == (0 : Int)) = true from (by rw [blen_zero]; rfl)] at henv
    refine seq_step rfl (op_val (v := .bool true) henv rfl (rn_pick henv rfl rfl) ?_)
    clear henv a; intro a henv
    refine seq_step rfl (op_val (v := .bool true) henv rfl (rn_move henv rfl) ?_)
    clear henv a; intro a henv
    refine seq_g rfl henv rfl rfl (op_buildSlice (z := 1) (pv := #[(0, .int .u32 0), (1, .int .u32 1)]) (c := #[.int .u32 0, .int .u32 1]) henv hst rfl Tryd.underlying22 (ty_uint32.size) zero_uint32 (by decide) (by decide) rfl (by kernel_rfl) ?_)
    clear henv hst a; intro a w199 g198 henv hst
    replace hst := hst.giveU (k := 0) (n := 2) (xs := [0, 1]) rfl (by intro x hx; simp at hx; omega) rfl (by decide)
    refine seq_g rfl henv rfl rfl (op_call henv rfl Tryd.call59 rfl (lb_bit (N := 4294967296) (k := 32) (show U32 _ (some ⟨g198, 0, none⟩) 2 2 ([0, 1]) from hst.pat (k := 0) rfl) (by decide) (by omega)) ?_)
    rintro e w201 ⟨⟨b200, rfl, htb200⟩, hb⟩
    refine ⟨_, rfl, ?_⟩
    clear henv a; intro a henv
    replace hst := hst.call hb
    clear hb
    rw [show b200 = true from (by cases b200 <;> first | rfl | exact absurd htb200 (by decide))] at henv
    refine seq_step rfl (op_val (v := .bool true) henv rfl (rn_pick henv rfl rfl) ?_)
    clear henv a; intro a henv
    refine seq_step rfl (op_val (v := .bool true) henv rfl (rn_move henv rfl) ?_)
    clear henv a; intro a henv
    refine seq_g rfl henv rfl rfl (op_buildSlice (z := 1) (pv := #[(0, .int .u32 1)]) (c := #[.int .u32 1]) henv hst rfl Tryd.underlying22 (ty_uint32.size) zero_uint32 (by decide) (by decide) rfl (by kernel_rfl) ?_)
    clear henv hst a; intro a w203 g202 henv hst
    replace hst := hst.giveU (k := 0) (n := 1) (xs := [1]) rfl (by intro x hx; simp at hx; omega) rfl (by decide)
    refine seq_g rfl henv rfl rfl (op_call henv rfl Tryd.call59 rfl (lb_bit_neg (show U32 _ (some ⟨g202, 0, none⟩) 1 1 ([1]) from hst.pat (k := 0) rfl) (by omega)) ?_)
    rintro e w204 ⟨rfl, hb⟩
    refine ⟨_, rfl, ?_⟩
    clear henv a; intro a henv
    replace hst := hst.call hb
    clear hb
    refine seq_g rfl henv rfl rfl (op_val (v := .bool true) henv rfl (rn_un henv rfl rfl) ?_)
    clear henv a; intro a henv
    refine seq_step rfl (op_val (v := .bool true) henv rfl (rn_pick henv rfl rfl) ?_)
    clear henv a; intro a henv
    refine seq_step rfl (op_val (v := .bool true) henv rfl (rn_move henv rfl) ?_)
    clear henv a; intro a henv
    refine seq_g rfl henv rfl rfl (op_buildSlice (z := 1) (pv := #[(0, .int .u32 0), (1, .int .u32 4)]) (c := #[.int .u32 0, .int .u32 4]) henv hst rfl Tryd.underlying22 (ty_uint32.size) zero_uint32 (by decide) (by decide) rfl (by kernel_rfl) ?_)
    clear henv hst a; intro a w206 g205 henv hst
    replace hst := hst.giveU (k := 0) (n := 2) (xs := [0, 4]) rfl (by intro x hx; simp at hx; omega) rfl (by decide)
    refine seq_g rfl henv rfl rfl (op_call henv rfl Tryd.call61 rfl (ltwos_to (N := 17179869184) (show U32 _ (some ⟨g205, 0, none⟩) 2 2 ([0, 4]) from hst.pat (k := 0) rfl) ((by decide)) (by omega) (show Deb _ from hst.pat (k := 12) rfl)) ?_)
    rintro e w208 ⟨k207, rfl, hpk207, hzk207, hb⟩
    refine ⟨_, rfl, ?_⟩
    clear henv a; intro a henv
    replace hst := hst.call hb
    clear hb
    refine seq_g rfl henv rfl rfl (op_val (v := .bool (((k207 : Nat) : Int) == (34 : Int))) henv rfl (rn_bin henv rfl rfl rfl) ?_)
    clear henv a; intro a henv
    rw [show (((k207 : Nat) : Int) == (34 : Int)) = true from tz_k (isTz_of (m := 0) (by decide)) (hpk207 (by decide))] at henv
    refine seq_step rfl (op_val (v := .bool true) henv rfl (rn_pick henv rfl rfl) ?_)
    clear henv a; intro a henv
    refine seq_step rfl (op_val (v := .bool true) henv rfl (rn_move henv rfl) ?_)
    clear henv a; intro a henv
    refine seq_g rfl henv rfl rfl (op_call henv rfl Tryd.call61 rfl (ltwos_to (N := 0) (u32_none _) (rfl) (by omega) (show Deb _ from hst.pat (k := 12) rfl)) ?_)
    rintro e w210 ⟨k209, rfl, hpk209, hzk209, hb⟩
    refine ⟨_, rfl, ?_⟩
    clear henv a; intro a henv
    replace hst := hst.call hb
    clear hb
    refine seq_g rfl henv rfl rfl (op_val (v := .bool (((k209 : Nat) : Int) == (0 : Int))) henv rfl (rn_bin henv rfl rfl rfl) ?_)
    clear henv a; intro a henv
    rw [show (((k209 : Nat) : Int) == (0 : Int)) = true from (by rw [hzk209 rfl]; rfl)] at henv
    refine seq_step rfl (op_val (v := .bool true) henv rfl (rn_pick henv rfl rfl) ?_)
    clear henv a; intro a henv
    refine seq_step rfl (op_val (v := .bool true) henv rfl (rn_move henv rfl) ?_)
    clear henv a; intro a henv
    refine seq_g rfl henv rfl rfl (op_call henv rfl Tryd.call66 rfl (text_num (N := 0) ⟨_, (u32_none _), rfl⟩ (by omega)) ?_)
    rintro e w211 ⟨rfl, hb⟩
    refine ⟨_, rfl, ?_⟩
    clear henv a; intro a henv
    replace hst := hst.call hb
    clear hb
    refine seq_g rfl henv rfl rfl (op_val (v := .bool (decide ((textN 0) = [48]))) henv rfl (rn_eqls (s := (textN 0)) (t := [48]) henv rfl rfl) ?_)
    clear henv a; intro a henv
    rw [show (decide ((textN 0) = [48])) = true from rfl] at henv
    refine seq_step rfl (op_val (v := .bool true) henv rfl (rn_pick henv rfl rfl) ?_)
    clear henv a; intro a henv
    refine seq_step rfl (op_val (v := .bool true) henv rfl (rn_assign henv rfl) ?_)
    clear henv a; intro a henv
    refine wpList_nil ?_
    refine th_n ?_
    refine wp_ret ?_
    refine leave henv (res1 Tryd.results15 (RV.tmp henv rfl)) ?_
    exact ⟨rfl, hst.below⟩

end Go.Proofs.YtnldopjbiacbfaaDoor.W
