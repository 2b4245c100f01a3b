/- Over rows of limbs: slices.Equal, MulSmall, Gcd, works. Printed by pv/gen_limb.py. No condition. -/
import Derived.Test.YtnldopjbiacbfaaDoorM22
import Derived.Test.YtnldopjbiacbfaaDoorM6
import Derived.Test.YtnldopjbiacbfaaDoorM24
import Derived.Test.YtnldopjbiacbfaaDoorM7
import Derived.Test.YtnldopjbiacbfaaDoorM23

namespace Go.Proofs.YtnldopjbiacbfaaDoor.W
open Go.RowKit Anv

theorem u32_none (w : World) : U32 w none 0 0 [] := ⟨rfl, Nat.le_refl _, by simp [maxLen], by intro x hx; simp at hx, fun h => absurd h (Nat.lt_irrefl _)⟩
theorem bne_t {a b : Nat} (h : (((a : Nat) : Int) != ((b : Nat) : Int)) = true) : a ≠ b := by intro e; subst e; simp at h
theorem bne_f {a b : Nat} (h : (((a : Nat) : Int) != ((b : Nat) : Int)) = false) : a = b := by simp at h; omega
theorem row_ext {xs ys : List Nat} {n : Nat} (hx : xs.length = n) (hy : ys.length = n) (h : ∀ i, i < n → xs.getD i 0 = ys.getD i 0) : xs = ys := by
  apply List.ext_getElem (by omega)
  intro i h1 h2
  have := h i (by omega)
  simpa [List.getD, h1, h2] using this
theorem L_w : L 18446744065119617025 = [1, 4294967294] := L_of (xs := [1, 4294967294]) (by intro x hx; simp at hx; omega) (by simp [Norm])
theorem L_g : L 4294967295 = [4294967295] := L_of (xs := [4294967295]) (by intro x hx; simp at hx; omega) (by simp [Norm])
theorem L_5 : L 5 = [5] := L_of (xs := [5]) (by intro x hx; simp at hx; omega) (by simp [Norm])
theorem text_w : decide ((textN 18446744065119617025) = [49, 56, 52, 52, 54, 55, 52, 52, 48, 54, 53, 49, 49, 57, 54, 49, 55, 48, 50, 53]) = true := by
  have h : dig 10 18446744065119617025 = [5, 2, 0, 7, 1, 6, 9, 1, 1, 5, 6, 0, 4, 4, 7, 6, 4, 4, 8, 1] := dig_val (b := 10) (by decide) (xs := [5, 2, 0, 7, 1, 6, 9, 1, 1, 5, 6, 0, 4, 4, 7, 6, 4, 4, 8, 1]) (by intro x hx; simp at hx; omega) (by simp [Norm])
  unfold textN
  rw [if_neg (by decide), h]
  decide
theorem gcd_step (a b : Nat) : Nat.gcd b (a % b) = Nat.gcd a b := by rw [Nat.gcd_comm b, ← Nat.gcd_rec, Nat.gcd_comm]
theorem text_num {A : Option Addr} {n c N : Nat} {w : World} (h : NumIn w A n c N) (hn : n ≤ 1000000) :
    Calls Tryd.prog 66 #[.slice A n c] w fun e w' => e = .returned (.string ⟨(textN N).toArray⟩) ∧ Below w.heap.size w w' := by
  obtain ⟨xs, hx, rfl⟩ := h
  exact text_any hx hn

set_option maxRecDepth 100000 in
set_option maxHeartbeats 4000000 in
theorem equal_u {A B : Option Addr} {n c m d : Nat} {xs ys : List Nat} {w0 : World} (hx : U32 w0 A n c xs) (hy : U32 w0 B m d ys) :
    Calls Tryd.prog 36 #[.slice A n c, .slice B m d] w0 fun e w' => e = .returned (.bool (decide (xs = ys))) ∧ Below w0.heap.size w0 w' := by
  have hxl := hx.len
  have hyl := hy.len
  have hmx : n ≤ 9223372036854775807 := by have := Nat.le_trans hx.cap hx.big; unfold maxLen at this; omega
  refine enter Tryd.func36 rfl Tryd.ntmps36 rfl ?_
  intro a henv hst
  replace hst := (hst.addU hx trivial).addU hy trivial
  clear hx hy
  refine wp_seq ?_
  refine region_seq ?_
  refine seq_step rfl (op_val (v := .bool false) henv rfl (rn_assign henv rfl) ?_)
  clear henv a; intro a henv
  refine wpList_nil ?_
  refine th_n ?_
  refine wp_seq ?_
  refine wp_seq ?_
  refine region_seq ?_
  refine seq_step rfl (op_val (v := .slice A n c) henv rfl (rn_move henv rfl) ?_)
  clear henv a; intro a henv
  refine seq_step rfl (op_val (v := .int .i64 (n : Nat)) henv rfl (rn_len henv Tryd.underlying22 rfl) ?_)
  clear henv a; intro a henv
  refine seq_step rfl (op_val (v := .slice B m d) henv rfl (rn_move henv rfl) ?_)
  clear henv a; intro a henv
  refine seq_step rfl (op_val (v := .int .i64 (m : Nat)) henv rfl (rn_len henv Tryd.underlying22 rfl) ?_)
  clear henv a; intro a henv
  refine seq_step rfl (op_val (v := .bool (((n : Nat) : Int) != ((m : Nat) : Int))) henv rfl (rn_bin henv rfl rfl rfl) ?_)
  clear henv a; intro a henv
  refine wpList_nil ?_
  refine th_n ?_
  refine if_split henv rfl (fun hc1 => ?_) (fun hc1 => ?_)
  · have hne : n ≠ m := by intro h1; rw [h1] at hc1; simp at hc1
    refine wp_seq ?_
    refine region_seq ?_
    refine seq_step rfl (op_val (v := .bool false) henv rfl (rn_assign henv rfl) ?_)
    clear henv a; intro a henv
    refine wpList_nil ?_
    refine th_n ?_
    refine wp_ret ?_
    refine th_r ?_
    refine leave henv (res1 Tryd.results36 (RV.tmp henv rfl)) ?_
    rw [decide_eq_false (fun h => hne (by rw [← hxl, ← hyl, h]))]
    exact ⟨rfl, hst.below⟩
  · have hmn : m = n := by have h1 := hc1; simp at h1; omega
    clear hc1
    rw [hmn] at henv hst hyl
    refine wp_skip ?_
    refine th_n ?_
    refine wp_seq ?_
    refine wp_seq ?_
    refine region_seq ?_
    refine seq_step rfl (op_val (v := .slice A n c) henv rfl (rn_move henv rfl) ?_)
    clear henv a; intro a henv
    refine seq_step rfl (op_val (v := .int .i64 (n : Nat)) henv rfl (rn_len henv Tryd.underlying22 rfl) ?_)
    clear henv a; intro a henv
    refine seq_step rfl (op_val (v := .int .i64 0) henv rfl (rn_move henv rfl) ?_)
    clear henv a; intro a henv
    refine wpList_nil ?_
    refine th_n ?_
    refine wp_block ?_
    refine wp_loop_ghost (fun mz a w => ∃ j : Nat, n - j = mz ∧ Env 26 a [(0, .slice A n c), (1, .slice B n d), (12, .int .i64 (n : Nat)), (13, .int .i64 (j : Nat))] ∧ St w0 w [] [pfU A n c xs, pfU B n d ys] ∧ j ≤ n ∧ ∀ i, i < j → xs.getD i 0 = ys.getD i 0) _ ⟨0, rfl, henv.sub ⟨rfl, rfl, rfl, rfl, trivial⟩, hst.pick [] [1, 0] (by decide), (Nat.zero_le _), (fun i hi => absurd hi (Nat.not_lt_zero _))⟩ ?_
    clear henv hst a
    rintro mz a w2 ⟨j, rfl, henv, hst, hj, hz⟩
    refine wp_seq ?_
    refine region_seq ?_
    refine seq_step rfl (op_val (v := .bool (decide (((j : Nat) : Int) < ((n : Nat) : Int)))) henv rfl (rn_bin henv rfl rfl rfl) ?_)
    clear henv a; intro a henv
    refine wpList_nil ?_
    refine th_n ?_
    refine wp_seq ?_
    refine if_split henv rfl (fun hc3 => ?_) (fun hc3 => ?_)
    · have hlt : j < n := by have := of_decide_eq_true hc3; omega
      refine wp_skip ?_
      refine th_n ?_
      refine wp_seq ?_
      refine wp_block ?_
      refine wp_seq ?_
      refine region_seq ?_
      refine seq_step rfl (op_val (v := .int .i64 (j : Nat)) henv rfl (rn_move henv rfl) ?_)
      clear henv a; intro a henv
      refine seq_step rfl (op_val (v := .int .i64 (j : Nat)) henv rfl (rn_assign henv rfl) ?_)
      clear henv a; intro a henv
      refine wpList_nil ?_
      refine th_n ?_
      refine wp_seq ?_
      refine region_any (n := 9) (Sk [] [pfU A n c xs, pfU B n d ys] [] []) mixed rfl henv hst ?_
      clear henv hst; intro w4 henv hst
      refine sAny_take (i := 0) [2, 3, 8] (fun _ => True) (v := .slice A n c) rfl (by kernel_rfl) (fun _ _ _ h => h) (fun _ _ _ _ => trivial) henv rfl trivial (fun w' _ => rn_move henv rfl) ?_
      clear henv a; intro a henv
      refine sAny_take (i := 1) [2, 3, 8] (fun _ => True) (v := .int .i64 (j : Nat)) rfl (by kernel_rfl) (fun _ _ _ h => h) (fun _ _ _ _ => trivial) henv rfl trivial (fun w' _ => rn_move henv rfl) ?_
      clear henv a; intro a henv
      refine sAny_take (i := 2) [3, 8] (fun w' => (pfU A n c xs).P w') (v := .pointer (some ⟨ab A, ao A + j, none⟩)) rfl (by kernel_rfl) (fun _ _ _ h => h) (fun _ _ _ hS => hS.1.pat (k := 0) rfl) henv rfl (hst.pat (k := 0) rfl) (fun w' hg => rn_idxU (i := j) henv Tryd.underlying22 (ty_uint32.size) rfl rfl hlt (show U32 _ A n c xs from hg)) ?_
      clear henv a; intro a henv
      refine sAny_take (i := 3) [8] (fun w' => (pfU A n c xs).P w') (v := .int .u32 (xs.getD j 0 : Nat)) rfl (by kernel_rfl) (fun _ _ _ h => h) (fun _ _ _ hS => hS.1.pat (k := 0) rfl) henv rfl (hst.pat (k := 0) rfl) (fun w' hg => rn_loadU henv ty_uint32 rfl hlt (show U32 _ A n c xs from hg)) ?_
      clear henv a; intro a henv
      refine sAny_take (i := 4) [6, 7, 8] (fun _ => True) (v := .slice B n d) rfl (by kernel_rfl) (fun _ _ _ h => h) (fun _ _ _ _ => trivial) henv rfl trivial (fun w' _ => rn_move henv rfl) ?_
      clear henv a; intro a henv
      refine sAny_take (i := 5) [6, 7, 8] (fun _ => True) (v := .int .i64 (j : Nat)) rfl (by kernel_rfl) (fun _ _ _ h => h) (fun _ _ _ _ => trivial) henv rfl trivial (fun w' _ => rn_move henv rfl) ?_
      clear henv a; intro a henv
      refine sAny_take (i := 6) [7, 8] (fun w' => (pfU B n d ys).P w') (v := .pointer (some ⟨ab B, ao B + j, none⟩)) rfl (by kernel_rfl) (fun _ _ _ h => h) (fun _ _ _ hS => hS.1.pat (k := 1) rfl) henv rfl (hst.pat (k := 1) rfl) (fun w' hg => rn_idxU (i := j) henv Tryd.underlying22 (ty_uint32.size) rfl rfl hlt (show U32 _ B n d ys from hg)) ?_
      clear henv a; intro a henv
      refine sAny_take (i := 7) [8] (fun w' => (pfU B n d ys).P w') (v := .int .u32 (ys.getD j 0 : Nat)) rfl (by kernel_rfl) (fun _ _ _ h => h) (fun _ _ _ hS => hS.1.pat (k := 1) rfl) henv rfl (hst.pat (k := 1) rfl) (fun w' hg => rn_loadU henv ty_uint32 rfl hlt (show U32 _ B n d ys from hg)) ?_
      clear henv a; intro a henv
      refine sAny_take (i := 8) [] (fun _ => True) (v := .bool (((xs.getD j 0 : Nat) : Int) != ((ys.getD j 0 : Nat) : Int))) rfl (by kernel_rfl) (fun _ _ _ h => h) (fun _ _ _ _ => trivial) henv rfl trivial (fun w' _ => rn_bin henv rfl rfl rfl) ?_
      clear henv a; intro a henv
      refine sAny_done (by kernel_rfl) ?_ _
      refine th_n ?_
      refine if_split henv rfl (fun hc5 => ?_) (fun hc5 => ?_)
      · have he := bne_t hc5
        refine wp_seq ?_
        refine region_seq ?_
        refine seq_step rfl (op_val (v := .bool false) henv rfl (rn_assign henv rfl) ?_)
        clear henv a; intro a henv
        refine wpList_nil ?_
        refine th_n ?_
        refine wp_ret ?_
        refine bl_r (th_r (th_r (bl_r (th_r ?_))))
        refine leave henv (res1 Tryd.results36 (RV.tmp henv rfl)) ?_
        rw [decide_eq_false (fun h => he (by rw [h]))]
        exact ⟨rfl, hst.below⟩
      · have he := bne_f hc5
        refine wp_skip ?_
        refine bl_n (th_n ?_)
        refine region_seq ?_
        refine seq_step rfl (op_val (v := .int .i64 (j + 1 : Nat)) henv rfl (rn_add henv rfl rfl (by rw [IntWalk.i64_in _ (by omega)]; omega)) ?_)
        clear henv a; intro a henv
        refine seq_step rfl (op_val (v := .int .i64 (j + 1 : Nat)) henv rfl (rn_move henv rfl) ?_)
        clear henv a; intro a henv
        refine wpList_nil ?_
        exact th_n ⟨_, (by omega), ⟨j + 1, rfl, henv.sub ⟨rfl, rfl, rfl, rfl, trivial⟩, hst.pick [] [0, 1] (by decide), (by omega), (fun i hi => by rcases Nat.lt_or_ge i j with h1 | h1; exact hz i h1; rw [show i = j by omega]; exact he)⟩⟩
    · have hjn : j = n := by have := of_decide_eq_false hc3; omega
      refine wp_exit ?_
      refine th_x (th_x (bl_x (th_n ?_)))
      refine wp_seq ?_
      refine region_seq ?_
      refine seq_step rfl (op_val (v := .bool true) henv rfl (rn_assign henv rfl) ?_)
      clear henv a; intro a henv
      refine wpList_nil ?_
      refine th_n ?_
      refine wp_ret ?_
      refine leave henv (res1 Tryd.results36 (RV.tmp henv rfl)) ?_
      subst hjn
      rw [show xs = ys from row_ext hxl hyl hz, decide_eq_true rfl]
      exact ⟨rfl, hst.below⟩

set_option maxRecDepth 100000 in
set_option maxHeartbeats 4000000 in
theorem muls_num {A : Option Addr} {n c q N : Nat} {w0 : World} (h : NumIn w0 A n c N) (hn : n ≤ 1000000) (hq : q < 4294967296) :
    Calls Tryd.prog 40 #[.slice A n c, .int .u32 q] w0 fun e w' => ∃ v, e = .returned v ∧ NumAt w0.heap.size w' v (N * q) ∧ Below w0.heap.size w0 w' := by
  refine enter Tryd.func40 rfl Tryd.ntmps40 rfl ?_
  intro a henv hst
  obtain ⟨xs, hx, hN⟩ := h
  replace hst := hst.addU hx trivial
  clear hx
  refine wp_seq ?_
  refine region_seq ?_
  refine seq_step rfl (op_val (v := .slice none 0 0) henv rfl (rn_assign henv rfl) ?_)
  clear henv a; intro a henv
  refine wpList_nil ?_
  refine th_n ?_
  refine wp_seq ?_
  refine region_seq ?_
  refine seq_step rfl (op_val (v := .slice A n c) henv rfl (rn_move henv rfl) ?_)
  clear henv a; intro a henv
  refine seq_step rfl (op_val (v := .int .u32 (q : Nat)) henv rfl (rn_move henv rfl) ?_)
  clear henv a; intro a henv
  refine seq_step rfl (op_buildSlice (z := 1) (pv := #[(0, .int .u32 (q : Nat))]) (c := #[.int .u32 (q : Nat)]) henv hst rfl Tryd.underlying22 (ty_uint32.size) zero_uint32 (by decide) (by decide) rfl (by kernel_rfl) ?_)
  clear henv hst a; intro a w2 g1 henv hst
  replace hst := hst.giveU (k := 0) (n := 1) (xs := [q]) rfl (lt1 hq) rfl (by decide)
  have hs3 := nl_mul N q
  have hst0 := hst
  refine seq_step rfl (op_call henv rfl Tryd.call38 rfl (mul_num (N := N) (M := q) ⟨_, (show U32 _ A n c xs from hst.pat (k := 1) rfl), hN⟩ ⟨_, (show U32 _ (some ⟨g1, 0, none⟩) 1 1 ([q]) from hst.pat (k := 0) rfl), L_one⟩ (by omega) (by omega)) ?_)
  rintro e w6 ⟨_, rfl, ⟨A4, c5, rfl, hU, hA⟩, hb⟩
  refine ⟨_, rfl, ?_⟩
  clear henv a; intro a henv
  replace hst := hst.freshU hb hU hA
  clear hU
  have hF : ∀ a, A4 = some a → w0.heap.size ≤ a.block := fun a ha => Nat.le_trans hst0.below.size (hA a ha)
  clear hA
  clear hb
  refine seq_step rfl (op_val (v := .slice A4 (nl (N * q)) c5) henv rfl (rn_assign henv rfl) ?_)
  clear henv a; intro a henv
  refine wpList_nil ?_
  refine th_n ?_
  refine wp_ret ?_
  refine leave henv (res1 Tryd.results40 (RV.tmp henv rfl)) ?_
  exact ⟨_, rfl, ⟨_, _, rfl, hst.pat (k := 0) rfl, hF⟩, hst.below⟩

set_option maxRecDepth 100000 in
set_option maxHeartbeats 4000000 in
theorem works_true (w0 : World) : Calls Tryd.prog 32 #[] w0 fun e w' => e = .returned (.bool true) ∧ Below w0.heap.size w0 w' := by
  have hg : nl 4294967295 ≤ 1 := nl_le_of_lt (by decide)
  have h5 : nl 5 ≤ 1 := nl_le_of_lt (by decide)
  have hw : nl 18446744065119617025 ≤ 2 := nl_le_of_lt (by decide)
  have hv : nl 18446744065119617030 ≤ 2 := nl_le_of_lt (by decide)
  refine enter Tryd.func32 rfl Tryd.ntmps32 rfl ?_
  intro a henv hst
  refine wp_seq ?_
  refine region_seq ?_
  refine seq_step rfl (op_val (v := .bool false) henv rfl (rn_assign henv rfl) ?_)
  clear henv a; intro a henv
  refine wpList_nil ?_
  refine th_n ?_
  refine wp_seq ?_
  refine region_seq ?_
  refine seq_step rfl (op_buildSlice (z := 1) (pv := #[(0, .int .u32 4294967295)]) (c := #[.int .u32 4294967295]) henv hst rfl Tryd.underlying22 (ty_uint32.size) zero_uint32 (by decide) (by decide) rfl (by kernel_rfl) ?_)
  clear henv hst a; intro a w2 g1 henv hst
  replace hst := hst.giveU (k := 0) (n := 1) (xs := [4294967295]) rfl (by intro x hx; simp at hx; omega) rfl (by decide)
  refine seq_step rfl (op_buildSlice (z := 1) (pv := #[(0, .int .u32 4294967295), (1, .int .u32 0)]) (c := #[.int .u32 4294967295, .int .u32 0]) henv hst rfl Tryd.underlying22 (ty_uint32.size) zero_uint32 (by decide) (by decide) rfl (by kernel_rfl) ?_)
  clear henv hst a; intro a w4 g3 henv hst
  replace hst := hst.giveU (k := 0) (n := 2) (xs := [4294967295, 0]) rfl (by intro x hx; simp at hx; omega) rfl (by decide)
  have hs5 := nl_mul 4294967295 4294967295
  refine seq_step rfl (op_call henv rfl Tryd.call38 rfl (mul_num (N := 4294967295) (M := 4294967295) ⟨_, (show U32 _ (some ⟨g1, 0, none⟩) 1 1 ([4294967295]) from hst.pat (k := 1) rfl), (by decide)⟩ ⟨_, (show U32 _ (some ⟨g3, 0, none⟩) 2 2 ([4294967295, 0]) from hst.pat (k := 0) rfl), (by decide)⟩ (by omega) (by omega)) ?_)
  rintro e w8 ⟨_, rfl, ⟨A6, c7, rfl, hU, hA⟩, hb⟩
  refine ⟨_, rfl, ?_⟩
  clear henv a; intro a henv
  replace hst := hst.freshU hb hU hA
  clear hU
  clear hA
  clear hb
  refine seq_step rfl (op_val (v := .slice A6 (nl 18446744065119617025) c7) henv rfl (rn_assign henv rfl) ?_)
  clear henv a; intro a henv
  refine wpList_nil ?_
  refine th_n ?_
  refine wp_seq ?_
  refine region_seq ?_
  refine seq_step rfl (op_val (v := .slice A6 (nl 18446744065119617025) c7) henv rfl (rn_move henv rfl) ?_)
  clear henv a; intro a henv
  refine seq_step rfl (op_buildSlice (z := 1) (pv := #[(0, .int .u32 5)]) (c := #[.int .u32 5]) henv hst rfl Tryd.underlying22 (ty_uint32.size) zero_uint32 (by decide) (by decide) rfl (by kernel_rfl) ?_)
  clear henv hst a; intro a w10 g9 henv hst
  replace hst := hst.giveU (k := 0) (n := 1) (xs := [5]) rfl (by intro x hx; simp at hx; omega) rfl (by decide)
  have hs11 := nl_add 18446744065119617025 5
  refine seq_step rfl (op_call henv rfl Tryd.call37 rfl (add_num (N := 18446744065119617025) (M := 5) ⟨_, (show U32 _ A6 (nl 18446744065119617025) c7 (L 18446744065119617025) from hst.pat (k := 1) rfl), (val_L _)⟩ ⟨_, (show U32 _ (some ⟨g9, 0, none⟩) 1 1 ([5]) from hst.pat (k := 0) rfl), (by decide)⟩ (by omega) (by omega)) ?_)
  rintro e w14 ⟨_, rfl, ⟨A12, c13, rfl, hU, hA⟩, hb⟩
  refine ⟨_, rfl, ?_⟩
  clear henv a; intro a henv
  replace hst := hst.freshU hb hU hA
  clear hU
  clear hA
  clear hb
  refine seq_step rfl (op_buildSlice (z := 1) (pv := #[(0, .int .u32 4294967295)]) (c := #[.int .u32 4294967295]) henv hst rfl Tryd.underlying22 (ty_uint32.size) zero_uint32 (by decide) (by decide) rfl (by kernel_rfl) ?_)
  clear henv hst a; intro a w16 g15 henv hst
  replace hst := hst.giveU (k := 0) (n := 1) (xs := [4294967295]) rfl (by intro x hx; simp at hx; omega) rfl (by decide)
  have hs17 := nl_div 18446744065119617030 4294967295
  have hs18 := nl_mod 18446744065119617030 4294967295
  refine seq_step rfl (op_call henv rfl Tryd.call33 rfl (dm_num (N := 18446744065119617030) (M := 4294967295) ⟨_, (show U32 _ A12 (nl 18446744065119617030) c13 (L 18446744065119617030) from hst.pat (k := 1) rfl), (val_L _)⟩ ⟨_, (show U32 _ (some ⟨g15, 0, none⟩) 1 1 ([4294967295]) from hst.pat (k := 0) rfl), (by decide)⟩ (by omega) (by omega)) ?_)
  rintro e w23 ⟨_, _, rfl, ⟨A19, c20, rfl, hU, hA⟩, ⟨A21, c22, rfl, hV, hB⟩, hb⟩
  refine ⟨_, rfl, ?_⟩
  clear henv a; intro a henv
  replace hst := hst.freshU2 hb hU hA hV hB
  clear hU
  clear hA hV hB
  clear hb
  refine seq_step rfl (op_val (v := .tuple #[.slice A19 (nl 4294967295) c20, .slice A21 (nl 5) c22, .int .i64 0]) henv rfl (rn_move henv rfl) ?_)
  clear henv a; intro a henv
  refine seq_step rfl (op_val (v := .slice A19 (nl 4294967295) c20) henv rfl (rn_extract henv rfl rfl) ?_)
  clear henv a; intro a henv
  refine seq_step rfl (op_val (v := .slice A21 (nl 5) c22) henv rfl (rn_extract henv rfl rfl) ?_)
  clear henv a; intro a henv
  refine seq_step rfl (op_val (v := .int .i64 0) henv rfl (rn_extract henv rfl rfl) ?_)
  clear henv a; intro a henv
  refine seq_step rfl (op_val (v := .slice A19 (nl 4294967295) c20) henv rfl (rn_assign henv rfl) ?_)
  clear henv a; intro a henv
  refine seq_step rfl (op_val (v := .slice A21 (nl 5) c22) henv rfl (rn_assign henv rfl) ?_)
  clear henv a; intro a henv
  refine seq_step rfl (op_val (v := .int .i64 0) henv rfl (rn_assign henv rfl) ?_)
  clear henv a; intro a henv
  refine wpList_nil ?_
  refine th_n ?_
  refine wp_seq ?_
  refine region_seq ?_
  refine seq_step rfl (op_val (v := .slice A6 (nl 18446744065119617025) c7) henv rfl (rn_move henv rfl) ?_)
  clear henv a; intro a henv
  refine seq_step rfl (op_buildSlice (z := 1) (pv := #[(0, .int .u32 1), (1, .int .u32 4294967294)]) (c := #[.int .u32 1, .int .u32 4294967294]) henv hst rfl Tryd.underlying22 (ty_uint32.size) zero_uint32 (by decide) (by decide) rfl (by kernel_rfl) ?_)
  clear henv hst a; intro a w25 g24 henv hst
  replace hst := hst.giveU (k := 0) (n := 2) (xs := [1, 4294967294]) rfl (by intro x hx; simp at hx; omega) rfl (by decide)
  refine seq_step rfl (op_call henv rfl Tryd.call36 rfl (equal_u (show U32 _ A6 (nl 18446744065119617025) c7 (L 18446744065119617025) from hst.pat (k := 6) rfl) (show U32 _ (some ⟨g24, 0, none⟩) 2 2 ([1, 4294967294]) from hst.pat (k := 0) rfl)) ?_)
  rintro e w26 ⟨rfl, hb⟩
  refine ⟨_, rfl, ?_⟩
  clear henv a; intro a henv
  replace hst := hst.call hb
  clear hb
  rw [show (decide ((L 18446744065119617025) = [1, 4294967294])) = true from decide_eq_true L_w] at henv
  refine seq_step rfl (op_val (v := .bool true) henv rfl (rn_move henv rfl) ?_)
  clear henv a; intro a henv
  refine seq_g rfl henv rfl rfl (op_val (v := .slice A19 (nl 4294967295) c20) henv rfl (rn_move henv rfl) ?_)
  clear henv a; intro a henv
  refine seq_g rfl henv rfl rfl (op_buildSlice (z := 1) (pv := #[(0, .int .u32 4294967295)]) (c := #[.int .u32 4294967295]) henv hst rfl Tryd.underlying22 (ty_uint32.size) zero_uint32 (by decide) (by decide) rfl (by kernel_rfl) ?_)
  clear henv hst a; intro a w28 g27 henv hst
  replace hst := hst.giveU (k := 0) (n := 1) (xs := [4294967295]) rfl (by intro x hx; simp at hx; omega) rfl (by decide)
  refine seq_g rfl henv rfl rfl (op_call henv rfl Tryd.call36 rfl (equal_u (show U32 _ A19 (nl 4294967295) c20 (L 4294967295) from hst.pat (k := 3) rfl) (show U32 _ (some ⟨g27, 0, none⟩) 1 1 ([4294967295]) from hst.pat (k := 0) rfl)) ?_)
  rintro e w29 ⟨rfl, hb⟩
  refine ⟨_, rfl, ?_⟩
  clear henv a; intro a henv
  replace hst := hst.call hb
  clear hb
  rw [show (decide ((L 4294967295) = [4294967295])) = true from decide_eq_true L_g] at henv
  refine seq_step rfl (op_val (v := .bool true) henv rfl (rn_pick henv rfl rfl) ?_)
  clear henv a; intro a henv
  refine seq_step rfl (op_val (v := .bool true) henv rfl (rn_move henv rfl) ?_)
  clear henv a; intro a henv
  refine seq_g rfl henv rfl rfl (op_val (v := .slice A21 (nl 5) c22) henv rfl (rn_move henv rfl) ?_)
  clear henv a; intro a henv
  refine seq_g rfl henv rfl rfl (op_buildSlice (z := 1) (pv := #[(0, .int .u32 5)]) (c := #[.int .u32 5]) henv hst rfl Tryd.underlying22 (ty_uint32.size) zero_uint32 (by decide) (by decide) rfl (by kernel_rfl) ?_)
  clear henv hst a; intro a w31 g30 henv hst
  replace hst := hst.giveU (k := 0) (n := 1) (xs := [5]) rfl (by intro x hx; simp at hx; omega) rfl (by decide)
  refine seq_g rfl henv rfl rfl (op_call henv rfl Tryd.call36 rfl (equal_u (show U32 _ A21 (nl 5) c22 (L 5) from hst.pat (k := 3) rfl) (show U32 _ (some ⟨g30, 0, none⟩) 1 1 ([5]) from hst.pat (k := 0) rfl)) ?_)
  rintro e w32 ⟨rfl, hb⟩
  refine ⟨_, rfl, ?_⟩
  clear henv a; intro a henv
  replace hst := hst.call hb
  clear hb
  rw [show (decide ((L 5) = [5])) = true from decide_eq_true L_5] at henv
  refine seq_step rfl (op_val (v := .bool true) henv rfl (rn_pick henv rfl rfl) ?_)
  clear henv a; intro a henv
  refine seq_step rfl (op_val (v := .bool true) henv rfl (rn_move henv rfl) ?_)
  clear henv a; intro a henv
  refine seq_g rfl henv rfl rfl (op_val (v := .int .i64 0) henv rfl (rn_move henv rfl) ?_)
  clear henv a; intro a henv
  refine seq_g rfl henv rfl rfl (op_val (v := .bool true) henv rfl (rn_bin henv rfl rfl rfl) ?_)
  clear henv a; intro a henv
  refine seq_step rfl (op_val (v := .bool true) henv rfl (rn_pick henv rfl rfl) ?_)
  clear henv a; intro a henv
  refine seq_step rfl (op_val (v := .bool true) henv rfl (rn_move henv rfl) ?_)
  clear henv a; intro a henv
  refine seq_g rfl henv rfl rfl (op_val (v := .slice A6 (nl 18446744065119617025) c7) henv rfl (rn_move henv rfl) ?_)
  clear henv a; intro a henv
  refine seq_g rfl henv rfl rfl (op_call henv rfl Tryd.call66 rfl (text_num (N := 18446744065119617025) ⟨_, (show U32 _ A6 (nl 18446744065119617025) c7 (L 18446744065119617025) from hst.pat (k := 8) rfl), (val_L _)⟩ (by omega)) ?_)
  rintro e w33 ⟨rfl, hb⟩
  refine ⟨_, rfl, ?_⟩
  clear henv a; intro a henv
  replace hst := hst.call hb
  clear hb
  refine seq_g rfl henv rfl rfl (op_val (v := .bool (decide ((textN 18446744065119617025) = [49, 56, 52, 52, 54, 55, 52, 52, 48, 54, 53, 49, 49, 57, 54, 49, 55, 48, 50, 53]))) henv rfl (rn_eqls (s := (textN 18446744065119617025)) (t := [49, 56, 52, 52, 54, 55, 52, 52, 48, 54, 53, 49, 49, 57, 54, 49, 55, 48, 50, 53]) henv rfl rfl) ?_)
  clear henv a; intro a henv
  rw [show (decide ((textN 18446744065119617025) = [49, 56, 52, 52, 54, 55, 52, 52, 48, 54, 53, 49, 49, 57, 54, 49, 55, 48, 50, 53])) = true from text_w] at henv
  refine seq_step rfl (op_val (v := .bool true) henv rfl (rn_pick henv rfl rfl) ?_)
  clear henv a; intro a henv
  refine seq_step rfl (op_val (v := .bool true) henv rfl (rn_assign henv rfl) ?_)
  clear henv a; intro a henv
  refine wpList_nil ?_
  refine th_n ?_
  refine wp_ret ?_
  refine leave henv (res1 Tryd.results32 (RV.tmp henv rfl)) ?_
  exact ⟨rfl, hst.below⟩

set_option maxRecDepth 100000 in
set_option maxHeartbeats 4000000 in
theorem gcd_num {A B : Option Addr} {n c m d N M : Nat} {w0 : World} (h : NumIn w0 A n c N) (k : NumIn w0 B m d M) (hn : nl N ≤ 900000) (hm : nl M ≤ 900000) :
    Calls Tryd.prog 44 #[.slice A n c, .slice B m d] w0 fun e w' => ∃ v, e = .returned v ∧ NumAt w0.heap.size w' v (Nat.gcd N M) ∧ Below w0.heap.size w0 w' := by
  refine enter Tryd.func44 rfl Tryd.ntmps44 rfl ?_
  intro a henv hst
  obtain ⟨xs, hx, hN⟩ := h
  obtain ⟨ys, hy, hM⟩ := k
  replace hst := (hst.addU hx trivial).addU hy trivial
  clear hx hy
  refine wp_seq ?_
  refine region_seq ?_
  refine seq_step rfl (op_val (v := .slice none 0 0) henv rfl (rn_assign henv rfl) ?_)
  clear henv a; intro a henv
  refine wpList_nil ?_
  refine th_n ?_
  refine wp_seq ?_
  refine region_seq ?_
  refine seq_step rfl (op_val (v := .slice A n c) henv rfl (rn_move henv rfl) ?_)
  clear henv a; intro a henv
  have hst0 := hst
  refine seq_step rfl (op_call henv rfl Tryd.call34 rfl (norm_num (N := N) ⟨_, (show U32 _ A n c xs from hst.pat (k := 1) rfl), hN⟩ (by omega)) ?_)
  rintro e w3 ⟨_, rfl, ⟨A1, c2, rfl, hU, hA⟩, hb⟩
  refine ⟨_, rfl, ?_⟩
  clear henv a; intro a henv
  replace hst := hst.freshU hb hU hA
  clear hU
  have hF1 : ∀ x, A1 = some x → w0.heap.size ≤ x.block := fun a ha => Nat.le_trans hst0.below.size (hA a ha)
  clear hA hst0
  clear hb
  refine seq_step rfl (op_val (v := .slice B m d) henv rfl (rn_move henv rfl) ?_)
  clear henv a; intro a henv
  have hst0 := hst
  refine seq_step rfl (op_call henv rfl Tryd.call34 rfl (norm_num (N := M) ⟨_, (show U32 _ B m d ys from hst.pat (k := 1) rfl), hM⟩ (by omega)) ?_)
  rintro e w6 ⟨_, rfl, ⟨A4, c5, rfl, hU, hA⟩, hb⟩
  refine ⟨_, rfl, ?_⟩
  clear henv a; intro a henv
  replace hst := hst.freshU hb hU hA
  clear hU
  have hF2 : ∀ x, A4 = some x → w0.heap.size ≤ x.block := fun a ha => Nat.le_trans hst0.below.size (hA a ha)
  clear hA hst0
  clear hb
  refine seq_step rfl (op_val (v := .slice A1 (nl N) c2) henv rfl (rn_assign henv rfl) ?_)
  clear henv a; intro a henv
  refine seq_step rfl (op_val (v := .slice A4 (nl M) c5) henv rfl (rn_assign henv rfl) ?_)
  clear henv a; intro a henv
  refine wpList_nil ?_
  refine th_n ?_
  refine wp_seq ?_
  refine wp_block ?_
  refine wp_loop_ghost (fun mz a w => ∃ p : Nat, ∃ q : Nat, ∃ A1 : Option Addr, ∃ c1 : Nat, ∃ B1 : Option Addr, ∃ d1 : Nat, q = mz ∧ Env 27 a [(5, .slice A1 (nl p) c1), (6, .slice B1 (nl q) d1)] ∧ St w0 w [] [pfU A1 (nl p) c1 (L p), pfU B1 (nl q) d1 (L q)] ∧ Nat.gcd p q = Nat.gcd N M ∧ (∀ x, A1 = some x → w0.heap.size ≤ x.block) ∧ (∀ x, B1 = some x → w0.heap.size ≤ x.block) ∧ nl p ≤ 900000 ∧ nl q ≤ 900000) _ ⟨N, M, A1, c2, A4, c5, rfl, henv.sub ⟨rfl, rfl, trivial⟩, hst.pick [] [1, 0] (by decide), rfl, hF1, hF2, hn, hm⟩ ?_
  clear henv hst a
  rintro mz a w7 ⟨p, q, A1, c1, B1, d1, rfl, henv, hst, hg, hA1, hB1, ha, hb1⟩
  refine wp_seq ?_
  refine wp_seq ?_
  refine region_seq ?_
  refine seq_step rfl (op_val (v := .slice B1 (nl q) d1) henv rfl (rn_move henv rfl) ?_)
  clear henv a; intro a henv
  refine seq_step rfl (op_val (v := .int .i64 ((nl q) : Nat)) henv rfl (rn_len henv Tryd.underlying22 rfl) ?_)
  clear henv a; intro a henv
  refine seq_step rfl (op_val (v := .bool (decide ((((nl q) : Nat) : Int) > (0 : Int)))) henv rfl (rn_bin henv rfl rfl rfl) ?_)
  clear henv a; intro a henv
  refine wpList_nil ?_
  refine th_n ?_
  refine if_split henv rfl (fun hc8 => ?_) (fun hc8 => ?_)
  · have hb0 : 0 < q := Nat.pos_of_ne_zero fun h0 => by have h1 := of_decide_eq_true hc8; rw [h0, nl_zero] at h1; omega
    refine wp_skip ?_
    refine th_n ?_
    refine wp_block ?_
    refine wp_seq ?_
    refine region_seq ?_
    refine seq_step rfl (op_val (v := .slice A1 (nl p) c1) henv rfl (rn_move henv rfl) ?_)
    clear henv a; intro a henv
    refine seq_step rfl (op_val (v := .slice B1 (nl q) d1) henv rfl (rn_move henv rfl) ?_)
    clear henv a; intro a henv
    have hs9 := nl_div p q
    have hs10 := nl_mod p q
    have hst0 := hst
    refine seq_step rfl (op_call henv rfl Tryd.call33 rfl (dm_num (N := p) (M := q) ⟨_, (show U32 _ A1 (nl p) c1 (L p) from hst.pat (k := 0) rfl), (val_L _)⟩ ⟨_, (show U32 _ B1 (nl q) d1 (L q) from hst.pat (k := 1) rfl), (val_L _)⟩ ha (by omega)) ?_)
    rintro e w15 ⟨_, _, rfl, ⟨A11, c12, rfl, hU, hA⟩, ⟨A13, c14, rfl, hV, hB⟩, hb⟩
    refine ⟨_, rfl, ?_⟩
    clear henv a; intro a henv
    replace hst := hst.freshU2 hb hU hA hV hB
    clear hU
    have hF : ∀ x, A13 = some x → w0.heap.size ≤ x.block := fun a ha => Nat.le_trans hst0.below.size (hB a ha)
    clear hA hV hB hst0
    clear hb
    refine seq_step rfl (op_val (v := .tuple #[.slice A11 (nl (p / q)) c12, .slice A13 (nl (p % q)) c14, .int .i64 0]) henv rfl (rn_move henv rfl) ?_)
    clear henv a; intro a henv
    refine seq_step rfl (op_val (v := .slice A11 (nl (p / q)) c12) henv rfl (rn_extract henv rfl rfl) ?_)
    clear henv a; intro a henv
    refine seq_step rfl (op_val (v := .slice A13 (nl (p % q)) c14) henv rfl (rn_extract henv rfl rfl) ?_)
    clear henv a; intro a henv
    refine seq_step rfl (op_val (v := .int .i64 0) henv rfl (rn_extract henv rfl rfl) ?_)
    clear henv a; intro a henv
    refine seq_step rfl (op_val (v := .slice A11 (nl (p / q)) c12) henv rfl (rn_assign henv rfl) ?_)
    clear henv a; intro a henv
    refine seq_step rfl (op_val (v := .slice A13 (nl (p % q)) c14) henv rfl (rn_assign henv rfl) ?_)
    clear henv a; intro a henv
    refine seq_step rfl (op_val (v := .int .i64 0) henv rfl (rn_assign henv rfl) ?_)
    clear henv a; intro a henv
    refine wpList_nil ?_
    refine th_n ?_
    refine region_seq ?_
    refine seq_step rfl (op_val (v := .slice B1 (nl q) d1) henv rfl (rn_move henv rfl) ?_)
    clear henv a; intro a henv
    refine seq_step rfl (op_val (v := .slice A13 (nl (p % q)) c14) henv rfl (rn_move henv rfl) ?_)
    clear henv a; intro a henv
    refine seq_step rfl (op_val (v := .slice B1 (nl q) d1) henv rfl (rn_assign henv rfl) ?_)
    clear henv a; intro a henv
    refine seq_step rfl (op_val (v := .slice A13 (nl (p % q)) c14) henv rfl (rn_assign henv rfl) ?_)
    clear henv a; intro a henv
    refine wpList_nil ?_
    refine bl_n ?_
    exact th_n ⟨_, (Nat.mod_lt _ hb0), ⟨q, p % q, B1, d1, A13, c14, rfl, henv.sub ⟨rfl, rfl, trivial⟩, hst.pick [] [3, 0] (by decide), ((gcd_step p q).trans hg), hB1, hF, hb1, (Nat.le_trans (nl_mod p q) ha)⟩⟩
  · have hb0 : q = 0 := by have h1 := of_decide_eq_false hc8; exact (Nat.eq_zero_or_pos q).resolve_right fun h0 => by have := nl_pos h0; omega
    refine wp_exit ?_
    refine th_x (th_x (bl_x (th_n ?_)))
    refine wp_seq ?_
    refine region_seq ?_
    refine seq_step rfl (op_val (v := .slice A1 (nl p) c1) henv rfl (rn_move henv rfl) ?_)
    clear henv a; intro a henv
    refine seq_step rfl (op_val (v := .slice A1 (nl p) c1) henv rfl (rn_assign henv rfl) ?_)
    clear henv a; intro a henv
    refine wpList_nil ?_
    refine th_n ?_
    refine wp_ret ?_
    refine leave henv (res1 Tryd.results44 (RV.tmp henv rfl)) ?_
    subst hb0
    rw [Nat.gcd_zero_right] at hg
    subst hg
    exact ⟨_, rfl, ⟨_, _, rfl, hst.pat (k := 0) rfl, hA1⟩, hst.below⟩

end Go.Proofs.YtnldopjbiacbfaaDoor.W

/- The reference of layer 1: plain laws; results that are rows of the call's own. No condition. -/
namespace Go.Proofs.YtnldopjbiacbfaaDoor.W
open Go.RowKit Anv

def vals (xs : List Nat) : List Value := xs.map fun n => Value.int .u32 (n : Nat)
theorem vals_nil : vals [] = [] := rfl
theorem vals_snoc (xs : List Nat) (x : Nat) : vals xs ++ (#[Value.int .u32 ((x : Nat) : Int)] : Array Value).toList = vals (xs ++ [x]) := by simp [vals]
theorem take_snoc {xs : List Nat} {i : Nat} (h : i < xs.length) : xs.take i ++ [xs.getD i 0] = xs.take (i + 1) := by
  rw [List.take_succ_eq_append_getElem h]
  simp [List.getD, h]
theorem row_step {os : List Nat} {i t : Nat} (hl : os.length = i) : val 4294967296 (os ++ [t % 4294967296]) + t / 4294967296 * 4294967296 ^ (i + 1) = val 4294967296 os + t * 4294967296 ^ i := by
  subst hl
  rw [val_append, Nat.pow_succ, Nat.mul_comm (4294967296 ^ os.length) 4294967296, ← Nat.mul_assoc, show val 4294967296 [t % 4294967296] = t % 4294967296 by simp [val], Nat.add_assoc, Nat.mul_comm (4294967296 ^ os.length) (t % 4294967296), ← Nat.add_mul]
  congr 2
  have := Nat.div_add_mod t 4294967296
  omega
theorem lt_snoc {os : List Nat} {t : Nat} (h : AllLt 4294967296 os) : AllLt 4294967296 (os ++ [t % 4294967296]) := by
  intro x hx
  rcases List.mem_append.1 hx with hx | hx
  · exact h x hx
  · have : x = t % 4294967296 := by simpa using hx
    subst this
    exact Nat.mod_lt _ (by decide)
section
variable {w0 w : World} {own ps : List PF} {k n E : Nat} {v : Value} {xs : List Nat}
/-- A row of the call's own as a result. -/
theorem St.rowOut (h : St w0 w own ps) (hk : own[k]? = some (rowF E 1 v n (vals xs))) (hl : AllLt 4294967296 xs) : ∃ A c, v = .slice A n c ∧ U32 w A n c xs ∧ ∀ a, A = some a → w0.heap.size ≤ a.block := by
  obtain ⟨A, c, rfl, hU, hf⟩ := rowF_U (h.owns hk) hl
  refine ⟨A, c, rfl, hU, fun a ha => ?_⟩
  subst ha
  exact h.new _ (List.mem_of_getElem? hk) a.block rfl
/-- .. and as a row that is read from now on. -/
theorem St.rowGive (h : St w0 w own ps) (hk : own[k]? = some (rowF E 1 v n (vals xs))) (hl : AllLt 4294967296 xs) : ∃ A c, v = .slice A n c ∧ St w0 w (own.eraseIdx k) (pfU A n c xs :: ps) := by
  obtain ⟨A, c, rfl, hU, hf⟩ := rowF_U (h.owns hk) hl
  exact ⟨A, c, rfl, h.give hk (pfU A n c xs) hU hf⟩
end
theorem add_inv {os xs ys : List Nat} {i o : Nat} (hl : os.length = i) (h : val 4294967296 os + o * 4294967296 ^ i = val 4294967296 (xs.take i) + val 4294967296 (ys.take i)) :
    val 4294967296 (os ++ [(o + (xs.getD i 0 + ys.getD i 0)) % 4294967296]) + (o + (xs.getD i 0 + ys.getD i 0)) / 4294967296 * 4294967296 ^ (i + 1) = val 4294967296 (xs.take (i + 1)) + val 4294967296 (ys.take (i + 1)) := by
  rw [row_step hl, val_take_step, val_take_step, Nat.add_mul, Nat.add_mul, ← Nat.add_assoc, h, Nat.mul_comm (xs.getD i 0), Nat.mul_comm (ys.getD i 0)]
  omega
theorem muls_inv {os xs : List Nat} {i o q : Nat} (hl : os.length = i) (h : val 4294967296 os + o * 4294967296 ^ i = val 4294967296 (xs.take i) * q) :
    val 4294967296 (os ++ [(o + xs.getD i 0 * q) % 4294967296]) + (o + xs.getD i 0 * q) / 4294967296 * 4294967296 ^ (i + 1) = val 4294967296 (xs.take (i + 1)) * q := by
  rw [row_step hl, val_take_step, Nat.add_mul, ← Nat.add_assoc, h, Nat.add_mul, Nat.mul_comm (xs.getD i 0) q, Nat.mul_assoc, Nat.mul_comm (xs.getD i 0), Nat.mul_comm q]
theorem muls_bd {o x q : Nat} (ho : o < 4294967296) (hx : x < 4294967296) (hq : q < 4294967296) : o + x * q < 18446744073709551616 ∧ (o + x * q) / 4294967296 < 4294967296 := by
  have h1 : x * q ≤ 4294967295 * 4294967295 := Nat.mul_le_mul (by omega) (by omega)
  omega
theorem getD_ge {xs : List Nat} {i n : Nat} (h : xs.length = n) (hi : n ≤ i) : xs.getD i 0 = 0 := by simp [List.getD, h, hi]
theorem u32_get {w : World} {A : Option Addr} {n c : Nat} {xs : List Nat} (h : U32 w A n c xs) (i : Nat) : xs.getD i 0 < 4294967296 := by
  by_cases hi : i < n
  · exact h.lt _ (by rw [← h.len] at hi; simp [List.getD, hi])
  · rw [getD_ge h.len (by omega)]; decide
end Go.Proofs.YtnldopjbiacbfaaDoor.W

/- The reference of layer 1, walked. Printed by pv/gen_ref01.py. No condition. -/
namespace Go.Proofs.YtnldopjbiacbfaaDoor.W
open Go.RowKit Anv

theorem muls_split (n i o : Nat) : (i < n) ∨ (n ≤ i ∧ 0 < o) ∨ (n ≤ i ∧ o = 0) := by omega
theorem add_split (n m i o : Nat) : (i < n) ∨ (n ≤ i ∧ i < m) ∨ (n ≤ i ∧ m ≤ i ∧ 0 < o) ∨ (n ≤ i ∧ m ≤ i ∧ o = 0) := by omega
theorem u64_nat {a b : Nat} (h : a * b < 18446744073709551616) : IntKind.u64.wrap (((a : Nat) : Int) * ((b : Nat) : Int)) = ((a * b : Nat) : Int) := by rw [← Int.natCast_mul]; exact IntWalk.u64_in _ (by omega)
theorem u64_add {a b : Nat} (h : a + b < 18446744073709551616) : IntKind.u64.wrap (((a : Nat) : Int) + ((b : Nat) : Int)) = ((a + b : Nat) : Int) := by rw [← Int.natCast_add]; exact IntWalk.u64_in _ (by omega)
theorem quo_b {t : Nat} (h : t < 18446744073709551616) : IntKind.u64.wrap (((t : Nat) : Int).tdiv 4294967296) = ((t / 4294967296 : Nat) : Int) := by
  rw [show ((t : Nat) : Int).tdiv 4294967296 = ((t / 4294967296 : Nat) : Int) from rfl]
  exact IntWalk.u64_in _ (by omega)
theorem beq0_f {a : Nat} (h : a ≠ 0) : (((a : Nat) : Int) == (0 : Int)) = false := by simp; omega
theorem norm_split (xs : List Nat) (m : Nat) : (m = 0) ∨ (∃ k, m = k + 1 ∧ xs.getD k 0 = 0) ∨ (∃ k, m = k + 1 ∧ xs.getD k 0 ≠ 0) := by
  cases m with
  | zero => exact .inl rfl
  | succ k =>
    by_cases h : xs.getD k 0 = 0
    · exact .inr (.inl ⟨k, rfl, h⟩)
    · exact .inr (.inr ⟨k, rfl, h⟩)

set_option maxRecDepth 100000 in
theorem r_at {A : Option Addr} {n c i : Nat} {xs : List Nat} {w0 : World} (h : U32 w0 A n c xs) :
    Calls Tryd.prog 99 #[.slice A n c, .int .i64 (i : Nat)] w0 fun e w' => e = .returned (.int .u32 (xs.getD i 0 : Nat)) ∧ Below w0.heap.size w0 w' := by
  refine enter Tryd.func99 rfl Tryd.ntmps99 rfl ?_
  intro a henv hst
  replace hst := (hst.addU h trivial)
  refine wp_seq ?_
  refine region_seq ?_
  refine seq_step rfl (op_val (v := .int .u32 0) henv rfl (rn_assign henv rfl) ?_)
  clear henv a; intro a henv
  refine wpList_nil ?_
  refine th_n ?_
  refine wp_seq ?_
  refine wp_seq ?_
  refine region_seq ?_
  refine seq_step rfl (op_val (v := .int .i64 (i : Nat)) henv rfl (rn_move henv rfl) ?_)
  clear henv a; intro a henv
  refine seq_step rfl (op_val (v := .slice A n c) henv rfl (rn_move henv rfl) ?_)
  clear henv a; intro a henv
  refine seq_step rfl (op_val (v := .int .i64 (n : Nat)) henv rfl (rn_len henv Tryd.underlying22 rfl) ?_)
  clear henv a; intro a henv
  refine seq_step rfl (op_val (v := .bool (decide (((i : Nat) : Int) < ((n : Nat) : Int)))) henv rfl (rn_bin henv rfl rfl rfl) ?_)
  clear henv a; intro a henv
  refine wpList_nil ?_
  refine th_n ?_
  refine if_split henv rfl (fun hc1 => ?_) (fun hc1 => ?_)
  · have hlt : i < n := by have := of_decide_eq_true hc1; omega
    refine wp_seq ?_
    refine region_seq ?_
    refine seq_step rfl (op_val (v := .slice A n c) henv rfl (rn_move henv rfl) ?_)
    clear henv a; intro a henv
    refine seq_step rfl (op_val (v := .int .i64 (i : Nat)) henv rfl (rn_move henv rfl) ?_)
    clear henv a; intro a henv
    refine seq_step rfl (op_val (v := .pointer (some ⟨ab A, ao A + i, none⟩)) henv rfl (rn_idxU (i := i) henv Tryd.underlying22 (ty_uint32.size) rfl rfl hlt (show U32 _ A n c xs from (hst.pat (k := 0) rfl))) ?_)
    clear henv a; intro a henv
    refine seq_step rfl (op_val (v := .int .u32 (xs.getD i 0 : Nat)) henv rfl (rn_loadU henv ty_uint32 rfl hlt (show U32 _ A n c xs from (hst.pat (k := 0) rfl))) ?_)
    clear henv a; intro a henv
    refine seq_step rfl (op_val (v := .int .u32 (xs.getD i 0 : Nat)) henv rfl (rn_assign henv rfl) ?_)
    clear henv a; intro a henv
    refine wpList_nil ?_
    refine th_n ?_
    refine wp_ret ?_
    refine th_r ?_
    refine leave henv (res1 Tryd.results99 (RV.tmp henv rfl)) ?_
    exact ⟨rfl, hst.below⟩
  · have hge : n ≤ i := by have := of_decide_eq_false hc1; omega
    refine wp_skip ?_
    refine th_n ?_
    refine wp_seq ?_
    refine region_seq ?_
    refine seq_step rfl (op_val (v := .int .u32 0) henv rfl (rn_assign henv rfl) ?_)
    clear henv a; intro a henv
    refine wpList_nil ?_
    refine th_n ?_
    refine wp_ret ?_
    refine leave henv (res1 Tryd.results99 (RV.tmp henv rfl)) ?_
    rw [getD_ge h.len hge]
    exact ⟨rfl, hst.below⟩

set_option maxRecDepth 100000 in
set_option maxHeartbeats 4000000 in
theorem r_norm {A : Option Addr} {n c : Nat} {xs : List Nat} {w0 : World} (h : U32 w0 A n c xs) (hn : n ≤ 1000000) :
    Calls Tryd.prog 52 #[.slice A n c] w0 fun e w' => ∃ v, e = .returned v ∧ NumAt w0.heap.size w' v (val 4294967296 xs) ∧ Below w0.heap.size w0 w' := by
  have hmx : n ≤ 9223372036854775807 := by omega
  refine enter Tryd.func52 rfl Tryd.ntmps52 rfl ?_
  intro a henv hst
  replace hst := (hst.addU h trivial)
  refine wp_seq ?_
  refine region_seq ?_
  refine seq_step rfl (op_val (v := .slice none 0 0) henv rfl (rn_assign henv rfl) ?_)
  clear henv a; intro a henv
  refine wpList_nil ?_
  refine th_n ?_
  refine wp_seq ?_
  refine region_seq ?_
  refine seq_step rfl (op_val (v := .slice A n c) henv rfl (rn_move henv rfl) ?_)
  clear henv a; intro a henv
  refine seq_step rfl (op_val (v := .int .i64 (n : Nat)) henv rfl (rn_len henv Tryd.underlying22 rfl) ?_)
  clear henv a; intro a henv
  refine seq_step rfl (op_val (v := .int .i64 (n : Nat)) henv rfl (rn_assign henv rfl) ?_)
  clear henv a; intro a henv
  refine wpList_nil ?_
  refine th_n ?_
  refine wp_seq ?_
  refine wp_block ?_
  refine wp_loop_ghost (fun mz a w => ∃ m : Nat, m = mz ∧ Env 33 a [(0, .slice A n c), (3, .int .i64 (m : Nat))] ∧ St w0 w [] [pfU A n c xs] ∧ m ≤ n ∧ (∀ i, m ≤ i → i < n → xs.getD i 0 = 0)) _ ⟨n, rfl, henv.sub ⟨rfl, rfl, trivial⟩, hst.pick [] [0] (by decide), (Nat.le_refl _), (fun i h1 h2 => by omega)⟩ ?_
  clear henv hst a
  rintro mz a w1 ⟨m, rfl, henv, hst, hm, hz⟩
  rcases norm_split xs m with ⟨rfl⟩ | ⟨k, rfl, hk0⟩ | ⟨k, rfl, hk0⟩
  · refine wp_seq ?_
    refine wp_seq ?_
    refine region_seq ?_
    refine seq_step rfl (op_val (v := .int .i64 (0 : Nat)) henv rfl (rn_move henv rfl) ?_)
    clear henv a; intro a henv
    refine seq_step rfl (op_val (v := .bool (decide (((0 : Nat) : Int) > (0 : Int)))) henv rfl (rn_bin henv rfl rfl rfl) ?_)
    clear henv a; intro a henv
    rw [show (decide (((0 : Nat) : Int) > (0 : Int))) = false from rfl] at henv
    refine seq_step rfl (op_val (v := .bool false) henv rfl (rn_move henv rfl) ?_)
    clear henv a; intro a henv
    refine seq_skip rfl henv rfl rfl rfl rfl ?_
    clear henv a; intro a henv
    refine seq_skip rfl henv rfl rfl rfl rfl ?_
    clear henv a; intro a henv
    refine seq_skip rfl henv rfl rfl rfl rfl ?_
    clear henv a; intro a henv
    refine seq_skip rfl henv rfl rfl rfl rfl ?_
    clear henv a; intro a henv
    refine seq_skip rfl henv rfl rfl rfl rfl ?_
    clear henv a; intro a henv
    refine seq_skip rfl henv rfl rfl rfl rfl ?_
    clear henv a; intro a henv
    refine seq_step rfl (op_val (v := .bool false) henv rfl (rn_pick henv rfl rfl) ?_)
    clear henv a; intro a henv
    refine wpList_nil ?_
    refine th_n ?_
    refine if_f henv rfl (rfl) ?_
    refine wp_exit ?_
    refine th_x (th_x (bl_x (th_n ?_)))
    refine wp_seq ?_
    refine region_seq ?_
    refine seq_step rfl (op_val (v := .slice none 0 0) henv rfl (rn_assign henv rfl) ?_)
    clear henv a; intro a henv
    refine wpList_nil ?_
    refine th_n ?_
    refine wp_seq ?_
    refine wp_seq ?_
    refine region_seq ?_
    refine seq_step rfl (op_val (v := .int .i64 0) henv rfl (rn_assign henv rfl) ?_)
    clear henv a; intro a henv
    refine wpList_nil ?_
    refine th_n ?_
    refine wp_block ?_
    replace hst := hst.addRow 45 1
    refine wp_loop_ghost (fun mz a w => ∃ i : Nat, ∃ v : Value, 0 - i = mz ∧ Env 33 a [(0, .slice A n c), (3, .int .i64 (0 : Nat)), (4, v), (5, .int .i64 (i : Nat))] ∧ St w0 w [rowF 45 1 v i (vals (xs.take i))] [pfU A n c xs] ∧ i ≤ 0) _ ⟨0, _, rfl, henv.sub ⟨rfl, rfl, rfl, rfl, trivial⟩, hst.pick [0] [0] (by decide), (Nat.zero_le _)⟩ ?_
    clear henv hst a
    rintro mz a w2 ⟨i, v, rfl, henv, hst, hi⟩
    refine wp_seq ?_
    refine wp_seq ?_
    refine region_seq ?_
    refine seq_step rfl (op_val (v := .int .i64 (i : Nat)) henv rfl (rn_move henv rfl) ?_)
    clear henv a; intro a henv
    refine seq_step rfl (op_val (v := .int .i64 (0 : Nat)) henv rfl (rn_move henv rfl) ?_)
    clear henv a; intro a henv
    refine seq_step rfl (op_val (v := .bool (decide (((i : Nat) : Int) < ((0 : Nat) : Int)))) henv rfl (rn_bin henv rfl rfl rfl) ?_)
    clear henv a; intro a henv
    refine wpList_nil ?_
    refine th_n ?_
    refine if_split henv rfl (fun hc3 => ?_) (fun hc3 => ?_)
    · have hlt : i < 0 := by have := of_decide_eq_true hc3; omega
      refine wp_skip ?_
      refine th_n ?_
      refine wp_seq ?_
      refine wp_block ?_
      refine region_seq ?_
      refine seq_step rfl (op_val (v := v) henv rfl (rn_move henv rfl) ?_)
      clear henv a; intro a henv
      refine seq_step rfl (op_val (v := .slice A n c) henv rfl (rn_move henv rfl) ?_)
      clear henv a; intro a henv
      refine seq_step rfl (op_val (v := .int .i64 (i : Nat)) henv rfl (rn_move henv rfl) ?_)
      clear henv a; intro a henv
      refine seq_step rfl (op_val (v := .pointer (some ⟨ab A, ao A + i, none⟩)) henv rfl (rn_idxU (i := i) henv Tryd.underlying22 (ty_uint32.size) rfl rfl (by omega) (show U32 _ A n c xs from (hst.pat (k := 0) rfl))) ?_)
      clear henv a; intro a henv
      refine seq_step rfl (op_val (v := .int .u32 (xs.getD i 0 : Nat)) henv rfl (rn_loadU henv ty_uint32 rfl (by omega) (show U32 _ A n c xs from (hst.pat (k := 0) rfl))) ?_)
      clear henv a; intro a henv
      refine seq_step rfl (op_buildSlice (z := 1) (pv := #[(0, .int .u32 (xs.getD i 0 : Nat))]) (c := #[.int .u32 (xs.getD i 0 : Nat)]) henv hst rfl Tryd.underlying22 (ty_uint32.size) zero_uint32 (by decide) (by decide) rfl (by kernel_rfl) ?_)
      clear henv hst a; intro a w5 g4 henv hst
      refine seq_step rfl (op_append (k := 1) (j := 0) henv hst rfl Tryd.underlying22 info_u32 rfl rfl rfl rfl rfl rfl rfl rfl (by unfold maxLen; omega) (by omega) ?_)
      clear henv hst a; intro a w7 v6 henv hst
      refine seq_step rfl (op_val (v := v6) henv rfl (rn_assign henv rfl) ?_)
      clear henv a; intro a henv
      refine wpList_nil ?_
      refine bl_n (th_n ?_)
      refine region_seq ?_
      refine seq_step rfl (op_val (v := .int .i64 (i : Nat)) henv rfl (rn_move henv rfl) ?_)
      clear henv a; intro a henv
      refine seq_step rfl (op_val (v := .int .i64 (i + 1 : Nat)) henv rfl (rn_add henv rfl rfl (by rw [IntWalk.i64_in _ (by omega)]; omega)) ?_)
      clear henv a; intro a henv
      refine seq_step rfl (op_val (v := .int .i64 (i + 1 : Nat)) henv rfl (rn_assign henv rfl) ?_)
      clear henv a; intro a henv
      refine wpList_nil ?_
      rw [vals_snoc, take_snoc (by rw [h.len]; omega)] at hst
      exact th_n ⟨_, (by omega), ⟨i + 1, v6, rfl, henv.sub ⟨rfl, rfl, rfl, rfl, trivial⟩, hst.pick [1] [0] (by decide), (by omega)⟩⟩
    · obtain rfl : i = 0 := by have := of_decide_eq_false hc3; omega
      refine wp_exit ?_
      refine th_x (th_x (bl_x (th_n ?_)))
      refine wp_seq ?_
      refine region_seq ?_
      refine seq_step rfl (op_val (v := v) henv rfl (rn_move henv rfl) ?_)
      clear henv a; intro a henv
      refine seq_step rfl (op_val (v := v) henv rfl (rn_assign henv rfl) ?_)
      clear henv a; intro a henv
      refine wpList_nil ?_
      refine th_n ?_
      refine wp_ret ?_
      refine leave henv (res1 Tryd.results52 (RV.tmp henv rfl)) ?_
      have hmt := take_eq_dig (b := 4294967296) (by omega) h.lt (0) (by rw [h.len]; exact hm) (fun i h1 h2 => hz i h1 (by rw [h.len] at h2; exact h2)) (.inl rfl)
      have htl : (xs.take (0)).length = 0 := by rw [List.length_take, h.len]; omega
      rw [hmt] at hst htl
      obtain ⟨A1, c1, rfl, hU, hF⟩ := hst.rowOut (k := 0) rfl (L_lt _)
      refine ⟨_, rfl, ?_, hst.below⟩
      rw [← htl] at hU ⊢
      exact ⟨A1, c1, rfl, hU, hF⟩
  · refine wp_seq ?_
    refine wp_seq ?_
    refine region_seq ?_
    refine seq_step rfl (op_val (v := .int .i64 (k + 1 : Nat)) henv rfl (rn_move henv rfl) ?_)
    clear henv a; intro a henv
    refine seq_step rfl (op_val (v := .bool (decide (((k + 1 : Nat) : Int) > (0 : Int)))) henv rfl (rn_bin henv rfl rfl rfl) ?_)
    clear henv a; intro a henv
    rw [show (decide (((k + 1 : Nat) : Int) > (0 : Int))) = true from decide_eq_true (by omega)] at henv
    refine seq_step rfl (op_val (v := .bool true) henv rfl (rn_move henv rfl) ?_)
    clear henv a; intro a henv
    refine seq_g rfl henv rfl rfl (op_val (v := .slice A n c) henv rfl (rn_move henv rfl) ?_)
    clear henv a; intro a henv
    refine seq_g rfl henv rfl rfl (op_val (v := .int .i64 (k + 1 : Nat)) henv rfl (rn_move henv rfl) ?_)
    clear henv a; intro a henv
    refine seq_g rfl henv rfl rfl (op_val (v := .int .i64 (k : Nat)) henv rfl (rn_sub henv rfl rfl (by rw [IntWalk.i64_in _ (by omega)]; omega)) ?_)
    clear henv a; intro a henv
    refine seq_g rfl henv rfl rfl (op_val (v := .pointer (some ⟨ab A, ao A + k, none⟩)) henv rfl (rn_idxU (i := k) henv Tryd.underlying22 (ty_uint32.size) rfl rfl (by omega) (show U32 _ A n c xs from (hst.pat (k := 0) rfl))) ?_)
    clear henv a; intro a henv
    refine seq_g rfl henv rfl rfl (op_val (v := .int .u32 (xs.getD k 0 : Nat)) henv rfl (rn_loadU henv ty_uint32 rfl (by omega) (show U32 _ A n c xs from (hst.pat (k := 0) rfl))) ?_)
    clear henv a; intro a henv
    refine seq_g rfl henv rfl rfl (op_val (v := .bool (((xs.getD k 0 : Nat) : Int) == (0 : Int))) henv rfl (rn_bin henv rfl rfl rfl) ?_)
    clear henv a; intro a henv
    rw [show (((xs.getD k 0 : Nat) : Int) == (0 : Int)) = true from by rw [hk0]; rfl] at henv
    refine seq_step rfl (op_val (v := .bool true) henv rfl (rn_pick henv rfl rfl) ?_)
    clear henv a; intro a henv
    refine wpList_nil ?_
    refine th_n ?_
    refine if_t henv rfl (rfl) ?_
    refine wp_skip ?_
    refine th_n ?_
    refine wp_block ?_
    refine region_seq ?_
    refine seq_step rfl (op_val (v := .int .i64 (k + 1 : Nat)) henv rfl (rn_move henv rfl) ?_)
    clear henv a; intro a henv
    refine seq_step rfl (op_val (v := .int .i64 (k : Nat)) henv rfl (rn_sub henv rfl rfl (by rw [IntWalk.i64_in _ (by omega)]; omega)) ?_)
    clear henv a; intro a henv
    refine seq_step rfl (op_val (v := .int .i64 (k : Nat)) henv rfl (rn_assign henv rfl) ?_)
    clear henv a; intro a henv
    refine wpList_nil ?_
    refine bl_n ?_
    exact th_n ⟨_, (by omega), ⟨k, rfl, henv.sub ⟨rfl, rfl, trivial⟩, hst.pick [] [0] (by decide), (by omega), (fun i h1 h2 => by rcases Nat.lt_or_ge k i with h3 | h3; exact hz i (by omega) h2; rw [show i = k by omega]; exact hk0)⟩⟩
  · refine wp_seq ?_
    refine wp_seq ?_
    refine region_seq ?_
    refine seq_step rfl (op_val (v := .int .i64 (k + 1 : Nat)) henv rfl (rn_move henv rfl) ?_)
    clear henv a; intro a henv
    refine seq_step rfl (op_val (v := .bool (decide (((k + 1 : Nat) : Int) > (0 : Int)))) henv rfl (rn_bin henv rfl rfl rfl) ?_)
    clear henv a; intro a henv
    rw [show (decide (((k + 1 : Nat) : Int) > (0 : Int))) = true from decide_eq_true (by omega)] at henv
    refine seq_step rfl (op_val (v := .bool true) henv rfl (rn_move henv rfl) ?_)
    clear henv a; intro a henv
    refine seq_g rfl henv rfl rfl (op_val (v := .slice A n c) henv rfl (rn_move henv rfl) ?_)
    clear henv a; intro a henv
    refine seq_g rfl henv rfl rfl (op_val (v := .int .i64 (k + 1 : Nat)) henv rfl (rn_move henv rfl) ?_)
    clear henv a; intro a henv
    refine seq_g rfl henv rfl rfl (op_val (v := .int .i64 (k : Nat)) henv rfl (rn_sub henv rfl rfl (by rw [IntWalk.i64_in _ (by omega)]; omega)) ?_)
    clear henv a; intro a henv
    refine seq_g rfl henv rfl rfl (op_val (v := .pointer (some ⟨ab A, ao A + k, none⟩)) henv rfl (rn_idxU (i := k) henv Tryd.underlying22 (ty_uint32.size) rfl rfl (by omega) (show U32 _ A n c xs from (hst.pat (k := 0) rfl))) ?_)
    clear henv a; intro a henv
    refine seq_g rfl henv rfl rfl (op_val (v := .int .u32 (xs.getD k 0 : Nat)) henv rfl (rn_loadU henv ty_uint32 rfl (by omega) (show U32 _ A n c xs from (hst.pat (k := 0) rfl))) ?_)
    clear henv a; intro a henv
    refine seq_g rfl henv rfl rfl (op_val (v := .bool (((xs.getD k 0 : Nat) : Int) == (0 : Int))) henv rfl (rn_bin henv rfl rfl rfl) ?_)
    clear henv a; intro a henv
    rw [show (((xs.getD k 0 : Nat) : Int) == (0 : Int)) = false from beq0_f hk0] at henv
    refine seq_step rfl (op_val (v := .bool false) henv rfl (rn_pick henv rfl rfl) ?_)
    clear henv a; intro a henv
    refine wpList_nil ?_
    refine th_n ?_
    refine if_f henv rfl (rfl) ?_
    refine wp_exit ?_
    refine th_x (th_x (bl_x (th_n ?_)))
    refine wp_seq ?_
    refine region_seq ?_
    refine seq_step rfl (op_val (v := .slice none 0 0) henv rfl (rn_assign henv rfl) ?_)
    clear henv a; intro a henv
    refine wpList_nil ?_
    refine th_n ?_
    refine wp_seq ?_
    refine wp_seq ?_
    refine region_seq ?_
    refine seq_step rfl (op_val (v := .int .i64 0) henv rfl (rn_assign henv rfl) ?_)
    clear henv a; intro a henv
    refine wpList_nil ?_
    refine th_n ?_
    refine wp_block ?_
    replace hst := hst.addRow 45 1
    refine wp_loop_ghost (fun mz a w => ∃ i : Nat, ∃ v : Value, (k + 1) - i = mz ∧ Env 33 a [(0, .slice A n c), (3, .int .i64 (k + 1 : Nat)), (4, v), (5, .int .i64 (i : Nat))] ∧ St w0 w [rowF 45 1 v i (vals (xs.take i))] [pfU A n c xs] ∧ i ≤ k + 1) _ ⟨0, _, rfl, henv.sub ⟨rfl, rfl, rfl, rfl, trivial⟩, hst.pick [0] [0] (by decide), (Nat.zero_le _)⟩ ?_
    clear henv hst a
    rintro mz a w8 ⟨i, v, rfl, henv, hst, hi⟩
    refine wp_seq ?_
    refine wp_seq ?_
    refine region_seq ?_
    refine seq_step rfl (op_val (v := .int .i64 (i : Nat)) henv rfl (rn_move henv rfl) ?_)
    clear henv a; intro a henv
    refine seq_step rfl (op_val (v := .int .i64 (k + 1 : Nat)) henv rfl (rn_move henv rfl) ?_)
    clear henv a; intro a henv
    refine seq_step rfl (op_val (v := .bool (decide (((i : Nat) : Int) < ((k + 1 : Nat) : Int)))) henv rfl (rn_bin henv rfl rfl rfl) ?_)
    clear henv a; intro a henv
    refine wpList_nil ?_
    refine th_n ?_
    refine if_split henv rfl (fun hc9 => ?_) (fun hc9 => ?_)
    · have hlt : i < k + 1 := by have := of_decide_eq_true hc9; omega
      refine wp_skip ?_
      refine th_n ?_
      refine wp_seq ?_
      refine wp_block ?_
      refine region_seq ?_
      refine seq_step rfl (op_val (v := v) henv rfl (rn_move henv rfl) ?_)
      clear henv a; intro a henv
      refine seq_step rfl (op_val (v := .slice A n c) henv rfl (rn_move henv rfl) ?_)
      clear henv a; intro a henv
      refine seq_step rfl (op_val (v := .int .i64 (i : Nat)) henv rfl (rn_move henv rfl) ?_)
      clear henv a; intro a henv
      refine seq_step rfl (op_val (v := .pointer (some ⟨ab A, ao A + i, none⟩)) henv rfl (rn_idxU (i := i) henv Tryd.underlying22 (ty_uint32.size) rfl rfl (by omega) (show U32 _ A n c xs from (hst.pat (k := 0) rfl))) ?_)
      clear henv a; intro a henv
      refine seq_step rfl (op_val (v := .int .u32 (xs.getD i 0 : Nat)) henv rfl (rn_loadU henv ty_uint32 rfl (by omega) (show U32 _ A n c xs from (hst.pat (k := 0) rfl))) ?_)
      clear henv a; intro a henv
      refine seq_step rfl (op_buildSlice (z := 1) (pv := #[(0, .int .u32 (xs.getD i 0 : Nat))]) (c := #[.int .u32 (xs.getD i 0 : Nat)]) henv hst rfl Tryd.underlying22 (ty_uint32.size) zero_uint32 (by decide) (by decide) rfl (by kernel_rfl) ?_)
      clear henv hst a; intro a w11 g10 henv hst
      refine seq_step rfl (op_append (k := 1) (j := 0) henv hst rfl Tryd.underlying22 info_u32 rfl rfl rfl rfl rfl rfl rfl rfl (by unfold maxLen; omega) (by omega) ?_)
      clear henv hst a; intro a w13 v12 henv hst
      refine seq_step rfl (op_val (v := v12) henv rfl (rn_assign henv rfl) ?_)
      clear henv a; intro a henv
      refine wpList_nil ?_
      refine bl_n (th_n ?_)
      refine region_seq ?_
      refine seq_step rfl (op_val (v := .int .i64 (i : Nat)) henv rfl (rn_move henv rfl) ?_)
      clear henv a; intro a henv
      refine seq_step rfl (op_val (v := .int .i64 (i + 1 : Nat)) henv rfl (rn_add henv rfl rfl (by rw [IntWalk.i64_in _ (by omega)]; omega)) ?_)
      clear henv a; intro a henv
      refine seq_step rfl (op_val (v := .int .i64 (i + 1 : Nat)) henv rfl (rn_assign henv rfl) ?_)
      clear henv a; intro a henv
      refine wpList_nil ?_
      rw [vals_snoc, take_snoc (by rw [h.len]; omega)] at hst
      exact th_n ⟨_, (by omega), ⟨i + 1, v12, rfl, henv.sub ⟨rfl, rfl, rfl, rfl, trivial⟩, hst.pick [1] [0] (by decide), (by omega)⟩⟩
    · obtain rfl : i = k + 1 := by have := of_decide_eq_false hc9; omega
      refine wp_exit ?_
      refine th_x (th_x (bl_x (th_n ?_)))
      refine wp_seq ?_
      refine region_seq ?_
      refine seq_step rfl (op_val (v := v) henv rfl (rn_move henv rfl) ?_)
      clear henv a; intro a henv
      refine seq_step rfl (op_val (v := v) henv rfl (rn_assign henv rfl) ?_)
      clear henv a; intro a henv
      refine wpList_nil ?_
      refine th_n ?_
      refine wp_ret ?_
      refine leave henv (res1 Tryd.results52 (RV.tmp henv rfl)) ?_
      have hmt := take_eq_dig (b := 4294967296) (by omega) h.lt (k + 1) (by rw [h.len]; exact hm) (fun i h1 h2 => hz i h1 (by rw [h.len] at h2; exact h2)) (.inr (by rw [Nat.add_sub_cancel]; exact hk0))
      have htl : (xs.take (k + 1)).length = k + 1 := by rw [List.length_take, h.len]; omega
      rw [hmt] at hst htl
      obtain ⟨A1, c1, rfl, hU, hF⟩ := hst.rowOut (k := 0) rfl (L_lt _)
      refine ⟨_, rfl, ?_, hst.below⟩
      rw [← htl] at hU ⊢
      exact ⟨A1, c1, rfl, hU, hF⟩

set_option maxRecDepth 100000 in
set_option maxHeartbeats 4000000 in
theorem r_muls {A : Option Addr} {n c q : Nat} {xs : List Nat} {w0 : World} (h : U32 w0 A n c xs) (hn : n ≤ 900000) (hq : q < 4294967296) :
    Calls Tryd.prog 54 #[.slice A n c, .int .u32 (q : Nat)] w0 fun e w' => ∃ v, e = .returned v ∧ NumAt w0.heap.size w' v (val 4294967296 xs * q) ∧ Below w0.heap.size w0 w' := by
  refine enter Tryd.func54 rfl Tryd.ntmps54 rfl ?_
  intro a henv hst
  replace hst := (hst.addU h trivial)
  refine wp_seq ?_
  refine region_seq ?_
  refine seq_step rfl (op_val (v := .slice none 0 0) henv rfl (rn_assign henv rfl) ?_)
  clear henv a; intro a henv
  refine wpList_nil ?_
  refine th_n ?_
  refine wp_seq ?_
  refine region_seq ?_
  refine seq_step rfl (op_val (v := .slice none 0 0) henv rfl (rn_assign henv rfl) ?_)
  clear henv a; intro a henv
  refine wpList_nil ?_
  refine th_n ?_
  refine wp_seq ?_
  refine region_seq ?_
  refine seq_step rfl (op_val (v := .int .u64 0) henv rfl (rn_assign henv rfl) ?_)
  clear henv a; intro a henv
  refine wpList_nil ?_
  refine th_n ?_
  refine wp_seq ?_
  refine wp_seq ?_
  refine region_seq ?_
  refine seq_step rfl (op_val (v := .int .i64 0) henv rfl (rn_assign henv rfl) ?_)
  clear henv a; intro a henv
  refine wpList_nil ?_
  refine th_n ?_
  refine wp_block ?_
  replace hst := hst.addRow 45 1
  refine wp_loop_ghost (fun mz a w => ∃ i : Nat, ∃ v : Value, ∃ o : Nat, ∃ os : List Nat, (n - i) * 4294967296 + o = mz ∧ Env 37 a [(0, .slice A n c), (1, .int .u32 (q : Nat)), (5, v), (6, .int .u64 (o : Nat)), (7, .int .i64 (i : Nat))] ∧ St w0 w [rowF 45 1 v i (vals os)] [pfU A n c xs] ∧ os.length = i ∧ AllLt 4294967296 os ∧ o < 4294967296 ∧ val 4294967296 os + o * 4294967296 ^ i = val 4294967296 (xs.take i) * q ∧ i ≤ n + 1 ∧ (i ≤ n ∨ o = 0)) _ ⟨0, _, 0, [], rfl, henv.sub ⟨rfl, rfl, rfl, rfl, rfl, trivial⟩, hst.pick [0] [0] (by decide), rfl, (AllLt.nil _), (by decide), (by simp), (Nat.zero_le _), (.inl (Nat.zero_le _))⟩ ?_
  clear henv hst a
  rintro mz a w1 ⟨i, v, o, os, rfl, henv, hst, hol, hlt, ho, hv, hib, hio⟩
  have hgx := u32_get h i
  have hbd := muls_bd ho hgx hq
  rcases muls_split n i o with hin | ⟨hin, ho0⟩ | ⟨hin, ho0⟩
  · refine wp_seq ?_
    refine wp_seq ?_
    refine region_seq ?_
    refine seq_step rfl (op_val (v := .int .i64 (i : Nat)) henv rfl (rn_move henv rfl) ?_)
    clear henv a; intro a henv
    refine seq_step rfl (op_val (v := .slice A n c) henv rfl (rn_move henv rfl) ?_)
    clear henv a; intro a henv
    refine seq_step rfl (op_val (v := .int .i64 (n : Nat)) henv rfl (rn_len henv Tryd.underlying22 rfl) ?_)
    clear henv a; intro a henv
    refine seq_step rfl (op_val (v := .bool (decide (((i : Nat) : Int) < ((n : Nat) : Int)))) henv rfl (rn_bin henv rfl rfl rfl) ?_)
    clear henv a; intro a henv
    rw [show (decide (((i : Nat) : Int) < ((n : Nat) : Int))) = true from decide_eq_true (by omega)] at henv
    refine seq_step rfl (op_val (v := .bool true) henv rfl (rn_move henv rfl) ?_)
    clear henv a; intro a henv
    refine seq_skip rfl henv rfl rfl rfl rfl ?_
    clear henv a; intro a henv
    refine seq_skip rfl henv rfl rfl rfl rfl ?_
    clear henv a; intro a henv
    refine seq_step rfl (op_val (v := .bool true) henv rfl (rn_pick henv rfl rfl) ?_)
    clear henv a; intro a henv
    refine wpList_nil ?_
    refine th_n ?_
    refine if_t henv rfl (rfl) ?_
    refine wp_skip ?_
    refine th_n ?_
    refine wp_seq ?_
    refine wp_block ?_
    refine wp_seq ?_
    refine region_seq ?_
    refine seq_step rfl (op_val (v := .int .u64 (o : Nat)) henv rfl (rn_move henv rfl) ?_)
    clear henv a; intro a henv
    refine seq_step rfl (op_val (v := .slice A n c) henv rfl (rn_move henv rfl) ?_)
    clear henv a; intro a henv
    refine seq_step rfl (op_val (v := .int .i64 (i : Nat)) henv rfl (rn_move henv rfl) ?_)
    clear henv a; intro a henv
    refine seq_step rfl (op_call henv rfl Tryd.call99 rfl (r_at (i := i) (show U32 _ A n c xs from hst.pat (k := 0) rfl)) ?_)
    rintro e w2 ⟨rfl, hb⟩
    refine ⟨_, rfl, ?_⟩
    clear henv a; intro a henv
    replace hst := hst.call hb
    clear hb
    refine seq_step rfl (op_val (v := .int .u64 (xs.getD i 0 : Nat)) henv rfl (rn_conv henv rfl Tryd.underlying45 Tryd.underlying100 (IntWalk.u64_in _ (by omega))) ?_)
    clear henv a; intro a henv
    refine seq_step rfl (op_val (v := .int .u32 (q : Nat)) henv rfl (rn_move henv rfl) ?_)
    clear henv a; intro a henv
    refine seq_step rfl (op_val (v := .int .u64 (q : Nat)) henv rfl (rn_conv henv rfl Tryd.underlying45 Tryd.underlying100 (IntWalk.u64_in _ (by omega))) ?_)
    clear henv a; intro a henv
    refine seq_step rfl (op_val (v := .int .u64 (xs.getD i 0 * q : Nat)) henv rfl (rn_mul henv rfl rfl (u64_nat (by omega))) ?_)
    clear henv a; intro a henv
    refine seq_step rfl (op_val (v := .int .u64 (o + xs.getD i 0 * q : Nat)) henv rfl (rn_add henv rfl rfl (u64_add hbd.1)) ?_)
    clear henv a; intro a henv
    refine seq_step rfl (op_val (v := .int .u64 (o + xs.getD i 0 * q : Nat)) henv rfl (rn_assign henv rfl) ?_)
    clear henv a; intro a henv
    refine wpList_nil ?_
    refine th_n ?_
    refine wp_seq ?_
    refine region_seq ?_
    refine seq_step rfl (op_val (v := v) henv rfl (rn_move henv rfl) ?_)
    clear henv a; intro a henv
    refine seq_step rfl (op_val (v := .int .u64 (o + xs.getD i 0 * q : Nat)) henv rfl (rn_move henv rfl) ?_)
    clear henv a; intro a henv
    refine seq_step rfl (op_val (v := .int .u64 ((o + xs.getD i 0 * q) % 4294967296 : Nat)) henv rfl (rn_rem henv rfl rfl (by decide) (tmod_nat (o + xs.getD i 0 * q) 4294967296)) ?_)
    clear henv a; intro a henv
    refine seq_step rfl (op_val (v := .int .u32 ((o + xs.getD i 0 * q) % 4294967296 : Nat)) henv rfl (rn_conv henv rfl Tryd.underlying100 Tryd.underlying45 (IntWalk.u32_in _ (by have := Nat.mod_lt (o + xs.getD i 0 * q) (show 0 < 4294967296 by decide); omega))) ?_)
    clear henv a; intro a henv
    refine seq_step rfl (op_buildSlice (z := 1) (pv := #[(0, .int .u32 ((o + xs.getD i 0 * q) % 4294967296 : Nat))]) (c := #[.int .u32 ((o + xs.getD i 0 * q) % 4294967296 : Nat)]) henv hst rfl Tryd.underlying22 (ty_uint32.size) zero_uint32 (by decide) (by decide) rfl (by kernel_rfl) ?_)
    clear henv hst a; intro a w4 g3 henv hst
    refine seq_step rfl (op_append (k := 1) (j := 0) henv hst rfl Tryd.underlying22 info_u32 rfl rfl rfl rfl rfl rfl rfl rfl (by unfold maxLen; omega) (by omega) ?_)
    clear henv hst a; intro a w6 v5 henv hst
    refine seq_step rfl (op_val (v := v5) henv rfl (rn_assign henv rfl) ?_)
    clear henv a; intro a henv
    refine wpList_nil ?_
    refine th_n ?_
    refine region_seq ?_
    refine seq_step rfl (op_val (v := .int .u64 (o + xs.getD i 0 * q : Nat)) henv rfl (rn_move henv rfl) ?_)
    clear henv a; intro a henv
    refine seq_step rfl (op_val (v := .int .u64 ((o + xs.getD i 0 * q) / 4294967296 : Nat)) henv rfl (rn_quo henv rfl rfl (by decide) (quo_b hbd.1)) ?_)
    clear henv a; intro a henv
    refine seq_step rfl (op_val (v := .int .u64 ((o + xs.getD i 0 * q) / 4294967296 : Nat)) henv rfl (rn_assign henv rfl) ?_)
    clear henv a; intro a henv
    refine wpList_nil ?_
    refine bl_n (th_n ?_)
    refine region_seq ?_
    refine seq_step rfl (op_val (v := .int .i64 (i : Nat)) henv rfl (rn_move henv rfl) ?_)
    clear henv a; intro a henv
    refine seq_step rfl (op_val (v := .int .i64 (i + 1 : Nat)) henv rfl (rn_add henv rfl rfl (by rw [IntWalk.i64_in _ (by omega)]; omega)) ?_)
    clear henv a; intro a henv
    refine seq_step rfl (op_val (v := .int .i64 (i + 1 : Nat)) henv rfl (rn_assign henv rfl) ?_)
    clear henv a; intro a henv
    refine wpList_nil ?_
    rw [vals_snoc] at hst
    exact th_n ⟨_, (by omega), ⟨i + 1, v5, (o + xs.getD i 0 * q) / 4294967296, os ++ [(o + xs.getD i 0 * q) % 4294967296], rfl, henv.sub ⟨rfl, rfl, rfl, rfl, rfl, trivial⟩, hst.pick [1] [0] (by decide), (by rw [List.length_append, hol]; rfl), (lt_snoc hlt), (hbd.2), (muls_inv hol hv), (by omega), (.inl (by omega))⟩⟩
  · refine wp_seq ?_
    refine wp_seq ?_
    refine region_seq ?_
    refine seq_step rfl (op_val (v := .int .i64 (i : Nat)) henv rfl (rn_move henv rfl) ?_)
    clear henv a; intro a henv
    refine seq_step rfl (op_val (v := .slice A n c) henv rfl (rn_move henv rfl) ?_)
    clear henv a; intro a henv
    refine seq_step rfl (op_val (v := .int .i64 (n : Nat)) henv rfl (rn_len henv Tryd.underlying22 rfl) ?_)
    clear henv a; intro a henv
    refine seq_step rfl (op_val (v := .bool (decide (((i : Nat) : Int) < ((n : Nat) : Int)))) henv rfl (rn_bin henv rfl rfl rfl) ?_)
    clear henv a; intro a henv
    rw [show (decide (((i : Nat) : Int) < ((n : Nat) : Int))) = false from decide_eq_false (by omega)] at henv
    refine seq_step rfl (op_val (v := .bool false) henv rfl (rn_move henv rfl) ?_)
    clear henv a; intro a henv
    refine seq_g rfl henv rfl rfl (op_val (v := .int .u64 (o : Nat)) henv rfl (rn_move henv rfl) ?_)
    clear henv a; intro a henv
    refine seq_g rfl henv rfl rfl (op_val (v := .bool (decide (((o : Nat) : Int) > (0 : Int)))) henv rfl (rn_bin henv rfl rfl rfl) ?_)
    clear henv a; intro a henv
    rw [show (decide (((o : Nat) : Int) > (0 : Int))) = true from decide_eq_true (by omega)] at henv
    refine seq_step rfl (op_val (v := .bool true) henv rfl (rn_pick henv rfl rfl) ?_)
    clear henv a; intro a henv
    refine wpList_nil ?_
    refine th_n ?_
    refine if_t henv rfl (rfl) ?_
    refine wp_skip ?_
    refine th_n ?_
    refine wp_seq ?_
    refine wp_block ?_
    refine wp_seq ?_
    refine region_seq ?_
    refine seq_step rfl (op_val (v := .int .u64 (o : Nat)) henv rfl (rn_move henv rfl) ?_)
    clear henv a; intro a henv
    refine seq_step rfl (op_val (v := .slice A n c) henv rfl (rn_move henv rfl) ?_)
    clear henv a; intro a henv
    refine seq_step rfl (op_val (v := .int .i64 (i : Nat)) henv rfl (rn_move henv rfl) ?_)
    clear henv a; intro a henv
    refine seq_step rfl (op_call henv rfl Tryd.call99 rfl (r_at (i := i) (show U32 _ A n c xs from hst.pat (k := 0) rfl)) ?_)
    rintro e w7 ⟨rfl, hb⟩
    refine ⟨_, rfl, ?_⟩
    clear henv a; intro a henv
    replace hst := hst.call hb
    clear hb
    refine seq_step rfl (op_val (v := .int .u64 (xs.getD i 0 : Nat)) henv rfl (rn_conv henv rfl Tryd.underlying45 Tryd.underlying100 (IntWalk.u64_in _ (by omega))) ?_)
    clear henv a; intro a henv
    refine seq_step rfl (op_val (v := .int .u32 (q : Nat)) henv rfl (rn_move henv rfl) ?_)
    clear henv a; intro a henv
    refine seq_step rfl (op_val (v := .int .u64 (q : Nat)) henv rfl (rn_conv henv rfl Tryd.underlying45 Tryd.underlying100 (IntWalk.u64_in _ (by omega))) ?_)
    clear henv a; intro a henv
    refine seq_step rfl (op_val (v := .int .u64 (xs.getD i 0 * q : Nat)) henv rfl (rn_mul henv rfl rfl (u64_nat (by omega))) ?_)
    clear henv a; intro a henv
    refine seq_step rfl (op_val (v := .int .u64 (o + xs.getD i 0 * q : Nat)) henv rfl (rn_add henv rfl rfl (u64_add hbd.1)) ?_)
    clear henv a; intro a henv
    refine seq_step rfl (op_val (v := .int .u64 (o + xs.getD i 0 * q : Nat)) henv rfl (rn_assign henv rfl) ?_)
    clear henv a; intro a henv
    refine wpList_nil ?_
    refine th_n ?_
    refine wp_seq ?_
    refine region_seq ?_
    refine seq_step rfl (op_val (v := v) henv rfl (rn_move henv rfl) ?_)
    clear henv a; intro a henv
    refine seq_step rfl (op_val (v := .int .u64 (o + xs.getD i 0 * q : Nat)) henv rfl (rn_move henv rfl) ?_)
    clear henv a; intro a henv
    refine seq_step rfl (op_val (v := .int .u64 ((o + xs.getD i 0 * q) % 4294967296 : Nat)) henv rfl (rn_rem henv rfl rfl (by decide) (tmod_nat (o + xs.getD i 0 * q) 4294967296)) ?_)
    clear henv a; intro a henv
    refine seq_step rfl (op_val (v := .int .u32 ((o + xs.getD i 0 * q) % 4294967296 : Nat)) henv rfl (rn_conv henv rfl Tryd.underlying100 Tryd.underlying45 (IntWalk.u32_in _ (by have := Nat.mod_lt (o + xs.getD i 0 * q) (show 0 < 4294967296 by decide); omega))) ?_)
    clear henv a; intro a henv
    refine seq_step rfl (op_buildSlice (z := 1) (pv := #[(0, .int .u32 ((o + xs.getD i 0 * q) % 4294967296 : Nat))]) (c := #[.int .u32 ((o + xs.getD i 0 * q) % 4294967296 : Nat)]) henv hst rfl Tryd.underlying22 (ty_uint32.size) zero_uint32 (by decide) (by decide) rfl (by kernel_rfl) ?_)
    clear henv hst a; intro a w9 g8 henv hst
    refine seq_step rfl (op_append (k := 1) (j := 0) henv hst rfl Tryd.underlying22 info_u32 rfl rfl rfl rfl rfl rfl rfl rfl (by unfold maxLen; omega) (by omega) ?_)
    clear henv hst a; intro a w11 v10 henv hst
    refine seq_step rfl (op_val (v := v10) henv rfl (rn_assign henv rfl) ?_)
    clear henv a; intro a henv
    refine wpList_nil ?_
    refine th_n ?_
    refine region_seq ?_
    refine seq_step rfl (op_val (v := .int .u64 (o + xs.getD i 0 * q : Nat)) henv rfl (rn_move henv rfl) ?_)
    clear henv a; intro a henv
    refine seq_step rfl (op_val (v := .int .u64 ((o + xs.getD i 0 * q) / 4294967296 : Nat)) henv rfl (rn_quo henv rfl rfl (by decide) (quo_b hbd.1)) ?_)
    clear henv a; intro a henv
    refine seq_step rfl (op_val (v := .int .u64 ((o + xs.getD i 0 * q) / 4294967296 : Nat)) henv rfl (rn_assign henv rfl) ?_)
    clear henv a; intro a henv
    refine wpList_nil ?_
    refine bl_n (th_n ?_)
    refine region_seq ?_
    refine seq_step rfl (op_val (v := .int .i64 (i : Nat)) henv rfl (rn_move henv rfl) ?_)
    clear henv a; intro a henv
    refine seq_step rfl (op_val (v := .int .i64 (i + 1 : Nat)) henv rfl (rn_add henv rfl rfl (by rw [IntWalk.i64_in _ (by omega)]; omega)) ?_)
    clear henv a; intro a henv
    refine seq_step rfl (op_val (v := .int .i64 (i + 1 : Nat)) henv rfl (rn_assign henv rfl) ?_)
    clear henv a; intro a henv
    refine wpList_nil ?_
    rw [vals_snoc] at hst
    have hz : (o + xs.getD i 0 * q) / 4294967296 = 0 := by rw [getD_ge h.len hin, Nat.zero_mul]; omega
    exact th_n ⟨_, (by omega), ⟨i + 1, v10, (o + xs.getD i 0 * q) / 4294967296, os ++ [(o + xs.getD i 0 * q) % 4294967296], rfl, henv.sub ⟨rfl, rfl, rfl, rfl, rfl, trivial⟩, hst.pick [1] [0] (by decide), (by rw [List.length_append, hol]; rfl), (lt_snoc hlt), (hbd.2), (muls_inv hol hv), (by omega), (.inr hz)⟩⟩
  · refine wp_seq ?_
    refine wp_seq ?_
    refine region_seq ?_
    refine seq_step rfl (op_val (v := .int .i64 (i : Nat)) henv rfl (rn_move henv rfl) ?_)
    clear henv a; intro a henv
    refine seq_step rfl (op_val (v := .slice A n c) henv rfl (rn_move henv rfl) ?_)
    clear henv a; intro a henv
    refine seq_step rfl (op_val (v := .int .i64 (n : Nat)) henv rfl (rn_len henv Tryd.underlying22 rfl) ?_)
    clear henv a; intro a henv
    refine seq_step rfl (op_val (v := .bool (decide (((i : Nat) : Int) < ((n : Nat) : Int)))) henv rfl (rn_bin henv rfl rfl rfl) ?_)
    clear henv a; intro a henv
    rw [show (decide (((i : Nat) : Int) < ((n : Nat) : Int))) = false from decide_eq_false (by omega)] at henv
    refine seq_step rfl (op_val (v := .bool false) henv rfl (rn_move henv rfl) ?_)
    clear henv a; intro a henv
    refine seq_g rfl henv rfl rfl (op_val (v := .int .u64 (o : Nat)) henv rfl (rn_move henv rfl) ?_)
    clear henv a; intro a henv
    refine seq_g rfl henv rfl rfl (op_val (v := .bool (decide (((o : Nat) : Int) > (0 : Int)))) henv rfl (rn_bin henv rfl rfl rfl) ?_)
    clear henv a; intro a henv
    rw [show (decide (((o : Nat) : Int) > (0 : Int))) = false from decide_eq_false (by omega)] at henv
    refine seq_step rfl (op_val (v := .bool false) henv rfl (rn_pick henv rfl rfl) ?_)
    clear henv a; intro a henv
    refine wpList_nil ?_
    refine th_n ?_
    refine if_f henv rfl (rfl) ?_
    refine wp_exit ?_
    refine th_x (th_x (bl_x (th_n ?_)))
    refine wp_seq ?_
    obtain rfl : o = 0 := by omega
    rw [Nat.zero_mul, Nat.add_zero, val_take_past _ xs i (by rw [h.len]; exact hin)] at hv
    obtain ⟨A1, c1, rfl, hst⟩ := hst.rowGive (k := 0) rfl hlt
    refine region_seq ?_
    refine seq_step rfl (op_val (v := .slice A1 i c1) henv rfl (rn_move henv rfl) ?_)
    clear henv a; intro a henv
    have hst0 := hst
    refine seq_step rfl (op_call henv rfl Tryd.call52 rfl (r_norm (show U32 _ A1 i c1 os from hst.pat (k := 0) rfl) (by omega)) ?_)
    rintro e w14 ⟨_, rfl, ⟨A12, c13, rfl, hU, hA⟩, hb⟩
    refine ⟨_, rfl, ?_⟩
    clear henv a; intro a henv
    replace hst := hst.freshU hb hU hA
    clear hU
    have hF : ∀ a, A12 = some a → w0.heap.size ≤ a.block := fun a ha => Nat.le_trans hst0.below.size (hA a ha)
    clear hA
    clear hb
    refine seq_step rfl (op_val (v := .slice A12 (nl (val 4294967296 os)) c13) henv rfl (rn_assign henv rfl) ?_)
    clear henv a; intro a henv
    refine wpList_nil ?_
    refine th_n ?_
    refine wp_ret ?_
    refine leave henv (res1 Tryd.results54 (RV.tmp henv rfl)) ?_
    refine ⟨_, rfl, ?_, hst.below⟩
    rw [← hv]
    exact ⟨_, _, rfl, hst.pat (k := 0) rfl, hF⟩

set_option maxRecDepth 100000 in
set_option maxHeartbeats 4000000 in
theorem r_add {A B : Option Addr} {n c m d : Nat} {xs ys : List Nat} {w0 : World} (h : U32 w0 A n c xs) (k : U32 w0 B m d ys) (hn : n ≤ 400000) (hm : m ≤ 400000) :
    Calls Tryd.prog 98 #[.slice A n c, .slice B m d] w0 fun e w' => ∃ v, e = .returned v ∧ NumAt w0.heap.size w' v (val 4294967296 xs + val 4294967296 ys) ∧ Below w0.heap.size w0 w' := by
  refine enter Tryd.func98 rfl Tryd.ntmps98 rfl ?_
  intro a henv hst
  replace hst := ((hst.addU h trivial).addU k trivial)
  refine wp_seq ?_
  refine region_seq ?_
  refine seq_step rfl (op_val (v := .slice none 0 0) henv rfl (rn_assign henv rfl) ?_)
  clear henv a; intro a henv
  refine wpList_nil ?_
  refine th_n ?_
  refine wp_seq ?_
  refine region_seq ?_
  refine seq_step rfl (op_val (v := .slice none 0 0) henv rfl (rn_assign henv rfl) ?_)
  clear henv a; intro a henv
  refine wpList_nil ?_
  refine th_n ?_
  refine wp_seq ?_
  refine region_seq ?_
  refine seq_step rfl (op_val (v := .int .u64 0) henv rfl (rn_assign henv rfl) ?_)
  clear henv a; intro a henv
  refine wpList_nil ?_
  refine th_n ?_
  refine wp_seq ?_
  refine wp_seq ?_
  refine region_seq ?_
  refine seq_step rfl (op_val (v := .int .i64 0) henv rfl (rn_assign henv rfl) ?_)
  clear henv a; intro a henv
  refine wpList_nil ?_
  refine th_n ?_
  refine wp_block ?_
  replace hst := hst.addRow 45 1
  refine wp_loop_ghost (fun mz a w => ∃ i : Nat, ∃ v : Value, ∃ o : Nat, ∃ os : List Nat, 2 * (n - i) + 2 * (m - i) + o = mz ∧ Env 45 a [(0, .slice A n c), (1, .slice B m d), (5, v), (6, .int .u64 (o : Nat)), (7, .int .i64 (i : Nat))] ∧ St w0 w [rowF 45 1 v i (vals os)] [pfU A n c xs, pfU B m d ys] ∧ os.length = i ∧ AllLt 4294967296 os ∧ o ≤ 1 ∧ val 4294967296 os + o * 4294967296 ^ i = val 4294967296 (xs.take i) + val 4294967296 (ys.take i) ∧ i ≤ n + m + 1 ∧ (i ≤ n ∨ i ≤ m ∨ o = 0)) _ ⟨0, _, 0, [], rfl, henv.sub ⟨rfl, rfl, rfl, rfl, rfl, trivial⟩, hst.pick [0] [1, 0] (by decide), rfl, (AllLt.nil _), (by decide), (by simp), (Nat.zero_le _), (.inl (Nat.zero_le _))⟩ ?_
  clear henv hst a
  rintro mz a w1 ⟨i, v, o, os, rfl, henv, hst, hol, hlt, ho, hv, hib, hio⟩
  have hgx := u32_get h i
  have hgy := u32_get k i
  rcases add_split n m i o with hin | ⟨hin, him⟩ | ⟨hin, him, ho0⟩ | ⟨hin, him, ho0⟩
  · refine wp_seq ?_
    refine wp_seq ?_
    refine region_seq ?_
    refine seq_step rfl (op_val (v := .int .i64 (i : Nat)) henv rfl (rn_move henv rfl) ?_)
    clear henv a; intro a henv
    refine seq_step rfl (op_val (v := .slice A n c) henv rfl (rn_move henv rfl) ?_)
    clear henv a; intro a henv
    refine seq_step rfl (op_val (v := .int .i64 (n : Nat)) henv rfl (rn_len henv Tryd.underlying22 rfl) ?_)
    clear henv a; intro a henv
    refine seq_step rfl (op_val (v := .bool (decide (((i : Nat) : Int) < ((n : Nat) : Int)))) henv rfl (rn_bin henv rfl rfl rfl) ?_)
    clear henv a; intro a henv
    rw [show (decide (((i : Nat) : Int) < ((n : Nat) : Int))) = true from decide_eq_true (by omega)] at henv
    refine seq_step rfl (op_val (v := .bool true) henv rfl (rn_move henv rfl) ?_)
    clear henv a; intro a henv
    refine seq_skip rfl henv rfl rfl rfl rfl ?_
    clear henv a; intro a henv
    refine seq_skip rfl henv rfl rfl rfl rfl ?_
    clear henv a; intro a henv
    refine seq_skip rfl henv rfl rfl rfl rfl ?_
    clear henv a; intro a henv
    refine seq_skip rfl henv rfl rfl rfl rfl ?_
    clear henv a; intro a henv
    refine seq_step rfl (op_val (v := .bool true) henv rfl (rn_pick henv rfl rfl) ?_)
    clear henv a; intro a henv
    refine seq_step rfl (op_val (v := .bool true) henv rfl (rn_move henv rfl) ?_)
    clear henv a; intro a henv
    refine seq_skip rfl henv rfl rfl rfl rfl ?_
    clear henv a; intro a henv
    refine seq_skip rfl henv rfl rfl rfl rfl ?_
    clear henv a; intro a henv
    refine seq_step rfl (op_val (v := .bool true) henv rfl (rn_pick henv rfl rfl) ?_)
    clear henv a; intro a henv
    refine wpList_nil ?_
    refine th_n ?_
    refine if_t henv rfl (rfl) ?_
    refine wp_skip ?_
    refine th_n ?_
    refine wp_seq ?_
    refine wp_block ?_
    refine wp_seq ?_
    refine region_seq ?_
    refine seq_step rfl (op_val (v := .int .u64 (o : Nat)) henv rfl (rn_move henv rfl) ?_)
    clear henv a; intro a henv
    refine seq_step rfl (op_val (v := .slice A n c) henv rfl (rn_move henv rfl) ?_)
    clear henv a; intro a henv
    refine seq_step rfl (op_val (v := .int .i64 (i : Nat)) henv rfl (rn_move henv rfl) ?_)
    clear henv a; intro a henv
    refine seq_step rfl (op_call henv rfl Tryd.call99 rfl (r_at (i := i) (show U32 _ A n c xs from hst.pat (k := 0) rfl)) ?_)
    rintro e w2 ⟨rfl, hb⟩
    refine ⟨_, rfl, ?_⟩
    clear henv a; intro a henv
    replace hst := hst.call hb
    clear hb
    refine seq_step rfl (op_val (v := .int .u64 (xs.getD i 0 : Nat)) henv rfl (rn_conv henv rfl Tryd.underlying45 Tryd.underlying100 (IntWalk.u64_in _ (by omega))) ?_)
    clear henv a; intro a henv
    refine seq_step rfl (op_val (v := .slice B m d) henv rfl (rn_move henv rfl) ?_)
    clear henv a; intro a henv
    refine seq_step rfl (op_val (v := .int .i64 (i : Nat)) henv rfl (rn_move henv rfl) ?_)
    clear henv a; intro a henv
    refine seq_step rfl (op_call henv rfl Tryd.call99 rfl (r_at (i := i) (show U32 _ B m d ys from hst.pat (k := 1) rfl)) ?_)
    rintro e w3 ⟨rfl, hb⟩
    refine ⟨_, rfl, ?_⟩
    clear henv a; intro a henv
    replace hst := hst.call hb
    clear hb
    refine seq_step rfl (op_val (v := .int .u64 (ys.getD i 0 : Nat)) henv rfl (rn_conv henv rfl Tryd.underlying45 Tryd.underlying100 (IntWalk.u64_in _ (by omega))) ?_)
    clear henv a; intro a henv
    refine seq_step rfl (op_val (v := .int .u64 ((xs.getD i 0) + (ys.getD i 0) : Nat)) henv rfl (rn_add henv rfl rfl (by rw [IntWalk.u64_in _ (by omega)]; omega)) ?_)
    clear henv a; intro a henv
    refine seq_step rfl (op_val (v := .int .u64 (o + ((xs.getD i 0) + (ys.getD i 0)) : Nat)) henv rfl (rn_add henv rfl rfl (by rw [IntWalk.u64_in _ (by omega)]; omega)) ?_)
    clear henv a; intro a henv
    refine seq_step rfl (op_val (v := .int .u64 (o + ((xs.getD i 0) + (ys.getD i 0)) : Nat)) henv rfl (rn_assign henv rfl) ?_)
    clear henv a; intro a henv
    refine wpList_nil ?_
    refine th_n ?_
    refine wp_seq ?_
    refine region_seq ?_
    refine seq_step rfl (op_val (v := v) henv rfl (rn_move henv rfl) ?_)
    clear henv a; intro a henv
    refine seq_step rfl (op_val (v := .int .u64 (o + ((xs.getD i 0) + (ys.getD i 0)) : Nat)) henv rfl (rn_move henv rfl) ?_)
    clear henv a; intro a henv
    refine seq_step rfl (op_val (v := .int .u64 ((o + ((xs.getD i 0) + (ys.getD i 0))) % 4294967296 : Nat)) henv rfl (rn_rem henv rfl rfl (by decide) (tmod_nat (o + ((xs.getD i 0) + (ys.getD i 0))) 4294967296)) ?_)
    clear henv a; intro a henv
    refine seq_step rfl (op_val (v := .int .u32 ((o + ((xs.getD i 0) + (ys.getD i 0))) % 4294967296 : Nat)) henv rfl (rn_conv henv rfl Tryd.underlying100 Tryd.underlying45 (IntWalk.u32_in _ (by have := Nat.mod_lt (o + (xs.getD i 0 + ys.getD i 0)) (show 0 < 4294967296 by decide); omega))) ?_)
    clear henv a; intro a henv
    refine seq_step rfl (op_buildSlice (z := 1) (pv := #[(0, .int .u32 ((o + ((xs.getD i 0) + (ys.getD i 0))) % 4294967296 : Nat))]) (c := #[.int .u32 ((o + ((xs.getD i 0) + (ys.getD i 0))) % 4294967296 : Nat)]) henv hst rfl Tryd.underlying22 (ty_uint32.size) zero_uint32 (by decide) (by decide) rfl (by kernel_rfl) ?_)
    clear henv hst a; intro a w5 g4 henv hst
    refine seq_step rfl (op_append (k := 1) (j := 0) henv hst rfl Tryd.underlying22 info_u32 rfl rfl rfl rfl rfl rfl rfl rfl (by unfold maxLen; omega) (by omega) ?_)
    clear henv hst a; intro a w7 v6 henv hst
    refine seq_step rfl (op_val (v := v6) henv rfl (rn_assign henv rfl) ?_)
    clear henv a; intro a henv
    refine wpList_nil ?_
    refine th_n ?_
    refine region_seq ?_
    refine seq_step rfl (op_val (v := .int .u64 (o + ((xs.getD i 0) + (ys.getD i 0)) : Nat)) henv rfl (rn_move henv rfl) ?_)
    clear henv a; intro a henv
    refine seq_step rfl (op_val (v := .int .u64 ((o + ((xs.getD i 0) + (ys.getD i 0))) / 4294967296 : Nat)) henv rfl (rn_quo henv rfl rfl (by decide) (quo_b (by omega))) ?_)
    clear henv a; intro a henv
    refine seq_step rfl (op_val (v := .int .u64 ((o + ((xs.getD i 0) + (ys.getD i 0))) / 4294967296 : Nat)) henv rfl (rn_assign henv rfl) ?_)
    clear henv a; intro a henv
    refine wpList_nil ?_
    refine bl_n (th_n ?_)
    refine region_seq ?_
    refine seq_step rfl (op_val (v := .int .i64 (i : Nat)) henv rfl (rn_move henv rfl) ?_)
    clear henv a; intro a henv
    refine seq_step rfl (op_val (v := .int .i64 (i + 1 : Nat)) henv rfl (rn_add henv rfl rfl (by rw [IntWalk.i64_in _ (by omega)]; omega)) ?_)
    clear henv a; intro a henv
    refine seq_step rfl (op_val (v := .int .i64 (i + 1 : Nat)) henv rfl (rn_assign henv rfl) ?_)
    clear henv a; intro a henv
    refine wpList_nil ?_
    rw [vals_snoc] at hst
    exact th_n ⟨_, (by omega), ⟨i + 1, v6, (o + (xs.getD i 0 + ys.getD i 0)) / 4294967296, os ++ [(o + (xs.getD i 0 + ys.getD i 0)) % 4294967296], rfl, henv.sub ⟨rfl, rfl, rfl, rfl, rfl, trivial⟩, hst.pick [1] [0, 1] (by decide), (by rw [List.length_append, hol]; rfl), (lt_snoc hlt), (by omega), (add_inv hol hv), (by omega), (.inl (by omega))⟩⟩
  · refine wp_seq ?_
    refine wp_seq ?_
    refine region_seq ?_
    refine seq_step rfl (op_val (v := .int .i64 (i : Nat)) henv rfl (rn_move henv rfl) ?_)
    clear henv a; intro a henv
    refine seq_step rfl (op_val (v := .slice A n c) henv rfl (rn_move henv rfl) ?_)
    clear henv a; intro a henv
    refine seq_step rfl (op_val (v := .int .i64 (n : Nat)) henv rfl (rn_len henv Tryd.underlying22 rfl) ?_)
    clear henv a; intro a henv
    refine seq_step rfl (op_val (v := .bool (decide (((i : Nat) : Int) < ((n : Nat) : Int)))) henv rfl (rn_bin henv rfl rfl rfl) ?_)
    clear henv a; intro a henv
    rw [show (decide (((i : Nat) : Int) < ((n : Nat) : Int))) = false from decide_eq_false (by omega)] at henv
    refine seq_step rfl (op_val (v := .bool false) henv rfl (rn_move henv rfl) ?_)
    clear henv a; intro a henv
    refine seq_g rfl henv rfl rfl (op_val (v := .int .i64 (i : Nat)) henv rfl (rn_move henv rfl) ?_)
    clear henv a; intro a henv
    refine seq_g rfl henv rfl rfl (op_val (v := .slice B m d) henv rfl (rn_move henv rfl) ?_)
    clear henv a; intro a henv
    refine seq_g rfl henv rfl rfl (op_val (v := .int .i64 (m : Nat)) henv rfl (rn_len henv Tryd.underlying22 rfl) ?_)
    clear henv a; intro a henv
    refine seq_g rfl henv rfl rfl (op_val (v := .bool (decide (((i : Nat) : Int) < ((m : Nat) : Int)))) henv rfl (rn_bin henv rfl rfl rfl) ?_)
    clear henv a; intro a henv
    rw [show (decide (((i : Nat) : Int) < ((m : Nat) : Int))) = true from decide_eq_true (by omega)] at henv
    refine seq_step rfl (op_val (v := .bool true) henv rfl (rn_pick henv rfl rfl) ?_)
    clear henv a; intro a henv
    refine seq_step rfl (op_val (v := .bool true) henv rfl (rn_move henv rfl) ?_)
    clear henv a; intro a henv
    refine seq_skip rfl henv rfl rfl rfl rfl ?_
    clear henv a; intro a henv
    refine seq_skip rfl henv rfl rfl rfl rfl ?_
    clear henv a; intro a henv
    refine seq_step rfl (op_val (v := .bool true) henv rfl (rn_pick henv rfl rfl) ?_)
    clear henv a; intro a henv
    refine wpList_nil ?_
    refine th_n ?_
    refine if_t henv rfl (rfl) ?_
    refine wp_skip ?_
    refine th_n ?_
    refine wp_seq ?_
    refine wp_block ?_
    refine wp_seq ?_
    refine region_seq ?_
    refine seq_step rfl (op_val (v := .int .u64 (o : Nat)) henv rfl (rn_move henv rfl) ?_)
    clear henv a; intro a henv
    refine seq_step rfl (op_val (v := .slice A n c) henv rfl (rn_move henv rfl) ?_)
    clear henv a; intro a henv
    refine seq_step rfl (op_val (v := .int .i64 (i : Nat)) henv rfl (rn_move henv rfl) ?_)
    clear henv a; intro a henv
    refine seq_step rfl (op_call henv rfl Tryd.call99 rfl (r_at (i := i) (show U32 _ A n c xs from hst.pat (k := 0) rfl)) ?_)
    rintro e w8 ⟨rfl, hb⟩
    refine ⟨_, rfl, ?_⟩
    clear henv a; intro a henv
    replace hst := hst.call hb
    clear hb
    refine seq_step rfl (op_val (v := .int .u64 (xs.getD i 0 : Nat)) henv rfl (rn_conv henv rfl Tryd.underlying45 Tryd.underlying100 (IntWalk.u64_in _ (by omega))) ?_)
    clear henv a; intro a henv
    refine seq_step rfl (op_val (v := .slice B m d) henv rfl (rn_move henv rfl) ?_)
    clear henv a; intro a henv
    refine seq_step rfl (op_val (v := .int .i64 (i : Nat)) henv rfl (rn_move henv rfl) ?_)
    clear henv a; intro a henv
    refine seq_step rfl (op_call henv rfl Tryd.call99 rfl (r_at (i := i) (show U32 _ B m d ys from hst.pat (k := 1) rfl)) ?_)
    rintro e w9 ⟨rfl, hb⟩
    refine ⟨_, rfl, ?_⟩
    clear henv a; intro a henv
    replace hst := hst.call hb
    clear hb
    refine seq_step rfl (op_val (v := .int .u64 (ys.getD i 0 : Nat)) henv rfl (rn_conv henv rfl Tryd.underlying45 Tryd.underlying100 (IntWalk.u64_in _ (by omega))) ?_)
    clear henv a; intro a henv
    refine seq_step rfl (op_val (v := .int .u64 ((xs.getD i 0) + (ys.getD i 0) : Nat)) henv rfl (rn_add henv rfl rfl (by rw [IntWalk.u64_in _ (by omega)]; omega)) ?_)
    clear henv a; intro a henv
    refine seq_step rfl (op_val (v := .int .u64 (o + ((xs.getD i 0) + (ys.getD i 0)) : Nat)) henv rfl (rn_add henv rfl rfl (by rw [IntWalk.u64_in _ (by omega)]; omega)) ?_)
    clear henv a; intro a henv
    refine seq_step rfl (op_val (v := .int .u64 (o + ((xs.getD i 0) + (ys.getD i 0)) : Nat)) henv rfl (rn_assign henv rfl) ?_)
    clear henv a; intro a henv
    refine wpList_nil ?_
    refine th_n ?_
    refine wp_seq ?_
    refine region_seq ?_
    refine seq_step rfl (op_val (v := v) henv rfl (rn_move henv rfl) ?_)
    clear henv a; intro a henv
    refine seq_step rfl (op_val (v := .int .u64 (o + ((xs.getD i 0) + (ys.getD i 0)) : Nat)) henv rfl (rn_move henv rfl) ?_)
    clear henv a; intro a henv
    refine seq_step rfl (op_val (v := .int .u64 ((o + ((xs.getD i 0) + (ys.getD i 0))) % 4294967296 : Nat)) henv rfl (rn_rem henv rfl rfl (by decide) (tmod_nat (o + ((xs.getD i 0) + (ys.getD i 0))) 4294967296)) ?_)
    clear henv a; intro a henv
    refine seq_step rfl (op_val (v := .int .u32 ((o + ((xs.getD i 0) + (ys.getD i 0))) % 4294967296 : Nat)) henv rfl (rn_conv henv rfl Tryd.underlying100 Tryd.underlying45 (IntWalk.u32_in _ (by have := Nat.mod_lt (o + (xs.getD i 0 + ys.getD i 0)) (show 0 < 4294967296 by decide); omega))) ?_)
    clear henv a; intro a henv
    refine seq_step rfl (op_buildSlice (z := 1) (pv := #[(0, .int .u32 ((o + ((xs.getD i 0) + (ys.getD i 0))) % 4294967296 : Nat))]) (c := #[.int .u32 ((o + ((xs.getD i 0) + (ys.getD i 0))) % 4294967296 : Nat)]) henv hst rfl Tryd.underlying22 (ty_uint32.size) zero_uint32 (by decide) (by decide) rfl (by kernel_rfl) ?_)
    clear henv hst a; intro a w11 g10 henv hst
    refine seq_step rfl (op_append (k := 1) (j := 0) henv hst rfl Tryd.underlying22 info_u32 rfl rfl rfl rfl rfl rfl rfl rfl (by unfold maxLen; omega) (by omega) ?_)
    clear henv hst a; intro a w13 v12 henv hst
    refine seq_step rfl (op_val (v := v12) henv rfl (rn_assign henv rfl) ?_)
    clear henv a; intro a henv
    refine wpList_nil ?_
    refine th_n ?_
    refine region_seq ?_
    refine seq_step rfl (op_val (v := .int .u64 (o + ((xs.getD i 0) + (ys.getD i 0)) : Nat)) henv rfl (rn_move henv rfl) ?_)
    clear henv a; intro a henv
    refine seq_step rfl (op_val (v := .int .u64 ((o + ((xs.getD i 0) + (ys.getD i 0))) / 4294967296 : Nat)) henv rfl (rn_quo henv rfl rfl (by decide) (quo_b (by omega))) ?_)
    clear henv a; intro a henv
    refine seq_step rfl (op_val (v := .int .u64 ((o + ((xs.getD i 0) + (ys.getD i 0))) / 4294967296 : Nat)) henv rfl (rn_assign henv rfl) ?_)
    clear henv a; intro a henv
    refine wpList_nil ?_
    refine bl_n (th_n ?_)
    refine region_seq ?_
    refine seq_step rfl (op_val (v := .int .i64 (i : Nat)) henv rfl (rn_move henv rfl) ?_)
    clear henv a; intro a henv
    refine seq_step rfl (op_val (v := .int .i64 (i + 1 : Nat)) henv rfl (rn_add henv rfl rfl (by rw [IntWalk.i64_in _ (by omega)]; omega)) ?_)
    clear henv a; intro a henv
    refine seq_step rfl (op_val (v := .int .i64 (i + 1 : Nat)) henv rfl (rn_assign henv rfl) ?_)
    clear henv a; intro a henv
    refine wpList_nil ?_
    rw [vals_snoc] at hst
    have hx0 := getD_ge h.len hin
    exact th_n ⟨_, (by omega), ⟨i + 1, v12, (o + (xs.getD i 0 + ys.getD i 0)) / 4294967296, os ++ [(o + (xs.getD i 0 + ys.getD i 0)) % 4294967296], rfl, henv.sub ⟨rfl, rfl, rfl, rfl, rfl, trivial⟩, hst.pick [1] [0, 1] (by decide), (by rw [List.length_append, hol]; rfl), (lt_snoc hlt), (by omega), (add_inv hol hv), (by omega), (.inr (.inl (by omega)))⟩⟩
  · refine wp_seq ?_
    refine wp_seq ?_
    refine region_seq ?_
    refine seq_step rfl (op_val (v := .int .i64 (i : Nat)) henv rfl (rn_move henv rfl) ?_)
    clear henv a; intro a henv
    refine seq_step rfl (op_val (v := .slice A n c) henv rfl (rn_move henv rfl) ?_)
    clear henv a; intro a henv
    refine seq_step rfl (op_val (v := .int .i64 (n : Nat)) henv rfl (rn_len henv Tryd.underlying22 rfl) ?_)
    clear henv a; intro a henv
    refine seq_step rfl (op_val (v := .bool (decide (((i : Nat) : Int) < ((n : Nat) : Int)))) henv rfl (rn_bin henv rfl rfl rfl) ?_)
    clear henv a; intro a henv
    rw [show (decide (((i : Nat) : Int) < ((n : Nat) : Int))) = false from decide_eq_false (by omega)] at henv
    refine seq_step rfl (op_val (v := .bool false) henv rfl (rn_move henv rfl) ?_)
    clear henv a; intro a henv
    refine seq_g rfl henv rfl rfl (op_val (v := .int .i64 (i : Nat)) henv rfl (rn_move henv rfl) ?_)
    clear henv a; intro a henv
    refine seq_g rfl henv rfl rfl (op_val (v := .slice B m d) henv rfl (rn_move henv rfl) ?_)
    clear henv a; intro a henv
    refine seq_g rfl henv rfl rfl (op_val (v := .int .i64 (m : Nat)) henv rfl (rn_len henv Tryd.underlying22 rfl) ?_)
    clear henv a; intro a henv
    refine seq_g rfl henv rfl rfl (op_val (v := .bool (decide (((i : Nat) : Int) < ((m : Nat) : Int)))) henv rfl (rn_bin henv rfl rfl rfl) ?_)
    clear henv a; intro a henv
    rw [show (decide (((i : Nat) : Int) < ((m : Nat) : Int))) = false from decide_eq_false (by omega)] at henv
    refine seq_step rfl (op_val (v := .bool false) henv rfl (rn_pick henv rfl rfl) ?_)
    clear henv a; intro a henv
    refine seq_step rfl (op_val (v := .bool false) henv rfl (rn_move henv rfl) ?_)
    clear henv a; intro a henv
    refine seq_g rfl henv rfl rfl (op_val (v := .int .u64 (o : Nat)) henv rfl (rn_move henv rfl) ?_)
    clear henv a; intro a henv
    refine seq_g rfl henv rfl rfl (op_val (v := .bool (decide (((o : Nat) : Int) > (0 : Int)))) henv rfl (rn_bin henv rfl rfl rfl) ?_)
    clear henv a; intro a henv
    rw [show (decide (((o : Nat) : Int) > (0 : Int))) = true from decide_eq_true (by omega)] at henv
    refine seq_step rfl (op_val (v := .bool true) henv rfl (rn_pick henv rfl rfl) ?_)
    clear henv a; intro a henv
    refine wpList_nil ?_
    refine th_n ?_
    refine if_t henv rfl (rfl) ?_
    refine wp_skip ?_
    refine th_n ?_
    refine wp_seq ?_
    refine wp_block ?_
    refine wp_seq ?_
    refine region_seq ?_
    refine seq_step rfl (op_val (v := .int .u64 (o : Nat)) henv rfl (rn_move henv rfl) ?_)
    clear henv a; intro a henv
    refine seq_step rfl (op_val (v := .slice A n c) henv rfl (rn_move henv rfl) ?_)
    clear henv a; intro a henv
    refine seq_step rfl (op_val (v := .int .i64 (i : Nat)) henv rfl (rn_move henv rfl) ?_)
    clear henv a; intro a henv
    refine seq_step rfl (op_call henv rfl Tryd.call99 rfl (r_at (i := i) (show U32 _ A n c xs from hst.pat (k := 0) rfl)) ?_)
    rintro e w14 ⟨rfl, hb⟩
    refine ⟨_, rfl, ?_⟩
    clear henv a; intro a henv
    replace hst := hst.call hb
    clear hb
    refine seq_step rfl (op_val (v := .int .u64 (xs.getD i 0 : Nat)) henv rfl (rn_conv henv rfl Tryd.underlying45 Tryd.underlying100 (IntWalk.u64_in _ (by omega))) ?_)
    clear henv a; intro a henv
    refine seq_step rfl (op_val (v := .slice B m d) henv rfl (rn_move henv rfl) ?_)
    clear henv a; intro a henv
    refine seq_step rfl (op_val (v := .int .i64 (i : Nat)) henv rfl (rn_move henv rfl) ?_)
    clear henv a; intro a henv
    refine seq_step rfl (op_call henv rfl Tryd.call99 rfl (r_at (i := i) (show U32 _ B m d ys from hst.pat (k := 1) rfl)) ?_)
    rintro e w15 ⟨rfl, hb⟩
    refine ⟨_, rfl, ?_⟩
    clear henv a; intro a henv
    replace hst := hst.call hb
    clear hb
    refine seq_step rfl (op_val (v := .int .u64 (ys.getD i 0 : Nat)) henv rfl (rn_conv henv rfl Tryd.underlying45 Tryd.underlying100 (IntWalk.u64_in _ (by omega))) ?_)
    clear henv a; intro a henv
    refine seq_step rfl (op_val (v := .int .u64 ((xs.getD i 0) + (ys.getD i 0) : Nat)) henv rfl (rn_add henv rfl rfl (by rw [IntWalk.u64_in _ (by omega)]; omega)) ?_)
    clear henv a; intro a henv
    refine seq_step rfl (op_val (v := .int .u64 (o + ((xs.getD i 0) + (ys.getD i 0)) : Nat)) henv rfl (rn_add henv rfl rfl (by rw [IntWalk.u64_in _ (by omega)]; omega)) ?_)
    clear henv a; intro a henv
    refine seq_step rfl (op_val (v := .int .u64 (o + ((xs.getD i 0) + (ys.getD i 0)) : Nat)) henv rfl (rn_assign henv rfl) ?_)
    clear henv a; intro a henv
    refine wpList_nil ?_
    refine th_n ?_
    refine wp_seq ?_
    refine region_seq ?_
    refine seq_step rfl (op_val (v := v) henv rfl (rn_move henv rfl) ?_)
    clear henv a; intro a henv
    refine seq_step rfl (op_val (v := .int .u64 (o + ((xs.getD i 0) + (ys.getD i 0)) : Nat)) henv rfl (rn_move henv rfl) ?_)
    clear henv a; intro a henv
    refine seq_step rfl (op_val (v := .int .u64 ((o + ((xs.getD i 0) + (ys.getD i 0))) % 4294967296 : Nat)) henv rfl (rn_rem henv rfl rfl (by decide) (tmod_nat (o + ((xs.getD i 0) + (ys.getD i 0))) 4294967296)) ?_)
    clear henv a; intro a henv
    refine seq_step rfl (op_val (v := .int .u32 ((o + ((xs.getD i 0) + (ys.getD i 0))) % 4294967296 : Nat)) henv rfl (rn_conv henv rfl Tryd.underlying100 Tryd.underlying45 (IntWalk.u32_in _ (by have := Nat.mod_lt (o + (xs.getD i 0 + ys.getD i 0)) (show 0 < 4294967296 by decide); omega))) ?_)
    clear henv a; intro a henv
    refine seq_step rfl (op_buildSlice (z := 1) (pv := #[(0, .int .u32 ((o + ((xs.getD i 0) + (ys.getD i 0))) % 4294967296 : Nat))]) (c := #[.int .u32 ((o + ((xs.getD i 0) + (ys.getD i 0))) % 4294967296 : Nat)]) henv hst rfl Tryd.underlying22 (ty_uint32.size) zero_uint32 (by decide) (by decide) rfl (by kernel_rfl) ?_)
    clear henv hst a; intro a w17 g16 henv hst
    refine seq_step rfl (op_append (k := 1) (j := 0) henv hst rfl Tryd.underlying22 info_u32 rfl rfl rfl rfl rfl rfl rfl rfl (by unfold maxLen; omega) (by omega) ?_)
    clear henv hst a; intro a w19 v18 henv hst
    refine seq_step rfl (op_val (v := v18) henv rfl (rn_assign henv rfl) ?_)
    clear henv a; intro a henv
    refine wpList_nil ?_
    refine th_n ?_
    refine region_seq ?_
    refine seq_step rfl (op_val (v := .int .u64 (o + ((xs.getD i 0) + (ys.getD i 0)) : Nat)) henv rfl (rn_move henv rfl) ?_)
    clear henv a; intro a henv
    refine seq_step rfl (op_val (v := .int .u64 ((o + ((xs.getD i 0) + (ys.getD i 0))) / 4294967296 : Nat)) henv rfl (rn_quo henv rfl rfl (by decide) (quo_b (by omega))) ?_)
    clear henv a; intro a henv
    refine seq_step rfl (op_val (v := .int .u64 ((o + ((xs.getD i 0) + (ys.getD i 0))) / 4294967296 : Nat)) henv rfl (rn_assign henv rfl) ?_)
    clear henv a; intro a henv
    refine wpList_nil ?_
    refine bl_n (th_n ?_)
    refine region_seq ?_
    refine seq_step rfl (op_val (v := .int .i64 (i : Nat)) henv rfl (rn_move henv rfl) ?_)
    clear henv a; intro a henv
    refine seq_step rfl (op_val (v := .int .i64 (i + 1 : Nat)) henv rfl (rn_add henv rfl rfl (by rw [IntWalk.i64_in _ (by omega)]; omega)) ?_)
    clear henv a; intro a henv
    refine seq_step rfl (op_val (v := .int .i64 (i + 1 : Nat)) henv rfl (rn_assign henv rfl) ?_)
    clear henv a; intro a henv
    refine wpList_nil ?_
    rw [vals_snoc] at hst
    have hx0 := getD_ge h.len hin
    have hy0 := getD_ge k.len him
    exact th_n ⟨_, (by omega), ⟨i + 1, v18, (o + (xs.getD i 0 + ys.getD i 0)) / 4294967296, os ++ [(o + (xs.getD i 0 + ys.getD i 0)) % 4294967296], rfl, henv.sub ⟨rfl, rfl, rfl, rfl, rfl, trivial⟩, hst.pick [1] [0, 1] (by decide), (by rw [List.length_append, hol]; rfl), (lt_snoc hlt), (by omega), (add_inv hol hv), (by omega), (.inr (.inr (by omega)))⟩⟩
  · refine wp_seq ?_
    refine wp_seq ?_
    refine region_seq ?_
    refine seq_step rfl (op_val (v := .int .i64 (i : Nat)) henv rfl (rn_move henv rfl) ?_)
    clear henv a; intro a henv
    refine seq_step rfl (op_val (v := .slice A n c) henv rfl (rn_move henv rfl) ?_)
    clear henv a; intro a henv
    refine seq_step rfl (op_val (v := .int .i64 (n : Nat)) henv rfl (rn_len henv Tryd.underlying22 rfl) ?_)
    clear henv a; intro a henv
    refine seq_step rfl (op_val (v := .bool (decide (((i : Nat) : Int) < ((n : Nat) : Int)))) henv rfl (rn_bin henv rfl rfl rfl) ?_)
    clear henv a; intro a henv
    rw [show (decide (((i : Nat) : Int) < ((n : Nat) : Int))) = false from decide_eq_false (by omega)] at henv
    refine seq_step rfl (op_val (v := .bool false) henv rfl (rn_move henv rfl) ?_)
    clear henv a; intro a henv
    refine seq_g rfl henv rfl rfl (op_val (v := .int .i64 (i : Nat)) henv rfl (rn_move henv rfl) ?_)
    clear henv a; intro a henv
    refine seq_g rfl henv rfl rfl (op_val (v := .slice B m d) henv rfl (rn_move henv rfl) ?_)
    clear henv a; intro a henv
    refine seq_g rfl henv rfl rfl (op_val (v := .int .i64 (m : Nat)) henv rfl (rn_len henv Tryd.underlying22 rfl) ?_)
    clear henv a; intro a henv
    refine seq_g rfl henv rfl rfl (op_val (v := .bool (decide (((i : Nat) : Int) < ((m : Nat) : Int)))) henv rfl (rn_bin henv rfl rfl rfl) ?_)
    clear henv a; intro a henv
    rw [show (decide (((i : Nat) : Int) < ((m : Nat) : Int))) = false from decide_eq_false (by omega)] at henv
    refine seq_step rfl (op_val (v := .bool false) henv rfl (rn_pick henv rfl rfl) ?_)
    clear henv a; intro a henv
    refine seq_step rfl (op_val (v := .bool false) henv rfl (rn_move henv rfl) ?_)
    clear henv a; intro a henv
    refine seq_g rfl henv rfl rfl (op_val (v := .int .u64 (o : Nat)) henv rfl (rn_move henv rfl) ?_)
    clear henv a; intro a henv
    refine seq_g rfl henv rfl rfl (op_val (v := .bool (decide (((o : Nat) : Int) > (0 : Int)))) henv rfl (rn_bin henv rfl rfl rfl) ?_)
    clear henv a; intro a henv
    rw [show (decide (((o : Nat) : Int) > (0 : Int))) = false from decide_eq_false (by omega)] at henv
    refine seq_step rfl (op_val (v := .bool false) henv rfl (rn_pick henv rfl rfl) ?_)
    clear henv a; intro a henv
    refine wpList_nil ?_
    refine th_n ?_
    refine if_f henv rfl (rfl) ?_
    refine wp_exit ?_
    refine th_x (th_x (bl_x (th_n ?_)))
    refine wp_seq ?_
    obtain rfl : o = 0 := by omega
    rw [Nat.zero_mul, Nat.add_zero, val_take_past _ xs i (by rw [h.len]; exact hin), val_take_past _ ys i (by rw [k.len]; exact him)] at hv
    obtain ⟨A1, c1, rfl, hst⟩ := hst.rowGive (k := 0) rfl hlt
    refine region_seq ?_
    refine seq_step rfl (op_val (v := .slice A1 i c1) henv rfl (rn_move henv rfl) ?_)
    clear henv a; intro a henv
    have hst0 := hst
    refine seq_step rfl (op_call henv rfl Tryd.call52 rfl (r_norm (show U32 _ A1 i c1 os from hst.pat (k := 0) rfl) (by omega)) ?_)
    rintro e w22 ⟨_, rfl, ⟨A20, c21, rfl, hU, hA⟩, hb⟩
    refine ⟨_, rfl, ?_⟩
    clear henv a; intro a henv
    replace hst := hst.freshU hb hU hA
    clear hU
    have hF : ∀ a, A20 = some a → w0.heap.size ≤ a.block := fun a ha => Nat.le_trans hst0.below.size (hA a ha)
    clear hA
    clear hb
    refine seq_step rfl (op_val (v := .slice A20 (nl (val 4294967296 os)) c21) henv rfl (rn_assign henv rfl) ?_)
    clear henv a; intro a henv
    refine wpList_nil ?_
    refine th_n ?_
    refine wp_ret ?_
    refine leave henv (res1 Tryd.results98 (RV.tmp henv rfl)) ?_
    refine ⟨_, rfl, ?_, hst.below⟩
    rw [← hv]
    exact ⟨_, _, rfl, hst.pat (k := 0) rfl, hF⟩

end Go.Proofs.YtnldopjbiacbfaaDoor.W
