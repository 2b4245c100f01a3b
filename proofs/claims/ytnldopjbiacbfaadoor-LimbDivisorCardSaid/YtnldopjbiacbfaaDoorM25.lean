/- Over rows of limbs: slices.Equal, MulSmall, Gcd, works. Printed by pv/gen_limb.py. No condition. -/
import Derived.Test.YtnldopjbiacbfaaDoorM18
import Derived.Test.YtnldopjbiacbfaaDoorM5
import Derived.Test.YtnldopjbiacbfaaDoorM24
import Derived.Test.YtnldopjbiacbfaaDoorM6

namespace Go.Proofs.YtnldopjbiacbfaaDoor.W
open Go.RowKit Anv

theorem u32_none (w : World) : U32 w none 0 0 [] := ⟨rfl, Nat.le_refl _, by simp [maxLen], by intro x hx; simp at hx, fun h => absurd h (Nat.lt_irrefl _)⟩
theorem bne_t {a b : Nat} (h : (((a : Nat) : Int) != ((b : Nat) : Int)) = true) : a ≠ b := by intro e; subst e; simp at h
theorem bne_f {a b : Nat} (h : (((a : Nat) : Int) != ((b : Nat) : Int)) = false) : a = b := by simp at h; omega
theorem row_ext {xs ys : List Nat} {n : Nat} (hx : xs.length = n) (hy : ys.length = n) (h : ∀ i, i < n → xs.getD i 0 = ys.getD i 0) : xs = ys := by
  apply List.ext_getElem (by omega)
  intro i h1 h2
  have := h i (by omega)
  simpa [List.getD, h1, h2] using this
theorem L_w : L 18446744065119617025 = [1, 4294967294] := L_of (xs := [1, 4294967294]) (by intro x hx; simp at hx; omega) (by simp [Norm])
theorem L_g : L 4294967295 = [4294967295] := L_of (xs := [4294967295]) (by intro x hx; simp at hx; omega) (by simp [Norm])
theorem L_5 : L 5 = [5] := L_of (xs := [5]) (by intro x hx; simp at hx; omega) (by simp [Norm])
theorem text_w : decide ((textN 18446744065119617025) = [49, 56, 52, 52, 54, 55, 52, 52, 48, 54, 53, 49, 49, 57, 54, 49, 55, 48, 50, 53]) = true := by
  have h : dig 10 18446744065119617025 = [5, 2, 0, 7, 1, 6, 9, 1, 1, 5, 6, 0, 4, 4, 7, 6, 4, 4, 8, 1] := dig_val (b := 10) (by decide) (xs := [5, 2, 0, 7, 1, 6, 9, 1, 1, 5, 6, 0, 4, 4, 7, 6, 4, 4, 8, 1]) (by intro x hx; simp at hx; omega) (by simp [Norm])
  unfold textN
  rw [if_neg (by decide), h]
  decide
theorem gcd_step (a b : Nat) : Nat.gcd b (a % b) = Nat.gcd a b := by rw [Nat.gcd_comm b, ← Nat.gcd_rec, Nat.gcd_comm]
theorem text_num {A : Option Addr} {n c N : Nat} {w : World} (h : NumIn w A n c N) (hn : n ≤ 1000000) :
    Calls Tryd.prog 66 #[.slice A n c] w fun e w' => e = .returned (.string ⟨(textN N).toArray⟩) ∧ Below w.heap.size w w' := by
  obtain ⟨xs, hx, rfl⟩ := h
  exact text_any hx hn

set_option maxRecDepth 100000 in
set_option maxHeartbeats 4000000 in
theorem equal_u {A B : Option Addr} {n c m d : Nat} {xs ys : List Nat} {w0 : World} (hx : U32 w0 A n c xs) (hy : U32 w0 B m d ys) :
    Calls Tryd.prog 36 #[.slice A n c, .slice B m d] w0 fun e w' => e = .returned (.bool (decide (xs = ys))) ∧ Below w0.heap.size w0 w' := by
  have hxl := hx.len
  have hyl := hy.len
  have hmx : n ≤ 9223372036854775807 := by have := Nat.le_trans hx.cap hx.big; unfold maxLen at this; omega
  refine enter Tryd.func36 rfl Tryd.ntmps36 rfl ?_
  intro a henv hst
  replace hst := (hst.addU hx trivial).addU hy trivial
  clear hx hy
  refine wp_seq ?_
  refine region_seq ?_
  refine seq_step rfl (op_val (v := .bool false) henv rfl (rn_assign henv rfl) ?_)
  clear henv a; intro a henv
  refine wpList_nil ?_
  refine th_n ?_
  refine wp_seq ?_
  refine wp_seq ?_
  refine region_seq ?_
  refine seq_step rfl (op_val (v := .slice A n c) henv rfl (rn_move henv rfl) ?_)
  clear henv a; intro a henv
  refine seq_step rfl (op_val (v := .int .i64 (n : Nat)) henv rfl (rn_len henv Tryd.underlying22 rfl) ?_)
  clear henv a; intro a henv
  refine seq_step rfl (op_val (v := .slice B m d) henv rfl (rn_move henv rfl) ?_)
  clear henv a; intro a henv
  refine seq_step rfl (op_val (v := .int .i64 (m : Nat)) henv rfl (rn_len henv Tryd.underlying22 rfl) ?_)
  clear henv a; intro a henv
  refine seq_step rfl (op_val (v := .bool (((n : Nat) : Int) != ((m : Nat) : Int))) henv rfl (rn_bin henv rfl rfl rfl) ?_)
  clear henv a; intro a henv
  refine wpList_nil ?_
  refine th_n ?_
  refine if_split henv rfl (fun hc1 => ?_) (fun hc1 => ?_)
  · have hne : n ≠ m := by intro h1; rw [h1] at hc1; simp at hc1
    refine wp_seq ?_
    refine region_seq ?_
    refine seq_step rfl (op_val (v := .bool false) henv rfl (rn_assign henv rfl) ?_)
    clear henv a; intro a henv
    refine wpList_nil ?_
    refine th_n ?_
    refine wp_ret ?_
    refine th_r ?_
    refine leave henv (res1 Tryd.results36 (RV.tmp henv rfl)) ?_
    rw [decide_eq_false (fun h => hne (by rw [← hxl, ← hyl, h]))]
    exact ⟨rfl, hst.below⟩
  · have hmn : m = n := by have h1 := hc1; simp at h1; omega
    clear hc1
    rw [hmn] at henv hst hyl
    refine wp_skip ?_
    refine th_n ?_
    refine wp_seq ?_
    refine wp_seq ?_
    refine region_seq ?_
    refine seq_step rfl (op_val (v := .slice A n c) henv rfl (rn_move henv rfl) ?_)
    clear henv a; intro a henv
    refine seq_step rfl (op_val (v := .int .i64 (n : Nat)) henv rfl (rn_len henv Tryd.underlying22 rfl) ?_)
    clear henv a; intro a henv
    refine seq_step rfl (op_val (v := .int .i64 0) henv rfl (rn_move henv rfl) ?_)
    clear henv a; intro a henv
    refine wpList_nil ?_
    refine th_n ?_
    refine wp_block ?_
    refine wp_loop_ghost (fun mz a w => ∃ j : Nat, n - j = mz ∧ Env 26 a [(0, .slice A n c), (1, .slice B n d), (12, .int .i64 (n : Nat)), (13, .int .i64 (j : Nat))] ∧ St w0 w [] [pfU A n c xs, pfU B n d ys] ∧ j ≤ n ∧ ∀ i, i < j → xs.getD i 0 = ys.getD i 0) _ ⟨0, rfl, henv.sub ⟨rfl, rfl, rfl, rfl, trivial⟩, hst.pick [] [1, 0] (by decide), (Nat.zero_le _), (fun i hi => absurd hi (Nat.not_lt_zero _))⟩ ?_
    clear henv hst a
    rintro mz a w2 ⟨j, rfl, henv, hst, hj, hz⟩
    refine wp_seq ?_
    refine region_seq ?_
    refine seq_step rfl (op_val (v := .bool (decide (((j : Nat) : Int) < ((n : Nat) : Int)))) henv rfl (rn_bin henv rfl rfl rfl) ?_)
    clear henv a; intro a henv
    refine wpList_nil ?_
    refine th_n ?_
    refine wp_seq ?_
    refine if_split henv rfl (fun hc3 => ?_) (fun hc3 => ?_)
    · have hlt : j < n := by have := of_decide_eq_true hc3; omega
      refine wp_skip ?_
      refine th_n ?_
      refine wp_seq ?_
      refine wp_block ?_
      refine wp_seq ?_
      refine region_seq ?_
      refine seq_step rfl (op_val (v := .int .i64 (j : Nat)) henv rfl (rn_move henv rfl) ?_)
      clear henv a; intro a henv
      refine seq_step rfl (op_val (v := .int .i64 (j : Nat)) henv rfl (rn_assign henv rfl) ?_)
      clear henv a; intro a henv
      refine wpList_nil ?_
      refine th_n ?_
      refine wp_seq ?_
      refine region_any (n := 9) (Sk [] [pfU A n c xs, pfU B n d ys] [] []) mixed rfl henv hst ?_
      clear henv hst; intro w4 henv hst
      refine sAny_take (i := 0) [2, 3, 8] (fun _ => True) (v := .slice A n c) rfl (by kernel_rfl) (fun _ _ _ h => h) (fun _ _ _ _ => trivial) henv rfl trivial (fun w' _ => rn_move henv rfl) ?_
      clear henv a; intro a henv
      refine sAny_take (i := 1) [2, 3, 8] (fun _ => True) (v := .int .i64 (j : Nat)) rfl (by kernel_rfl) (fun _ _ _ h => h) (fun _ _ _ _ => trivial) henv rfl trivial (fun w' _ => rn_move henv rfl) ?_
      clear henv a; intro a henv
      refine sAny_take (i := 2) [3, 8] (fun w' => (pfU A n c xs).P w') (v := .pointer (some ⟨ab A, ao A + j, none⟩)) rfl (by kernel_rfl) (fun _ _ _ h => h) (fun _ _ _ hS => hS.1.pat (k := 0) rfl) henv rfl (hst.pat (k := 0) rfl) (fun w' hg => rn_idxU (i := j) henv Tryd.underlying22 (ty_uint32.size) rfl rfl hlt (show U32 _ A n c xs from hg)) ?_
      clear henv a; intro a henv
      refine sAny_take (i := 3) [8] (fun w' => (pfU A n c xs).P w') (v := .int .u32 (xs.getD j 0 : Nat)) rfl (by kernel_rfl) (fun _ _ _ h => h) (fun _ _ _ hS => hS.1.pat (k := 0) rfl) henv rfl (hst.pat (k := 0) rfl) (fun w' hg => rn_loadU henv ty_uint32 rfl hlt (show U32 _ A n c xs from hg)) ?_
      clear henv a; intro a henv
      refine sAny_take (i := 4) [6, 7, 8] (fun _ => True) (v := .slice B n d) rfl (by kernel_rfl) (fun _ _ _ h => h) (fun _ _ _ _ => trivial) henv rfl trivial (fun w' _ => rn_move henv rfl) ?_
      clear henv a; intro a henv
      refine sAny_take (i := 5) [6, 7, 8] (fun _ => True) (v := .int .i64 (j : Nat)) rfl (by kernel_rfl) (fun _ _ _ h => h) (fun _ _ _ _ => trivial) henv rfl trivial (fun w' _ => rn_move henv rfl) ?_
      clear henv a; intro a henv
      refine sAny_take (i := 6) [7, 8] (fun w' => (pfU B n d ys).P w') (v := .pointer (some ⟨ab B, ao B + j, none⟩)) rfl (by kernel_rfl) (fun _ _ _ h => h) (fun _ _ _ hS => hS.1.pat (k := 1) rfl) henv rfl (hst.pat (k := 1) rfl) (fun w' hg => rn_idxU (i := j) henv Tryd.underlying22 (ty_uint32.size) rfl rfl hlt (show U32 _ B n d ys from hg)) ?_
      clear henv a; intro a henv
      refine sAny_take (i := 7) [8] (fun w' => (pfU B n d ys).P w') (v := .int .u32 (ys.getD j 0 : Nat)) rfl (by kernel_rfl) (fun _ _ _ h => h) (fun _ _ _ hS => hS.1.pat (k := 1) rfl) henv rfl (hst.pat (k := 1) rfl) (fun w' hg => rn_loadU henv ty_uint32 rfl hlt (show U32 _ B n d ys from hg)) ?_
      clear henv a; intro a henv
      refine sAny_take (i := 8) [] (fun _ => True) (v := .bool (((xs.getD j 0 : Nat) : Int) != ((ys.getD j 0 : Nat) : Int))) rfl (by kernel_rfl) (fun _ _ _ h => h) (fun _ _ _ _ => trivial) henv rfl trivial (fun w' _ => rn_bin henv rfl rfl rfl) ?_
      clear henv a; intro a henv
      refine sAny_done (by kernel_rfl) ?_ _
      refine th_n ?_
      refine if_split henv rfl (fun hc5 => ?_) (fun hc5 => ?_)
      · have he := bne_t hc5
        refine wp_seq ?_
        refine region_seq ?_
        refine seq_step rfl (op_val (v := .bool false) henv rfl (rn_assign henv rfl) ?_)
        clear henv a; intro a henv
        refine wpList_nil ?_
        refine th_n ?_
        refine wp_ret ?_
        refine bl_r (th_r (th_r (bl_r (th_r ?_))))
        refine leave henv (res1 Tryd.results36 (RV.tmp henv rfl)) ?_
        rw [decide_eq_false (fun h => he (by rw [h]))]
        exact ⟨rfl, hst.below⟩
      · have he := bne_f hc5
        refine wp_skip ?_
        refine bl_n (th_n ?_)
        refine region_seq ?_
        refine seq_step rfl (op_val (v := .int .i64 (j + 1 : Nat)) henv rfl (rn_add henv rfl rfl (by rw [IntWalk.i64_in _ (by omega)]; omega)) ?_)
        clear henv a; intro a henv
        refine seq_step rfl (op_val (v := .int .i64 (j + 1 : Nat)) henv rfl (rn_move henv rfl) ?_)
        clear henv a; intro a henv
        refine wpList_nil ?_
        exact th_n ⟨_, (by omega), ⟨j + 1, rfl, henv.sub ⟨rfl, rfl, rfl, rfl, trivial⟩, hst.pick [] [0, 1] (by decide), (by omega), (fun i hi => by rcases Nat.lt_or_ge i j with h1 | h1; exact hz i h1; rw [show i = j by omega]; exact he)⟩⟩
    · have hjn : j = n := by have := of_decide_eq_false hc3; omega
      refine wp_exit ?_
      refine th_x (th_x (bl_x (th_n ?_)))
      refine wp_seq ?_
      refine region_seq ?_
      refine seq_step rfl (op_val (v := .bool true) henv rfl (rn_assign henv rfl) ?_)
      clear henv a; intro a henv
      refine wpList_nil ?_
      refine th_n ?_
      refine wp_ret ?_
      refine leave henv (res1 Tryd.results36 (RV.tmp henv rfl)) ?_
      subst hjn
      rw [show xs = ys from row_ext hxl hyl hz, decide_eq_true rfl]
      exact ⟨rfl, hst.below⟩

set_option maxRecDepth 100000 in
set_option maxHeartbeats 4000000 in
theorem muls_num {A : Option Addr} {n c q N : Nat} {w0 : World} (h : NumIn w0 A n c N) (hn : n ≤ 1000000) (hq : q < 4294967296) :
    Calls Tryd.prog 40 #[.slice A n c, .int .u32 q] w0 fun e w' => ∃ v, e = .returned v ∧ NumAt w0.heap.size w' v (N * q) ∧ Below w0.heap.size w0 w' := by
  refine enter Tryd.func40 rfl Tryd.ntmps40 rfl ?_
  intro a henv hst
  obtain ⟨xs, hx, hN⟩ := h
  replace hst := hst.addU hx trivial
  clear hx
  refine wp_seq ?_
  refine region_seq ?_
  refine seq_step rfl (op_val (v := .slice none 0 0) henv rfl (rn_assign henv rfl) ?_)
  clear henv a; intro a henv
  refine wpList_nil ?_
  refine th_n ?_
  refine wp_seq ?_
  refine region_seq ?_
  refine seq_step rfl (op_val (v := .slice A n c) henv rfl (rn_move henv rfl) ?_)
  clear henv a; intro a henv
  refine seq_step rfl (op_val (v := .int .u32 (q : Nat)) henv rfl (rn_move henv rfl) ?_)
  clear henv a; intro a henv
  refine seq_step rfl (op_buildSlice (z := 1) (pv := #[(0, .int .u32 (q : Nat))]) (c := #[.int .u32 (q : Nat)]) henv hst rfl Tryd.underlying22 (ty_uint32.size) zero_uint32 (by decide) (by decide) rfl (by kernel_rfl) ?_)
  clear henv hst a; intro a w2 g1 henv hst
  replace hst := hst.giveU (k := 0) (n := 1) (xs := [q]) rfl (lt1 hq) rfl (by decide)
  have hs3 := nl_mul N q
  have hst0 := hst
  refine seq_step rfl (op_call henv rfl Tryd.call38 rfl (mul_num (N := N) (M := q) ⟨_, (show U32 _ A n c xs from hst.pat (k := 1) rfl), hN⟩ ⟨_, (show U32 _ (some ⟨g1, 0, none⟩) 1 1 ([q]) from hst.pat (k := 0) rfl), L_one⟩ (by omega) (by omega)) ?_)
  rintro e w6 ⟨_, rfl, ⟨A4, c5, rfl, hU, hA⟩, hb⟩
  refine ⟨_, rfl, ?_⟩
  clear henv a; intro a henv
  replace hst := hst.freshU hb hU hA
  clear hU
  have hF : ∀ a, A4 = some a → w0.heap.size ≤ a.block := fun a ha => Nat.le_trans hst0.below.size (hA a ha)
  clear hA
  clear hb
  refine seq_step rfl (op_val (v := .slice A4 (nl (N * q)) c5) henv rfl (rn_assign henv rfl) ?_)
  clear henv a; intro a henv
  refine wpList_nil ?_
  refine th_n ?_
  refine wp_ret ?_
  refine leave henv (res1 Tryd.results40 (RV.tmp henv rfl)) ?_
  exact ⟨_, rfl, ⟨_, _, rfl, hst.pat (k := 0) rfl, hF⟩, hst.below⟩

set_option maxRecDepth 100000 in
set_option maxHeartbeats 4000000 in
theorem works_true (w0 : World) : Calls Tryd.prog 32 #[] w0 fun e w' => e = .returned (.bool true) ∧ Below w0.heap.size w0 w' := by
  have hg : nl 4294967295 ≤ 1 := nl_le_of_lt (by decide)
  have h5 : nl 5 ≤ 1 := nl_le_of_lt (by decide)
  have hw : nl 18446744065119617025 ≤ 2 := nl_le_of_lt (by decide)
  have hv : nl 18446744065119617030 ≤ 2 := nl_le_of_lt (by decide)
  refine enter Tryd.func32 rfl Tryd.ntmps32 rfl ?_
  intro a henv hst
  refine wp_seq ?_
  refine region_seq ?_
  refine seq_step rfl (op_val (v := .bool false) henv rfl (rn_assign henv rfl) ?_)
  clear henv a; intro a henv
  refine wpList_nil ?_
  refine th_n ?_
  refine wp_seq ?_
  refine region_seq ?_
  refine seq_step rfl (op_buildSlice (z := 1) (pv := #[(0, .int .u32 4294967295)]) (c := #[.int .u32 4294967295]) henv hst rfl Tryd.underlying22 (ty_uint32.size) zero_uint32 (by decide) (by decide) rfl (by kernel_rfl) ?_)
  clear henv hst a; intro a w2 g1 henv hst
  replace hst := hst.giveU (k := 0) (n := 1) (xs := [4294967295]) rfl (by intro x hx; simp at hx; omega) rfl (by decide)
  refine seq_step rfl (op_buildSlice (z := 1) (pv := #[(0, .int .u32 4294967295), (1, .int .u32 0)]) (c := #[.int .u32 4294967295, .int .u32 0]) henv hst rfl Tryd.underlying22 (ty_uint32.size) zero_uint32 (by decide) (by decide) rfl (by kernel_rfl) ?_)
  clear henv hst a; intro a w4 g3 henv hst
  replace hst := hst.giveU (k := 0) (n := 2) (xs := [4294967295, 0]) rfl (by intro x hx; simp at hx; omega) rfl (by decide)
  have hs5 := nl_mul 4294967295 4294967295
  refine seq_step rfl (op_call henv rfl Tryd.call38 rfl (mul_num (N := 4294967295) (M := 4294967295) ⟨_, (show U32 _ (some ⟨g1, 0, none⟩) 1 1 ([4294967295]) from hst.pat (k := 1) rfl), (by decide)⟩ ⟨_, (show U32 _ (some ⟨g3, 0, none⟩) 2 2 ([4294967295, 0]) from hst.pat (k := 0) rfl), (by decide)⟩ (by omega) (by omega)) ?_)
  rintro e w8 ⟨_, rfl, ⟨A6, c7, rfl, hU, hA⟩, hb⟩
  refine ⟨_, rfl, ?_⟩
  clear henv a; intro a henv
  replace hst := hst.freshU hb hU hA
  clear hU
  clear hA
  clear hb
  refine seq_step rfl (op_val (v := .slice A6 (nl 18446744065119617025) c7) henv rfl (rn_assign henv rfl) ?_)
  clear henv a; intro a henv
  refine wpList_nil ?_
  refine th_n ?_
  refine wp_seq ?_
  refine region_seq ?_
  refine seq_step rfl (op_val (v := .slice A6 (nl 18446744065119617025) c7) henv rfl (rn_move henv rfl) ?_)
  clear henv a; intro a henv
  refine seq_step rfl (op_buildSlice (z := 1) (pv := #[(0, .int .u32 5)]) (c := #[.int .u32 5]) henv hst rfl Tryd.underlying22 (ty_uint32.size) zero_uint32 (by decide) (by decide) rfl (by kernel_rfl) ?_)
  clear henv hst a; intro a w10 g9 henv hst
  replace hst := hst.giveU (k := 0) (n := 1) (xs := [5]) rfl (by intro x hx; simp at hx; omega) rfl (by decide)
  have hs11 := nl_add 18446744065119617025 5
  refine seq_step rfl (op_call henv rfl Tryd.call37 rfl (add_num (N := 18446744065119617025) (M := 5) ⟨_, (show U32 _ A6 (nl 18446744065119617025) c7 (L 18446744065119617025) from hst.pat (k := 1) rfl), (val_L _)⟩ ⟨_, (show U32 _ (some ⟨g9, 0, none⟩) 1 1 ([5]) from hst.pat (k := 0) rfl), (by decide)⟩ (by omega) (by omega)) ?_)
  rintro e w14 ⟨_, rfl, ⟨A12, c13, rfl, hU, hA⟩, hb⟩
  refine ⟨_, rfl, ?_⟩
  clear henv a; intro a henv
  replace hst := hst.freshU hb hU hA
  clear hU
  clear hA
  clear hb
  refine seq_step rfl (op_buildSlice (z := 1) (pv := #[(0, .int .u32 4294967295)]) (c := #[.int .u32 4294967295]) henv hst rfl Tryd.underlying22 (ty_uint32.size) zero_uint32 (by decide) (by decide) rfl (by kernel_rfl) ?_)
  clear henv hst a; intro a w16 g15 henv hst
  replace hst := hst.giveU (k := 0) (n := 1) (xs := [4294967295]) rfl (by intro x hx; simp at hx; omega) rfl (by decide)
  have hs17 := nl_div 18446744065119617030 4294967295
  have hs18 := nl_mod 18446744065119617030 4294967295
  refine seq_step rfl (op_call henv rfl Tryd.call33 rfl (dm_num (N := 18446744065119617030) (M := 4294967295) ⟨_, (show U32 _ A12 (nl 18446744065119617030) c13 (L 18446744065119617030) from hst.pat (k := 1) rfl), (val_L _)⟩ ⟨_, (show U32 _ (some ⟨g15, 0, none⟩) 1 1 ([4294967295]) from hst.pat (k := 0) rfl), (by decide)⟩ (by omega) (by omega)) ?_)
  rintro e w23 ⟨_, _, rfl, ⟨A19, c20, rfl, hU, hA⟩, ⟨A21, c22, rfl, hV, hB⟩, hb⟩
  refine ⟨_, rfl, ?_⟩
  clear henv a; intro a henv
  replace hst := hst.freshU2 hb hU hA hV hB
  clear hU
  clear hA hV hB
  clear hb
  refine seq_step rfl (op_val (v := .tuple #[.slice A19 (nl 4294967295) c20, .slice A21 (nl 5) c22, .int .i64 0]) henv rfl (rn_move henv rfl) ?_)
  clear henv a; intro a henv
  refine seq_step rfl (op_val (v := .slice A19 (nl 4294967295) c20) henv rfl (rn_extract henv rfl rfl) ?_)
  clear henv a; intro a henv
  refine seq_step rfl (op_val (v := .slice A21 (nl 5) c22) henv rfl (rn_extract henv rfl rfl) ?_)
  clear henv a; intro a henv
  refine seq_step rfl (op_val (v := .int .i64 0) henv rfl (rn_extract henv rfl rfl) ?_)
  clear henv a; intro a henv
  refine seq_step rfl (op_val (v := .slice A19 (nl 4294967295) c20) henv rfl (rn_assign henv rfl) ?_)
  clear henv a; intro a henv
  refine seq_step rfl (op_val (v := .slice A21 (nl 5) c22) henv rfl (rn_assign henv rfl) ?_)
  clear henv a; intro a henv
  refine seq_step rfl (op_val (v := .int .i64 0) henv rfl (rn_assign henv rfl) ?_)
  clear henv a; intro a henv
  refine wpList_nil ?_
  refine th_n ?_
  refine wp_seq ?_
  refine region_seq ?_
  refine seq_step rfl (op_val (v := .slice A6 (nl 18446744065119617025) c7) henv rfl (rn_move henv rfl) ?_)
  clear henv a; intro a henv
  refine seq_step rfl (op_buildSlice (z := 1) (pv := #[(0, .int .u32 1), (1, .int .u32 4294967294)]) (c := #[.int .u32 1, .int .u32 4294967294]) henv hst rfl Tryd.underlying22 (ty_uint32.size) zero_uint32 (by decide) (by decide) rfl (by kernel_rfl) ?_)
  clear henv hst a; intro a w25 g24 henv hst
  replace hst := hst.giveU (k := 0) (n := 2) (xs := [1, 4294967294]) rfl (by intro x hx; simp at hx; omega) rfl (by decide)
  refine seq_step rfl (op_call henv rfl Tryd.call36 rfl (equal_u (show U32 _ A6 (nl 18446744065119617025) c7 (L 18446744065119617025) from hst.pat (k := 6) rfl) (show U32 _ (some ⟨g24, 0, none⟩) 2 2 ([1, 4294967294]) from hst.pat (k := 0) rfl)) ?_)
  rintro e w26 ⟨rfl, hb⟩
  refine ⟨_, rfl, ?_⟩
  clear henv a; intro a henv
  replace hst := hst.call hb
  clear hb
  rw [show (decide ((L 18446744065119617025) = [1, 4294967294])) = true from decide_eq_true L_w] at henv
  refine seq_step rfl (op_val (v := .bool true) henv rfl (rn_move henv rfl) ?_)
  clear henv a; intro a henv
  refine seq_g rfl henv rfl rfl (op_val (v := .slice A19 (nl 4294967295) c20) henv rfl (rn_move henv rfl) ?_)
  clear henv a; intro a henv
  refine seq_g rfl henv rfl rfl (op_buildSlice (z := 1) (pv := #[(0, .int .u32 4294967295)]) (c := #[.int .u32 4294967295]) henv hst rfl Tryd.underlying22 (ty_uint32.size) zero_uint32 (by decide) (by decide) rfl (by kernel_rfl) ?_)
  clear henv hst a; intro a w28 g27 henv hst
  replace hst := hst.giveU (k := 0) (n := 1) (xs := [4294967295]) rfl (by intro x hx; simp at hx; omega) rfl (by decide)
  refine seq_g rfl henv rfl rfl (op_call henv rfl Tryd.call36 rfl (equal_u (show U32 _ A19 (nl 4294967295) c20 (L 4294967295) from hst.pat (k := 3) rfl) (show U32 _ (some ⟨g27, 0, none⟩) 1 1 ([4294967295]) from hst.pat (k := 0) rfl)) ?_)
  rintro e w29 ⟨rfl, hb⟩
  refine ⟨_, rfl, ?_⟩
  clear henv a; intro a henv
  replace hst := hst.call hb
  clear hb
  rw [show (decide ((L 4294967295) = [4294967295])) = true from decide_eq_true L_g] at henv
  refine seq_step rfl (op_val (v := .bool true) henv rfl (rn_pick henv rfl rfl) ?_)
  clear henv a; intro a henv
  refine seq_step rfl (op_val (v := .bool true) henv rfl (rn_move henv rfl) ?_)
  clear henv a; intro a henv
  refine seq_g rfl henv rfl rfl (op_val (v := .slice A21 (nl 5) c22) henv rfl (rn_move henv rfl) ?_)
  clear henv a; intro a henv
  refine seq_g rfl henv rfl rfl (op_buildSlice (z := 1) (pv := #[(0, .int .u32 5)]) (c := #[.int .u32 5]) henv hst rfl Tryd.underlying22 (ty_uint32.size) zero_uint32 (by decide) (by decide) rfl (by kernel_rfl) ?_)
  clear henv hst a; intro a w31 g30 henv hst
  replace hst := hst.giveU (k := 0) (n := 1) (xs := [5]) rfl (by intro x hx; simp at hx; omega) rfl (by decide)
  refine seq_g rfl henv rfl rfl (op_call henv rfl Tryd.call36 rfl (equal_u (show U32 _ A21 (nl 5) c22 (L 5) from hst.pat (k := 3) rfl) (show U32 _ (some ⟨g30, 0, none⟩) 1 1 ([5]) from hst.pat (k := 0) rfl)) ?_)
  rintro e w32 ⟨rfl, hb⟩
  refine ⟨_, rfl, ?_⟩
  clear henv a; intro a henv
  replace hst := hst.call hb
  clear hb
  rw [show (decide ((L 5) = [5])) = true from decide_eq_true L_5] at henv
  refine seq_step rfl (op_val (v := .bool true) henv rfl (rn_pick henv rfl rfl) ?_)
  clear henv a; intro a henv
  refine seq_step rfl (op_val (v := .bool true) henv rfl (rn_move henv rfl) ?_)
  clear henv a; intro a henv
  refine seq_g rfl henv rfl rfl (op_val (v := .int .i64 0) henv rfl (rn_move henv rfl) ?_)
  clear henv a; intro a henv
  refine seq_g rfl henv rfl rfl (op_val (v := .bool true) henv rfl (rn_bin henv rfl rfl rfl) ?_)
  clear henv a; intro a henv
  refine seq_step rfl (op_val (v := .bool true) henv rfl (rn_pick henv rfl rfl) ?_)
  clear henv a; intro a henv
  refine seq_step rfl (op_val (v := .bool true) henv rfl (rn_move henv rfl) ?_)
  clear henv a; intro a henv
  refine seq_g rfl henv rfl rfl (op_val (v := .slice A6 (nl 18446744065119617025) c7) henv rfl (rn_move henv rfl) ?_)
  clear henv a; intro a henv
  refine seq_g rfl henv rfl rfl (op_call henv rfl Tryd.call66 rfl (text_num (N := 18446744065119617025) ⟨_, (show U32 _ A6 (nl 18446744065119617025) c7 (L 18446744065119617025) from hst.pat (k := 8) rfl), (val_L _)⟩ (by omega)) ?_)
  rintro e w33 ⟨rfl, hb⟩
  refine ⟨_, rfl, ?_⟩
  clear henv a; intro a henv
  replace hst := hst.call hb
  clear hb
  refine seq_g rfl henv rfl rfl (op_val (v := .bool (decide ((textN 18446744065119617025) = [49, 56, 52, 52, 54, 55, 52, 52, 48, 54, 53, 49, 49, 57, 54, 49, 55, 48, 50, 53]))) henv rfl (rn_eqls (s := (textN 18446744065119617025)) (t := [49, 56, 52, 52, 54, 55, 52, 52, 48, 54, 53, 49, 49, 57, 54, 49, 55, 48, 50, 53]) henv rfl rfl) ?_)
  clear henv a; intro a henv
  rw [show (decide ((textN 18446744065119617025) = [49, 56, 52, 52, 54, 55, 52, 52, 48, 54, 53, 49, 49, 57, 54, 49, 55, 48, 50, 53])) = true from text_w] at henv
  refine seq_step rfl (op_val (v := .bool true) henv rfl (rn_pick henv rfl rfl) ?_)
  clear henv a; intro a henv
  refine seq_step rfl (op_val (v := .bool true) henv rfl (rn_assign henv rfl) ?_)
  clear henv a; intro a henv
  refine wpList_nil ?_
  refine th_n ?_
  refine wp_ret ?_
  refine leave henv (res1 Tryd.results32 (RV.tmp henv rfl)) ?_
  exact ⟨rfl, hst.below⟩

set_option maxRecDepth 100000 in
set_option maxHeartbeats 4000000 in
theorem gcd_num {A B : Option Addr} {n c m d N M : Nat} {w0 : World} (h : NumIn w0 A n c N) (k : NumIn w0 B m d M) (hn : nl N ≤ 900000) (hm : nl M ≤ 900000) :
    Calls Tryd.prog 44 #[.slice A n c, .slice B m d] w0 fun e w' => ∃ v, e = .returned v ∧ NumAt w0.heap.size w' v (Nat.gcd N M) ∧ Below w0.heap.size w0 w' := by
  refine enter Tryd.func44 rfl Tryd.ntmps44 rfl ?_
  intro a henv hst
  obtain ⟨xs, hx, hN⟩ := h
  obtain ⟨ys, hy, hM⟩ := k
  replace hst := (hst.addU hx trivial).addU hy trivial
  clear hx hy
  refine wp_seq ?_
  refine region_seq ?_
  refine seq_step rfl (op_val (v := .slice none 0 0) henv rfl (rn_assign henv rfl) ?_)
  clear henv a; intro a henv
  refine wpList_nil ?_
  refine th_n ?_
  refine wp_seq ?_
  refine region_seq ?_
  refine seq_step rfl (op_val (v := .slice A n c) henv rfl (rn_move henv rfl) ?_)
  clear henv a; intro a henv
  have hst0 := hst
  refine seq_step rfl (op_call henv rfl Tryd.call34 rfl (norm_num (N := N) ⟨_, (show U32 _ A n c xs from hst.pat (k := 1) rfl), hN⟩ (by omega)) ?_)
  rintro e w3 ⟨_, rfl, ⟨A1, c2, rfl, hU, hA⟩, hb⟩
  refine ⟨_, rfl, ?_⟩
  clear henv a; intro a henv
  replace hst := hst.freshU hb hU hA
  clear hU
  have hF1 : ∀ x, A1 = some x → w0.heap.size ≤ x.block := fun a ha => Nat.le_trans hst0.below.size (hA a ha)
  clear hA hst0
  clear hb
  refine seq_step rfl (op_val (v := .slice B m d) henv rfl (rn_move henv rfl) ?_)
  clear henv a; intro a henv
  have hst0 := hst
  refine seq_step rfl (op_call henv rfl Tryd.call34 rfl (norm_num (N := M) ⟨_, (show U32 _ B m d ys from hst.pat (k := 1) rfl), hM⟩ (by omega)) ?_)
  rintro e w6 ⟨_, rfl, ⟨A4, c5, rfl, hU, hA⟩, hb⟩
  refine ⟨_, rfl, ?_⟩
  clear henv a; intro a henv
  replace hst := hst.freshU hb hU hA
  clear hU
  have hF2 : ∀ x, A4 = some x → w0.heap.size ≤ x.block := fun a ha => Nat.le_trans hst0.below.size (hA a ha)
  clear hA hst0
  clear hb
  refine seq_step rfl (op_val (v := .slice A1 (nl N) c2) henv rfl (rn_assign henv rfl) ?_)
  clear henv a; intro a henv
  refine seq_step rfl (op_val (v := .slice A4 (nl M) c5) henv rfl (rn_assign henv rfl) ?_)
  clear henv a; intro a henv
  refine wpList_nil ?_
  refine th_n ?_
  refine wp_seq ?_
  refine wp_block ?_
  refine wp_loop_ghost (fun mz a w => ∃ p : Nat, ∃ q : Nat, ∃ A1 : Option Addr, ∃ c1 : Nat, ∃ B1 : Option Addr, ∃ d1 : Nat, q = mz ∧ Env 27 a [(5, .slice A1 (nl p) c1), (6, .slice B1 (nl q) d1)] ∧ St w0 w [] [pfU A1 (nl p) c1 (L p), pfU B1 (nl q) d1 (L q)] ∧ Nat.gcd p q = Nat.gcd N M ∧ (∀ x, A1 = some x → w0.heap.size ≤ x.block) ∧ (∀ x, B1 = some x → w0.heap.size ≤ x.block) ∧ nl p ≤ 900000 ∧ nl q ≤ 900000) _ ⟨N, M, A1, c2, A4, c5, rfl, henv.sub ⟨rfl, rfl, trivial⟩, hst.pick [] [1, 0] (by decide), rfl, hF1, hF2, hn, hm⟩ ?_
  clear henv hst a
  rintro mz a w7 ⟨p, q, A1, c1, B1, d1, rfl, henv, hst, hg, hA1, hB1, ha, hb1⟩
  refine wp_seq ?_
  refine wp_seq ?_
  refine region_seq ?_
  refine seq_step rfl (op_val (v := .slice B1 (nl q) d1) henv rfl (rn_move henv rfl) ?_)
  clear henv a; intro a henv
  refine seq_step rfl (op_val (v := .int .i64 ((nl q) : Nat)) henv rfl (rn_len henv Tryd.underlying22 rfl) ?_)
  clear henv a; intro a henv
  refine seq_step rfl (op_val (v := .bool (decide ((((nl q) : Nat) : Int) > (0 : Int)))) henv rfl (rn_bin henv rfl rfl rfl) ?_)
  clear henv a; intro a henv
  refine wpList_nil ?_
  refine th_n ?_
  refine if_split henv rfl (fun hc8 => ?_) (fun hc8 => ?_)
  · have hb0 : 0 < q := Nat.pos_of_ne_zero fun h0 => by have h1 := of_decide_eq_true hc8; rw [h0, nl_zero] at h1; omega
    refine wp_skip ?_
    refine th_n ?_
    refine wp_block ?_
    refine wp_seq ?_
    refine region_seq ?_
    refine seq_step rfl (op_val (v := .slice A1 (nl p) c1) henv rfl (rn_move henv rfl) ?_)
    clear henv a; intro a henv
    refine seq_step rfl (op_val (v := .slice B1 (nl q) d1) henv rfl (rn_move henv rfl) ?_)
    clear henv a; intro a henv
    have hs9 := nl_div p q
    have hs10 := nl_mod p q
    have hst0 := hst
    refine seq_step rfl (op_call henv rfl Tryd.call33 rfl (dm_num (N := p) (M := q) ⟨_, (show U32 _ A1 (nl p) c1 (L p) from hst.pat (k := 0) rfl), (val_L _)⟩ ⟨_, (show U32 _ B1 (nl q) d1 (L q) from hst.pat (k := 1) rfl), (val_L _)⟩ ha (by omega)) ?_)
    rintro e w15 ⟨_, _, rfl, ⟨A11, c12, rfl, hU, hA⟩, ⟨A13, c14, rfl, hV, hB⟩, hb⟩
    refine ⟨_, rfl, ?_⟩
    clear henv a; intro a henv
    replace hst := hst.freshU2 hb hU hA hV hB
    clear hU
    have hF : ∀ x, A13 = some x → w0.heap.size ≤ x.block := fun a ha => Nat.le_trans hst0.below.size (hB a ha)
    clear hA hV hB hst0
    clear hb
    refine seq_step rfl (op_val (v := .tuple #[.slice A11 (nl (p / q)) c12, .slice A13 (nl (p % q)) c14, .int .i64 0]) henv rfl (rn_move henv rfl) ?_)
    clear henv a; intro a henv
    refine seq_step rfl (op_val (v := .slice A11 (nl (p / q)) c12) henv rfl (rn_extract henv rfl rfl) ?_)
    clear henv a; intro a henv
    refine seq_step rfl (op_val (v := .slice A13 (nl (p % q)) c14) henv rfl (rn_extract henv rfl rfl) ?_)
    clear henv a; intro a henv
    refine seq_step rfl (op_val (v := .int .i64 0) henv rfl (rn_extract henv rfl rfl) ?_)
    clear henv a; intro a henv
    refine seq_step rfl (op_val (v := .slice A11 (nl (p / q)) c12) henv rfl (rn_assign henv rfl) ?_)
    clear henv a; intro a henv
    refine seq_step rfl (op_val (v := .slice A13 (nl (p % q)) c14) henv rfl (rn_assign henv rfl) ?_)
    clear henv a; intro a henv
    refine seq_step rfl (op_val (v := .int .i64 0) henv rfl (rn_assign henv rfl) ?_)
    clear henv a; intro a henv
    refine wpList_nil ?_
    refine th_n ?_
    refine region_seq ?_
    refine seq_step rfl (op_val (v := .slice B1 (nl q) d1) henv rfl (rn_move henv rfl) ?_)
    clear henv a; intro a henv
    refine seq_step rfl (op_val (v := .slice A13 (nl (p % q)) c14) henv rfl (rn_move henv rfl) ?_)
    clear henv a; intro a henv
    refine seq_step rfl (op_val (v := .slice B1 (nl q) d1) henv rfl (rn_assign henv rfl) ?_)
    clear henv a; intro a henv
    refine seq_step rfl (op_val (v := .slice A13 (nl (p % q)) c14) henv rfl (rn_assign henv rfl) ?_)
    clear henv a; intro a henv
    refine wpList_nil ?_
    refine bl_n ?_
    exact th_n ⟨_, (Nat.mod_lt _ hb0), ⟨q, p % q, B1, d1, A13, c14, rfl, henv.sub ⟨rfl, rfl, trivial⟩, hst.pick [] [3, 0] (by decide), ((gcd_step p q).trans hg), hB1, hF, hb1, (Nat.le_trans (nl_mod p q) ha)⟩⟩
  · have hb0 : q = 0 := by have h1 := of_decide_eq_false hc8; exact (Nat.eq_zero_or_pos q).resolve_right fun h0 => by have := nl_pos h0; omega
    refine wp_exit ?_
    refine th_x (th_x (bl_x (th_n ?_)))
    refine wp_seq ?_
    refine region_seq ?_
    refine seq_step rfl (op_val (v := .slice A1 (nl p) c1) henv rfl (rn_move henv rfl) ?_)
    clear henv a; intro a henv
    refine seq_step rfl (op_val (v := .slice A1 (nl p) c1) henv rfl (rn_assign henv rfl) ?_)
    clear henv a; intro a henv
    refine wpList_nil ?_
    refine th_n ?_
    refine wp_ret ?_
    refine leave henv (res1 Tryd.results44 (RV.tmp henv rfl)) ?_
    subst hb0
    rw [Nat.gcd_zero_right] at hg
    subst hg
    exact ⟨_, rfl, ⟨_, _, rfl, hst.pat (k := 0) rfl, hA1⟩, hst.below⟩

end Go.Proofs.YtnldopjbiacbfaaDoor.W

/- LimbDivisor: the law's walk. Printed by pv/gen_llaw.py. No condition. -/
namespace Go.Proofs.YtnldopjbiacbfaaDoor.W
open Go.RowKit Anv

set_option maxRecDepth 100000 in
set_option maxHeartbeats 4000000 in
theorem divisor_long0 {A0 : Option Addr} {n0 c0 : Nat} {xs0 : List Nat} {A1 : Option Addr} {n1 c1 : Nat} {xs1 : List Nat} {A2 : Option Addr} {n2 c2 : Nat} {xs2 : List Nat} {w0 : World} (u0 : U32 w0 A0 n0 c0 xs0) (u1 : U32 w0 A1 n1 c1 xs1) (u2 : U32 w0 A2 n2 c2 xs2)  (hb : 100 < n0) :
    Calls Tryd.prog 6 #[.slice A0 n0 c0, .slice A1 n1 c1, .slice A2 n2 c2] w0 fun e w' => e = .returned (.bool true) ∧ Below w0.heap.size w0 w' := by
  obtain ⟨X, hX0⟩ : ∃ z, val 4294967296 xs0 = z := ⟨_, rfl⟩
  have hl0 : nl X ≤ n0 := hX0 ▸ nl_val u0
  obtain ⟨Y, hX1⟩ : ∃ z, val 4294967296 xs1 = z := ⟨_, rfl⟩
  have hl1 : nl Y ≤ n1 := hX1 ▸ nl_val u1
  obtain ⟨Z, hX2⟩ : ∃ z, val 4294967296 xs2 = z := ⟨_, rfl⟩
  have hl2 : nl Z ≤ n2 := hX2 ▸ nl_val u2
  refine enter Tryd.func6 rfl Tryd.ntmps6 rfl ?_
  intro a henv hst
  replace hst := (((hst.addU u0 trivial).addU u1 trivial).addU u2 trivial)
  clear u0 u1 u2
  refine wp_seq ?_
  refine region_seq ?_
  refine seq_step rfl (op_val (v := .bool false) henv rfl (rn_assign henv rfl) ?_)
  clear henv a; intro a henv
  refine wpList_nil ?_
  refine th_n ?_
  refine wp_seq ?_
  refine wp_seq ?_
  refine region_seq ?_
  refine seq_step rfl (op_call henv rfl Tryd.call32 rfl (works_true _) ?_)
  rintro e w1 ⟨rfl, hb⟩
  refine ⟨_, rfl, ?_⟩
  clear henv a; intro a henv
  replace hst := hst.call hb
  clear hb
  refine seq_step rfl (op_val (v := .bool false) henv rfl (rn_un henv rfl rfl) ?_)
  clear henv a; intro a henv
  refine wpList_nil ?_
  refine th_n ?_
  refine if_f henv rfl (rfl) ?_
  refine wp_skip ?_
  refine th_n ?_
  refine wp_seq ?_
  refine wp_seq ?_
  refine region_seq ?_
  refine seq_step rfl (op_val (v := .slice A0 n0 c0) henv rfl (rn_move henv rfl) ?_)
  clear henv a; intro a henv
  refine seq_step rfl (op_val (v := .int .i64 (n0 : Nat)) henv rfl (rn_len henv Tryd.underlying22 rfl) ?_)
  clear henv a; intro a henv
  refine seq_step rfl (op_val (v := .bool (decide (((n0 : Nat) : Int) > (100 : Int)))) henv rfl (rn_bin henv rfl rfl rfl) ?_)
  clear henv a; intro a henv
  rw [show (decide (((n0 : Nat) : Int) > (100 : Int))) = true from decide_eq_true (by omega)] at henv
  refine seq_step rfl (op_val (v := .bool true) henv rfl (rn_move henv rfl) ?_)
  clear henv a; intro a henv
  refine seq_skip rfl henv rfl rfl rfl rfl ?_
  clear henv a; intro a henv
  refine seq_skip rfl henv rfl rfl rfl rfl ?_
  clear henv a; intro a henv
  refine seq_skip rfl henv rfl rfl rfl rfl ?_
  clear henv a; intro a henv
  refine seq_step rfl (op_val (v := .bool true) henv rfl (rn_pick henv rfl rfl) ?_)
  clear henv a; intro a henv
  refine seq_step rfl (op_val (v := .bool true) henv rfl (rn_move henv rfl) ?_)
  clear henv a; intro a henv
  refine seq_skip rfl henv rfl rfl rfl rfl ?_
  clear henv a; intro a henv
  refine seq_skip rfl henv rfl rfl rfl rfl ?_
  clear henv a; intro a henv
  refine seq_skip rfl henv rfl rfl rfl rfl ?_
  clear henv a; intro a henv
  refine seq_step rfl (op_val (v := .bool true) henv rfl (rn_pick henv rfl rfl) ?_)
  clear henv a; intro a henv
  refine wpList_nil ?_
  refine th_n ?_
  refine if_t henv rfl (rfl) ?_
  refine wp_seq ?_
  refine region_seq ?_
  refine seq_step rfl (op_val (v := .bool true) henv rfl (rn_assign henv rfl) ?_)
  clear henv a; intro a henv
  refine wpList_nil ?_
  refine th_n ?_
  refine wp_ret ?_
  refine th_r ?_
  refine leave henv (res1 Tryd.results6 (RV.tmp henv rfl)) ?_
  exact ⟨rfl, hst.below⟩

set_option maxRecDepth 100000 in
set_option maxHeartbeats 4000000 in
theorem divisor_long1 {A0 : Option Addr} {n0 c0 : Nat} {xs0 : List Nat} {A1 : Option Addr} {n1 c1 : Nat} {xs1 : List Nat} {A2 : Option Addr} {n2 c2 : Nat} {xs2 : List Nat} {w0 : World} (u0 : U32 w0 A0 n0 c0 xs0) (u1 : U32 w0 A1 n1 c1 xs1) (u2 : U32 w0 A2 n2 c2 xs2) (hn0 : n0 ≤ 100) (hb : 100 < n1) :
    Calls Tryd.prog 6 #[.slice A0 n0 c0, .slice A1 n1 c1, .slice A2 n2 c2] w0 fun e w' => e = .returned (.bool true) ∧ Below w0.heap.size w0 w' := by
  obtain ⟨X, hX0⟩ : ∃ z, val 4294967296 xs0 = z := ⟨_, rfl⟩
  have hl0 : nl X ≤ n0 := hX0 ▸ nl_val u0
  obtain ⟨Y, hX1⟩ : ∃ z, val 4294967296 xs1 = z := ⟨_, rfl⟩
  have hl1 : nl Y ≤ n1 := hX1 ▸ nl_val u1
  obtain ⟨Z, hX2⟩ : ∃ z, val 4294967296 xs2 = z := ⟨_, rfl⟩
  have hl2 : nl Z ≤ n2 := hX2 ▸ nl_val u2
  refine enter Tryd.func6 rfl Tryd.ntmps6 rfl ?_
  intro a henv hst
  replace hst := (((hst.addU u0 trivial).addU u1 trivial).addU u2 trivial)
  clear u0 u1 u2
  refine wp_seq ?_
  refine region_seq ?_
  refine seq_step rfl (op_val (v := .bool false) henv rfl (rn_assign henv rfl) ?_)
  clear henv a; intro a henv
  refine wpList_nil ?_
  refine th_n ?_
  refine wp_seq ?_
  refine wp_seq ?_
  refine region_seq ?_
  refine seq_step rfl (op_call henv rfl Tryd.call32 rfl (works_true _) ?_)
  rintro e w1 ⟨rfl, hb⟩
  refine ⟨_, rfl, ?_⟩
  clear henv a; intro a henv
  replace hst := hst.call hb
  clear hb
  refine seq_step rfl (op_val (v := .bool false) henv rfl (rn_un henv rfl rfl) ?_)
  clear henv a; intro a henv
  refine wpList_nil ?_
  refine th_n ?_
  refine if_f henv rfl (rfl) ?_
  refine wp_skip ?_
  refine th_n ?_
  refine wp_seq ?_
  refine wp_seq ?_
  refine region_seq ?_
  refine seq_step rfl (op_val (v := .slice A0 n0 c0) henv rfl (rn_move henv rfl) ?_)
  clear henv a; intro a henv
  refine seq_step rfl (op_val (v := .int .i64 (n0 : Nat)) henv rfl (rn_len henv Tryd.underlying22 rfl) ?_)
  clear henv a; intro a henv
  refine seq_step rfl (op_val (v := .bool (decide (((n0 : Nat) : Int) > (100 : Int)))) henv rfl (rn_bin henv rfl rfl rfl) ?_)
  clear henv a; intro a henv
  rw [show (decide (((n0 : Nat) : Int) > (100 : Int))) = false from decide_eq_false (by omega)] at henv
  refine seq_step rfl (op_val (v := .bool false) henv rfl (rn_move henv rfl) ?_)
  clear henv a; intro a henv
  refine seq_g rfl henv rfl rfl (op_val (v := .slice A1 n1 c1) henv rfl (rn_move henv rfl) ?_)
  clear henv a; intro a henv
  refine seq_g rfl henv rfl rfl (op_val (v := .int .i64 (n1 : Nat)) henv rfl (rn_len henv Tryd.underlying22 rfl) ?_)
  clear henv a; intro a henv
  refine seq_g rfl henv rfl rfl (op_val (v := .bool (decide (((n1 : Nat) : Int) > (100 : Int)))) henv rfl (rn_bin henv rfl rfl rfl) ?_)
  clear henv a; intro a henv
  rw [show (decide (((n1 : Nat) : Int) > (100 : Int))) = true from decide_eq_true (by omega)] at henv
  refine seq_step rfl (op_val (v := .bool true) henv rfl (rn_pick henv rfl rfl) ?_)
  clear henv a; intro a henv
  refine seq_step rfl (op_val (v := .bool true) henv rfl (rn_move henv rfl) ?_)
  clear henv a; intro a henv
  refine seq_skip rfl henv rfl rfl rfl rfl ?_
  clear henv a; intro a henv
  refine seq_skip rfl henv rfl rfl rfl rfl ?_
  clear henv a; intro a henv
  refine seq_skip rfl henv rfl rfl rfl rfl ?_
  clear henv a; intro a henv
  refine seq_step rfl (op_val (v := .bool true) henv rfl (rn_pick henv rfl rfl) ?_)
  clear henv a; intro a henv
  refine wpList_nil ?_
  refine th_n ?_
  refine if_t henv rfl (rfl) ?_
  refine wp_seq ?_
  refine region_seq ?_
  refine seq_step rfl (op_val (v := .bool true) henv rfl (rn_assign henv rfl) ?_)
  clear henv a; intro a henv
  refine wpList_nil ?_
  refine th_n ?_
  refine wp_ret ?_
  refine th_r ?_
  refine leave henv (res1 Tryd.results6 (RV.tmp henv rfl)) ?_
  exact ⟨rfl, hst.below⟩

set_option maxRecDepth 100000 in
set_option maxHeartbeats 4000000 in
theorem divisor_long2 {A0 : Option Addr} {n0 c0 : Nat} {xs0 : List Nat} {A1 : Option Addr} {n1 c1 : Nat} {xs1 : List Nat} {A2 : Option Addr} {n2 c2 : Nat} {xs2 : List Nat} {w0 : World} (u0 : U32 w0 A0 n0 c0 xs0) (u1 : U32 w0 A1 n1 c1 xs1) (u2 : U32 w0 A2 n2 c2 xs2) (hn0 : n0 ≤ 100) (hn1 : n1 ≤ 100) (hb : 100 < n2) :
    Calls Tryd.prog 6 #[.slice A0 n0 c0, .slice A1 n1 c1, .slice A2 n2 c2] w0 fun e w' => e = .returned (.bool true) ∧ Below w0.heap.size w0 w' := by
  obtain ⟨X, hX0⟩ : ∃ z, val 4294967296 xs0 = z := ⟨_, rfl⟩
  have hl0 : nl X ≤ n0 := hX0 ▸ nl_val u0
  obtain ⟨Y, hX1⟩ : ∃ z, val 4294967296 xs1 = z := ⟨_, rfl⟩
  have hl1 : nl Y ≤ n1 := hX1 ▸ nl_val u1
  obtain ⟨Z, hX2⟩ : ∃ z, val 4294967296 xs2 = z := ⟨_, rfl⟩
  have hl2 : nl Z ≤ n2 := hX2 ▸ nl_val u2
  refine enter Tryd.func6 rfl Tryd.ntmps6 rfl ?_
  intro a henv hst
  replace hst := (((hst.addU u0 trivial).addU u1 trivial).addU u2 trivial)
  clear u0 u1 u2
  refine wp_seq ?_
  refine region_seq ?_
  refine seq_step rfl (op_val (v := .bool false) henv rfl (rn_assign henv rfl) ?_)
  clear henv a; intro a henv
  refine wpList_nil ?_
  refine th_n ?_
  refine wp_seq ?_
  refine wp_seq ?_
  refine region_seq ?_
  refine seq_step rfl (op_call henv rfl Tryd.call32 rfl (works_true _) ?_)
  rintro e w1 ⟨rfl, hb⟩
  refine ⟨_, rfl, ?_⟩
  clear henv a; intro a henv
  replace hst := hst.call hb
  clear hb
  refine seq_step rfl (op_val (v := .bool false) henv rfl (rn_un henv rfl rfl) ?_)
  clear henv a; intro a henv
  refine wpList_nil ?_
  refine th_n ?_
  refine if_f henv rfl (rfl) ?_
  refine wp_skip ?_
  refine th_n ?_
  refine wp_seq ?_
  refine wp_seq ?_
  refine region_seq ?_
  refine seq_step rfl (op_val (v := .slice A0 n0 c0) henv rfl (rn_move henv rfl) ?_)
  clear henv a; intro a henv
  refine seq_step rfl (op_val (v := .int .i64 (n0 : Nat)) henv rfl (rn_len henv Tryd.underlying22 rfl) ?_)
  clear henv a; intro a henv
  refine seq_step rfl (op_val (v := .bool (decide (((n0 : Nat) : Int) > (100 : Int)))) henv rfl (rn_bin henv rfl rfl rfl) ?_)
  clear henv a; intro a henv
  rw [show (decide (((n0 : Nat) : Int) > (100 : Int))) = false from decide_eq_false (by omega)] at henv
  refine seq_step rfl (op_val (v := .bool false) henv rfl (rn_move henv rfl) ?_)
  clear henv a; intro a henv
  refine seq_g rfl henv rfl rfl (op_val (v := .slice A1 n1 c1) henv rfl (rn_move henv rfl) ?_)
  clear henv a; intro a henv
  refine seq_g rfl henv rfl rfl (op_val (v := .int .i64 (n1 : Nat)) henv rfl (rn_len henv Tryd.underlying22 rfl) ?_)
  clear henv a; intro a henv
  refine seq_g rfl henv rfl rfl (op_val (v := .bool (decide (((n1 : Nat) : Int) > (100 : Int)))) henv rfl (rn_bin henv rfl rfl rfl) ?_)
  clear henv a; intro a henv
  rw [show (decide (((n1 : Nat) : Int) > (100 : Int))) = false from decide_eq_false (by omega)] at henv
  refine seq_step rfl (op_val (v := .bool false) henv rfl (rn_pick henv rfl rfl) ?_)
  clear henv a; intro a henv
  refine seq_step rfl (op_val (v := .bool false) henv rfl (rn_move henv rfl) ?_)
  clear henv a; intro a henv
  refine seq_g rfl henv rfl rfl (op_val (v := .slice A2 n2 c2) henv rfl (rn_move henv rfl) ?_)
  clear henv a; intro a henv
  refine seq_g rfl henv rfl rfl (op_val (v := .int .i64 (n2 : Nat)) henv rfl (rn_len henv Tryd.underlying22 rfl) ?_)
  clear henv a; intro a henv
  refine seq_g rfl henv rfl rfl (op_val (v := .bool (decide (((n2 : Nat) : Int) > (100 : Int)))) henv rfl (rn_bin henv rfl rfl rfl) ?_)
  clear henv a; intro a henv
  rw [show (decide (((n2 : Nat) : Int) > (100 : Int))) = true from decide_eq_true (by omega)] at henv
  refine seq_step rfl (op_val (v := .bool true) henv rfl (rn_pick henv rfl rfl) ?_)
  clear henv a; intro a henv
  refine wpList_nil ?_
  refine th_n ?_
  refine if_t henv rfl (rfl) ?_
  refine wp_seq ?_
  refine region_seq ?_
  refine seq_step rfl (op_val (v := .bool true) henv rfl (rn_assign henv rfl) ?_)
  clear henv a; intro a henv
  refine wpList_nil ?_
  refine th_n ?_
  refine wp_ret ?_
  refine th_r ?_
  refine leave henv (res1 Tryd.results6 (RV.tmp henv rfl)) ?_
  exact ⟨rfl, hst.below⟩

set_option maxRecDepth 100000 in
set_option maxHeartbeats 4000000 in
theorem divisor_1 {A0 : Option Addr} {n0 c0 : Nat} {xs0 : List Nat} {A1 : Option Addr} {n1 c1 : Nat} {xs1 : List Nat} {A2 : Option Addr} {n2 c2 : Nat} {xs2 : List Nat} {w0 : World} (u0 : U32 w0 A0 n0 c0 xs0) (u1 : U32 w0 A1 n1 c1 xs1) (u2 : U32 w0 A2 n2 c2 xs2) (hn0 : n0 ≤ 100) (hn1 : n1 ≤ 100) (hn2 : n2 ≤ 100) (hg0 : Nat.gcd (val 4294967296 xs0) (val 4294967296 xs1) = 0) :
    Calls Tryd.prog 6 #[.slice A0 n0 c0, .slice A1 n1 c1, .slice A2 n2 c2] w0 fun e w' => e = .returned (.bool true) ∧ Below w0.heap.size w0 w' := by
  obtain ⟨X, hX0⟩ : ∃ z, val 4294967296 xs0 = z := ⟨_, rfl⟩
  have hl0 : nl X ≤ n0 := hX0 ▸ nl_val u0
  obtain ⟨Y, hX1⟩ : ∃ z, val 4294967296 xs1 = z := ⟨_, rfl⟩
  have hl1 : nl Y ≤ n1 := hX1 ▸ nl_val u1
  obtain ⟨Z, hX2⟩ : ∃ z, val 4294967296 xs2 = z := ⟨_, rfl⟩
  have hl2 : nl Z ≤ n2 := hX2 ▸ nl_val u2
  have hg : Nat.gcd X Y = 0 := by rw [← hX0, ← hX1]; exact hg0
  have hx0 : X = 0 := Nat.eq_zero_of_gcd_eq_zero_left hg
  have hy0 : Y = 0 := Nat.eq_zero_of_gcd_eq_zero_right hg
  refine enter Tryd.func6 rfl Tryd.ntmps6 rfl ?_
  intro a henv hst
  replace hst := (((hst.addU u0 trivial).addU u1 trivial).addU u2 trivial)
  clear u0 u1 u2
  refine wp_seq ?_
  refine region_seq ?_
  refine seq_step rfl (op_val (v := .bool false) henv rfl (rn_assign henv rfl) ?_)
  clear henv a; intro a henv
  refine wpList_nil ?_
  refine th_n ?_
  refine wp_seq ?_
  refine wp_seq ?_
  refine region_seq ?_
  refine seq_step rfl (op_call henv rfl Tryd.call32 rfl (works_true _) ?_)
  rintro e w1 ⟨rfl, hb⟩
  refine ⟨_, rfl, ?_⟩
  clear henv a; intro a henv
  replace hst := hst.call hb
  clear hb
  refine seq_step rfl (op_val (v := .bool false) henv rfl (rn_un henv rfl rfl) ?_)
  clear henv a; intro a henv
  refine wpList_nil ?_
  refine th_n ?_
  refine if_f henv rfl (rfl) ?_
  refine wp_skip ?_
  refine th_n ?_
  refine wp_seq ?_
  refine wp_seq ?_
  refine region_seq ?_
  refine seq_step rfl (op_val (v := .slice A0 n0 c0) henv rfl (rn_move henv rfl) ?_)
  clear henv a; intro a henv
  refine seq_step rfl (op_val (v := .int .i64 (n0 : Nat)) henv rfl (rn_len henv Tryd.underlying22 rfl) ?_)
  clear henv a; intro a henv
  refine seq_step rfl (op_val (v := .bool (decide (((n0 : Nat) : Int) > (100 : Int)))) henv rfl (rn_bin henv rfl rfl rfl) ?_)
  clear henv a; intro a henv
  rw [show (decide (((n0 : Nat) : Int) > (100 : Int))) = false from decide_eq_false (by omega)] at henv
  refine seq_step rfl (op_val (v := .bool false) henv rfl (rn_move henv rfl) ?_)
  clear henv a; intro a henv
  refine seq_g rfl henv rfl rfl (op_val (v := .slice A1 n1 c1) henv rfl (rn_move henv rfl) ?_)
  clear henv a; intro a henv
  refine seq_g rfl henv rfl rfl (op_val (v := .int .i64 (n1 : Nat)) henv rfl (rn_len henv Tryd.underlying22 rfl) ?_)
  clear henv a; intro a henv
  refine seq_g rfl henv rfl rfl (op_val (v := .bool (decide (((n1 : Nat) : Int) > (100 : Int)))) henv rfl (rn_bin henv rfl rfl rfl) ?_)
  clear henv a; intro a henv
  rw [show (decide (((n1 : Nat) : Int) > (100 : Int))) = false from decide_eq_false (by omega)] at henv
  refine seq_step rfl (op_val (v := .bool false) henv rfl (rn_pick henv rfl rfl) ?_)
  clear henv a; intro a henv
  refine seq_step rfl (op_val (v := .bool false) henv rfl (rn_move henv rfl) ?_)
  clear henv a; intro a henv
  refine seq_g rfl henv rfl rfl (op_val (v := .slice A2 n2 c2) henv rfl (rn_move henv rfl) ?_)
  clear henv a; intro a henv
  refine seq_g rfl henv rfl rfl (op_val (v := .int .i64 (n2 : Nat)) henv rfl (rn_len henv Tryd.underlying22 rfl) ?_)
  clear henv a; intro a henv
  refine seq_g rfl henv rfl rfl (op_val (v := .bool (decide (((n2 : Nat) : Int) > (100 : Int)))) henv rfl (rn_bin henv rfl rfl rfl) ?_)
  clear henv a; intro a henv
  rw [show (decide (((n2 : Nat) : Int) > (100 : Int))) = false from decide_eq_false (by omega)] at henv
  refine seq_step rfl (op_val (v := .bool false) henv rfl (rn_pick henv rfl rfl) ?_)
  clear henv a; intro a henv
  refine wpList_nil ?_
  refine th_n ?_
  refine if_f henv rfl (rfl) ?_
  refine wp_skip ?_
  refine th_n ?_
  refine wp_seq ?_
  refine region_seq ?_
  refine seq_step rfl (op_val (v := .slice A0 n0 c0) henv rfl (rn_move henv rfl) ?_)
  clear henv a; intro a henv
  refine seq_step rfl (op_val (v := .slice A1 n1 c1) henv rfl (rn_move henv rfl) ?_)
  clear henv a; intro a henv
  have hs2 := nl_gcd X Y
  refine seq_step rfl (op_call henv rfl Tryd.call44 rfl (gcd_num (N := X) (M := Y) ⟨_, (show U32 _ A0 n0 c0 xs0 from hst.pat (k := 2) rfl), hX0⟩ ⟨_, (show U32 _ A1 n1 c1 xs1 from hst.pat (k := 1) rfl), hX1⟩ (by omega) (by omega)) ?_)
  rintro e w5 ⟨_, rfl, ⟨A3, c4, rfl, hU, hA⟩, hb⟩
  refine ⟨_, rfl, ?_⟩
  clear henv a; intro a henv
  replace hst := hst.freshU hb hU hA
  clear hU
  clear hA
  clear hb
  refine seq_step rfl (op_val (v := .slice A3 (nl (Nat.gcd X Y)) c4) henv rfl (rn_assign henv rfl) ?_)
  clear henv a; intro a henv
  refine wpList_nil ?_
  refine th_n ?_
  refine wp_seq ?_
  refine wp_seq ?_
  refine region_seq ?_
  refine seq_step rfl (op_val (v := .slice A3 (nl (Nat.gcd X Y)) c4) henv rfl (rn_move henv rfl) ?_)
  clear henv a; intro a henv
  refine seq_step rfl (op_val (v := .int .i64 (nl (Nat.gcd X Y) : Nat)) henv rfl (rn_len henv Tryd.underlying22 rfl) ?_)
  clear henv a; intro a henv
  refine seq_step rfl (op_val (v := .bool (((nl (Nat.gcd X Y) : Nat) : Int) == (0 : Int))) henv rfl (rn_bin henv rfl rfl rfl) ?_)
  clear henv a; intro a henv
  rw [show (((nl (Nat.gcd X Y) : Nat) : Int) == (0 : Int)) = true from by rw [hg, nl_zero]; rfl] at henv
  refine wpList_nil ?_
  refine th_n ?_
  refine if_t henv rfl (rfl) ?_
  refine wp_seq ?_
  refine region_seq ?_
  refine seq_step rfl (op_val (v := .slice A0 n0 c0) henv rfl (rn_move henv rfl) ?_)
  clear henv a; intro a henv
  refine seq_step rfl (op_call henv rfl Tryd.call34 rfl (norm_num (N := X) ⟨_, (show U32 _ A0 n0 c0 xs0 from hst.pat (k := 3) rfl), hX0⟩ (by omega)) ?_)
  rintro e w8 ⟨_, rfl, ⟨A6, c7, rfl, hU, hA⟩, hb⟩
  refine ⟨_, rfl, ?_⟩
  clear henv a; intro a henv
  replace hst := hst.freshU hb hU hA
  clear hU
  clear hA
  clear hb
  refine seq_step rfl (op_val (v := .int .i64 (nl X : Nat)) henv rfl (rn_len henv Tryd.underlying22 rfl) ?_)
  clear henv a; intro a henv
  refine seq_step rfl (op_val (v := .bool (((nl X : Nat) : Int) == (0 : Int))) henv rfl (rn_bin henv rfl rfl rfl) ?_)
  clear henv a; intro a henv
  rw [show (((nl X : Nat) : Int) == (0 : Int)) = true from by rw [hx0, nl_zero]; rfl] at henv
  refine seq_step rfl (op_val (v := .bool true) henv rfl (rn_move henv rfl) ?_)
  clear henv a; intro a henv
  refine seq_g rfl henv rfl rfl (op_val (v := .slice A1 n1 c1) henv rfl (rn_move henv rfl) ?_)
  clear henv a; intro a henv
  refine seq_g rfl henv rfl rfl (op_call henv rfl Tryd.call34 rfl (norm_num (N := Y) ⟨_, (show U32 _ A1 n1 c1 xs1 from hst.pat (k := 3) rfl), hX1⟩ (by omega)) ?_)
  rintro e w11 ⟨_, rfl, ⟨A9, c10, rfl, hU, hA⟩, hb⟩
  refine ⟨_, rfl, ?_⟩
  clear henv a; intro a henv
  replace hst := hst.freshU hb hU hA
  clear hU
  clear hA
  clear hb
  refine seq_g rfl henv rfl rfl (op_val (v := .int .i64 (nl Y : Nat)) henv rfl (rn_len henv Tryd.underlying22 rfl) ?_)
  clear henv a; intro a henv
  refine seq_g rfl henv rfl rfl (op_val (v := .bool (((nl Y : Nat) : Int) == (0 : Int))) henv rfl (rn_bin henv rfl rfl rfl) ?_)
  clear henv a; intro a henv
  rw [show (((nl Y : Nat) : Int) == (0 : Int)) = true from by rw [hy0, nl_zero]; rfl] at henv
  refine seq_step rfl (op_val (v := .bool true) henv rfl (rn_pick henv rfl rfl) ?_)
  clear henv a; intro a henv
  refine seq_step rfl (op_val (v := .bool true) henv rfl (rn_assign henv rfl) ?_)
  clear henv a; intro a henv
  refine wpList_nil ?_
  refine th_n ?_
  refine wp_ret ?_
  refine th_r ?_
  refine leave henv (res1 Tryd.results6 (RV.tmp henv rfl)) ?_
  exact ⟨rfl, hst.below⟩

set_option maxRecDepth 100000 in
set_option maxHeartbeats 4000000 in
theorem divisor_0 {A0 : Option Addr} {n0 c0 : Nat} {xs0 : List Nat} {A1 : Option Addr} {n1 c1 : Nat} {xs1 : List Nat} {A2 : Option Addr} {n2 c2 : Nat} {xs2 : List Nat} {w0 : World} (u0 : U32 w0 A0 n0 c0 xs0) (u1 : U32 w0 A1 n1 c1 xs1) (u2 : U32 w0 A2 n2 c2 xs2) (hn0 : n0 ≤ 100) (hn1 : n1 ≤ 100) (hn2 : n2 ≤ 100) (hg0 : Nat.gcd (val 4294967296 xs0) (val 4294967296 xs1) ≠ 0) :
    Calls Tryd.prog 6 #[.slice A0 n0 c0, .slice A1 n1 c1, .slice A2 n2 c2] w0 fun e w' => e = .returned (.bool true) ∧ Below w0.heap.size w0 w' := by
  obtain ⟨X, hX0⟩ : ∃ z, val 4294967296 xs0 = z := ⟨_, rfl⟩
  have hl0 : nl X ≤ n0 := hX0 ▸ nl_val u0
  obtain ⟨Y, hX1⟩ : ∃ z, val 4294967296 xs1 = z := ⟨_, rfl⟩
  have hl1 : nl Y ≤ n1 := hX1 ▸ nl_val u1
  obtain ⟨Z, hX2⟩ : ∃ z, val 4294967296 xs2 = z := ⟨_, rfl⟩
  have hl2 : nl Z ≤ n2 := hX2 ▸ nl_val u2
  have hg : Nat.gcd X Y ≠ 0 := by rw [← hX0, ← hX1]; exact hg0
  refine enter Tryd.func6 rfl Tryd.ntmps6 rfl ?_
  intro a henv hst
  replace hst := (((hst.addU u0 trivial).addU u1 trivial).addU u2 trivial)
  clear u0 u1 u2
  refine wp_seq ?_
  refine region_seq ?_
  refine seq_step rfl (op_val (v := .bool false) henv rfl (rn_assign henv rfl) ?_)
  clear henv a; intro a henv
  refine wpList_nil ?_
  refine th_n ?_
  refine wp_seq ?_
  refine wp_seq ?_
  refine region_seq ?_
  refine seq_step rfl (op_call henv rfl Tryd.call32 rfl (works_true _) ?_)
  rintro e w1 ⟨rfl, hb⟩
  refine ⟨_, rfl, ?_⟩
  clear henv a; intro a henv
  replace hst := hst.call hb
  clear hb
  refine seq_step rfl (op_val (v := .bool false) henv rfl (rn_un henv rfl rfl) ?_)
  clear henv a; intro a henv
  refine wpList_nil ?_
  refine th_n ?_
  refine if_f henv rfl (rfl) ?_
  refine wp_skip ?_
  refine th_n ?_
  refine wp_seq ?_
  refine wp_seq ?_
  refine region_seq ?_
  refine seq_step rfl (op_val (v := .slice A0 n0 c0) henv rfl (rn_move henv rfl) ?_)
  clear henv a; intro a henv
  refine seq_step rfl (op_val (v := .int .i64 (n0 : Nat)) henv rfl (rn_len henv Tryd.underlying22 rfl) ?_)
  clear henv a; intro a henv
  refine seq_step rfl (op_val (v := .bool (decide (((n0 : Nat) : Int) > (100 : Int)))) henv rfl (rn_bin henv rfl rfl rfl) ?_)
  clear henv a; intro a henv
  rw [show (decide (((n0 : Nat) : Int) > (100 : Int))) = false from decide_eq_false (by omega)] at henv
  refine seq_step rfl (op_val (v := .bool false) henv rfl (rn_move henv rfl) ?_)
  clear henv a; intro a henv
  refine seq_g rfl henv rfl rfl (op_val (v := .slice A1 n1 c1) henv rfl (rn_move henv rfl) ?_)
  clear henv a; intro a henv
  refine seq_g rfl henv rfl rfl (op_val (v := .int .i64 (n1 : Nat)) henv rfl (rn_len henv Tryd.underlying22 rfl) ?_)
  clear henv a; intro a henv
  refine seq_g rfl henv rfl rfl (op_val (v := .bool (decide (((n1 : Nat) : Int) > (100 : Int)))) henv rfl (rn_bin henv rfl rfl rfl) ?_)
  clear henv a; intro a henv
  rw [show (decide (((n1 : Nat) : Int) > (100 : Int))) = false from decide_eq_false (by omega)] at henv
  refine seq_step rfl (op_val (v := .bool false) henv rfl (rn_pick henv rfl rfl) ?_)
  clear henv a; intro a henv
  refine seq_step rfl (op_val (v := .bool false) henv rfl (rn_move henv rfl) ?_)
  clear henv a; intro a henv
  refine seq_g rfl henv rfl rfl (op_val (v := .slice A2 n2 c2) henv rfl (rn_move henv rfl) ?_)
  clear henv a; intro a henv
  refine seq_g rfl henv rfl rfl (op_val (v := .int .i64 (n2 : Nat)) henv rfl (rn_len henv Tryd.underlying22 rfl) ?_)
  clear henv a; intro a henv
  refine seq_g rfl henv rfl rfl (op_val (v := .bool (decide (((n2 : Nat) : Int) > (100 : Int)))) henv rfl (rn_bin henv rfl rfl rfl) ?_)
  clear henv a; intro a henv
  rw [show (decide (((n2 : Nat) : Int) > (100 : Int))) = false from decide_eq_false (by omega)] at henv
  refine seq_step rfl (op_val (v := .bool false) henv rfl (rn_pick henv rfl rfl) ?_)
  clear henv a; intro a henv
  refine wpList_nil ?_
  refine th_n ?_
  refine if_f henv rfl (rfl) ?_
  refine wp_skip ?_
  refine th_n ?_
  refine wp_seq ?_
  refine region_seq ?_
  refine seq_step rfl (op_val (v := .slice A0 n0 c0) henv rfl (rn_move henv rfl) ?_)
  clear henv a; intro a henv
  refine seq_step rfl (op_val (v := .slice A1 n1 c1) henv rfl (rn_move henv rfl) ?_)
  clear henv a; intro a henv
  have hs2 := nl_gcd X Y
  refine seq_step rfl (op_call henv rfl Tryd.call44 rfl (gcd_num (N := X) (M := Y) ⟨_, (show U32 _ A0 n0 c0 xs0 from hst.pat (k := 2) rfl), hX0⟩ ⟨_, (show U32 _ A1 n1 c1 xs1 from hst.pat (k := 1) rfl), hX1⟩ (by omega) (by omega)) ?_)
  rintro e w5 ⟨_, rfl, ⟨A3, c4, rfl, hU, hA⟩, hb⟩
  refine ⟨_, rfl, ?_⟩
  clear henv a; intro a henv
  replace hst := hst.freshU hb hU hA
  clear hU
  clear hA
  clear hb
  refine seq_step rfl (op_val (v := .slice A3 (nl (Nat.gcd X Y)) c4) henv rfl (rn_assign henv rfl) ?_)
  clear henv a; intro a henv
  refine wpList_nil ?_
  refine th_n ?_
  refine wp_seq ?_
  refine wp_seq ?_
  refine region_seq ?_
  refine seq_step rfl (op_val (v := .slice A3 (nl (Nat.gcd X Y)) c4) henv rfl (rn_move henv rfl) ?_)
  clear henv a; intro a henv
  refine seq_step rfl (op_val (v := .int .i64 (nl (Nat.gcd X Y) : Nat)) henv rfl (rn_len henv Tryd.underlying22 rfl) ?_)
  clear henv a; intro a henv
  refine seq_step rfl (op_val (v := .bool (((nl (Nat.gcd X Y) : Nat) : Int) == (0 : Int))) henv rfl (rn_bin henv rfl rfl rfl) ?_)
  clear henv a; intro a henv
  rw [show (((nl (Nat.gcd X Y) : Nat) : Int) == (0 : Int)) = false from by have := nl_pos (N := Nat.gcd X Y) (by omega); simp; omega] at henv
  refine wpList_nil ?_
  refine th_n ?_
  refine if_f henv rfl (rfl) ?_
  refine wp_skip ?_
  refine th_n ?_
  refine wp_seq ?_
  refine region_seq ?_
  refine seq_step rfl (op_val (v := .slice A0 n0 c0) henv rfl (rn_move henv rfl) ?_)
  clear henv a; intro a henv
  refine seq_step rfl (op_val (v := .slice A3 (nl (Nat.gcd X Y)) c4) henv rfl (rn_move henv rfl) ?_)
  clear henv a; intro a henv
  have hs6 := nl_div X (Nat.gcd X Y)
  have hs7 := nl_mod X (Nat.gcd X Y)
  refine seq_step rfl (op_call henv rfl Tryd.call33 rfl (dm_num (N := X) (M := (Nat.gcd X Y)) ⟨_, (show U32 _ A0 n0 c0 xs0 from hst.pat (k := 3) rfl), hX0⟩ ⟨_, (show U32 _ A3 (nl (Nat.gcd X Y)) c4 (L (Nat.gcd X Y)) from hst.pat (k := 0) rfl), (val_L _)⟩ (by omega) hg) ?_)
  rintro e w12 ⟨_, _, rfl, ⟨A8, c9, rfl, hU, hA⟩, ⟨A10, c11, rfl, hV, hB⟩, hb⟩
  refine ⟨_, rfl, ?_⟩
  clear henv a; intro a henv
  replace hst := hst.freshU2 hb hU hA hV hB
  clear hU
  clear hA hV hB
  clear hb
  refine seq_step rfl (op_val (v := .tuple #[.slice A8 (nl (X / (Nat.gcd X Y))) c9, .slice A10 (nl (X % (Nat.gcd X Y))) c11, .int .i64 0]) henv rfl (rn_move henv rfl) ?_)
  clear henv a; intro a henv
  refine seq_step rfl (op_val (v := .slice A8 (nl (X / (Nat.gcd X Y))) c9) henv rfl (rn_extract henv rfl rfl) ?_)
  clear henv a; intro a henv
  refine seq_step rfl (op_val (v := .slice A10 (nl (X % (Nat.gcd X Y))) c11) henv rfl (rn_extract henv rfl rfl) ?_)
  clear henv a; intro a henv
  refine seq_step rfl (op_val (v := .int .i64 0) henv rfl (rn_extract henv rfl rfl) ?_)
  clear henv a; intro a henv
  refine seq_step rfl (op_val (v := .slice A8 (nl (X / (Nat.gcd X Y))) c9) henv rfl (rn_assign henv rfl) ?_)
  clear henv a; intro a henv
  refine seq_step rfl (op_val (v := .slice A10 (nl (X % (Nat.gcd X Y))) c11) henv rfl (rn_assign henv rfl) ?_)
  clear henv a; intro a henv
  refine seq_step rfl (op_val (v := .int .i64 0) henv rfl (rn_assign henv rfl) ?_)
  clear henv a; intro a henv
  refine wpList_nil ?_
  refine th_n ?_
  refine wp_seq ?_
  refine region_seq ?_
  refine seq_step rfl (op_val (v := .slice A1 n1 c1) henv rfl (rn_move henv rfl) ?_)
  clear henv a; intro a henv
  refine seq_step rfl (op_val (v := .slice A3 (nl (Nat.gcd X Y)) c4) henv rfl (rn_move henv rfl) ?_)
  clear henv a; intro a henv
  have hs13 := nl_div Y (Nat.gcd X Y)
  have hs14 := nl_mod Y (Nat.gcd X Y)
  refine seq_step rfl (op_call henv rfl Tryd.call33 rfl (dm_num (N := Y) (M := (Nat.gcd X Y)) ⟨_, (show U32 _ A1 n1 c1 xs1 from hst.pat (k := 4) rfl), hX1⟩ ⟨_, (show U32 _ A3 (nl (Nat.gcd X Y)) c4 (L (Nat.gcd X Y)) from hst.pat (k := 2) rfl), (val_L _)⟩ (by omega) hg) ?_)
  rintro e w19 ⟨_, _, rfl, ⟨A15, c16, rfl, hU, hA⟩, ⟨A17, c18, rfl, hV, hB⟩, hb⟩
  refine ⟨_, rfl, ?_⟩
  clear henv a; intro a henv
  replace hst := hst.freshU2 hb hU hA hV hB
  clear hU
  clear hA hV hB
  clear hb
  refine seq_step rfl (op_val (v := .tuple #[.slice A15 (nl (Y / (Nat.gcd X Y))) c16, .slice A17 (nl (Y % (Nat.gcd X Y))) c18, .int .i64 0]) henv rfl (rn_move henv rfl) ?_)
  clear henv a; intro a henv
  refine seq_step rfl (op_val (v := .slice A15 (nl (Y / (Nat.gcd X Y))) c16) henv rfl (rn_extract henv rfl rfl) ?_)
  clear henv a; intro a henv
  refine seq_step rfl (op_val (v := .slice A17 (nl (Y % (Nat.gcd X Y))) c18) henv rfl (rn_extract henv rfl rfl) ?_)
  clear henv a; intro a henv
  refine seq_step rfl (op_val (v := .int .i64 0) henv rfl (rn_extract henv rfl rfl) ?_)
  clear henv a; intro a henv
  refine seq_step rfl (op_val (v := .slice A15 (nl (Y / (Nat.gcd X Y))) c16) henv rfl (rn_assign henv rfl) ?_)
  clear henv a; intro a henv
  refine seq_step rfl (op_val (v := .slice A17 (nl (Y % (Nat.gcd X Y))) c18) henv rfl (rn_assign henv rfl) ?_)
  clear henv a; intro a henv
  refine seq_step rfl (op_val (v := .int .i64 0) henv rfl (rn_assign henv rfl) ?_)
  clear henv a; intro a henv
  refine wpList_nil ?_
  refine th_n ?_
  refine wp_seq ?_
  refine region_seq ?_
  refine seq_step rfl (op_val (v := .int .i64 0) henv rfl (rn_move henv rfl) ?_)
  clear henv a; intro a henv
  refine seq_step rfl (op_val (v := .bool true) henv rfl (rn_bin henv rfl rfl rfl) ?_)
  clear henv a; intro a henv
  refine seq_step rfl (op_val (v := .bool true) henv rfl (rn_move henv rfl) ?_)
  clear henv a; intro a henv
  refine seq_g rfl henv rfl rfl (op_val (v := .int .i64 0) henv rfl (rn_move henv rfl) ?_)
  clear henv a; intro a henv
  refine seq_g rfl henv rfl rfl (op_val (v := .bool true) henv rfl (rn_bin henv rfl rfl rfl) ?_)
  clear henv a; intro a henv
  refine seq_step rfl (op_val (v := .bool true) henv rfl (rn_pick henv rfl rfl) ?_)
  clear henv a; intro a henv
  refine seq_step rfl (op_val (v := .bool true) henv rfl (rn_move henv rfl) ?_)
  clear henv a; intro a henv
  refine seq_g rfl henv rfl rfl (op_val (v := .slice A10 (nl (X % (Nat.gcd X Y))) c11) henv rfl (rn_move henv rfl) ?_)
  clear henv a; intro a henv
  refine seq_g rfl henv rfl rfl (op_val (v := .int .i64 (nl (X % (Nat.gcd X Y)) : Nat)) henv rfl (rn_len henv Tryd.underlying22 rfl) ?_)
  clear henv a; intro a henv
  refine seq_g rfl henv rfl rfl (op_val (v := .bool (((nl (X % (Nat.gcd X Y)) : Nat) : Int) == (0 : Int))) henv rfl (rn_bin henv rfl rfl rfl) ?_)
  clear henv a; intro a henv
  rw [show (((nl (X % (Nat.gcd X Y)) : Nat) : Int) == (0 : Int)) = true from by rw [Nat.mod_eq_zero_of_dvd (Nat.gcd_dvd_left X Y), nl_zero]; rfl] at henv
  refine seq_step rfl (op_val (v := .bool true) henv rfl (rn_pick henv rfl rfl) ?_)
  clear henv a; intro a henv
  refine seq_step rfl (op_val (v := .bool true) henv rfl (rn_move henv rfl) ?_)
  clear henv a; intro a henv
  refine seq_g rfl henv rfl rfl (op_val (v := .slice A17 (nl (Y % (Nat.gcd X Y))) c18) henv rfl (rn_move henv rfl) ?_)
  clear henv a; intro a henv
  refine seq_g rfl henv rfl rfl (op_val (v := .int .i64 (nl (Y % (Nat.gcd X Y)) : Nat)) henv rfl (rn_len henv Tryd.underlying22 rfl) ?_)
  clear henv a; intro a henv
  refine seq_g rfl henv rfl rfl (op_val (v := .bool (((nl (Y % (Nat.gcd X Y)) : Nat) : Int) == (0 : Int))) henv rfl (rn_bin henv rfl rfl rfl) ?_)
  clear henv a; intro a henv
  rw [show (((nl (Y % (Nat.gcd X Y)) : Nat) : Int) == (0 : Int)) = true from by rw [Nat.mod_eq_zero_of_dvd (Nat.gcd_dvd_right X Y), nl_zero]; rfl] at henv
  refine seq_step rfl (op_val (v := .bool true) henv rfl (rn_pick henv rfl rfl) ?_)
  clear henv a; intro a henv
  refine seq_step rfl (op_val (v := .bool true) henv rfl (rn_move henv rfl) ?_)
  clear henv a; intro a henv
  refine seq_g rfl henv rfl rfl (op_val (v := .slice A3 (nl (Nat.gcd X Y)) c4) henv rfl (rn_move henv rfl) ?_)
  clear henv a; intro a henv
  refine seq_g rfl henv rfl rfl (op_val (v := .slice A1 n1 c1) henv rfl (rn_move henv rfl) ?_)
  clear henv a; intro a henv
  refine seq_g rfl henv rfl rfl (op_val (v := .slice A0 n0 c0) henv rfl (rn_move henv rfl) ?_)
  clear henv a; intro a henv
  have hs20 := nl_gcd Y X
  refine seq_g rfl henv rfl rfl (op_call henv rfl Tryd.call44 rfl (gcd_num (N := Y) (M := X) ⟨_, (show U32 _ A1 n1 c1 xs1 from hst.pat (k := 6) rfl), hX1⟩ ⟨_, (show U32 _ A0 n0 c0 xs0 from hst.pat (k := 7) rfl), hX0⟩ (by omega) (by omega)) ?_)
  rintro e w23 ⟨_, rfl, ⟨A21, c22, rfl, hU, hA⟩, hb⟩
  refine ⟨_, rfl, ?_⟩
  clear henv a; intro a henv
  replace hst := hst.freshU hb hU hA
  clear hU
  clear hA
  clear hb
  refine seq_g rfl henv rfl rfl (op_call henv rfl Tryd.call36 rfl (equal_u (show U32 _ A3 (nl (Nat.gcd X Y)) c4 (L (Nat.gcd X Y)) from hst.pat (k := 5) rfl) (show U32 _ A21 (nl (Nat.gcd Y X)) c22 (L (Nat.gcd Y X)) from hst.pat (k := 0) rfl)) ?_)
  rintro e w24 ⟨rfl, hb⟩
  refine ⟨_, rfl, ?_⟩
  clear henv a; intro a henv
  replace hst := hst.call hb
  clear hb
  rw [show (decide ((L (Nat.gcd X Y)) = (L (Nat.gcd Y X)))) = true from by rw [L_dec]; exact decide_eq_true (Nat.gcd_comm X Y)] at henv
  refine seq_step rfl (op_val (v := .bool true) henv rfl (rn_pick henv rfl rfl) ?_)
  clear henv a; intro a henv
  refine seq_step rfl (op_val (v := .bool true) henv rfl (rn_move henv rfl) ?_)
  clear henv a; intro a henv
  refine seq_g rfl henv rfl rfl (op_val (v := .slice A0 n0 c0) henv rfl (rn_move henv rfl) ?_)
  clear henv a; intro a henv
  refine seq_g rfl henv rfl rfl (op_val (v := .slice A2 n2 c2) henv rfl (rn_move henv rfl) ?_)
  clear henv a; intro a henv
  have hs25 := nl_mul X Z
  refine seq_g rfl henv rfl rfl (op_call henv rfl Tryd.call38 rfl (mul_num (N := X) (M := Z) ⟨_, (show U32 _ A0 n0 c0 xs0 from hst.pat (k := 8) rfl), hX0⟩ ⟨_, (show U32 _ A2 n2 c2 xs2 from hst.pat (k := 6) rfl), hX2⟩ (by omega) (by omega)) ?_)
  rintro e w28 ⟨_, rfl, ⟨A26, c27, rfl, hU, hA⟩, hb⟩
  refine ⟨_, rfl, ?_⟩
  clear henv a; intro a henv
  replace hst := hst.freshU hb hU hA
  clear hU
  clear hA
  clear hb
  refine seq_g rfl henv rfl rfl (op_val (v := .slice A1 n1 c1) henv rfl (rn_move henv rfl) ?_)
  clear henv a; intro a henv
  refine seq_g rfl henv rfl rfl (op_val (v := .slice A2 n2 c2) henv rfl (rn_move henv rfl) ?_)
  clear henv a; intro a henv
  have hs29 := nl_mul Y Z
  refine seq_g rfl henv rfl rfl (op_call henv rfl Tryd.call38 rfl (mul_num (N := Y) (M := Z) ⟨_, (show U32 _ A1 n1 c1 xs1 from hst.pat (k := 8) rfl), hX1⟩ ⟨_, (show U32 _ A2 n2 c2 xs2 from hst.pat (k := 7) rfl), hX2⟩ (by omega) (by omega)) ?_)
  rintro e w32 ⟨_, rfl, ⟨A30, c31, rfl, hU, hA⟩, hb⟩
  refine ⟨_, rfl, ?_⟩
  clear henv a; intro a henv
  replace hst := hst.freshU hb hU hA
  clear hU
  clear hA
  clear hb
  have hs33 := nl_gcd (X * Z) (Y * Z)
  refine seq_g rfl henv rfl rfl (op_call henv rfl Tryd.call44 rfl (gcd_num (N := (X * Z)) (M := (Y * Z)) ⟨_, (show U32 _ A26 (nl (X * Z)) c27 (L (X * Z)) from hst.pat (k := 1) rfl), (val_L _)⟩ ⟨_, (show U32 _ A30 (nl (Y * Z)) c31 (L (Y * Z)) from hst.pat (k := 0) rfl), (val_L _)⟩ (by omega) (by omega)) ?_)
  rintro e w36 ⟨_, rfl, ⟨A34, c35, rfl, hU, hA⟩, hb⟩
  refine ⟨_, rfl, ?_⟩
  clear henv a; intro a henv
  replace hst := hst.freshU hb hU hA
  clear hU
  clear hA
  clear hb
  refine seq_g rfl henv rfl rfl (op_val (v := .slice A3 (nl (Nat.gcd X Y)) c4) henv rfl (rn_move henv rfl) ?_)
  clear henv a; intro a henv
  refine seq_g rfl henv rfl rfl (op_val (v := .slice A2 n2 c2) henv rfl (rn_move henv rfl) ?_)
  clear henv a; intro a henv
  have hs37 := nl_mul (Nat.gcd X Y) Z
  refine seq_g rfl henv rfl rfl (op_call henv rfl Tryd.call38 rfl (mul_num (N := (Nat.gcd X Y)) (M := Z) ⟨_, (show U32 _ A3 (nl (Nat.gcd X Y)) c4 (L (Nat.gcd X Y)) from hst.pat (k := 8) rfl), (val_L _)⟩ ⟨_, (show U32 _ A2 n2 c2 xs2 from hst.pat (k := 9) rfl), hX2⟩ (by omega) (by omega)) ?_)
  rintro e w40 ⟨_, rfl, ⟨A38, c39, rfl, hU, hA⟩, hb⟩
  refine ⟨_, rfl, ?_⟩
  clear henv a; intro a henv
  replace hst := hst.freshU hb hU hA
  clear hU
  clear hA
  clear hb
  refine seq_g rfl henv rfl rfl (op_call henv rfl Tryd.call36 rfl (equal_u (show U32 _ A34 (nl (Nat.gcd (X * Z) (Y * Z))) c35 (L (Nat.gcd (X * Z) (Y * Z))) from hst.pat (k := 1) rfl) (show U32 _ A38 (nl ((Nat.gcd X Y) * Z)) c39 (L ((Nat.gcd X Y) * Z)) from hst.pat (k := 0) rfl)) ?_)
  rintro e w41 ⟨rfl, hb⟩
  refine ⟨_, rfl, ?_⟩
  clear henv a; intro a henv
  replace hst := hst.call hb
  clear hb
  rw [show (decide ((L (Nat.gcd (X * Z) (Y * Z))) = (L ((Nat.gcd X Y) * Z)))) = true from by rw [L_dec]; exact decide_eq_true (Nat.gcd_mul_right X Z Y)] at henv
  refine seq_step rfl (op_val (v := .bool true) henv rfl (rn_pick henv rfl rfl) ?_)
  clear henv a; intro a henv
  refine seq_step rfl (op_val (v := .bool true) henv rfl (rn_assign henv rfl) ?_)
  clear henv a; intro a henv
  refine wpList_nil ?_
  refine th_n ?_
  refine wp_ret ?_
  refine leave henv (res1 Tryd.results6 (RV.tmp henv rfl)) ?_
  exact ⟨rfl, hst.below⟩

theorem divisor_law {A0 : Option Addr} {n0 c0 : Nat} {xs0 : List Nat} {A1 : Option Addr} {n1 c1 : Nat} {xs1 : List Nat} {A2 : Option Addr} {n2 c2 : Nat} {xs2 : List Nat} {w0 : World} (u0 : U32 w0 A0 n0 c0 xs0) (u1 : U32 w0 A1 n1 c1 xs1) (u2 : U32 w0 A2 n2 c2 xs2) :
    Calls Tryd.prog 6 #[.slice A0 n0 c0, .slice A1 n1 c1, .slice A2 n2 c2] w0 fun e w' => e = .returned (.bool true) ∧ Below w0.heap.size w0 w' := by
  rcases Nat.lt_or_ge 100 n0 with hb | hn0
  · exact divisor_long0 u0 u1 u2  hb
  rcases Nat.lt_or_ge 100 n1 with hb | hn1
  · exact divisor_long1 u0 u1 u2 hn0 hb
  rcases Nat.lt_or_ge 100 n2 with hb | hn2
  · exact divisor_long2 u0 u1 u2 hn0 hn1 hb
  by_cases hg : Nat.gcd (val 4294967296 xs0) (val 4294967296 xs1) = 0
  · exact divisor_1 u0 u1 u2 hn0 hn1 hn2 hg
  · exact divisor_0 u0 u1 u2 hn0 hn1 hn2 hg

end Go.Proofs.YtnldopjbiacbfaaDoor.W
