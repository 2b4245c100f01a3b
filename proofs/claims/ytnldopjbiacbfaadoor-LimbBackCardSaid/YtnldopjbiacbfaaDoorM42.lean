/- LimbBack: the law's walk. Printed by pv/gen_lback.py. No condition. -/
import Derived.Test.YtnldopjbiacbfaaDoorM38
import Derived.Test.YtnldopjbiacbfaaDoorM40
import Derived.Test.YtnldopjbiacbfaaDoorM41

namespace Go.Proofs.YtnldopjbiacbfaaDoor.W
open Go.RowKit Anv

theorem read_textN {N : Nat} {w0 : World} (h : nl N ≤ 6000) :
    Calls Tryd.prog 65 #[.string ⟨(textN N).toArray⟩] w0 fun e w' => ∃ v, e = .returned (.tuple #[v, .agg #[.int .i64 0, .int .i64 0]]) ∧ NumAt w0.heap.size w' v N ∧ Below w0.heap.size w0 w' := by
  refine (read_ok (l := textN N) (by have := textN_bd N; omega) (textN_ne N) (textN_ok N)).mono ?_
  rintro e w' ⟨v, rfl, hv, hB⟩
  rw [numOf_textN] at hv
  exact ⟨v, rfl, hv, hB⟩
theorem spot_ne (i : Int) : (!decide ([(6 : Int), i] = [(0 : Int), (0 : Int)])) = true := by simp
theorem spot_eq (i : Int) : decide ([(6 : Int), i] = [(0 : Int), (0 : Int)]) = false := by simp
theorem mul_pow_ne {X s : Nat} (h : X ≠ 0) : X * 2 ^ s ≠ 0 := Nat.mul_ne_zero h (Nat.ne_of_gt (Nat.pow_pos (by decide)))
theorem tz_shl {X k : Nat} (h : IsTz X k) (s : Nat) : IsTz (X * 2 ^ s) (k + s) := by
  have h1 := h.eq
  obtain ⟨m, hm⟩ : ∃ m, X / 2 ^ k = 2 * m + 1 := ⟨X / 2 ^ k / 2, by have := h.1; omega⟩
  refine isTz_of (m := m) ?_
  rw [Nat.pow_add, ← hm]
  conv => lhs; rw [h1]
  rw [Nat.mul_right_comm]
theorem tz_eq {N j k : Nat} (h : IsTz N j) (g : IsTz N k) : (((k : Nat) : Int) == ((j : Nat) : Int)) = true := by rw [h.uniq g]; simp
theorem blen_shl {X : Nat} (h : X ≠ 0) : ∀ s, blen (X * 2 ^ s) = blen X + s
  | 0 => by simp
  | s + 1 => by
    have h1 : X * 2 ^ (s + 1) / 2 = X * 2 ^ s := by rw [Nat.pow_succ, ← Nat.mul_assoc, Nat.mul_div_cancel _ (by decide)]
    rw [blen_half _ (mul_pow_ne h), h1, blen_shl h s]
    omega
theorem blen_eq {X : Nat} (h : X ≠ 0) (s : Nat) : (((blen (X * 2 ^ s) : Nat) : Int) == ((blen X + s : Nat) : Int)) = true := by rw [blen_shl h]; simp
theorem bit_low {X s : Nat} {b : Bool} (h : b.toNat = X * 2 ^ (s + 1) / 2 ^ s % 2) : (!b) = true := by
  have e : X * 2 ^ (s + 1) / 2 ^ s = X * 2 := by
    rw [Nat.pow_succ, Nat.mul_comm (2 ^ s) 2, ← Nat.mul_assoc, Nat.mul_div_cancel _ (Nat.pow_pos (by decide))]
  rw [e, Nat.mul_mod_left] at h
  cases b <;> simp_all
theorem bit_top {N : Nat} (hN : N ≠ 0) {b : Bool} (h : b.toNat = N / 2 ^ (blen N - 1) % 2) : b = true := by
  have h1 := le_of_blen hN
  have h2 := lt_blen N
  have h3 := blen_pos hN
  have h4 : 1 ≤ N / 2 ^ (blen N - 1) := (Nat.one_le_div_iff (Nat.pow_pos (by decide))).2 h1
  have h5 : N / 2 ^ (blen N - 1) < 2 := by
    refine Nat.div_lt_of_lt_mul ?_
    rw [← Nat.pow_succ, show (blen N - 1).succ = blen N by omega]
    exact h2
  have h6 : N / 2 ^ (blen N - 1) = 1 := by omega
  rw [h6] at h
  cases b <;> simp_all
theorem text_cases (t : List UInt8) : t = [] ∨ (∃ i, i < t.length ∧ BadAt t i ∧ ∀ j, j < i → ¬ BadAt t j) ∨ (t ≠ [] ∧ ∀ j, j < t.length → ¬ BadAt t j) := by
  by_cases h0 : t = []
  · exact .inl h0
  by_cases h : ∃ i, i < t.length ∧ BadAt t i
  · refine .inr (.inl ?_)
    have key : ∀ n i, i ≤ n → i < t.length → BadAt t i → ∃ i, i < t.length ∧ BadAt t i ∧ ∀ j, j < i → ¬ BadAt t j := by
      intro n
      induction n with
      | zero =>
        intro i hi hl hb
        obtain rfl : i = 0 := by omega
        exact ⟨0, hl, hb, fun j hj => absurd hj (Nat.not_lt_zero _)⟩
      | succ n ih =>
        intro i hi hl hb
        by_cases h : ∃ j, j < i ∧ BadAt t j
        · obtain ⟨j, hj, hbj⟩ := h
          exact ih j (by omega) (by omega) hbj
        · exact ⟨i, hl, hb, fun j hj hbj => h ⟨j, hj, hbj⟩⟩
    obtain ⟨i, hi, hb⟩ := h
    exact key i i (Nat.le_refl _) hi hb
  · exact .inr (.inr ⟨h0, fun j hj hb => h ⟨j, hj, hb⟩⟩)

set_option maxRecDepth 100000 in
set_option maxHeartbeats 4000000 in
theorem back_zero_empty {A0 : Option Addr} {n0 c0 : Nat} {xs0 : List Nat} {t : List UInt8} {s : Nat} {w0 : World} (u0 : U32 w0 A0 n0 c0 xs0) (hn0 : n0 ≤ 600) (hT : Deb w0) (_ht4 : t.length ≤ 4000) (hs : s ≤ 65536) (ht : t = []) (hX : val 4294967296 xs0 = 0) :
    Calls Tryd.prog 13 #[.slice A0 n0 c0, .string ⟨t.toArray⟩, .int .i64 (s : Nat)] w0 fun e w' => e = .returned (.bool true) ∧ Below w0.heap.size w0 w' := by
  obtain ⟨X, hX0⟩ : ∃ z, val 4294967296 xs0 = z := ⟨_, rfl⟩
  have hl0 : nl X ≤ n0 := hX0 ▸ nl_val u0
  have hxl0 := u0.len
  have hbX := blen_nl X
  have htx := textN_bd X
  have hX00 : X = 0 := hX0 ▸ hX
  have htl0 : t.length = 0 := by rw [ht]; rfl
  refine enter Tryd.func13 rfl Tryd.ntmps13 rfl ?_
  intro a henv hst
  replace hst := (hst.addU u0 trivial)
  clear u0
  replace hst := hst.addT hT hT
  refine wp_seq ?_
  refine region_seq ?_
  refine seq_step rfl (op_val (v := .bool false) henv rfl (rn_assign henv rfl) ?_)
  clear henv a; intro a henv
  refine wpList_nil ?_
  refine th_n ?_
  refine wp_seq ?_
  refine wp_seq ?_
  refine region_seq ?_
  refine seq_step rfl (op_call henv rfl Tryd.call32 rfl (works_true _) ?_)
  rintro e w1 ⟨rfl, hb⟩
  refine ⟨_, rfl, ?_⟩
  clear henv a; intro a henv
  replace hst := hst.call hb
  clear hb
  refine seq_step rfl (op_val (v := .bool false) henv rfl (rn_un henv rfl rfl) ?_)
  clear henv a; intro a henv
  refine wpList_nil ?_
  refine th_n ?_
  refine if_f henv rfl (rfl) ?_
  refine wp_skip ?_
  refine th_n ?_
  refine wp_seq ?_
  refine wp_seq ?_
  refine region_seq ?_
  refine seq_step rfl (op_val (v := .slice A0 n0 c0) henv rfl (rn_move henv rfl) ?_)
  clear henv a; intro a henv
  refine seq_step rfl (op_val (v := .int .i64 (n0 : Nat)) henv rfl (rn_len henv Tryd.underlying22 rfl) ?_)
  clear henv a; intro a henv
  refine seq_step rfl (op_val (v := .bool (decide (((n0 : Nat) : Int) > (600 : Int)))) henv rfl (rn_bin henv rfl rfl rfl) ?_)
  clear henv a; intro a henv
  rw [show (decide (((n0 : Nat) : Int) > (600 : Int))) = false from decide_eq_false (by omega)] at henv
  refine seq_step rfl (op_val (v := .bool false) henv rfl (rn_move henv rfl) ?_)
  clear henv a; intro a henv
  refine seq_g rfl henv rfl rfl (op_val (v := .string ⟨t.toArray⟩) henv rfl (rn_move henv rfl) ?_)
  clear henv a; intro a henv
  refine seq_g rfl henv rfl rfl (op_val (v := .int .i64 (t.length : Nat)) henv rfl (rn_lenS henv Tryd.underlying9 rfl) ?_)
  clear henv a; intro a henv
  refine seq_g rfl henv rfl rfl (op_val (v := .bool (decide (((t.length : Nat) : Int) > (4000 : Int)))) henv rfl (rn_bin henv rfl rfl rfl) ?_)
  clear henv a; intro a henv
  rw [show (decide (((t.length : Nat) : Int) > (4000 : Int))) = false from decide_eq_false (by omega)] at henv
  refine seq_step rfl (op_val (v := .bool false) henv rfl (rn_pick henv rfl rfl) ?_)
  clear henv a; intro a henv
  refine seq_step rfl (op_val (v := .bool false) henv rfl (rn_move henv rfl) ?_)
  clear henv a; intro a henv
  refine seq_g rfl henv rfl rfl (op_val (v := .int .i64 (s : Nat)) henv rfl (rn_move henv rfl) ?_)
  clear henv a; intro a henv
  refine seq_g rfl henv rfl rfl (op_val (v := .bool (decide (((s : Nat) : Int) < (0 : Int)))) henv rfl (rn_bin henv rfl rfl rfl) ?_)
  clear henv a; intro a henv
  rw [show (decide (((s : Nat) : Int) < (0 : Int))) = false from decide_eq_false (by omega)] at henv
  refine seq_step rfl (op_val (v := .bool false) henv rfl (rn_pick henv rfl rfl) ?_)
  clear henv a; intro a henv
  refine seq_step rfl (op_val (v := .bool false) henv rfl (rn_move henv rfl) ?_)
  clear henv a; intro a henv
  refine seq_g rfl henv rfl rfl (op_val (v := .int .i64 (s : Nat)) henv rfl (rn_move henv rfl) ?_)
  clear henv a; intro a henv
  refine seq_g rfl henv rfl rfl (op_val (v := .bool (decide (((s : Nat) : Int) > (65536 : Int)))) henv rfl (rn_bin henv rfl rfl rfl) ?_)
  clear henv a; intro a henv
  rw [show (decide (((s : Nat) : Int) > (65536 : Int))) = false from decide_eq_false (by omega)] at henv
  refine seq_step rfl (op_val (v := .bool false) henv rfl (rn_pick henv rfl rfl) ?_)
  clear henv a; intro a henv
  refine wpList_nil ?_
  refine th_n ?_
  refine if_f henv rfl (rfl) ?_
  refine wp_skip ?_
  refine th_n ?_
  refine wp_seq ?_
  refine region_seq ?_
  refine seq_step rfl (op_val (v := .slice A0 n0 c0) henv rfl (rn_move henv rfl) ?_)
  clear henv a; intro a henv
  refine seq_step rfl (op_call henv rfl Tryd.call66 rfl (text_num (N := X) ⟨_, (show U32 _ A0 n0 c0 xs0 from hst.pat (k := 1) rfl), hX0⟩ (by omega)) ?_)
  rintro e w2 ⟨rfl, hb⟩
  refine ⟨_, rfl, ?_⟩
  clear henv a; intro a henv
  replace hst := hst.call hb
  clear hb
  refine seq_step rfl (op_call henv rfl Tryd.call65 rfl (read_textN (N := X) (by omega)) ?_)
  rintro e w5 ⟨_, rfl, ⟨A3, c4, rfl, hU, hA⟩, hb⟩
  refine ⟨_, rfl, ?_⟩
  clear henv a; intro a henv
  replace hst := hst.freshU hb hU hA
  clear hU
  clear hA
  clear hb
  refine seq_step rfl (op_val (v := .tuple #[.slice A3 (nl X) c4, .agg #[.int .i64 0, .int .i64 0]]) henv rfl (rn_move henv rfl) ?_)
  clear henv a; intro a henv
  refine seq_step rfl (op_val (v := .slice A3 (nl X) c4) henv rfl (rn_extract henv rfl rfl) ?_)
  clear henv a; intro a henv
  refine seq_step rfl (op_val (v := .agg #[.int .i64 0, .int .i64 0]) henv rfl (rn_extract henv rfl rfl) ?_)
  clear henv a; intro a henv
  refine seq_step rfl (op_alloc (c := #[.int .i64 0, .int .i64 0]) henv hst rfl zero_anvil_api_Spot rfl ?_)
  clear henv hst a; intro a w7 g6 henv hst
  refine seq_step rfl (op_val (v := .slice A3 (nl X) c4) henv rfl (rn_assign henv rfl) ?_)
  clear henv a; intro a henv
  refine seq_step rfl (op_store (k := 0) (c' := #[.int .i64 0, .int .i64 0]) henv hst (ty_anvil_api_Spot.size) rfl rfl rfl rfl (by simp) rfl rfl ?_)
  clear henv hst a; intro a w8 henv hst
  refine wpList_nil ?_
  refine th_n ?_
  refine wp_seq ?_
  refine wp_seq ?_
  refine region_seq ?_
  refine seq_step rfl (op_val (v := .agg #[.int .i64 0, .int .i64 0]) henv rfl (rn_load0 henv ty_anvil_api_Spot rfl (hst.oat (k := 0) rfl) rfl) ?_)
  clear henv a; intro a henv
  refine seq_step rfl (op_val (v := .agg #[.int .i64 0, .int .i64 0]) henv rfl (rn_spot0) ?_)
  clear henv a; intro a henv
  refine seq_step rfl (op_val (v := .bool (!decide ([(0 : Int), (0 : Int)] = [(0 : Int), (0 : Int)]))) henv rfl (rn_neqI [(0 : Int), (0 : Int)] [(0 : Int), (0 : Int)] henv spotI rfl rfl rfl rfl) ?_)
  clear henv a; intro a henv
  rw [show (!decide ([(0 : Int), (0 : Int)] = [(0 : Int), (0 : Int)])) = false from rfl] at henv
  refine seq_step rfl (op_val (v := .bool false) henv rfl (rn_move henv rfl) ?_)
  clear henv a; intro a henv
  refine seq_g rfl henv rfl rfl (op_val (v := .slice A3 (nl X) c4) henv rfl (rn_move henv rfl) ?_)
  clear henv a; intro a henv
  refine seq_g rfl henv rfl rfl (op_val (v := .slice A0 n0 c0) henv rfl (rn_move henv rfl) ?_)
  clear henv a; intro a henv
  refine seq_g rfl henv rfl rfl (op_call henv rfl Tryd.call34 rfl (norm_num (N := X) ⟨_, (show U32 _ A0 n0 c0 xs0 from hst.pat (k := 2) rfl), hX0⟩ (by omega)) ?_)
  rintro e w11 ⟨_, rfl, ⟨A9, c10, rfl, hU, hA⟩, hb⟩
  refine ⟨_, rfl, ?_⟩
  clear henv a; intro a henv
  replace hst := hst.freshU hb hU hA
  clear hU
  clear hA
  clear hb
  refine seq_g rfl henv rfl rfl (op_call henv rfl Tryd.call36 rfl (equal_u (show U32 _ A3 (nl X) c4 (L X) from hst.pat (k := 1) rfl) (show U32 _ A9 (nl X) c10 (L X) from hst.pat (k := 0) rfl)) ?_)
  rintro e w12 ⟨rfl, hb⟩
  refine ⟨_, rfl, ?_⟩
  clear henv a; intro a henv
  replace hst := hst.call hb
  clear hb
  rw [show (decide ((L X) = (L X))) = true from by rw [L_dec]; exact decide_eq_true (by rfl)] at henv
  refine seq_g rfl henv rfl rfl (op_val (v := .bool false) henv rfl (rn_un henv rfl rfl) ?_)
  clear henv a; intro a henv
  refine seq_step rfl (op_val (v := .bool false) henv rfl (rn_pick henv rfl rfl) ?_)
  clear henv a; intro a henv
  refine wpList_nil ?_
  refine th_n ?_
  refine if_f henv rfl (rfl) ?_
  refine wp_skip ?_
  refine th_n ?_
  refine wp_seq ?_
  refine region_seq ?_
  refine seq_step rfl (op_val (v := .string ⟨t.toArray⟩) henv rfl (rn_move henv rfl) ?_)
  clear henv a; intro a henv
  refine seq_step rfl (op_call henv rfl Tryd.call65 rfl (read_empty ht) ?_)
  rintro e w13 ⟨rfl, hb⟩
  refine ⟨_, rfl, ?_⟩
  clear henv a; intro a henv
  replace hst := hst.call hb
  clear hb
  refine seq_step rfl (op_val (v := .tuple #[.slice none 0 0, .agg #[.int .i64 6, .int .i64 0]]) henv rfl (rn_move henv rfl) ?_)
  clear henv a; intro a henv
  refine seq_step rfl (op_val (v := .slice none 0 0) henv rfl (rn_extract henv rfl rfl) ?_)
  clear henv a; intro a henv
  refine seq_step rfl (op_val (v := .agg #[.int .i64 6, .int .i64 0]) henv rfl (rn_extract henv rfl rfl) ?_)
  clear henv a; intro a henv
  refine seq_step rfl (op_val (v := .slice none 0 0) henv rfl (rn_assign henv rfl) ?_)
  clear henv a; intro a henv
  refine seq_step rfl (op_store (k := 0) (c' := #[.int .i64 6, .int .i64 0]) henv hst (ty_anvil_api_Spot.size) rfl rfl rfl rfl (by simp) rfl rfl ?_)
  clear henv hst a; intro a w14 henv hst
  refine wpList_nil ?_
  refine th_n ?_
  refine wp_seq ?_
  refine wp_seq ?_
  refine region_seq ?_
  refine seq_step rfl (op_val (v := .agg #[.int .i64 6, .int .i64 0]) henv rfl (rn_load0 henv ty_anvil_api_Spot rfl (hst.oat (k := 0) rfl) rfl) ?_)
  clear henv a; intro a henv
  refine seq_step rfl (op_val (v := .agg #[.int .i64 0, .int .i64 0]) henv rfl (rn_spot0) ?_)
  clear henv a; intro a henv
  refine seq_step rfl (op_val (v := .bool (decide ([(6 : Int), (0 : Int)] = [(0 : Int), (0 : Int)]))) henv rfl (rn_eqlI [(6 : Int), (0 : Int)] [(0 : Int), (0 : Int)] henv spotI rfl rfl rfl rfl) ?_)
  clear henv a; intro a henv
  rw [show (decide ([(6 : Int), (0 : Int)] = [(0 : Int), (0 : Int)])) = false from spot_eq _] at henv
  refine seq_step rfl (op_val (v := .bool false) henv rfl (rn_move henv rfl) ?_)
  clear henv a; intro a henv
  refine seq_skip rfl henv rfl rfl rfl rfl ?_
  clear henv a; intro a henv
  refine seq_skip rfl henv rfl rfl rfl rfl ?_
  clear henv a; intro a henv
  refine seq_skip rfl henv rfl rfl rfl rfl ?_
  clear henv a; intro a henv
  refine seq_skip rfl henv rfl rfl rfl rfl ?_
  clear henv a; intro a henv
  refine seq_step rfl (op_val (v := .bool false) henv rfl (rn_pick henv rfl rfl) ?_)
  clear henv a; intro a henv
  refine wpList_nil ?_
  refine th_n ?_
  refine if_f henv rfl (rfl) ?_
  refine wp_skip ?_
  refine th_n ?_
  refine wp_seq ?_
  refine region_seq ?_
  refine seq_step rfl (op_val (v := .slice A0 n0 c0) henv rfl (rn_move henv rfl) ?_)
  clear henv a; intro a henv
  refine seq_step rfl (op_val (v := .int .i64 (s : Nat)) henv rfl (rn_move henv rfl) ?_)
  clear henv a; intro a henv
  have hs17 := nl_shl X s
  refine seq_step rfl (op_call henv rfl Tryd.call55 rfl (shl_num (N := X) (s := s) ⟨_, (show U32 _ A0 n0 c0 xs0 from hst.pat (k := 3) rfl), hX0⟩ (by omega) (by omega)) ?_)
  rintro e w18 ⟨_, rfl, ⟨A15, c16, rfl, hU, hA⟩, hb⟩
  refine ⟨_, rfl, ?_⟩
  clear henv a; intro a henv
  replace hst := hst.freshU hb hU hA
  clear hU
  clear hA
  clear hb
  refine seq_step rfl (op_val (v := .tuple #[.slice A15 (nl (X * 2 ^ s)) c16, .int .i64 0]) henv rfl (rn_move henv rfl) ?_)
  clear henv a; intro a henv
  refine seq_step rfl (op_val (v := .slice A15 (nl (X * 2 ^ s)) c16) henv rfl (rn_extract henv rfl rfl) ?_)
  clear henv a; intro a henv
  refine seq_step rfl (op_val (v := .int .i64 0) henv rfl (rn_extract henv rfl rfl) ?_)
  clear henv a; intro a henv
  refine seq_step rfl (op_val (v := .slice A15 (nl (X * 2 ^ s)) c16) henv rfl (rn_assign henv rfl) ?_)
  clear henv a; intro a henv
  refine seq_step rfl (op_val (v := .int .i64 0) henv rfl (rn_assign henv rfl) ?_)
  clear henv a; intro a henv
  refine wpList_nil ?_
  refine th_n ?_
  refine wp_seq ?_
  refine region_seq ?_
  refine seq_step rfl (op_val (v := .slice A15 (nl (X * 2 ^ s)) c16) henv rfl (rn_move henv rfl) ?_)
  clear henv a; intro a henv
  refine seq_step rfl (op_val (v := .int .i64 (s : Nat)) henv rfl (rn_move henv rfl) ?_)
  clear henv a; intro a henv
  have hs21 := nl_div (X * 2 ^ s) (2 ^ s)
  refine seq_step rfl (op_call henv rfl Tryd.call56 rfl (shr_num (N := (X * 2 ^ s)) (s := s) ⟨_, (show U32 _ A15 (nl (X * 2 ^ s)) c16 (L (X * 2 ^ s)) from hst.pat (k := 0) rfl), (val_L _)⟩ (by omega) (by omega)) ?_)
  rintro e w22 ⟨_, rfl, ⟨A19, c20, rfl, hU, hA⟩, hb⟩
  refine ⟨_, rfl, ?_⟩
  clear henv a; intro a henv
  replace hst := hst.freshU hb hU hA
  clear hU
  clear hA
  clear hb
  refine seq_step rfl (op_val (v := .tuple #[.slice A19 (nl ((X * 2 ^ s) / 2 ^ s)) c20, .int .i64 0]) henv rfl (rn_move henv rfl) ?_)
  clear henv a; intro a henv
  refine seq_step rfl (op_val (v := .slice A19 (nl ((X * 2 ^ s) / 2 ^ s)) c20) henv rfl (rn_extract henv rfl rfl) ?_)
  clear henv a; intro a henv
  refine seq_step rfl (op_val (v := .int .i64 0) henv rfl (rn_extract henv rfl rfl) ?_)
  clear henv a; intro a henv
  refine seq_step rfl (op_val (v := .slice A19 (nl ((X * 2 ^ s) / 2 ^ s)) c20) henv rfl (rn_assign henv rfl) ?_)
  clear henv a; intro a henv
  refine seq_step rfl (op_val (v := .int .i64 0) henv rfl (rn_assign henv rfl) ?_)
  clear henv a; intro a henv
  refine wpList_nil ?_
  refine th_n ?_
  refine wp_seq ?_
  refine wp_seq ?_
  refine region_seq ?_
  refine seq_step rfl (op_val (v := .int .i64 0) henv rfl (rn_move henv rfl) ?_)
  clear henv a; intro a henv
  refine seq_step rfl (op_val (v := .bool false) henv rfl (rn_bin henv rfl rfl rfl) ?_)
  clear henv a; intro a henv
  refine seq_step rfl (op_val (v := .bool false) henv rfl (rn_move henv rfl) ?_)
  clear henv a; intro a henv
  refine seq_g rfl henv rfl rfl (op_val (v := .int .i64 0) henv rfl (rn_move henv rfl) ?_)
  clear henv a; intro a henv
  refine seq_g rfl henv rfl rfl (op_val (v := .bool false) henv rfl (rn_bin henv rfl rfl rfl) ?_)
  clear henv a; intro a henv
  refine seq_step rfl (op_val (v := .bool false) henv rfl (rn_pick henv rfl rfl) ?_)
  clear henv a; intro a henv
  refine seq_step rfl (op_val (v := .bool false) henv rfl (rn_move henv rfl) ?_)
  clear henv a; intro a henv
  refine seq_g rfl henv rfl rfl (op_val (v := .slice A19 (nl ((X * 2 ^ s) / 2 ^ s)) c20) henv rfl (rn_move henv rfl) ?_)
  clear henv a; intro a henv
  refine seq_g rfl henv rfl rfl (op_val (v := .slice A0 n0 c0) henv rfl (rn_move henv rfl) ?_)
  clear henv a; intro a henv
  refine seq_g rfl henv rfl rfl (op_call henv rfl Tryd.call34 rfl (norm_num (N := X) ⟨_, (show U32 _ A0 n0 c0 xs0 from hst.pat (k := 5) rfl), hX0⟩ (by omega)) ?_)
  rintro e w25 ⟨_, rfl, ⟨A23, c24, rfl, hU, hA⟩, hb⟩
  refine ⟨_, rfl, ?_⟩
  clear henv a; intro a henv
  replace hst := hst.freshU hb hU hA
  clear hU
  clear hA
  clear hb
  refine seq_g rfl henv rfl rfl (op_call henv rfl Tryd.call36 rfl (equal_u (show U32 _ A19 (nl ((X * 2 ^ s) / 2 ^ s)) c20 (L ((X * 2 ^ s) / 2 ^ s)) from hst.pat (k := 1) rfl) (show U32 _ A23 (nl X) c24 (L X) from hst.pat (k := 0) rfl)) ?_)
  rintro e w26 ⟨rfl, hb⟩
  refine ⟨_, rfl, ?_⟩
  clear henv a; intro a henv
  replace hst := hst.call hb
  clear hb
  rw [show (decide ((L ((X * 2 ^ s) / 2 ^ s)) = (L X))) = true from by rw [L_dec]; exact decide_eq_true (by exact Nat.mul_div_cancel _ (Nat.pow_pos (by decide)))] at henv
  refine seq_g rfl henv rfl rfl (op_val (v := .bool false) henv rfl (rn_un henv rfl rfl) ?_)
  clear henv a; intro a henv
  refine seq_step rfl (op_val (v := .bool false) henv rfl (rn_pick henv rfl rfl) ?_)
  clear henv a; intro a henv
  refine wpList_nil ?_
  refine th_n ?_
  refine if_f henv rfl (rfl) ?_
  refine wp_skip ?_
  refine th_n ?_
  refine wp_seq ?_
  refine wp_seq ?_
  refine region_seq ?_
  refine seq_step rfl (op_val (v := .slice A19 (nl ((X * 2 ^ s) / 2 ^ s)) c20) henv rfl (rn_move henv rfl) ?_)
  clear henv a; intro a henv
  refine seq_step rfl (op_val (v := .int .i64 (nl ((X * 2 ^ s) / 2 ^ s) : Nat)) henv rfl (rn_len henv Tryd.underlying22 rfl) ?_)
  clear henv a; intro a henv
  refine seq_step rfl (op_val (v := .bool (((nl ((X * 2 ^ s) / 2 ^ s) : Nat) : Int) == (0 : Int))) henv rfl (rn_bin henv rfl rfl rfl) ?_)
  clear henv a; intro a henv
  rw [show (((nl ((X * 2 ^ s) / 2 ^ s) : Nat) : Int) == (0 : Int)) = true from by rw [hX00]; simp [nl_zero]] at henv
  refine wpList_nil ?_
  refine th_n ?_
  refine if_t henv rfl (rfl) ?_
  refine wp_seq ?_
  refine region_seq ?_
  refine seq_step rfl (op_val (v := .slice A15 (nl (X * 2 ^ s)) c16) henv rfl (rn_move henv rfl) ?_)
  clear henv a; intro a henv
  refine seq_step rfl (op_val (v := .int .i64 (nl (X * 2 ^ s) : Nat)) henv rfl (rn_len henv Tryd.underlying22 rfl) ?_)
  clear henv a; intro a henv
  refine seq_step rfl (op_val (v := .bool (((nl (X * 2 ^ s) : Nat) : Int) == (0 : Int))) henv rfl (rn_bin henv rfl rfl rfl) ?_)
  clear henv a; intro a henv
  rw [show (((nl (X * 2 ^ s) : Nat) : Int) == (0 : Int)) = true from by rw [hX00]; simp [nl_zero]] at henv
  refine seq_step rfl (op_val (v := .bool true) henv rfl (rn_assign henv rfl) ?_)
  clear henv a; intro a henv
  refine wpList_nil ?_
  refine th_n ?_
  refine wp_ret ?_
  refine th_r ?_
  refine leave henv (res1 Tryd.results13 (RV.tmp henv rfl)) ?_
  exact ⟨rfl, hst.below⟩

set_option maxRecDepth 100000 in
set_option maxHeartbeats 4000000 in
theorem back_zero_bad {A0 : Option Addr} {n0 c0 : Nat} {xs0 : List Nat} {t : List UInt8} {i : Nat} {s : Nat} {w0 : World} (u0 : U32 w0 A0 n0 c0 xs0) (hn0 : n0 ≤ 600) (hT : Deb w0) (ht4 : t.length ≤ 4000) (hs : s ≤ 65536) (hi : i < t.length) (hbad : BadAt t i) (hok : ∀ j, j < i → ¬ BadAt t j) (hX : val 4294967296 xs0 = 0) :
    Calls Tryd.prog 13 #[.slice A0 n0 c0, .string ⟨t.toArray⟩, .int .i64 (s : Nat)] w0 fun e w' => e = .returned (.bool true) ∧ Below w0.heap.size w0 w' := by
  obtain ⟨X, hX0⟩ : ∃ z, val 4294967296 xs0 = z := ⟨_, rfl⟩
  have hl0 : nl X ≤ n0 := hX0 ▸ nl_val u0
  have hxl0 := u0.len
  have hbX := blen_nl X
  have htx := textN_bd X
  have hX00 : X = 0 := hX0 ▸ hX
  refine enter Tryd.func13 rfl Tryd.ntmps13 rfl ?_
  intro a henv hst
  replace hst := (hst.addU u0 trivial)
  clear u0
  replace hst := hst.addT hT hT
  refine wp_seq ?_
  refine region_seq ?_
  refine seq_step rfl (op_val (v := .bool false) henv rfl (rn_assign henv rfl) ?_)
  clear henv a; intro a henv
  refine wpList_nil ?_
  refine th_n ?_
  refine wp_seq ?_
  refine wp_seq ?_
  refine region_seq ?_
  refine seq_step rfl (op_call henv rfl Tryd.call32 rfl (works_true _) ?_)
  rintro e w1 ⟨rfl, hb⟩
  refine ⟨_, rfl, ?_⟩
  clear henv a; intro a henv
  replace hst := hst.call hb
  clear hb
  refine seq_step rfl (op_val (v := .bool false) henv rfl (rn_un henv rfl rfl) ?_)
  clear henv a; intro a henv
  refine wpList_nil ?_
  refine th_n ?_
  refine if_f henv rfl (rfl) ?_
  refine wp_skip ?_
  refine th_n ?_
  refine wp_seq ?_
  refine wp_seq ?_
  refine region_seq ?_
  refine seq_step rfl (op_val (v := .slice A0 n0 c0) henv rfl (rn_move henv rfl) ?_)
  clear henv a; intro a henv
  refine seq_step rfl (op_val (v := .int .i64 (n0 : Nat)) henv rfl (rn_len henv Tryd.underlying22 rfl) ?_)
  clear henv a; intro a henv
  refine seq_step rfl (op_val (v := .bool (decide (((n0 : Nat) : Int) > (600 : Int)))) henv rfl (rn_bin henv rfl rfl rfl) ?_)
  clear henv a; intro a henv
  rw [show (decide (((n0 : Nat) : Int) > (600 : Int))) = false from decide_eq_false (by omega)] at henv
  refine seq_step rfl (op_val (v := .bool false) henv rfl (rn_move henv rfl) ?_)
  clear henv a; intro a henv
  refine seq_g rfl henv rfl rfl (op_val (v := .string ⟨t.toArray⟩) henv rfl (rn_move henv rfl) ?_)
  clear henv a; intro a henv
  refine seq_g rfl henv rfl rfl (op_val (v := .int .i64 (t.length : Nat)) henv rfl (rn_lenS henv Tryd.underlying9 rfl) ?_)
  clear henv a; intro a henv
  refine seq_g rfl henv rfl rfl (op_val (v := .bool (decide (((t.length : Nat) : Int) > (4000 : Int)))) henv rfl (rn_bin henv rfl rfl rfl) ?_)
  clear henv a; intro a henv
  rw [show (decide (((t.length : Nat) : Int) > (4000 : Int))) = false from decide_eq_false (by omega)] at henv
  refine seq_step rfl (op_val (v := .bool false) henv rfl (rn_pick henv rfl rfl) ?_)
  clear henv a; intro a henv
  refine seq_step rfl (op_val (v := .bool false) henv rfl (rn_move henv rfl) ?_)
  clear henv a; intro a henv
  refine seq_g rfl henv rfl rfl (op_val (v := .int .i64 (s : Nat)) henv rfl (rn_move henv rfl) ?_)
  clear henv a; intro a henv
  refine seq_g rfl henv rfl rfl (op_val (v := .bool (decide (((s : Nat) : Int) < (0 : Int)))) henv rfl (rn_bin henv rfl rfl rfl) ?_)
  clear henv a; intro a henv
  rw [show (decide (((s : Nat) : Int) < (0 : Int))) = false from decide_eq_false (by omega)] at henv
  refine seq_step rfl (op_val (v := .bool false) henv rfl (rn_pick henv rfl rfl) ?_)
  clear henv a; intro a henv
  refine seq_step rfl (op_val (v := .bool false) henv rfl (rn_move henv rfl) ?_)
  clear henv a; intro a henv
  refine seq_g rfl henv rfl rfl (op_val (v := .int .i64 (s : Nat)) henv rfl (rn_move henv rfl) ?_)
  clear henv a; intro a henv
  refine seq_g rfl henv rfl rfl (op_val (v := .bool (decide (((s : Nat) : Int) > (65536 : Int)))) henv rfl (rn_bin henv rfl rfl rfl) ?_)
  clear henv a; intro a henv
  rw [show (decide (((s : Nat) : Int) > (65536 : Int))) = false from decide_eq_false (by omega)] at henv
  refine seq_step rfl (op_val (v := .bool false) henv rfl (rn_pick henv rfl rfl) ?_)
  clear henv a; intro a henv
  refine wpList_nil ?_
  refine th_n ?_
  refine if_f henv rfl (rfl) ?_
  refine wp_skip ?_
  refine th_n ?_
  refine wp_seq ?_
  refine region_seq ?_
  refine seq_step rfl (op_val (v := .slice A0 n0 c0) henv rfl (rn_move henv rfl) ?_)
  clear henv a; intro a henv
  refine seq_step rfl (op_call henv rfl Tryd.call66 rfl (text_num (N := X) ⟨_, (show U32 _ A0 n0 c0 xs0 from hst.pat (k := 1) rfl), hX0⟩ (by omega)) ?_)
  rintro e w2 ⟨rfl, hb⟩
  refine ⟨_, rfl, ?_⟩
  clear henv a; intro a henv
  replace hst := hst.call hb
  clear hb
  refine seq_step rfl (op_call henv rfl Tryd.call65 rfl (read_textN (N := X) (by omega)) ?_)
  rintro e w5 ⟨_, rfl, ⟨A3, c4, rfl, hU, hA⟩, hb⟩
  refine ⟨_, rfl, ?_⟩
  clear henv a; intro a henv
  replace hst := hst.freshU hb hU hA
  clear hU
  clear hA
  clear hb
  refine seq_step rfl (op_val (v := .tuple #[.slice A3 (nl X) c4, .agg #[.int .i64 0, .int .i64 0]]) henv rfl (rn_move henv rfl) ?_)
  clear henv a; intro a henv
  refine seq_step rfl (op_val (v := .slice A3 (nl X) c4) henv rfl (rn_extract henv rfl rfl) ?_)
  clear henv a; intro a henv
  refine seq_step rfl (op_val (v := .agg #[.int .i64 0, .int .i64 0]) henv rfl (rn_extract henv rfl rfl) ?_)
  clear henv a; intro a henv
  refine seq_step rfl (op_alloc (c := #[.int .i64 0, .int .i64 0]) henv hst rfl zero_anvil_api_Spot rfl ?_)
  clear henv hst a; intro a w7 g6 henv hst
  refine seq_step rfl (op_val (v := .slice A3 (nl X) c4) henv rfl (rn_assign henv rfl) ?_)
  clear henv a; intro a henv
  refine seq_step rfl (op_store (k := 0) (c' := #[.int .i64 0, .int .i64 0]) henv hst (ty_anvil_api_Spot.size) rfl rfl rfl rfl (by simp) rfl rfl ?_)
  clear henv hst a; intro a w8 henv hst
  refine wpList_nil ?_
  refine th_n ?_
  refine wp_seq ?_
  refine wp_seq ?_
  refine region_seq ?_
  refine seq_step rfl (op_val (v := .agg #[.int .i64 0, .int .i64 0]) henv rfl (rn_load0 henv ty_anvil_api_Spot rfl (hst.oat (k := 0) rfl) rfl) ?_)
  clear henv a; intro a henv
  refine seq_step rfl (op_val (v := .agg #[.int .i64 0, .int .i64 0]) henv rfl (rn_spot0) ?_)
  clear henv a; intro a henv
  refine seq_step rfl (op_val (v := .bool (!decide ([(0 : Int), (0 : Int)] = [(0 : Int), (0 : Int)]))) henv rfl (rn_neqI [(0 : Int), (0 : Int)] [(0 : Int), (0 : Int)] henv spotI rfl rfl rfl rfl) ?_)
  clear henv a; intro a henv
  rw [show (!decide ([(0 : Int), (0 : Int)] = [(0 : Int), (0 : Int)])) = false from rfl] at henv
  refine seq_step rfl (op_val (v := .bool false) henv rfl (rn_move henv rfl) ?_)
  clear henv a; intro a henv
  refine seq_g rfl henv rfl rfl (op_val (v := .slice A3 (nl X) c4) henv rfl (rn_move henv rfl) ?_)
  clear henv a; intro a henv
  refine seq_g rfl henv rfl rfl (op_val (v := .slice A0 n0 c0) henv rfl (rn_move henv rfl) ?_)
  clear henv a; intro a henv
  refine seq_g rfl henv rfl rfl (op_call henv rfl Tryd.call34 rfl (norm_num (N := X) ⟨_, (show U32 _ A0 n0 c0 xs0 from hst.pat (k := 2) rfl), hX0⟩ (by omega)) ?_)
  rintro e w11 ⟨_, rfl, ⟨A9, c10, rfl, hU, hA⟩, hb⟩
  refine ⟨_, rfl, ?_⟩
  clear henv a; intro a henv
  replace hst := hst.freshU hb hU hA
  clear hU
  clear hA
  clear hb
  refine seq_g rfl henv rfl rfl (op_call henv rfl Tryd.call36 rfl (equal_u (show U32 _ A3 (nl X) c4 (L X) from hst.pat (k := 1) rfl) (show U32 _ A9 (nl X) c10 (L X) from hst.pat (k := 0) rfl)) ?_)
  rintro e w12 ⟨rfl, hb⟩
  refine ⟨_, rfl, ?_⟩
  clear henv a; intro a henv
  replace hst := hst.call hb
  clear hb
  rw [show (decide ((L X) = (L X))) = true from by rw [L_dec]; exact decide_eq_true (by rfl)] at henv
  refine seq_g rfl henv rfl rfl (op_val (v := .bool false) henv rfl (rn_un henv rfl rfl) ?_)
  clear henv a; intro a henv
  refine seq_step rfl (op_val (v := .bool false) henv rfl (rn_pick henv rfl rfl) ?_)
  clear henv a; intro a henv
  refine wpList_nil ?_
  refine th_n ?_
  refine if_f henv rfl (rfl) ?_
  refine wp_skip ?_
  refine th_n ?_
  refine wp_seq ?_
  refine region_seq ?_
  refine seq_step rfl (op_val (v := .string ⟨t.toArray⟩) henv rfl (rn_move henv rfl) ?_)
  clear henv a; intro a henv
  refine seq_step rfl (op_call henv rfl Tryd.call65 rfl (read_bad (by omega) hi hbad hok) ?_)
  rintro e w13 ⟨rfl, hb⟩
  refine ⟨_, rfl, ?_⟩
  clear henv a; intro a henv
  replace hst := hst.call hb
  clear hb
  refine seq_step rfl (op_val (v := .tuple #[.slice none 0 0, .agg #[.int .i64 6, .int .i64 (i : Nat)]]) henv rfl (rn_move henv rfl) ?_)
  clear henv a; intro a henv
  refine seq_step rfl (op_val (v := .slice none 0 0) henv rfl (rn_extract henv rfl rfl) ?_)
  clear henv a; intro a henv
  refine seq_step rfl (op_val (v := .agg #[.int .i64 6, .int .i64 (i : Nat)]) henv rfl (rn_extract henv rfl rfl) ?_)
  clear henv a; intro a henv
  refine seq_step rfl (op_val (v := .slice none 0 0) henv rfl (rn_assign henv rfl) ?_)
  clear henv a; intro a henv
  refine seq_step rfl (op_store (k := 0) (c' := #[.int .i64 6, .int .i64 (i : Nat)]) henv hst (ty_anvil_api_Spot.size) rfl rfl rfl rfl (by simp) rfl rfl ?_)
  clear henv hst a; intro a w14 henv hst
  refine wpList_nil ?_
  refine th_n ?_
  refine wp_seq ?_
  refine wp_seq ?_
  refine region_seq ?_
  refine seq_step rfl (op_val (v := .agg #[.int .i64 6, .int .i64 (i : Nat)]) henv rfl (rn_load0 henv ty_anvil_api_Spot rfl (hst.oat (k := 0) rfl) rfl) ?_)
  clear henv a; intro a henv
  refine seq_step rfl (op_val (v := .agg #[.int .i64 0, .int .i64 0]) henv rfl (rn_spot0) ?_)
  clear henv a; intro a henv
  refine seq_step rfl (op_val (v := .bool (decide ([(6 : Int), ((i : Nat) : Int)] = [(0 : Int), (0 : Int)]))) henv rfl (rn_eqlI [(6 : Int), ((i : Nat) : Int)] [(0 : Int), (0 : Int)] henv spotI rfl rfl rfl rfl) ?_)
  clear henv a; intro a henv
  rw [show (decide ([(6 : Int), ((i : Nat) : Int)] = [(0 : Int), (0 : Int)])) = false from spot_eq _] at henv
  refine seq_step rfl (op_val (v := .bool false) henv rfl (rn_move henv rfl) ?_)
  clear henv a; intro a henv
  refine seq_skip rfl henv rfl rfl rfl rfl ?_
  clear henv a; intro a henv
  refine seq_skip rfl henv rfl rfl rfl rfl ?_
  clear henv a; intro a henv
  refine seq_skip rfl henv rfl rfl rfl rfl ?_
  clear henv a; intro a henv
  refine seq_skip rfl henv rfl rfl rfl rfl ?_
  clear henv a; intro a henv
  refine seq_step rfl (op_val (v := .bool false) henv rfl (rn_pick henv rfl rfl) ?_)
  clear henv a; intro a henv
  refine wpList_nil ?_
  refine th_n ?_
  refine if_f henv rfl (rfl) ?_
  refine wp_skip ?_
  refine th_n ?_
  refine wp_seq ?_
  refine region_seq ?_
  refine seq_step rfl (op_val (v := .slice A0 n0 c0) henv rfl (rn_move henv rfl) ?_)
  clear henv a; intro a henv
  refine seq_step rfl (op_val (v := .int .i64 (s : Nat)) henv rfl (rn_move henv rfl) ?_)
  clear henv a; intro a henv
  have hs17 := nl_shl X s
  refine seq_step rfl (op_call henv rfl Tryd.call55 rfl (shl_num (N := X) (s := s) ⟨_, (show U32 _ A0 n0 c0 xs0 from hst.pat (k := 3) rfl), hX0⟩ (by omega) (by omega)) ?_)
  rintro e w18 ⟨_, rfl, ⟨A15, c16, rfl, hU, hA⟩, hb⟩
  refine ⟨_, rfl, ?_⟩
  clear henv a; intro a henv
  replace hst := hst.freshU hb hU hA
  clear hU
  clear hA
  clear hb
  refine seq_step rfl (op_val (v := .tuple #[.slice A15 (nl (X * 2 ^ s)) c16, .int .i64 0]) henv rfl (rn_move henv rfl) ?_)
  clear henv a; intro a henv
  refine seq_step rfl (op_val (v := .slice A15 (nl (X * 2 ^ s)) c16) henv rfl (rn_extract henv rfl rfl) ?_)
  clear henv a; intro a henv
  refine seq_step rfl (op_val (v := .int .i64 0) henv rfl (rn_extract henv rfl rfl) ?_)
  clear henv a; intro a henv
  refine seq_step rfl (op_val (v := .slice A15 (nl (X * 2 ^ s)) c16) henv rfl (rn_assign henv rfl) ?_)
  clear henv a; intro a henv
  refine seq_step rfl (op_val (v := .int .i64 0) henv rfl (rn_assign henv rfl) ?_)
  clear henv a; intro a henv
  refine wpList_nil ?_
  refine th_n ?_
  refine wp_seq ?_
  refine region_seq ?_
  refine seq_step rfl (op_val (v := .slice A15 (nl (X * 2 ^ s)) c16) henv rfl (rn_move henv rfl) ?_)
  clear henv a; intro a henv
  refine seq_step rfl (op_val (v := .int .i64 (s : Nat)) henv rfl (rn_move henv rfl) ?_)
  clear henv a; intro a henv
  have hs21 := nl_div (X * 2 ^ s) (2 ^ s)
  refine seq_step rfl (op_call henv rfl Tryd.call56 rfl (shr_num (N := (X * 2 ^ s)) (s := s) ⟨_, (show U32 _ A15 (nl (X * 2 ^ s)) c16 (L (X * 2 ^ s)) from hst.pat (k := 0) rfl), (val_L _)⟩ (by omega) (by omega)) ?_)
  rintro e w22 ⟨_, rfl, ⟨A19, c20, rfl, hU, hA⟩, hb⟩
  refine ⟨_, rfl, ?_⟩
  clear henv a; intro a henv
  replace hst := hst.freshU hb hU hA
  clear hU
  clear hA
  clear hb
  refine seq_step rfl (op_val (v := .tuple #[.slice A19 (nl ((X * 2 ^ s) / 2 ^ s)) c20, .int .i64 0]) henv rfl (rn_move henv rfl) ?_)
  clear henv a; intro a henv
  refine seq_step rfl (op_val (v := .slice A19 (nl ((X * 2 ^ s) / 2 ^ s)) c20) henv rfl (rn_extract henv rfl rfl) ?_)
  clear henv a; intro a henv
  refine seq_step rfl (op_val (v := .int .i64 0) henv rfl (rn_extract henv rfl rfl) ?_)
  clear henv a; intro a henv
  refine seq_step rfl (op_val (v := .slice A19 (nl ((X * 2 ^ s) / 2 ^ s)) c20) henv rfl (rn_assign henv rfl) ?_)
  clear henv a; intro a henv
  refine seq_step rfl (op_val (v := .int .i64 0) henv rfl (rn_assign henv rfl) ?_)
  clear henv a; intro a henv
  refine wpList_nil ?_
  refine th_n ?_
  refine wp_seq ?_
  refine wp_seq ?_
  refine region_seq ?_
  refine seq_step rfl (op_val (v := .int .i64 0) henv rfl (rn_move henv rfl) ?_)
  clear henv a; intro a henv
  refine seq_step rfl (op_val (v := .bool false) henv rfl (rn_bin henv rfl rfl rfl) ?_)
  clear henv a; intro a henv
  refine seq_step rfl (op_val (v := .bool false) henv rfl (rn_move henv rfl) ?_)
  clear henv a; intro a henv
  refine seq_g rfl henv rfl rfl (op_val (v := .int .i64 0) henv rfl (rn_move henv rfl) ?_)
  clear henv a; intro a henv
  refine seq_g rfl henv rfl rfl (op_val (v := .bool false) henv rfl (rn_bin henv rfl rfl rfl) ?_)
  clear henv a; intro a henv
  refine seq_step rfl (op_val (v := .bool false) henv rfl (rn_pick henv rfl rfl) ?_)
  clear henv a; intro a henv
  refine seq_step rfl (op_val (v := .bool false) henv rfl (rn_move henv rfl) ?_)
  clear henv a; intro a henv
  refine seq_g rfl henv rfl rfl (op_val (v := .slice A19 (nl ((X * 2 ^ s) / 2 ^ s)) c20) henv rfl (rn_move henv rfl) ?_)
  clear henv a; intro a henv
  refine seq_g rfl henv rfl rfl (op_val (v := .slice A0 n0 c0) henv rfl (rn_move henv rfl) ?_)
  clear henv a; intro a henv
  refine seq_g rfl henv rfl rfl (op_call henv rfl Tryd.call34 rfl (norm_num (N := X) ⟨_, (show U32 _ A0 n0 c0 xs0 from hst.pat (k := 5) rfl), hX0⟩ (by omega)) ?_)
  rintro e w25 ⟨_, rfl, ⟨A23, c24, rfl, hU, hA⟩, hb⟩
  refine ⟨_, rfl, ?_⟩
  clear henv a; intro a henv
  replace hst := hst.freshU hb hU hA
  clear hU
  clear hA
  clear hb
  refine seq_g rfl henv rfl rfl (op_call henv rfl Tryd.call36 rfl (equal_u (show U32 _ A19 (nl ((X * 2 ^ s) / 2 ^ s)) c20 (L ((X * 2 ^ s) / 2 ^ s)) from hst.pat (k := 1) rfl) (show U32 _ A23 (nl X) c24 (L X) from hst.pat (k := 0) rfl)) ?_)
  rintro e w26 ⟨rfl, hb⟩
  refine ⟨_, rfl, ?_⟩
  clear henv a; intro a henv
  replace hst := hst.call hb
  clear hb
  rw [show (decide ((L ((X * 2 ^ s) / 2 ^ s)) = (L X))) = true from by rw [L_dec]; exact decide_eq_true (by exact Nat.mul_div_cancel _ (Nat.pow_pos (by decide)))] at henv
  refine seq_g rfl henv rfl rfl (op_val (v := .bool false) henv rfl (rn_un henv rfl rfl) ?_)
  clear henv a; intro a henv
  refine seq_step rfl (op_val (v := .bool false) henv rfl (rn_pick henv rfl rfl) ?_)
  clear henv a; intro a henv
  refine wpList_nil ?_
  refine th_n ?_
  refine if_f henv rfl (rfl) ?_
  refine wp_skip ?_
  refine th_n ?_
  refine wp_seq ?_
  refine wp_seq ?_
  refine region_seq ?_
  refine seq_step rfl (op_val (v := .slice A19 (nl ((X * 2 ^ s) / 2 ^ s)) c20) henv rfl (rn_move henv rfl) ?_)
  clear henv a; intro a henv
  refine seq_step rfl (op_val (v := .int .i64 (nl ((X * 2 ^ s) / 2 ^ s) : Nat)) henv rfl (rn_len henv Tryd.underlying22 rfl) ?_)
  clear henv a; intro a henv
  refine seq_step rfl (op_val (v := .bool (((nl ((X * 2 ^ s) / 2 ^ s) : Nat) : Int) == (0 : Int))) henv rfl (rn_bin henv rfl rfl rfl) ?_)
  clear henv a; intro a henv
  rw [show (((nl ((X * 2 ^ s) / 2 ^ s) : Nat) : Int) == (0 : Int)) = true from by rw [hX00]; simp [nl_zero]] at henv
  refine wpList_nil ?_
  refine th_n ?_
  refine if_t henv rfl (rfl) ?_
  refine wp_seq ?_
  refine region_seq ?_
  refine seq_step rfl (op_val (v := .slice A15 (nl (X * 2 ^ s)) c16) henv rfl (rn_move henv rfl) ?_)
  clear henv a; intro a henv
  refine seq_step rfl (op_val (v := .int .i64 (nl (X * 2 ^ s) : Nat)) henv rfl (rn_len henv Tryd.underlying22 rfl) ?_)
  clear henv a; intro a henv
  refine seq_step rfl (op_val (v := .bool (((nl (X * 2 ^ s) : Nat) : Int) == (0 : Int))) henv rfl (rn_bin henv rfl rfl rfl) ?_)
  clear henv a; intro a henv
  rw [show (((nl (X * 2 ^ s) : Nat) : Int) == (0 : Int)) = true from by rw [hX00]; simp [nl_zero]] at henv
  refine seq_step rfl (op_val (v := .bool true) henv rfl (rn_assign henv rfl) ?_)
  clear henv a; intro a henv
  refine wpList_nil ?_
  refine th_n ?_
  refine wp_ret ?_
  refine th_r ?_
  refine leave henv (res1 Tryd.results13 (RV.tmp henv rfl)) ?_
  exact ⟨rfl, hst.below⟩

set_option maxRecDepth 100000 in
set_option maxHeartbeats 4000000 in
theorem back_zero_ok {A0 : Option Addr} {n0 c0 : Nat} {xs0 : List Nat} {t : List UInt8} {s : Nat} {w0 : World} (u0 : U32 w0 A0 n0 c0 xs0) (hn0 : n0 ≤ 600) (hT : Deb w0) (ht4 : t.length ≤ 4000) (hs : s ≤ 65536) (hne : t ≠ []) (hok : ∀ j, j < t.length → ¬ BadAt t j) (hX : val 4294967296 xs0 = 0) :
    Calls Tryd.prog 13 #[.slice A0 n0 c0, .string ⟨t.toArray⟩, .int .i64 (s : Nat)] w0 fun e w' => e = .returned (.bool true) ∧ Below w0.heap.size w0 w' := by
  obtain ⟨X, hX0⟩ : ∃ z, val 4294967296 xs0 = z := ⟨_, rfl⟩
  have hl0 : nl X ≤ n0 := hX0 ▸ nl_val u0
  have hxl0 := u0.len
  have hbX := blen_nl X
  have htx := textN_bd X
  have hX00 : X = 0 := hX0 ▸ hX
  have htn : nl (numOf t) ≤ 65536 := nl_numOf (fun c hc => (digits_of hok c hc).2) (by omega)
  refine enter Tryd.func13 rfl Tryd.ntmps13 rfl ?_
  intro a henv hst
  replace hst := (hst.addU u0 trivial)
  clear u0
  replace hst := hst.addT hT hT
  refine wp_seq ?_
  refine region_seq ?_
  refine seq_step rfl (op_val (v := .bool false) henv rfl (rn_assign henv rfl) ?_)
  clear henv a; intro a henv
  refine wpList_nil ?_
  refine th_n ?_
  refine wp_seq ?_
  refine wp_seq ?_
  refine region_seq ?_
  refine seq_step rfl (op_call henv rfl Tryd.call32 rfl (works_true _) ?_)
  rintro e w1 ⟨rfl, hb⟩
  refine ⟨_, rfl, ?_⟩
  clear henv a; intro a henv
  replace hst := hst.call hb
  clear hb
  refine seq_step rfl (op_val (v := .bool false) henv rfl (rn_un henv rfl rfl) ?_)
  clear henv a; intro a henv
  refine wpList_nil ?_
  refine th_n ?_
  refine if_f henv rfl (rfl) ?_
  refine wp_skip ?_
  refine th_n ?_
  refine wp_seq ?_
  refine wp_seq ?_
  refine region_seq ?_
  refine seq_step rfl (op_val (v := .slice A0 n0 c0) henv rfl (rn_move henv rfl) ?_)
  clear henv a; intro a henv
  refine seq_step rfl (op_val (v := .int .i64 (n0 : Nat)) henv rfl (rn_len henv Tryd.underlying22 rfl) ?_)
  clear henv a; intro a henv
  refine seq_step rfl (op_val (v := .bool (decide (((n0 : Nat) : Int) > (600 : Int)))) henv rfl (rn_bin henv rfl rfl rfl) ?_)
  clear henv a; intro a henv
  rw [show (decide (((n0 : Nat) : Int) > (600 : Int))) = false from decide_eq_false (by omega)] at henv
  refine seq_step rfl (op_val (v := .bool false) henv rfl (rn_move henv rfl) ?_)
  clear henv a; intro a henv
  refine seq_g rfl henv rfl rfl (op_val (v := .string ⟨t.toArray⟩) henv rfl (rn_move henv rfl) ?_)
  clear henv a; intro a henv
  refine seq_g rfl henv rfl rfl (op_val (v := .int .i64 (t.length : Nat)) henv rfl (rn_lenS henv Tryd.underlying9 rfl) ?_)
  clear henv a; intro a henv
  refine seq_g rfl henv rfl rfl (op_val (v := .bool (decide (((t.length : Nat) : Int) > (4000 : Int)))) henv rfl (rn_bin henv rfl rfl rfl) ?_)
  clear henv a; intro a henv
  rw [show (decide (((t.length : Nat) : Int) > (4000 : Int))) = false from decide_eq_false (by omega)] at henv
  refine seq_step rfl (op_val (v := .bool false) henv rfl (rn_pick henv rfl rfl) ?_)
  clear henv a; intro a henv
  refine seq_step rfl (op_val (v := .bool false) henv rfl (rn_move henv rfl) ?_)
  clear henv a; intro a henv
  refine seq_g rfl henv rfl rfl (op_val (v := .int .i64 (s : Nat)) henv rfl (rn_move henv rfl) ?_)
  clear henv a; intro a henv
  refine seq_g rfl henv rfl rfl (op_val (v := .bool (decide (((s : Nat) : Int) < (0 : Int)))) henv rfl (rn_bin henv rfl rfl rfl) ?_)
  clear henv a; intro a henv
  rw [show (decide (((s : Nat) : Int) < (0 : Int))) = false from decide_eq_false (by omega)] at henv
  refine seq_step rfl (op_val (v := .bool false) henv rfl (rn_pick henv rfl rfl) ?_)
  clear henv a; intro a henv
  refine seq_step rfl (op_val (v := .bool false) henv rfl (rn_move henv rfl) ?_)
  clear henv a; intro a henv
  refine seq_g rfl henv rfl rfl (op_val (v := .int .i64 (s : Nat)) henv rfl (rn_move henv rfl) ?_)
  clear henv a; intro a henv
  refine seq_g rfl henv rfl rfl (op_val (v := .bool (decide (((s : Nat) : Int) > (65536 : Int)))) henv rfl (rn_bin henv rfl rfl rfl) ?_)
  clear henv a; intro a henv
  rw [show (decide (((s : Nat) : Int) > (65536 : Int))) = false from decide_eq_false (by omega)] at henv
  refine seq_step rfl (op_val (v := .bool false) henv rfl (rn_pick henv rfl rfl) ?_)
  clear henv a; intro a henv
  refine wpList_nil ?_
  refine th_n ?_
  refine if_f henv rfl (rfl) ?_
  refine wp_skip ?_
  refine th_n ?_
  refine wp_seq ?_
  refine region_seq ?_
  refine seq_step rfl (op_val (v := .slice A0 n0 c0) henv rfl (rn_move henv rfl) ?_)
  clear henv a; intro a henv
  refine seq_step rfl (op_call henv rfl Tryd.call66 rfl (text_num (N := X) ⟨_, (show U32 _ A0 n0 c0 xs0 from hst.pat (k := 1) rfl), hX0⟩ (by omega)) ?_)
  rintro e w2 ⟨rfl, hb⟩
  refine ⟨_, rfl, ?_⟩
  clear henv a; intro a henv
  replace hst := hst.call hb
  clear hb
  refine seq_step rfl (op_call henv rfl Tryd.call65 rfl (read_textN (N := X) (by omega)) ?_)
  rintro e w5 ⟨_, rfl, ⟨A3, c4, rfl, hU, hA⟩, hb⟩
  refine ⟨_, rfl, ?_⟩
  clear henv a; intro a henv
  replace hst := hst.freshU hb hU hA
  clear hU
  clear hA
  clear hb
  refine seq_step rfl (op_val (v := .tuple #[.slice A3 (nl X) c4, .agg #[.int .i64 0, .int .i64 0]]) henv rfl (rn_move henv rfl) ?_)
  clear henv a; intro a henv
  refine seq_step rfl (op_val (v := .slice A3 (nl X) c4) henv rfl (rn_extract henv rfl rfl) ?_)
  clear henv a; intro a henv
  refine seq_step rfl (op_val (v := .agg #[.int .i64 0, .int .i64 0]) henv rfl (rn_extract henv rfl rfl) ?_)
  clear henv a; intro a henv
  refine seq_step rfl (op_alloc (c := #[.int .i64 0, .int .i64 0]) henv hst rfl zero_anvil_api_Spot rfl ?_)
  clear henv hst a; intro a w7 g6 henv hst
  refine seq_step rfl (op_val (v := .slice A3 (nl X) c4) henv rfl (rn_assign henv rfl) ?_)
  clear henv a; intro a henv
  refine seq_step rfl (op_store (k := 0) (c' := #[.int .i64 0, .int .i64 0]) henv hst (ty_anvil_api_Spot.size) rfl rfl rfl rfl (by simp) rfl rfl ?_)
  clear henv hst a; intro a w8 henv hst
  refine wpList_nil ?_
  refine th_n ?_
  refine wp_seq ?_
  refine wp_seq ?_
  refine region_seq ?_
  refine seq_step rfl (op_val (v := .agg #[.int .i64 0, .int .i64 0]) henv rfl (rn_load0 henv ty_anvil_api_Spot rfl (hst.oat (k := 0) rfl) rfl) ?_)
  clear henv a; intro a henv
  refine seq_step rfl (op_val (v := .agg #[.int .i64 0, .int .i64 0]) henv rfl (rn_spot0) ?_)
  clear henv a; intro a henv
  refine seq_step rfl (op_val (v := .bool (!decide ([(0 : Int), (0 : Int)] = [(0 : Int), (0 : Int)]))) henv rfl (rn_neqI [(0 : Int), (0 : Int)] [(0 : Int), (0 : Int)] henv spotI rfl rfl rfl rfl) ?_)
  clear henv a; intro a henv
  rw [show (!decide ([(0 : Int), (0 : Int)] = [(0 : Int), (0 : Int)])) = false from rfl] at henv
  refine seq_step rfl (op_val (v := .bool false) henv rfl (rn_move henv rfl) ?_)
  clear henv a; intro a henv
  refine seq_g rfl henv rfl rfl (op_val (v := .slice A3 (nl X) c4) henv rfl (rn_move henv rfl) ?_)
  clear henv a; intro a henv
  refine seq_g rfl henv rfl rfl (op_val (v := .slice A0 n0 c0) henv rfl (rn_move henv rfl) ?_)
  clear henv a; intro a henv
  refine seq_g rfl henv rfl rfl (op_call henv rfl Tryd.call34 rfl (norm_num (N := X) ⟨_, (show U32 _ A0 n0 c0 xs0 from hst.pat (k := 2) rfl), hX0⟩ (by omega)) ?_)
  rintro e w11 ⟨_, rfl, ⟨A9, c10, rfl, hU, hA⟩, hb⟩
  refine ⟨_, rfl, ?_⟩
  clear henv a; intro a henv
  replace hst := hst.freshU hb hU hA
  clear hU
  clear hA
  clear hb
  refine seq_g rfl henv rfl rfl (op_call henv rfl Tryd.call36 rfl (equal_u (show U32 _ A3 (nl X) c4 (L X) from hst.pat (k := 1) rfl) (show U32 _ A9 (nl X) c10 (L X) from hst.pat (k := 0) rfl)) ?_)
  rintro e w12 ⟨rfl, hb⟩
  refine ⟨_, rfl, ?_⟩
  clear henv a; intro a henv
  replace hst := hst.call hb
  clear hb
  rw [show (decide ((L X) = (L X))) = true from by rw [L_dec]; exact decide_eq_true (by rfl)] at henv
  refine seq_g rfl henv rfl rfl (op_val (v := .bool false) henv rfl (rn_un henv rfl rfl) ?_)
  clear henv a; intro a henv
  refine seq_step rfl (op_val (v := .bool false) henv rfl (rn_pick henv rfl rfl) ?_)
  clear henv a; intro a henv
  refine wpList_nil ?_
  refine th_n ?_
  refine if_f henv rfl (rfl) ?_
  refine wp_skip ?_
  refine th_n ?_
  refine wp_seq ?_
  refine region_seq ?_
  refine seq_step rfl (op_val (v := .string ⟨t.toArray⟩) henv rfl (rn_move henv rfl) ?_)
  clear henv a; intro a henv
  refine seq_step rfl (op_call henv rfl Tryd.call65 rfl (read_ok (l := t) (by omega) hne hok) ?_)
  rintro e w15 ⟨_, rfl, ⟨A13, c14, rfl, hU, hA⟩, hb⟩
  refine ⟨_, rfl, ?_⟩
  clear henv a; intro a henv
  replace hst := hst.freshU hb hU hA
  clear hU
  clear hA
  clear hb
  refine seq_step rfl (op_val (v := .tuple #[.slice A13 (nl (numOf t)) c14, .agg #[.int .i64 0, .int .i64 0]]) henv rfl (rn_move henv rfl) ?_)
  clear henv a; intro a henv
  refine seq_step rfl (op_val (v := .slice A13 (nl (numOf t)) c14) henv rfl (rn_extract henv rfl rfl) ?_)
  clear henv a; intro a henv
  refine seq_step rfl (op_val (v := .agg #[.int .i64 0, .int .i64 0]) henv rfl (rn_extract henv rfl rfl) ?_)
  clear henv a; intro a henv
  refine seq_step rfl (op_val (v := .slice A13 (nl (numOf t)) c14) henv rfl (rn_assign henv rfl) ?_)
  clear henv a; intro a henv
  refine seq_step rfl (op_store (k := 0) (c' := #[.int .i64 0, .int .i64 0]) henv hst (ty_anvil_api_Spot.size) rfl rfl rfl rfl (by simp) rfl rfl ?_)
  clear henv hst a; intro a w16 henv hst
  refine wpList_nil ?_
  refine th_n ?_
  refine wp_seq ?_
  refine wp_seq ?_
  refine region_seq ?_
  refine seq_step rfl (op_val (v := .agg #[.int .i64 0, .int .i64 0]) henv rfl (rn_load0 henv ty_anvil_api_Spot rfl (hst.oat (k := 0) rfl) rfl) ?_)
  clear henv a; intro a henv
  refine seq_step rfl (op_val (v := .agg #[.int .i64 0, .int .i64 0]) henv rfl (rn_spot0) ?_)
  clear henv a; intro a henv
  refine seq_step rfl (op_val (v := .bool (decide ([(0 : Int), (0 : Int)] = [(0 : Int), (0 : Int)]))) henv rfl (rn_eqlI [(0 : Int), (0 : Int)] [(0 : Int), (0 : Int)] henv spotI rfl rfl rfl rfl) ?_)
  clear henv a; intro a henv
  rw [show (decide ([(0 : Int), (0 : Int)] = [(0 : Int), (0 : Int)])) = true from rfl] at henv
  refine seq_step rfl (op_val (v := .bool true) henv rfl (rn_move henv rfl) ?_)
  clear henv a; intro a henv
  refine seq_g rfl henv rfl rfl (op_val (v := .slice A13 (nl (numOf t)) c14) henv rfl (rn_move henv rfl) ?_)
  clear henv a; intro a henv
  refine seq_g rfl henv rfl rfl (op_call henv rfl Tryd.call66 rfl (text_num (N := (numOf t)) ⟨_, (show U32 _ A13 (nl (numOf t)) c14 (L (numOf t)) from hst.pat (k := 0) rfl), (val_L _)⟩ (by omega)) ?_)
  rintro e w17 ⟨rfl, hb⟩
  refine ⟨_, rfl, ?_⟩
  clear henv a; intro a henv
  replace hst := hst.call hb
  clear hb
  refine seq_g rfl henv rfl rfl (op_val (v := .string ⟨t.toArray⟩) henv rfl (rn_move henv rfl) ?_)
  clear henv a; intro a henv
  refine seq_g rfl henv rfl rfl (op_val (v := .bool (!decide ((textN (numOf t)) = t))) henv rfl (rn_neqs (s := (textN (numOf t))) (t := t) henv rfl rfl) ?_)
  clear henv a; intro a henv
  rw [show (!decide ((textN (numOf t)) = t)) = false from (by rw [textN_numOf _ t rfl hne hok]; simp)] at henv
  refine seq_step rfl (op_val (v := .bool false) henv rfl (rn_pick henv rfl rfl) ?_)
  clear henv a; intro a henv
  refine wpList_nil ?_
  refine th_n ?_
  refine if_f henv rfl (rfl) ?_
  refine wp_skip ?_
  refine th_n ?_
  refine wp_seq ?_
  refine region_seq ?_
  refine seq_step rfl (op_val (v := .slice A0 n0 c0) henv rfl (rn_move henv rfl) ?_)
  clear henv a; intro a henv
  refine seq_step rfl (op_val (v := .int .i64 (s : Nat)) henv rfl (rn_move henv rfl) ?_)
  clear henv a; intro a henv
  have hs20 := nl_shl X s
  refine seq_step rfl (op_call henv rfl Tryd.call55 rfl (shl_num (N := X) (s := s) ⟨_, (show U32 _ A0 n0 c0 xs0 from hst.pat (k := 4) rfl), hX0⟩ (by omega) (by omega)) ?_)
  rintro e w21 ⟨_, rfl, ⟨A18, c19, rfl, hU, hA⟩, hb⟩
  refine ⟨_, rfl, ?_⟩
  clear henv a; intro a henv
  replace hst := hst.freshU hb hU hA
  clear hU
  clear hA
  clear hb
  refine seq_step rfl (op_val (v := .tuple #[.slice A18 (nl (X * 2 ^ s)) c19, .int .i64 0]) henv rfl (rn_move henv rfl) ?_)
  clear henv a; intro a henv
  refine seq_step rfl (op_val (v := .slice A18 (nl (X * 2 ^ s)) c19) henv rfl (rn_extract henv rfl rfl) ?_)
  clear henv a; intro a henv
  refine seq_step rfl (op_val (v := .int .i64 0) henv rfl (rn_extract henv rfl rfl) ?_)
  clear henv a; intro a henv
  refine seq_step rfl (op_val (v := .slice A18 (nl (X * 2 ^ s)) c19) henv rfl (rn_assign henv rfl) ?_)
  clear henv a; intro a henv
  refine seq_step rfl (op_val (v := .int .i64 0) henv rfl (rn_assign henv rfl) ?_)
  clear henv a; intro a henv
  refine wpList_nil ?_
  refine th_n ?_
  refine wp_seq ?_
  refine region_seq ?_
  refine seq_step rfl (op_val (v := .slice A18 (nl (X * 2 ^ s)) c19) henv rfl (rn_move henv rfl) ?_)
  clear henv a; intro a henv
  refine seq_step rfl (op_val (v := .int .i64 (s : Nat)) henv rfl (rn_move henv rfl) ?_)
  clear henv a; intro a henv
  have hs24 := nl_div (X * 2 ^ s) (2 ^ s)
  refine seq_step rfl (op_call henv rfl Tryd.call56 rfl (shr_num (N := (X * 2 ^ s)) (s := s) ⟨_, (show U32 _ A18 (nl (X * 2 ^ s)) c19 (L (X * 2 ^ s)) from hst.pat (k := 0) rfl), (val_L _)⟩ (by omega) (by omega)) ?_)
  rintro e w25 ⟨_, rfl, ⟨A22, c23, rfl, hU, hA⟩, hb⟩
  refine ⟨_, rfl, ?_⟩
  clear henv a; intro a henv
  replace hst := hst.freshU hb hU hA
  clear hU
  clear hA
  clear hb
  refine seq_step rfl (op_val (v := .tuple #[.slice A22 (nl ((X * 2 ^ s) / 2 ^ s)) c23, .int .i64 0]) henv rfl (rn_move henv rfl) ?_)
  clear henv a; intro a henv
  refine seq_step rfl (op_val (v := .slice A22 (nl ((X * 2 ^ s) / 2 ^ s)) c23) henv rfl (rn_extract henv rfl rfl) ?_)
  clear henv a; intro a henv
  refine seq_step rfl (op_val (v := .int .i64 0) henv rfl (rn_extract henv rfl rfl) ?_)
  clear henv a; intro a henv
  refine seq_step rfl (op_val (v := .slice A22 (nl ((X * 2 ^ s) / 2 ^ s)) c23) henv rfl (rn_assign henv rfl) ?_)
  clear henv a; intro a henv
  refine seq_step rfl (op_val (v := .int .i64 0) henv rfl (rn_assign henv rfl) ?_)
  clear henv a; intro a henv
  refine wpList_nil ?_
  refine th_n ?_
  refine wp_seq ?_
  refine wp_seq ?_
  refine region_seq ?_
  refine seq_step rfl (op_val (v := .int .i64 0) henv rfl (rn_move henv rfl) ?_)
  clear henv a; intro a henv
  refine seq_step rfl (op_val (v := .bool false) henv rfl (rn_bin henv rfl rfl rfl) ?_)
  clear henv a; intro a henv
  refine seq_step rfl (op_val (v := .bool false) henv rfl (rn_move henv rfl) ?_)
  clear henv a; intro a henv
  refine seq_g rfl henv rfl rfl (op_val (v := .int .i64 0) henv rfl (rn_move henv rfl) ?_)
  clear henv a; intro a henv
  refine seq_g rfl henv rfl rfl (op_val (v := .bool false) henv rfl (rn_bin henv rfl rfl rfl) ?_)
  clear henv a; intro a henv
  refine seq_step rfl (op_val (v := .bool false) henv rfl (rn_pick henv rfl rfl) ?_)
  clear henv a; intro a henv
  refine seq_step rfl (op_val (v := .bool false) henv rfl (rn_move henv rfl) ?_)
  clear henv a; intro a henv
  refine seq_g rfl henv rfl rfl (op_val (v := .slice A22 (nl ((X * 2 ^ s) / 2 ^ s)) c23) henv rfl (rn_move henv rfl) ?_)
  clear henv a; intro a henv
  refine seq_g rfl henv rfl rfl (op_val (v := .slice A0 n0 c0) henv rfl (rn_move henv rfl) ?_)
  clear henv a; intro a henv
  refine seq_g rfl henv rfl rfl (op_call henv rfl Tryd.call34 rfl (norm_num (N := X) ⟨_, (show U32 _ A0 n0 c0 xs0 from hst.pat (k := 6) rfl), hX0⟩ (by omega)) ?_)
  rintro e w28 ⟨_, rfl, ⟨A26, c27, rfl, hU, hA⟩, hb⟩
  refine ⟨_, rfl, ?_⟩
  clear henv a; intro a henv
  replace hst := hst.freshU hb hU hA
  clear hU
  clear hA
  clear hb
  refine seq_g rfl henv rfl rfl (op_call henv rfl Tryd.call36 rfl (equal_u (show U32 _ A22 (nl ((X * 2 ^ s) / 2 ^ s)) c23 (L ((X * 2 ^ s) / 2 ^ s)) from hst.pat (k := 1) rfl) (show U32 _ A26 (nl X) c27 (L X) from hst.pat (k := 0) rfl)) ?_)
  rintro e w29 ⟨rfl, hb⟩
  refine ⟨_, rfl, ?_⟩
  clear henv a; intro a henv
  replace hst := hst.call hb
  clear hb
  rw [show (decide ((L ((X * 2 ^ s) / 2 ^ s)) = (L X))) = true from by rw [L_dec]; exact decide_eq_true (by exact Nat.mul_div_cancel _ (Nat.pow_pos (by decide)))] at henv
  refine seq_g rfl henv rfl rfl (op_val (v := .bool false) henv rfl (rn_un henv rfl rfl) ?_)
  clear henv a; intro a henv
  refine seq_step rfl (op_val (v := .bool false) henv rfl (rn_pick henv rfl rfl) ?_)
  clear henv a; intro a henv
  refine wpList_nil ?_
  refine th_n ?_
  refine if_f henv rfl (rfl) ?_
  refine wp_skip ?_
  refine th_n ?_
  refine wp_seq ?_
  refine wp_seq ?_
  refine region_seq ?_
  refine seq_step rfl (op_val (v := .slice A22 (nl ((X * 2 ^ s) / 2 ^ s)) c23) henv rfl (rn_move henv rfl) ?_)
  clear henv a; intro a henv
  refine seq_step rfl (op_val (v := .int .i64 (nl ((X * 2 ^ s) / 2 ^ s) : Nat)) henv rfl (rn_len henv Tryd.underlying22 rfl) ?_)
  clear henv a; intro a henv
  refine seq_step rfl (op_val (v := .bool (((nl ((X * 2 ^ s) / 2 ^ s) : Nat) : Int) == (0 : Int))) henv rfl (rn_bin henv rfl rfl rfl) ?_)
  clear henv a; intro a henv
  rw [show (((nl ((X * 2 ^ s) / 2 ^ s) : Nat) : Int) == (0 : Int)) = true from by rw [hX00]; simp [nl_zero]] at henv
  refine wpList_nil ?_
  refine th_n ?_
  refine if_t henv rfl (rfl) ?_
  refine wp_seq ?_
  refine region_seq ?_
  refine seq_step rfl (op_val (v := .slice A18 (nl (X * 2 ^ s)) c19) henv rfl (rn_move henv rfl) ?_)
  clear henv a; intro a henv
  refine seq_step rfl (op_val (v := .int .i64 (nl (X * 2 ^ s) : Nat)) henv rfl (rn_len henv Tryd.underlying22 rfl) ?_)
  clear henv a; intro a henv
  refine seq_step rfl (op_val (v := .bool (((nl (X * 2 ^ s) : Nat) : Int) == (0 : Int))) henv rfl (rn_bin henv rfl rfl rfl) ?_)
  clear henv a; intro a henv
  rw [show (((nl (X * 2 ^ s) : Nat) : Int) == (0 : Int)) = true from by rw [hX00]; simp [nl_zero]] at henv
  refine seq_step rfl (op_val (v := .bool true) henv rfl (rn_assign henv rfl) ?_)
  clear henv a; intro a henv
  refine wpList_nil ?_
  refine th_n ?_
  refine wp_ret ?_
  refine th_r ?_
  refine leave henv (res1 Tryd.results13 (RV.tmp henv rfl)) ?_
  exact ⟨rfl, hst.below⟩

set_option maxRecDepth 100000 in
set_option maxHeartbeats 4000000 in
theorem back_s0_empty {A0 : Option Addr} {n0 c0 : Nat} {xs0 : List Nat} {t : List UInt8} {w0 : World} (u0 : U32 w0 A0 n0 c0 xs0) (hn0 : n0 ≤ 600) (hT : Deb w0) (_ht4 : t.length ≤ 4000) (ht : t = []) (hX : val 4294967296 xs0 ≠ 0) :
    Calls Tryd.prog 13 #[.slice A0 n0 c0, .string ⟨t.toArray⟩, .int .i64 0] w0 fun e w' => e = .returned (.bool true) ∧ Below w0.heap.size w0 w' := by
  obtain ⟨X, hX0⟩ : ∃ z, val 4294967296 xs0 = z := ⟨_, rfl⟩
  have hl0 : nl X ≤ n0 := hX0 ▸ nl_val u0
  have hxl0 := u0.len
  have hbX := blen_nl X
  have htx := textN_bd X
  have hX00 : X ≠ 0 := hX0 ▸ hX
  have hbS := blen_nl (X * 2 ^ 0)
  have hnS := nl_shl X 0
  have hnq : nl (X * 2 ^ 0 / 2 ^ 0) ≤ nl X := by rw [Nat.mul_div_cancel _ (Nat.pow_pos (by decide))]; exact Nat.le_refl _
  have htl0 : t.length = 0 := by rw [ht]; rfl
  refine enter Tryd.func13 rfl Tryd.ntmps13 rfl ?_
  intro a henv hst
  replace hst := (hst.addU u0 trivial)
  clear u0
  replace hst := hst.addT hT hT
  refine wp_seq ?_
  refine region_seq ?_
  refine seq_step rfl (op_val (v := .bool false) henv rfl (rn_assign henv rfl) ?_)
  clear henv a; intro a henv
  refine wpList_nil ?_
  refine th_n ?_
  refine wp_seq ?_
  refine wp_seq ?_
  refine region_seq ?_
  refine seq_step rfl (op_call henv rfl Tryd.call32 rfl (works_true _) ?_)
  rintro e w1 ⟨rfl, hb⟩
  refine ⟨_, rfl, ?_⟩
  clear henv a; intro a henv
  replace hst := hst.call hb
  clear hb
  refine seq_step rfl (op_val (v := .bool false) henv rfl (rn_un henv rfl rfl) ?_)
  clear henv a; intro a henv
  refine wpList_nil ?_
  refine th_n ?_
  refine if_f henv rfl (rfl) ?_
  refine wp_skip ?_
  refine th_n ?_
  refine wp_seq ?_
  refine wp_seq ?_
  refine region_seq ?_
  refine seq_step rfl (op_val (v := .slice A0 n0 c0) henv rfl (rn_move henv rfl) ?_)
  clear henv a; intro a henv
  refine seq_step rfl (op_val (v := .int .i64 (n0 : Nat)) henv rfl (rn_len henv Tryd.underlying22 rfl) ?_)
  clear henv a; intro a henv
  refine seq_step rfl (op_val (v := .bool (decide (((n0 : Nat) : Int) > (600 : Int)))) henv rfl (rn_bin henv rfl rfl rfl) ?_)
  clear henv a; intro a henv
  rw [show (decide (((n0 : Nat) : Int) > (600 : Int))) = false from decide_eq_false (by omega)] at henv
  refine seq_step rfl (op_val (v := .bool false) henv rfl (rn_move henv rfl) ?_)
  clear henv a; intro a henv
  refine seq_g rfl henv rfl rfl (op_val (v := .string ⟨t.toArray⟩) henv rfl (rn_move henv rfl) ?_)
  clear henv a; intro a henv
  refine seq_g rfl henv rfl rfl (op_val (v := .int .i64 (t.length : Nat)) henv rfl (rn_lenS henv Tryd.underlying9 rfl) ?_)
  clear henv a; intro a henv
  refine seq_g rfl henv rfl rfl (op_val (v := .bool (decide (((t.length : Nat) : Int) > (4000 : Int)))) henv rfl (rn_bin henv rfl rfl rfl) ?_)
  clear henv a; intro a henv
  rw [show (decide (((t.length : Nat) : Int) > (4000 : Int))) = false from decide_eq_false (by omega)] at henv
  refine seq_step rfl (op_val (v := .bool false) henv rfl (rn_pick henv rfl rfl) ?_)
  clear henv a; intro a henv
  refine seq_step rfl (op_val (v := .bool false) henv rfl (rn_move henv rfl) ?_)
  clear henv a; intro a henv
  refine seq_g rfl henv rfl rfl (op_val (v := .int .i64 0) henv rfl (rn_move henv rfl) ?_)
  clear henv a; intro a henv
  refine seq_g rfl henv rfl rfl (op_val (v := .bool false) henv rfl (rn_bin henv rfl rfl rfl) ?_)
  clear henv a; intro a henv
  refine seq_step rfl (op_val (v := .bool false) henv rfl (rn_pick henv rfl rfl) ?_)
  clear henv a; intro a henv
  refine seq_step rfl (op_val (v := .bool false) henv rfl (rn_move henv rfl) ?_)
  clear henv a; intro a henv
  refine seq_g rfl henv rfl rfl (op_val (v := .int .i64 0) henv rfl (rn_move henv rfl) ?_)
  clear henv a; intro a henv
  refine seq_g rfl henv rfl rfl (op_val (v := .bool false) henv rfl (rn_bin henv rfl rfl rfl) ?_)
  clear henv a; intro a henv
  refine seq_step rfl (op_val (v := .bool false) henv rfl (rn_pick henv rfl rfl) ?_)
  clear henv a; intro a henv
  refine wpList_nil ?_
  refine th_n ?_
  refine if_f henv rfl (rfl) ?_
  refine wp_skip ?_
  refine th_n ?_
  refine wp_seq ?_
  refine region_seq ?_
  refine seq_step rfl (op_val (v := .slice A0 n0 c0) henv rfl (rn_move henv rfl) ?_)
  clear henv a; intro a henv
  refine seq_step rfl (op_call henv rfl Tryd.call66 rfl (text_num (N := X) ⟨_, (show U32 _ A0 n0 c0 xs0 from hst.pat (k := 1) rfl), hX0⟩ (by omega)) ?_)
  rintro e w2 ⟨rfl, hb⟩
  refine ⟨_, rfl, ?_⟩
  clear henv a; intro a henv
  replace hst := hst.call hb
  clear hb
  refine seq_step rfl (op_call henv rfl Tryd.call65 rfl (read_textN (N := X) (by omega)) ?_)
  rintro e w5 ⟨_, rfl, ⟨A3, c4, rfl, hU, hA⟩, hb⟩
  refine ⟨_, rfl, ?_⟩
  clear henv a; intro a henv
  replace hst := hst.freshU hb hU hA
  clear hU
  clear hA
  clear hb
  refine seq_step rfl (op_val (v := .tuple #[.slice A3 (nl X) c4, .agg #[.int .i64 0, .int .i64 0]]) henv rfl (rn_move henv rfl) ?_)
  clear henv a; intro a henv
  refine seq_step rfl (op_val (v := .slice A3 (nl X) c4) henv rfl (rn_extract henv rfl rfl) ?_)
  clear henv a; intro a henv
  refine seq_step rfl (op_val (v := .agg #[.int .i64 0, .int .i64 0]) henv rfl (rn_extract henv rfl rfl) ?_)
  clear henv a; intro a henv
  refine seq_step rfl (op_alloc (c := #[.int .i64 0, .int .i64 0]) henv hst rfl zero_anvil_api_Spot rfl ?_)
  clear henv hst a; intro a w7 g6 henv hst
  refine seq_step rfl (op_val (v := .slice A3 (nl X) c4) henv rfl (rn_assign henv rfl) ?_)
  clear henv a; intro a henv
  refine seq_step rfl (op_store (k := 0) (c' := #[.int .i64 0, .int .i64 0]) henv hst (ty_anvil_api_Spot.size) rfl rfl rfl rfl (by simp) rfl rfl ?_)
  clear henv hst a; intro a w8 henv hst
  refine wpList_nil ?_
  refine th_n ?_
  refine wp_seq ?_
  refine wp_seq ?_
  refine region_seq ?_
  refine seq_step rfl (op_val (v := .agg #[.int .i64 0, .int .i64 0]) henv rfl (rn_load0 henv ty_anvil_api_Spot rfl (hst.oat (k := 0) rfl) rfl) ?_)
  clear henv a; intro a henv
  refine seq_step rfl (op_val (v := .agg #[.int .i64 0, .int .i64 0]) henv rfl (rn_spot0) ?_)
  clear henv a; intro a henv
  refine seq_step rfl (op_val (v := .bool (!decide ([(0 : Int), (0 : Int)] = [(0 : Int), (0 : Int)]))) henv rfl (rn_neqI [(0 : Int), (0 : Int)] [(0 : Int), (0 : Int)] henv spotI rfl rfl rfl rfl) ?_)
  clear henv a; intro a henv
  rw [show (!decide ([(0 : Int), (0 : Int)] = [(0 : Int), (0 : Int)])) = false from rfl] at henv
  refine seq_step rfl (op_val (v := .bool false) henv rfl (rn_move henv rfl) ?_)
  clear henv a; intro a henv
  refine seq_g rfl henv rfl rfl (op_val (v := .slice A3 (nl X) c4) henv rfl (rn_move henv rfl) ?_)
  clear henv a; intro a henv
  refine seq_g rfl henv rfl rfl (op_val (v := .slice A0 n0 c0) henv rfl (rn_move henv rfl) ?_)
  clear henv a; intro a henv
  refine seq_g rfl henv rfl rfl (op_call henv rfl Tryd.call34 rfl (norm_num (N := X) ⟨_, (show U32 _ A0 n0 c0 xs0 from hst.pat (k := 2) rfl), hX0⟩ (by omega)) ?_)
  rintro e w11 ⟨_, rfl, ⟨A9, c10, rfl, hU, hA⟩, hb⟩
  refine ⟨_, rfl, ?_⟩
  clear henv a; intro a henv
  replace hst := hst.freshU hb hU hA
  clear hU
  clear hA
  clear hb
  refine seq_g rfl henv rfl rfl (op_call henv rfl Tryd.call36 rfl (equal_u (show U32 _ A3 (nl X) c4 (L X) from hst.pat (k := 1) rfl) (show U32 _ A9 (nl X) c10 (L X) from hst.pat (k := 0) rfl)) ?_)
  rintro e w12 ⟨rfl, hb⟩
  refine ⟨_, rfl, ?_⟩
  clear henv a; intro a henv
  replace hst := hst.call hb
  clear hb
  rw [show (decide ((L X) = (L X))) = true from by rw [L_dec]; exact decide_eq_true (by rfl)] at henv
  refine seq_g rfl henv rfl rfl (op_val (v := .bool false) henv rfl (rn_un henv rfl rfl) ?_)
  clear henv a; intro a henv
  refine seq_step rfl (op_val (v := .bool false) henv rfl (rn_pick henv rfl rfl) ?_)
  clear henv a; intro a henv
  refine wpList_nil ?_
  refine th_n ?_
  refine if_f henv rfl (rfl) ?_
  refine wp_skip ?_
  refine th_n ?_
  refine wp_seq ?_
  refine region_seq ?_
  refine seq_step rfl (op_val (v := .string ⟨t.toArray⟩) henv rfl (rn_move henv rfl) ?_)
  clear henv a; intro a henv
  refine seq_step rfl (op_call henv rfl Tryd.call65 rfl (read_empty ht) ?_)
  rintro e w13 ⟨rfl, hb⟩
  refine ⟨_, rfl, ?_⟩
  clear henv a; intro a henv
  replace hst := hst.call hb
  clear hb
  refine seq_step rfl (op_val (v := .tuple #[.slice none 0 0, .agg #[.int .i64 6, .int .i64 0]]) henv rfl (rn_move henv rfl) ?_)
  clear henv a; intro a henv
  refine seq_step rfl (op_val (v := .slice none 0 0) henv rfl (rn_extract henv rfl rfl) ?_)
  clear henv a; intro a henv
  refine seq_step rfl (op_val (v := .agg #[.int .i64 6, .int .i64 0]) henv rfl (rn_extract henv rfl rfl) ?_)
  clear henv a; intro a henv
  refine seq_step rfl (op_val (v := .slice none 0 0) henv rfl (rn_assign henv rfl) ?_)
  clear henv a; intro a henv
  refine seq_step rfl (op_store (k := 0) (c' := #[.int .i64 6, .int .i64 0]) henv hst (ty_anvil_api_Spot.size) rfl rfl rfl rfl (by simp) rfl rfl ?_)
  clear henv hst a; intro a w14 henv hst
  refine wpList_nil ?_
  refine th_n ?_
  refine wp_seq ?_
  refine wp_seq ?_
  refine region_seq ?_
  refine seq_step rfl (op_val (v := .agg #[.int .i64 6, .int .i64 0]) henv rfl (rn_load0 henv ty_anvil_api_Spot rfl (hst.oat (k := 0) rfl) rfl) ?_)
  clear henv a; intro a henv
  refine seq_step rfl (op_val (v := .agg #[.int .i64 0, .int .i64 0]) henv rfl (rn_spot0) ?_)
  clear henv a; intro a henv
  refine seq_step rfl (op_val (v := .bool (decide ([(6 : Int), (0 : Int)] = [(0 : Int), (0 : Int)]))) henv rfl (rn_eqlI [(6 : Int), (0 : Int)] [(0 : Int), (0 : Int)] henv spotI rfl rfl rfl rfl) ?_)
  clear henv a; intro a henv
  rw [show (decide ([(6 : Int), (0 : Int)] = [(0 : Int), (0 : Int)])) = false from spot_eq _] at henv
  refine seq_step rfl (op_val (v := .bool false) henv rfl (rn_move henv rfl) ?_)
  clear henv a; intro a henv
  refine seq_skip rfl henv rfl rfl rfl rfl ?_
  clear henv a; intro a henv
  refine seq_skip rfl henv rfl rfl rfl rfl ?_
  clear henv a; intro a henv
  refine seq_skip rfl henv rfl rfl rfl rfl ?_
  clear henv a; intro a henv
  refine seq_skip rfl henv rfl rfl rfl rfl ?_
  clear henv a; intro a henv
  refine seq_step rfl (op_val (v := .bool false) henv rfl (rn_pick henv rfl rfl) ?_)
  clear henv a; intro a henv
  refine wpList_nil ?_
  refine th_n ?_
  refine if_f henv rfl (rfl) ?_
  refine wp_skip ?_
  refine th_n ?_
  refine wp_seq ?_
  refine region_seq ?_
  refine seq_step rfl (op_val (v := .slice A0 n0 c0) henv rfl (rn_move henv rfl) ?_)
  clear henv a; intro a henv
  refine seq_step rfl (op_val (v := .int .i64 0) henv rfl (rn_move henv rfl) ?_)
  clear henv a; intro a henv
  have hs17 := nl_shl X 0
  refine seq_step rfl (op_call henv rfl Tryd.call55 rfl (shl_num (N := X) (s := 0) ⟨_, (show U32 _ A0 n0 c0 xs0 from hst.pat (k := 3) rfl), hX0⟩ (by omega) (by omega)) ?_)
  rintro e w18 ⟨_, rfl, ⟨A15, c16, rfl, hU, hA⟩, hb⟩
  refine ⟨_, rfl, ?_⟩
  clear henv a; intro a henv
  replace hst := hst.freshU hb hU hA
  clear hU
  clear hA
  clear hb
  refine seq_step rfl (op_val (v := .tuple #[.slice A15 (nl (X * 2 ^ 0)) c16, .int .i64 0]) henv rfl (rn_move henv rfl) ?_)
  clear henv a; intro a henv
  refine seq_step rfl (op_val (v := .slice A15 (nl (X * 2 ^ 0)) c16) henv rfl (rn_extract henv rfl rfl) ?_)
  clear henv a; intro a henv
  refine seq_step rfl (op_val (v := .int .i64 0) henv rfl (rn_extract henv rfl rfl) ?_)
  clear henv a; intro a henv
  refine seq_step rfl (op_val (v := .slice A15 (nl (X * 2 ^ 0)) c16) henv rfl (rn_assign henv rfl) ?_)
  clear henv a; intro a henv
  refine seq_step rfl (op_val (v := .int .i64 0) henv rfl (rn_assign henv rfl) ?_)
  clear henv a; intro a henv
  refine wpList_nil ?_
  refine th_n ?_
  refine wp_seq ?_
  refine region_seq ?_
  refine seq_step rfl (op_val (v := .slice A15 (nl (X * 2 ^ 0)) c16) henv rfl (rn_move henv rfl) ?_)
  clear henv a; intro a henv
  refine seq_step rfl (op_val (v := .int .i64 0) henv rfl (rn_move henv rfl) ?_)
  clear henv a; intro a henv
  have hs21 := nl_div (X * 2 ^ 0) (2 ^ 0)
  refine seq_step rfl (op_call henv rfl Tryd.call56 rfl (shr_num (N := (X * 2 ^ 0)) (s := 0) ⟨_, (show U32 _ A15 (nl (X * 2 ^ 0)) c16 (L (X * 2 ^ 0)) from hst.pat (k := 0) rfl), (val_L _)⟩ (by omega) (by omega)) ?_)
  rintro e w22 ⟨_, rfl, ⟨A19, c20, rfl, hU, hA⟩, hb⟩
  refine ⟨_, rfl, ?_⟩
  clear henv a; intro a henv
  replace hst := hst.freshU hb hU hA
  clear hU
  clear hA
  clear hb
  refine seq_step rfl (op_val (v := .tuple #[.slice A19 (nl ((X * 2 ^ 0) / 2 ^ 0)) c20, .int .i64 0]) henv rfl (rn_move henv rfl) ?_)
  clear henv a; intro a henv
  refine seq_step rfl (op_val (v := .slice A19 (nl ((X * 2 ^ 0) / 2 ^ 0)) c20) henv rfl (rn_extract henv rfl rfl) ?_)
  clear henv a; intro a henv
  refine seq_step rfl (op_val (v := .int .i64 0) henv rfl (rn_extract henv rfl rfl) ?_)
  clear henv a; intro a henv
  refine seq_step rfl (op_val (v := .slice A19 (nl ((X * 2 ^ 0) / 2 ^ 0)) c20) henv rfl (rn_assign henv rfl) ?_)
  clear henv a; intro a henv
  refine seq_step rfl (op_val (v := .int .i64 0) henv rfl (rn_assign henv rfl) ?_)
  clear henv a; intro a henv
  refine wpList_nil ?_
  refine th_n ?_
  refine wp_seq ?_
  refine wp_seq ?_
  refine region_seq ?_
  refine seq_step rfl (op_val (v := .int .i64 0) henv rfl (rn_move henv rfl) ?_)
  clear henv a; intro a henv
  refine seq_step rfl (op_val (v := .bool false) henv rfl (rn_bin henv rfl rfl rfl) ?_)
  clear henv a; intro a henv
  refine seq_step rfl (op_val (v := .bool false) henv rfl (rn_move henv rfl) ?_)
  clear henv a; intro a henv
  refine seq_g rfl henv rfl rfl (op_val (v := .int .i64 0) henv rfl (rn_move henv rfl) ?_)
  clear henv a; intro a henv
  refine seq_g rfl henv rfl rfl (op_val (v := .bool false) henv rfl (rn_bin henv rfl rfl rfl) ?_)
  clear henv a; intro a henv
  refine seq_step rfl (op_val (v := .bool false) henv rfl (rn_pick henv rfl rfl) ?_)
  clear henv a; intro a henv
  refine seq_step rfl (op_val (v := .bool false) henv rfl (rn_move henv rfl) ?_)
  clear henv a; intro a henv
  refine seq_g rfl henv rfl rfl (op_val (v := .slice A19 (nl ((X * 2 ^ 0) / 2 ^ 0)) c20) henv rfl (rn_move henv rfl) ?_)
  clear henv a; intro a henv
  refine seq_g rfl henv rfl rfl (op_val (v := .slice A0 n0 c0) henv rfl (rn_move henv rfl) ?_)
  clear henv a; intro a henv
  refine seq_g rfl henv rfl rfl (op_call henv rfl Tryd.call34 rfl (norm_num (N := X) ⟨_, (show U32 _ A0 n0 c0 xs0 from hst.pat (k := 5) rfl), hX0⟩ (by omega)) ?_)
  rintro e w25 ⟨_, rfl, ⟨A23, c24, rfl, hU, hA⟩, hb⟩
  refine ⟨_, rfl, ?_⟩
  clear henv a; intro a henv
  replace hst := hst.freshU hb hU hA
  clear hU
  clear hA
  clear hb
  refine seq_g rfl henv rfl rfl (op_call henv rfl Tryd.call36 rfl (equal_u (show U32 _ A19 (nl ((X * 2 ^ 0) / 2 ^ 0)) c20 (L ((X * 2 ^ 0) / 2 ^ 0)) from hst.pat (k := 1) rfl) (show U32 _ A23 (nl X) c24 (L X) from hst.pat (k := 0) rfl)) ?_)
  rintro e w26 ⟨rfl, hb⟩
  refine ⟨_, rfl, ?_⟩
  clear henv a; intro a henv
  replace hst := hst.call hb
  clear hb
  rw [show (decide ((L ((X * 2 ^ 0) / 2 ^ 0)) = (L X))) = true from by rw [L_dec]; exact decide_eq_true (by exact Nat.mul_div_cancel _ (Nat.pow_pos (by decide)))] at henv
  refine seq_g rfl henv rfl rfl (op_val (v := .bool false) henv rfl (rn_un henv rfl rfl) ?_)
  clear henv a; intro a henv
  refine seq_step rfl (op_val (v := .bool false) henv rfl (rn_pick henv rfl rfl) ?_)
  clear henv a; intro a henv
  refine wpList_nil ?_
  refine th_n ?_
  refine if_f henv rfl (rfl) ?_
  refine wp_skip ?_
  refine th_n ?_
  refine wp_seq ?_
  refine wp_seq ?_
  refine region_seq ?_
  refine seq_step rfl (op_val (v := .slice A19 (nl ((X * 2 ^ 0) / 2 ^ 0)) c20) henv rfl (rn_move henv rfl) ?_)
  clear henv a; intro a henv
  refine seq_step rfl (op_val (v := .int .i64 (nl ((X * 2 ^ 0) / 2 ^ 0) : Nat)) henv rfl (rn_len henv Tryd.underlying22 rfl) ?_)
  clear henv a; intro a henv
  refine seq_step rfl (op_val (v := .bool (((nl ((X * 2 ^ 0) / 2 ^ 0) : Nat) : Int) == (0 : Int))) henv rfl (rn_bin henv rfl rfl rfl) ?_)
  clear henv a; intro a henv
  rw [show (((nl ((X * 2 ^ 0) / 2 ^ 0) : Nat) : Int) == (0 : Int)) = false from by rw [Nat.mul_div_cancel _ (Nat.pow_pos (by decide))]; have := nl_pos (N := X) (by omega); simp; omega] at henv
  refine wpList_nil ?_
  refine th_n ?_
  refine if_f henv rfl (rfl) ?_
  refine wp_skip ?_
  refine th_n ?_
  refine wp_seq ?_
  refine region_seq ?_
  refine seq_step rfl (op_val (v := .slice A15 (nl (X * 2 ^ 0)) c16) henv rfl (rn_move henv rfl) ?_)
  clear henv a; intro a henv
  refine seq_step rfl (op_call henv rfl Tryd.call61 rfl (ltwos_to (N := (X * 2 ^ 0)) (show U32 _ A15 (nl (X * 2 ^ 0)) c16 (L (X * 2 ^ 0)) from hst.pat (k := 2) rfl) ((val_L _)) (by omega) (show Deb _ from hst.pat (k := 5) rfl)) ?_)
  rintro e w28 ⟨k27, rfl, hpk27, hzk27, hb⟩
  refine ⟨_, rfl, ?_⟩
  clear henv a; intro a henv
  replace hst := hst.call hb
  have hbk27 := tz_blen (hpk27 (mul_pow_ne hX00))
  clear hb
  refine seq_step rfl (op_val (v := .slice A0 n0 c0) henv rfl (rn_move henv rfl) ?_)
  clear henv a; intro a henv
  refine seq_step rfl (op_call henv rfl Tryd.call61 rfl (ltwos_to (N := X) (show U32 _ A0 n0 c0 xs0 from hst.pat (k := 6) rfl) (hX0) (by omega) (show Deb _ from hst.pat (k := 5) rfl)) ?_)
  rintro e w30 ⟨k29, rfl, hpk29, hzk29, hb⟩
  refine ⟨_, rfl, ?_⟩
  clear henv a; intro a henv
  replace hst := hst.call hb
  have hbk29 := tz_blen (hpk29 hX00)
  clear hb
  refine seq_step rfl (op_val (v := .int .i64 0) henv rfl (rn_move henv rfl) ?_)
  clear henv a; intro a henv
  refine seq_step rfl (op_val (v := .int .i64 (k29 : Nat)) henv rfl (rn_add henv rfl rfl (by rw [Int.add_zero]; exact IntWalk.i64_in _ (by omega))) ?_)
  clear henv a; intro a henv
  refine seq_step rfl (op_val (v := .bool (((k27 : Nat) : Int) == ((k29 : Nat) : Int))) henv rfl (rn_bin henv rfl rfl rfl) ?_)
  clear henv a; intro a henv
  rw [show (((k27 : Nat) : Int) == ((k29 : Nat) : Int)) = true from tz_eq (tz_shl (hpk29 hX00) 0) (hpk27 (mul_pow_ne hX00))] at henv
  refine seq_step rfl (op_val (v := .bool true) henv rfl (rn_move henv rfl) ?_)
  clear henv a; intro a henv
  refine seq_g rfl henv rfl rfl (op_val (v := .slice A15 (nl (X * 2 ^ 0)) c16) henv rfl (rn_move henv rfl) ?_)
  clear henv a; intro a henv
  have hs31 := blen_nl (X * 2 ^ 0)
  refine seq_g rfl henv rfl rfl (op_call henv rfl Tryd.call57 rfl (lbits_num (N := (X * 2 ^ 0)) ⟨_, (show U32 _ A15 (nl (X * 2 ^ 0)) c16 (L (X * 2 ^ 0)) from hst.pat (k := 2) rfl), (val_L _)⟩ (by omega)) ?_)
  rintro e w32 ⟨rfl, hb⟩
  refine ⟨_, rfl, ?_⟩
  clear henv a; intro a henv
  replace hst := hst.call hb
  clear hb
  refine seq_g rfl henv rfl rfl (op_val (v := .slice A0 n0 c0) henv rfl (rn_move henv rfl) ?_)
  clear henv a; intro a henv
  have hs33 := blen_nl X
  refine seq_g rfl henv rfl rfl (op_call henv rfl Tryd.call57 rfl (lbits_num (N := X) ⟨_, (show U32 _ A0 n0 c0 xs0 from hst.pat (k := 6) rfl), hX0⟩ (by omega)) ?_)
  rintro e w34 ⟨rfl, hb⟩
  refine ⟨_, rfl, ?_⟩
  clear henv a; intro a henv
  replace hst := hst.call hb
  clear hb
  refine seq_g rfl henv rfl rfl (op_val (v := .int .i64 0) henv rfl (rn_move henv rfl) ?_)
  clear henv a; intro a henv
  refine seq_g rfl henv rfl rfl (op_val (v := .int .i64 (blen X : Nat)) henv rfl (rn_add henv rfl rfl (by rw [Int.add_zero]; exact IntWalk.i64_in _ (by omega))) ?_)
  clear henv a; intro a henv
  refine seq_g rfl henv rfl rfl (op_val (v := .bool (((blen (X * 2 ^ 0) : Nat) : Int) == ((blen X : Nat) : Int))) henv rfl (rn_bin henv rfl rfl rfl) ?_)
  clear henv a; intro a henv
  rw [show (((blen (X * 2 ^ 0) : Nat) : Int) == ((blen X : Nat) : Int)) = true from blen_eq hX00 0] at henv
  refine seq_step rfl (op_val (v := .bool true) henv rfl (rn_pick henv rfl rfl) ?_)
  clear henv a; intro a henv
  refine seq_step rfl (op_val (v := .bool true) henv rfl (rn_move henv rfl) ?_)
  clear henv a; intro a henv
  refine seq_g rfl henv rfl rfl (op_val (v := .slice A15 (nl (X * 2 ^ 0)) c16) henv rfl (rn_move henv rfl) ?_)
  clear henv a; intro a henv
  refine seq_g rfl henv rfl rfl (op_val (v := .int .i64 0) henv rfl (rn_move henv rfl) ?_)
  clear henv a; intro a henv
  refine seq_g rfl henv rfl rfl (op_val (v := .int .i64 (-1)) henv rfl (rn_bin henv rfl rfl rfl) ?_)
  clear henv a; intro a henv
  refine seq_g rfl henv rfl rfl (op_call henv rfl Tryd.call59 rfl (lb_bit_neg (show U32 _ A15 (nl (X * 2 ^ 0)) c16 (L (X * 2 ^ 0)) from hst.pat (k := 2) rfl) (by omega)) ?_)
  rintro e w35 ⟨rfl, hb⟩
  refine ⟨_, rfl, ?_⟩
  clear henv a; intro a henv
  replace hst := hst.call hb
  clear hb
  refine seq_g rfl henv rfl rfl (op_val (v := .bool true) henv rfl (rn_un henv rfl rfl) ?_)
  clear henv a; intro a henv
  refine seq_step rfl (op_val (v := .bool true) henv rfl (rn_pick henv rfl rfl) ?_)
  clear henv a; intro a henv
  refine seq_step rfl (op_val (v := .bool true) henv rfl (rn_move henv rfl) ?_)
  clear henv a; intro a henv
  refine seq_g rfl henv rfl rfl (op_val (v := .slice A15 (nl (X * 2 ^ 0)) c16) henv rfl (rn_move henv rfl) ?_)
  clear henv a; intro a henv
  refine seq_g rfl henv rfl rfl (op_val (v := .slice A15 (nl (X * 2 ^ 0)) c16) henv rfl (rn_move henv rfl) ?_)
  clear henv a; intro a henv
  have hs36 := blen_nl (X * 2 ^ 0)
  refine seq_g rfl henv rfl rfl (op_call henv rfl Tryd.call57 rfl (lbits_num (N := (X * 2 ^ 0)) ⟨_, (show U32 _ A15 (nl (X * 2 ^ 0)) c16 (L (X * 2 ^ 0)) from hst.pat (k := 2) rfl), (val_L _)⟩ (by omega)) ?_)
  rintro e w37 ⟨rfl, hb⟩
  refine ⟨_, rfl, ?_⟩
  clear henv a; intro a henv
  replace hst := hst.call hb
  clear hb
  refine seq_g rfl henv rfl rfl (op_val (v := .int .i64 ((blen (X * 2 ^ 0)) - 1 : Nat)) henv rfl (rn_sub henv rfl rfl (by rw [IntWalk.i64_in _ (by omega)]; omega)) ?_)
  clear henv a; intro a henv
  refine seq_g rfl henv rfl rfl (op_call henv rfl Tryd.call59 rfl (lb_bit (N := (X * 2 ^ 0)) (k := (blen (X * 2 ^ 0)) - 1) (show U32 _ A15 (nl (X * 2 ^ 0)) c16 (L (X * 2 ^ 0)) from hst.pat (k := 2) rfl) (val_L _) (by omega)) ?_)
  rintro e w39 ⟨⟨b38, rfl, htb38⟩, hb⟩
  refine ⟨_, rfl, ?_⟩
  clear henv a; intro a henv
  replace hst := hst.call hb
  clear hb
  rw [show b38 = true from bit_top (mul_pow_ne hX00) htb38] at henv
  refine seq_step rfl (op_val (v := .bool true) henv rfl (rn_pick henv rfl rfl) ?_)
  clear henv a; intro a henv
  refine seq_step rfl (op_val (v := .bool true) henv rfl (rn_assign henv rfl) ?_)
  clear henv a; intro a henv
  refine wpList_nil ?_
  refine th_n ?_
  refine wp_ret ?_
  refine leave henv (res1 Tryd.results13 (RV.tmp henv rfl)) ?_
  exact ⟨rfl, hst.below⟩

set_option maxRecDepth 100000 in
set_option maxHeartbeats 4000000 in
theorem back_s0_bad {A0 : Option Addr} {n0 c0 : Nat} {xs0 : List Nat} {t : List UInt8} {i : Nat} {w0 : World} (u0 : U32 w0 A0 n0 c0 xs0) (hn0 : n0 ≤ 600) (hT : Deb w0) (ht4 : t.length ≤ 4000) (hi : i < t.length) (hbad : BadAt t i) (hok : ∀ j, j < i → ¬ BadAt t j) (hX : val 4294967296 xs0 ≠ 0) :
    Calls Tryd.prog 13 #[.slice A0 n0 c0, .string ⟨t.toArray⟩, .int .i64 0] w0 fun e w' => e = .returned (.bool true) ∧ Below w0.heap.size w0 w' := by
  obtain ⟨X, hX0⟩ : ∃ z, val 4294967296 xs0 = z := ⟨_, rfl⟩
  have hl0 : nl X ≤ n0 := hX0 ▸ nl_val u0
  have hxl0 := u0.len
  have hbX := blen_nl X
  have htx := textN_bd X
  have hX00 : X ≠ 0 := hX0 ▸ hX
  have hbS := blen_nl (X * 2 ^ 0)
  have hnS := nl_shl X 0
  have hnq : nl (X * 2 ^ 0 / 2 ^ 0) ≤ nl X := by rw [Nat.mul_div_cancel _ (Nat.pow_pos (by decide))]; exact Nat.le_refl _
  refine enter Tryd.func13 rfl Tryd.ntmps13 rfl ?_
  intro a henv hst
  replace hst := (hst.addU u0 trivial)
  clear u0
  replace hst := hst.addT hT hT
  refine wp_seq ?_
  refine region_seq ?_
  refine seq_step rfl (op_val (v := .bool false) henv rfl (rn_assign henv rfl) ?_)
  clear henv a; intro a henv
  refine wpList_nil ?_
  refine th_n ?_
  refine wp_seq ?_
  refine wp_seq ?_
  refine region_seq ?_
  refine seq_step rfl (op_call henv rfl Tryd.call32 rfl (works_true _) ?_)
  rintro e w1 ⟨rfl, hb⟩
  refine ⟨_, rfl, ?_⟩
  clear henv a; intro a henv
  replace hst := hst.call hb
  clear hb
  refine seq_step rfl (op_val (v := .bool false) henv rfl (rn_un henv rfl rfl) ?_)
  clear henv a; intro a henv
  refine wpList_nil ?_
  refine th_n ?_
  refine if_f henv rfl (rfl) ?_
  refine wp_skip ?_
  refine th_n ?_
  refine wp_seq ?_
  refine wp_seq ?_
  refine region_seq ?_
  refine seq_step rfl (op_val (v := .slice A0 n0 c0) henv rfl (rn_move henv rfl) ?_)
  clear henv a; intro a henv
  refine seq_step rfl (op_val (v := .int .i64 (n0 : Nat)) henv rfl (rn_len henv Tryd.underlying22 rfl) ?_)
  clear henv a; intro a henv
  refine seq_step rfl (op_val (v := .bool (decide (((n0 : Nat) : Int) > (600 : Int)))) henv rfl (rn_bin henv rfl rfl rfl) ?_)
  clear henv a; intro a henv
  rw [show (decide (((n0 : Nat) : Int) > (600 : Int))) = false from decide_eq_false (by omega)] at henv
  refine seq_step rfl (op_val (v := .bool false) henv rfl (rn_move henv rfl) ?_)
  clear henv a; intro a henv
  refine seq_g rfl henv rfl rfl (op_val (v := .string ⟨t.toArray⟩) henv rfl (rn_move henv rfl) ?_)
  clear henv a; intro a henv
  refine seq_g rfl henv rfl rfl (op_val (v := .int .i64 (t.length : Nat)) henv rfl (rn_lenS henv Tryd.underlying9 rfl) ?_)
  clear henv a; intro a henv
  refine seq_g rfl henv rfl rfl (op_val (v := .bool (decide (((t.length : Nat) : Int) > (4000 : Int)))) henv rfl (rn_bin henv rfl rfl rfl) ?_)
  clear henv a; intro a henv
  rw [show (decide (((t.length : Nat) : Int) > (4000 : Int))) = false from decide_eq_false (by omega)] at henv
  refine seq_step rfl (op_val (v := .bool false) henv rfl (rn_pick henv rfl rfl) ?_)
  clear henv a; intro a henv
  refine seq_step rfl (op_val (v := .bool false) henv rfl (rn_move henv rfl) ?_)
  clear henv a; intro a henv
  refine seq_g rfl henv rfl rfl (op_val (v := .int .i64 0) henv rfl (rn_move henv rfl) ?_)
  clear henv a; intro a henv
  refine seq_g rfl henv rfl rfl (op_val (v := .bool false) henv rfl (rn_bin henv rfl rfl rfl) ?_)
  clear henv a; intro a henv
  refine seq_step rfl (op_val (v := .bool false) henv rfl (rn_pick henv rfl rfl) ?_)
  clear henv a; intro a henv
  refine seq_step rfl (op_val (v := .bool false) henv rfl (rn_move henv rfl) ?_)
  clear henv a; intro a henv
  refine seq_g rfl henv rfl rfl (op_val (v := .int .i64 0) henv rfl (rn_move henv rfl) ?_)
  clear henv a; intro a henv
  refine seq_g rfl henv rfl rfl (op_val (v := .bool false) henv rfl (rn_bin henv rfl rfl rfl) ?_)
  clear henv a; intro a henv
  refine seq_step rfl (op_val (v := .bool false) henv rfl (rn_pick henv rfl rfl) ?_)
  clear henv a; intro a henv
  refine wpList_nil ?_
  refine th_n ?_
  refine if_f henv rfl (rfl) ?_
  refine wp_skip ?_
  refine th_n ?_
  refine wp_seq ?_
  refine region_seq ?_
  refine seq_step rfl (op_val (v := .slice A0 n0 c0) henv rfl (rn_move henv rfl) ?_)
  clear henv a; intro a henv
  refine seq_step rfl (op_call henv rfl Tryd.call66 rfl (text_num (N := X) ⟨_, (show U32 _ A0 n0 c0 xs0 from hst.pat (k := 1) rfl), hX0⟩ (by omega)) ?_)
  rintro e w2 ⟨rfl, hb⟩
  refine ⟨_, rfl, ?_⟩
  clear henv a; intro a henv
  replace hst := hst.call hb
  clear hb
  refine seq_step rfl (op_call henv rfl Tryd.call65 rfl (read_textN (N := X) (by omega)) ?_)
  rintro e w5 ⟨_, rfl, ⟨A3, c4, rfl, hU, hA⟩, hb⟩
  refine ⟨_, rfl, ?_⟩
  clear henv a; intro a henv
  replace hst := hst.freshU hb hU hA
  clear hU
  clear hA
  clear hb
  refine seq_step rfl (op_val (v := .tuple #[.slice A3 (nl X) c4, .agg #[.int .i64 0, .int .i64 0]]) henv rfl (rn_move henv rfl) ?_)
  clear henv a; intro a henv
  refine seq_step rfl (op_val (v := .slice A3 (nl X) c4) henv rfl (rn_extract henv rfl rfl) ?_)
  clear henv a; intro a henv
  refine seq_step rfl (op_val (v := .agg #[.int .i64 0, .int .i64 0]) henv rfl (rn_extract henv rfl rfl) ?_)
  clear henv a; intro a henv
  refine seq_step rfl (op_alloc (c := #[.int .i64 0, .int .i64 0]) henv hst rfl zero_anvil_api_Spot rfl ?_)
  clear henv hst a; intro a w7 g6 henv hst
  refine seq_step rfl (op_val (v := .slice A3 (nl X) c4) henv rfl (rn_assign henv rfl) ?_)
  clear henv a; intro a henv
  refine seq_step rfl (op_store (k := 0) (c' := #[.int .i64 0, .int .i64 0]) henv hst (ty_anvil_api_Spot.size) rfl rfl rfl rfl (by simp) rfl rfl ?_)
  clear henv hst a; intro a w8 henv hst
  refine wpList_nil ?_
  refine th_n ?_
  refine wp_seq ?_
  refine wp_seq ?_
  refine region_seq ?_
  refine seq_step rfl (op_val (v := .agg #[.int .i64 0, .int .i64 0]) henv rfl (rn_load0 henv ty_anvil_api_Spot rfl (hst.oat (k := 0) rfl) rfl) ?_)
  clear henv a; intro a henv
  refine seq_step rfl (op_val (v := .agg #[.int .i64 0, .int .i64 0]) henv rfl (rn_spot0) ?_)
  clear henv a; intro a henv
  refine seq_step rfl (op_val (v := .bool (!decide ([(0 : Int), (0 : Int)] = [(0 : Int), (0 : Int)]))) henv rfl (rn_neqI [(0 : Int), (0 : Int)] [(0 : Int), (0 : Int)] henv spotI rfl rfl rfl rfl) ?_)
  clear henv a; intro a henv
  rw [show (!decide ([(0 : Int), (0 : Int)] = [(0 : Int), (0 : Int)])) = false from rfl] at henv
  refine seq_step rfl (op_val (v := .bool false) henv rfl (rn_move henv rfl) ?_)
  clear henv a; intro a henv
  refine seq_g rfl henv rfl rfl (op_val (v := .slice A3 (nl X) c4) henv rfl (rn_move henv rfl) ?_)
  clear henv a; intro a henv
  refine seq_g rfl henv rfl rfl (op_val (v := .slice A0 n0 c0) henv rfl (rn_move henv rfl) ?_)
  clear henv a; intro a henv
  refine seq_g rfl henv rfl rfl (op_call henv rfl Tryd.call34 rfl (norm_num (N := X) ⟨_, (show U32 _ A0 n0 c0 xs0 from hst.pat (k := 2) rfl), hX0⟩ (by omega)) ?_)
  rintro e w11 ⟨_, rfl, ⟨A9, c10, rfl, hU, hA⟩, hb⟩
  refine ⟨_, rfl, ?_⟩
  clear henv a; intro a henv
  replace hst := hst.freshU hb hU hA
  clear hU
  clear hA
  clear hb
  refine seq_g rfl henv rfl rfl (op_call henv rfl Tryd.call36 rfl (equal_u (show U32 _ A3 (nl X) c4 (L X) from hst.pat (k := 1) rfl) (show U32 _ A9 (nl X) c10 (L X) from hst.pat (k := 0) rfl)) ?_)
  rintro e w12 ⟨rfl, hb⟩
  refine ⟨_, rfl, ?_⟩
  clear henv a; intro a henv
  replace hst := hst.call hb
  clear hb
  rw [show (decide ((L X) = (L X))) = true from by rw [L_dec]; exact decide_eq_true (by rfl)] at henv
  refine seq_g rfl henv rfl rfl (op_val (v := .bool false) henv rfl (rn_un henv rfl rfl) ?_)
  clear henv a; intro a henv
  refine seq_step rfl (op_val (v := .bool false) henv rfl (rn_pick henv rfl rfl) ?_)
  clear henv a; intro a henv
  refine wpList_nil ?_
  refine th_n ?_
  refine if_f henv rfl (rfl) ?_
  refine wp_skip ?_
  refine th_n ?_
  refine wp_seq ?_
  refine region_seq ?_
  refine seq_step rfl (op_val (v := .string ⟨t.toArray⟩) henv rfl (rn_move henv rfl) ?_)
  clear henv a; intro a henv
  refine seq_step rfl (op_call henv rfl Tryd.call65 rfl (read_bad (by omega) hi hbad hok) ?_)
  rintro e w13 ⟨rfl, hb⟩
  refine ⟨_, rfl, ?_⟩
  clear henv a; intro a henv
  replace hst := hst.call hb
  clear hb
  refine seq_step rfl (op_val (v := .tuple #[.slice none 0 0, .agg #[.int .i64 6, .int .i64 (i : Nat)]]) henv rfl (rn_move henv rfl) ?_)
  clear henv a; intro a henv
  refine seq_step rfl (op_val (v := .slice none 0 0) henv rfl (rn_extract henv rfl rfl) ?_)
  clear henv a; intro a henv
  refine seq_step rfl (op_val (v := .agg #[.int .i64 6, .int .i64 (i : Nat)]) henv rfl (rn_extract henv rfl rfl) ?_)
  clear henv a; intro a henv
  refine seq_step rfl (op_val (v := .slice none 0 0) henv rfl (rn_assign henv rfl) ?_)
  clear henv a; intro a henv
  refine seq_step rfl (op_store (k := 0) (c' := #[.int .i64 6, .int .i64 (i : Nat)]) henv hst (ty_anvil_api_Spot.size) rfl rfl rfl rfl (by simp) rfl rfl ?_)
  clear henv hst a; intro a w14 henv hst
  refine wpList_nil ?_
  refine th_n ?_
  refine wp_seq ?_
  refine wp_seq ?_
  refine region_seq ?_
  refine seq_step rfl (op_val (v := .agg #[.int .i64 6, .int .i64 (i : Nat)]) henv rfl (rn_load0 henv ty_anvil_api_Spot rfl (hst.oat (k := 0) rfl) rfl) ?_)
  clear henv a; intro a henv
  refine seq_step rfl (op_val (v := .agg #[.int .i64 0, .int .i64 0]) henv rfl (rn_spot0) ?_)
  clear henv a; intro a henv
  refine seq_step rfl (op_val (v := .bool (decide ([(6 : Int), ((i : Nat) : Int)] = [(0 : Int), (0 : Int)]))) henv rfl (rn_eqlI [(6 : Int), ((i : Nat) : Int)] [(0 : Int), (0 : Int)] henv spotI rfl rfl rfl rfl) ?_)
  clear henv a; intro a henv
  rw [show (decide ([(6 : Int), ((i : Nat) : Int)] = [(0 : Int), (0 : Int)])) = false from spot_eq _] at henv
  refine seq_step rfl (op_val (v := .bool false) henv rfl (rn_move henv rfl) ?_)
  clear henv a; intro a henv
  refine seq_skip rfl henv rfl rfl rfl rfl ?_
  clear henv a; intro a henv
  refine seq_skip rfl henv rfl rfl rfl rfl ?_
  clear henv a; intro a henv
  refine seq_skip rfl henv rfl rfl rfl rfl ?_
  clear henv a; intro a henv
  refine seq_skip rfl henv rfl rfl rfl rfl ?_
  clear henv a; intro a henv
  refine seq_step rfl (op_val (v := .bool false) henv rfl (rn_pick henv rfl rfl) ?_)
  clear henv a; intro a henv
  refine wpList_nil ?_
  refine th_n ?_
  refine if_f henv rfl (rfl) ?_
  refine wp_skip ?_
  refine th_n ?_
  refine wp_seq ?_
  refine region_seq ?_
  refine seq_step rfl (op_val (v := .slice A0 n0 c0) henv rfl (rn_move henv rfl) ?_)
  clear henv a; intro a henv
  refine seq_step rfl (op_val (v := .int .i64 0) henv rfl (rn_move henv rfl) ?_)
  clear henv a; intro a henv
  have hs17 := nl_shl X 0
  refine seq_step rfl (op_call henv rfl Tryd.call55 rfl (shl_num (N := X) (s := 0) ⟨_, (show U32 _ A0 n0 c0 xs0 from hst.pat (k := 3) rfl), hX0⟩ (by omega) (by omega)) ?_)
  rintro e w18 ⟨_, rfl, ⟨A15, c16, rfl, hU, hA⟩, hb⟩
  refine ⟨_, rfl, ?_⟩
  clear henv a; intro a henv
  replace hst := hst.freshU hb hU hA
  clear hU
  clear hA
  clear hb
  refine seq_step rfl (op_val (v := .tuple #[.slice A15 (nl (X * 2 ^ 0)) c16, .int .i64 0]) henv rfl (rn_move henv rfl) ?_)
  clear henv a; intro a henv
  refine seq_step rfl (op_val (v := .slice A15 (nl (X * 2 ^ 0)) c16) henv rfl (rn_extract henv rfl rfl) ?_)
  clear henv a; intro a henv
  refine seq_step rfl (op_val (v := .int .i64 0) henv rfl (rn_extract henv rfl rfl) ?_)
  clear henv a; intro a henv
  refine seq_step rfl (op_val (v := .slice A15 (nl (X * 2 ^ 0)) c16) henv rfl (rn_assign henv rfl) ?_)
  clear henv a; intro a henv
  refine seq_step rfl (op_val (v := .int .i64 0) henv rfl (rn_assign henv rfl) ?_)
  clear henv a; intro a henv
  refine wpList_nil ?_
  refine th_n ?_
  refine wp_seq ?_
  refine region_seq ?_
  refine seq_step rfl (op_val (v := .slice A15 (nl (X * 2 ^ 0)) c16) henv rfl (rn_move henv rfl) ?_)
  clear henv a; intro a henv
  refine seq_step rfl (op_val (v := .int .i64 0) henv rfl (rn_move henv rfl) ?_)
  clear henv a; intro a henv
  have hs21 := nl_div (X * 2 ^ 0) (2 ^ 0)
  refine seq_step rfl (op_call henv rfl Tryd.call56 rfl (shr_num (N := (X * 2 ^ 0)) (s := 0) ⟨_, (show U32 _ A15 (nl (X * 2 ^ 0)) c16 (L (X * 2 ^ 0)) from hst.pat (k := 0) rfl), (val_L _)⟩ (by omega) (by omega)) ?_)
  rintro e w22 ⟨_, rfl, ⟨A19, c20, rfl, hU, hA⟩, hb⟩
  refine ⟨_, rfl, ?_⟩
  clear henv a; intro a henv
  replace hst := hst.freshU hb hU hA
  clear hU
  clear hA
  clear hb
  refine seq_step rfl (op_val (v := .tuple #[.slice A19 (nl ((X * 2 ^ 0) / 2 ^ 0)) c20, .int .i64 0]) henv rfl (rn_move henv rfl) ?_)
  clear henv a; intro a henv
  refine seq_step rfl (op_val (v := .slice A19 (nl ((X * 2 ^ 0) / 2 ^ 0)) c20) henv rfl (rn_extract henv rfl rfl) ?_)
  clear henv a; intro a henv
  refine seq_step rfl (op_val (v := .int .i64 0) henv rfl (rn_extract henv rfl rfl) ?_)
  clear henv a; intro a henv
  refine seq_step rfl (op_val (v := .slice A19 (nl ((X * 2 ^ 0) / 2 ^ 0)) c20) henv rfl (rn_assign henv rfl) ?_)
  clear henv a; intro a henv
  refine seq_step rfl (op_val (v := .int .i64 0) henv rfl (rn_assign henv rfl) ?_)
  clear henv a; intro a henv
  refine wpList_nil ?_
  refine th_n ?_
  refine wp_seq ?_
  refine wp_seq ?_
  refine region_seq ?_
  refine seq_step rfl (op_val (v := .int .i64 0) henv rfl (rn_move henv rfl) ?_)
  clear henv a; intro a henv
  refine seq_step rfl (op_val (v := .bool false) henv rfl (rn_bin henv rfl rfl rfl) ?_)
  clear henv a; intro a henv
  refine seq_step rfl (op_val (v := .bool false) henv rfl (rn_move henv rfl) ?_)
  clear henv a; intro a henv
  refine seq_g rfl henv rfl rfl (op_val (v := .int .i64 0) henv rfl (rn_move henv rfl) ?_)
  clear henv a; intro a henv
  refine seq_g rfl henv rfl rfl (op_val (v := .bool false) henv rfl (rn_bin henv rfl rfl rfl) ?_)
  clear henv a; intro a henv
  refine seq_step rfl (op_val (v := .bool false) henv rfl (rn_pick henv rfl rfl) ?_)
  clear henv a; intro a henv
  refine seq_step rfl (op_val (v := .bool false) henv rfl (rn_move henv rfl) ?_)
  clear henv a; intro a henv
  refine seq_g rfl henv rfl rfl (op_val (v := .slice A19 (nl ((X * 2 ^ 0) / 2 ^ 0)) c20) henv rfl (rn_move henv rfl) ?_)
  clear henv a; intro a henv
  refine seq_g rfl henv rfl rfl (op_val (v := .slice A0 n0 c0) henv rfl (rn_move henv rfl) ?_)
  clear henv a; intro a henv
  refine seq_g rfl henv rfl rfl (op_call henv rfl Tryd.call34 rfl (norm_num (N := X) ⟨_, (show U32 _ A0 n0 c0 xs0 from hst.pat (k := 5) rfl), hX0⟩ (by omega)) ?_)
  rintro e w25 ⟨_, rfl, ⟨A23, c24, rfl, hU, hA⟩, hb⟩
  refine ⟨_, rfl, ?_⟩
  clear henv a; intro a henv
  replace hst := hst.freshU hb hU hA
  clear hU
  clear hA
  clear hb
  refine seq_g rfl henv rfl rfl (op_call henv rfl Tryd.call36 rfl (equal_u (show U32 _ A19 (nl ((X * 2 ^ 0) / 2 ^ 0)) c20 (L ((X * 2 ^ 0) / 2 ^ 0)) from hst.pat (k := 1) rfl) (show U32 _ A23 (nl X) c24 (L X) from hst.pat (k := 0) rfl)) ?_)
  rintro e w26 ⟨rfl, hb⟩
  refine ⟨_, rfl, ?_⟩
  clear henv a; intro a henv
  replace hst := hst.call hb
  clear hb
  rw [show (decide ((L ((X * 2 ^ 0) / 2 ^ 0)) = (L X))) = true from by rw [L_dec]; exact decide_eq_true (by exact Nat.mul_div_cancel _ (Nat.pow_pos (by decide)))] at henv
  refine seq_g rfl henv rfl rfl (op_val (v := .bool false) henv rfl (rn_un henv rfl rfl) ?_)
  clear henv a; intro a henv
  refine seq_step rfl (op_val (v := .bool false) henv rfl (rn_pick henv rfl rfl) ?_)
  clear henv a; intro a henv
  refine wpList_nil ?_
  refine th_n ?_
  refine if_f henv rfl (rfl) ?_
  refine wp_skip ?_
  refine th_n ?_
  refine wp_seq ?_
  refine wp_seq ?_
  refine region_seq ?_
  refine seq_step rfl (op_val (v := .slice A19 (nl ((X * 2 ^ 0) / 2 ^ 0)) c20) henv rfl (rn_move henv rfl) ?_)
  clear henv a; intro a henv
  refine seq_step rfl (op_val (v := .int .i64 (nl ((X * 2 ^ 0) / 2 ^ 0) : Nat)) henv rfl (rn_len henv Tryd.underlying22 rfl) ?_)
  clear henv a; intro a henv
  refine seq_step rfl (op_val (v := .bool (((nl ((X * 2 ^ 0) / 2 ^ 0) : Nat) : Int) == (0 : Int))) henv rfl (rn_bin henv rfl rfl rfl) ?_)
  clear henv a; intro a henv
  rw [show (((nl ((X * 2 ^ 0) / 2 ^ 0) : Nat) : Int) == (0 : Int)) = false from by rw [Nat.mul_div_cancel _ (Nat.pow_pos (by decide))]; have := nl_pos (N := X) (by omega); simp; omega] at henv
  refine wpList_nil ?_
  refine th_n ?_
  refine if_f henv rfl (rfl) ?_
  refine wp_skip ?_
  refine th_n ?_
  refine wp_seq ?_
  refine region_seq ?_
  refine seq_step rfl (op_val (v := .slice A15 (nl (X * 2 ^ 0)) c16) henv rfl (rn_move henv rfl) ?_)
  clear henv a; intro a henv
  refine seq_step rfl (op_call henv rfl Tryd.call61 rfl (ltwos_to (N := (X * 2 ^ 0)) (show U32 _ A15 (nl (X * 2 ^ 0)) c16 (L (X * 2 ^ 0)) from hst.pat (k := 2) rfl) ((val_L _)) (by omega) (show Deb _ from hst.pat (k := 5) rfl)) ?_)
  rintro e w28 ⟨k27, rfl, hpk27, hzk27, hb⟩
  refine ⟨_, rfl, ?_⟩
  clear henv a; intro a henv
  replace hst := hst.call hb
  have hbk27 := tz_blen (hpk27 (mul_pow_ne hX00))
  clear hb
  refine seq_step rfl (op_val (v := .slice A0 n0 c0) henv rfl (rn_move henv rfl) ?_)
  clear henv a; intro a henv
  refine seq_step rfl (op_call henv rfl Tryd.call61 rfl (ltwos_to (N := X) (show U32 _ A0 n0 c0 xs0 from hst.pat (k := 6) rfl) (hX0) (by omega) (show Deb _ from hst.pat (k := 5) rfl)) ?_)
  rintro e w30 ⟨k29, rfl, hpk29, hzk29, hb⟩
  refine ⟨_, rfl, ?_⟩
  clear henv a; intro a henv
  replace hst := hst.call hb
  have hbk29 := tz_blen (hpk29 hX00)
  clear hb
  refine seq_step rfl (op_val (v := .int .i64 0) henv rfl (rn_move henv rfl) ?_)
  clear henv a; intro a henv
  refine seq_step rfl (op_val (v := .int .i64 (k29 : Nat)) henv rfl (rn_add henv rfl rfl (by rw [Int.add_zero]; exact IntWalk.i64_in _ (by omega))) ?_)
  clear henv a; intro a henv
  refine seq_step rfl (op_val (v := .bool (((k27 : Nat) : Int) == ((k29 : Nat) : Int))) henv rfl (rn_bin henv rfl rfl rfl) ?_)
  clear henv a; intro a henv
  rw [show (((k27 : Nat) : Int) == ((k29 : Nat) : Int)) = true from tz_eq (tz_shl (hpk29 hX00) 0) (hpk27 (mul_pow_ne hX00))] at henv
  refine seq_step rfl (op_val (v := .bool true) henv rfl (rn_move henv rfl) ?_)
  clear henv a; intro a henv
  refine seq_g rfl henv rfl rfl (op_val (v := .slice A15 (nl (X * 2 ^ 0)) c16) henv rfl (rn_move henv rfl) ?_)
  clear henv a; intro a henv
  have hs31 := blen_nl (X * 2 ^ 0)
  refine seq_g rfl henv rfl rfl (op_call henv rfl Tryd.call57 rfl (lbits_num (N := (X * 2 ^ 0)) ⟨_, (show U32 _ A15 (nl (X * 2 ^ 0)) c16 (L (X * 2 ^ 0)) from hst.pat (k := 2) rfl), (val_L _)⟩ (by omega)) ?_)
  rintro e w32 ⟨rfl, hb⟩
  refine ⟨_, rfl, ?_⟩
  clear henv a; intro a henv
  replace hst := hst.call hb
  clear hb
  refine seq_g rfl henv rfl rfl (op_val (v := .slice A0 n0 c0) henv rfl (rn_move henv rfl) ?_)
  clear henv a; intro a henv
  have hs33 := blen_nl X
  refine seq_g rfl henv rfl rfl (op_call henv rfl Tryd.call57 rfl (lbits_num (N := X) ⟨_, (show U32 _ A0 n0 c0 xs0 from hst.pat (k := 6) rfl), hX0⟩ (by omega)) ?_)
  rintro e w34 ⟨rfl, hb⟩
  refine ⟨_, rfl, ?_⟩
  clear henv a; intro a henv
  replace hst := hst.call hb
  clear hb
  refine seq_g rfl henv rfl rfl (op_val (v := .int .i64 0) henv rfl (rn_move henv rfl) ?_)
  clear henv a; intro a henv
  refine seq_g rfl henv rfl rfl (op_val (v := .int .i64 (blen X : Nat)) henv rfl (rn_add henv rfl rfl (by rw [Int.add_zero]; exact IntWalk.i64_in _ (by omega))) ?_)
  clear henv a; intro a henv
  refine seq_g rfl henv rfl rfl (op_val (v := .bool (((blen (X * 2 ^ 0) : Nat) : Int) == ((blen X : Nat) : Int))) henv rfl (rn_bin henv rfl rfl rfl) ?_)
  clear henv a; intro a henv
  rw [show (((blen (X * 2 ^ 0) : Nat) : Int) == ((blen X : Nat) : Int)) = true from blen_eq hX00 0] at henv
  refine seq_step rfl (op_val (v := .bool true) henv rfl (rn_pick henv rfl rfl) ?_)
  clear henv a; intro a henv
  refine seq_step rfl (op_val (v := .bool true) henv rfl (rn_move henv rfl) ?_)
  clear henv a; intro a henv
  refine seq_g rfl henv rfl rfl (op_val (v := .slice A15 (nl (X * 2 ^ 0)) c16) henv rfl (rn_move henv rfl) ?_)
  clear henv a; intro a henv
  refine seq_g rfl henv rfl rfl (op_val (v := .int .i64 0) henv rfl (rn_move henv rfl) ?_)
  clear henv a; intro a henv
  refine seq_g rfl henv rfl rfl (op_val (v := .int .i64 (-1)) henv rfl (rn_bin henv rfl rfl rfl) ?_)
  clear henv a; intro a henv
  refine seq_g rfl henv rfl rfl (op_call henv rfl Tryd.call59 rfl (lb_bit_neg (show U32 _ A15 (nl (X * 2 ^ 0)) c16 (L (X * 2 ^ 0)) from hst.pat (k := 2) rfl) (by omega)) ?_)
  rintro e w35 ⟨rfl, hb⟩
  refine ⟨_, rfl, ?_⟩
  clear henv a; intro a henv
  replace hst := hst.call hb
  clear hb
  refine seq_g rfl henv rfl rfl (op_val (v := .bool true) henv rfl (rn_un henv rfl rfl) ?_)
  clear henv a; intro a henv
  refine seq_step rfl (op_val (v := .bool true) henv rfl (rn_pick henv rfl rfl) ?_)
  clear henv a; intro a henv
  refine seq_step rfl (op_val (v := .bool true) henv rfl (rn_move henv rfl) ?_)
  clear henv a; intro a henv
  refine seq_g rfl henv rfl rfl (op_val (v := .slice A15 (nl (X * 2 ^ 0)) c16) henv rfl (rn_move henv rfl) ?_)
  clear henv a; intro a henv
  refine seq_g rfl henv rfl rfl (op_val (v := .slice A15 (nl (X * 2 ^ 0)) c16) henv rfl (rn_move henv rfl) ?_)
  clear henv a; intro a henv
  have hs36 := blen_nl (X * 2 ^ 0)
  refine seq_g rfl henv rfl rfl (op_call henv rfl Tryd.call57 rfl (lbits_num (N := (X * 2 ^ 0)) ⟨_, (show U32 _ A15 (nl (X * 2 ^ 0)) c16 (L (X * 2 ^ 0)) from hst.pat (k := 2) rfl), (val_L _)⟩ (by omega)) ?_)
  rintro e w37 ⟨rfl, hb⟩
  refine ⟨_, rfl, ?_⟩
  clear henv a; intro a henv
  replace hst := hst.call hb
  clear hb
  refine seq_g rfl henv rfl rfl (op_val (v := .int .i64 ((blen (X * 2 ^ 0)) - 1 : Nat)) henv rfl (rn_sub henv rfl rfl (by rw [IntWalk.i64_in _ (by omega)]; omega)) ?_)
  clear henv a; intro a henv
  refine seq_g rfl henv rfl rfl (op_call henv rfl Tryd.call59 rfl (lb_bit (N := (X * 2 ^ 0)) (k := (blen (X * 2 ^ 0)) - 1) (show U32 _ A15 (nl (X * 2 ^ 0)) c16 (L (X * 2 ^ 0)) from hst.pat (k := 2) rfl) (val_L _) (by omega)) ?_)
  rintro e w39 ⟨⟨b38, rfl, htb38⟩, hb⟩
  refine ⟨_, rfl, ?_⟩
  clear henv a; intro a henv
  replace hst := hst.call hb
  clear hb
  rw [show b38 = true from bit_top (mul_pow_ne hX00) htb38] at henv
  refine seq_step rfl (op_val (v := .bool true) henv rfl (rn_pick henv rfl rfl) ?_)
  clear henv a; intro a henv
  refine seq_step rfl (op_val (v := .bool true) henv rfl (rn_assign henv rfl) ?_)
  clear henv a; intro a henv
  refine wpList_nil ?_
  refine th_n ?_
  refine wp_ret ?_
  refine leave henv (res1 Tryd.results13 (RV.tmp henv rfl)) ?_
  exact ⟨rfl, hst.below⟩

set_option maxRecDepth 100000 in
set_option maxHeartbeats 4000000 in
theorem back_s0_ok {A0 : Option Addr} {n0 c0 : Nat} {xs0 : List Nat} {t : List UInt8} {w0 : World} (u0 : U32 w0 A0 n0 c0 xs0) (hn0 : n0 ≤ 600) (hT : Deb w0) (ht4 : t.length ≤ 4000) (hne : t ≠ []) (hok : ∀ j, j < t.length → ¬ BadAt t j) (hX : val 4294967296 xs0 ≠ 0) :
    Calls Tryd.prog 13 #[.slice A0 n0 c0, .string ⟨t.toArray⟩, .int .i64 0] w0 fun e w' => e = .returned (.bool true) ∧ Below w0.heap.size w0 w' := by
  obtain ⟨X, hX0⟩ : ∃ z, val 4294967296 xs0 = z := ⟨_, rfl⟩
  have hl0 : nl X ≤ n0 := hX0 ▸ nl_val u0
  have hxl0 := u0.len
  have hbX := blen_nl X
  have htx := textN_bd X
  have hX00 : X ≠ 0 := hX0 ▸ hX
  have hbS := blen_nl (X * 2 ^ 0)
  have hnS := nl_shl X 0
  have hnq : nl (X * 2 ^ 0 / 2 ^ 0) ≤ nl X := by rw [Nat.mul_div_cancel _ (Nat.pow_pos (by decide))]; exact Nat.le_refl _
  have htn : nl (numOf t) ≤ 65536 := nl_numOf (fun c hc => (digits_of hok c hc).2) (by omega)
  refine enter Tryd.func13 rfl Tryd.ntmps13 rfl ?_
  intro a henv hst
  replace hst := (hst.addU u0 trivial)
  clear u0
  replace hst := hst.addT hT hT
  refine wp_seq ?_
  refine region_seq ?_
  refine seq_step rfl (op_val (v := .bool false) henv rfl (rn_assign henv rfl) ?_)
  clear henv a; intro a henv
  refine wpList_nil ?_
  refine th_n ?_
  refine wp_seq ?_
  refine wp_seq ?_
  refine region_seq ?_
  refine seq_step rfl (op_call henv rfl Tryd.call32 rfl (works_true _) ?_)
  rintro e w1 ⟨rfl, hb⟩
  refine ⟨_, rfl, ?_⟩
  clear henv a; intro a henv
  replace hst := hst.call hb
  clear hb
  refine seq_step rfl (op_val (v := .bool false) henv rfl (rn_un henv rfl rfl) ?_)
  clear henv a; intro a henv
  refine wpList_nil ?_
  refine th_n ?_
  refine if_f henv rfl (rfl) ?_
  refine wp_skip ?_
  refine th_n ?_
  refine wp_seq ?_
  refine wp_seq ?_
  refine region_seq ?_
  refine seq_step rfl (op_val (v := .slice A0 n0 c0) henv rfl (rn_move henv rfl) ?_)
  clear henv a; intro a henv
  refine seq_step rfl (op_val (v := .int .i64 (n0 : Nat)) henv rfl (rn_len henv Tryd.underlying22 rfl) ?_)
  clear henv a; intro a henv
  refine seq_step rfl (op_val (v := .bool (decide (((n0 : Nat) : Int) > (600 : Int)))) henv rfl (rn_bin henv rfl rfl rfl) ?_)
  clear henv a; intro a henv
  rw [show (decide (((n0 : Nat) : Int) > (600 : Int))) = false from decide_eq_false (by omega)] at henv
  refine seq_step rfl (op_val (v := .bool false) henv rfl (rn_move henv rfl) ?_)
  clear henv a; intro a henv
  refine seq_g rfl henv rfl rfl (op_val (v := .string ⟨t.toArray⟩) henv rfl (rn_move henv rfl) ?_)
  clear henv a; intro a henv
  refine seq_g rfl henv rfl rfl (op_val (v := .int .i64 (t.length : Nat)) henv rfl (rn_lenS henv Tryd.underlying9 rfl) ?_)
  clear henv a; intro a henv
  refine seq_g rfl henv rfl rfl (op_val (v := .bool (decide (((t.length : Nat) : Int) > (4000 : Int)))) henv rfl (rn_bin henv rfl rfl rfl) ?_)
  clear henv a; intro a henv
  rw [show (decide (((t.length : Nat) : Int) > (4000 : Int))) = false from decide_eq_false (by omega)] at henv
  refine seq_step rfl (op_val (v := .bool false) henv rfl (rn_pick henv rfl rfl) ?_)
  clear henv a; intro a henv
  refine seq_step rfl (op_val (v := .bool false) henv rfl (rn_move henv rfl) ?_)
  clear henv a; intro a henv
  refine seq_g rfl henv rfl rfl (op_val (v := .int .i64 0) henv rfl (rn_move henv rfl) ?_)
  clear henv a; intro a henv
  refine seq_g rfl henv rfl rfl (op_val (v := .bool false) henv rfl (rn_bin henv rfl rfl rfl) ?_)
  clear henv a; intro a henv
  refine seq_step rfl (op_val (v := .bool false) henv rfl (rn_pick henv rfl rfl) ?_)
  clear henv a; intro a henv
  refine seq_step rfl (op_val (v := .bool false) henv rfl (rn_move henv rfl) ?_)
  clear henv a; intro a henv
  refine seq_g rfl henv rfl rfl (op_val (v := .int .i64 0) henv rfl (rn_move henv rfl) ?_)
  clear henv a; intro a henv
  refine seq_g rfl henv rfl rfl (op_val (v := .bool false) henv rfl (rn_bin henv rfl rfl rfl) ?_)
  clear henv a; intro a henv
  refine seq_step rfl (op_val (v := .bool false) henv rfl (rn_pick henv rfl rfl) ?_)
  clear henv a; intro a henv
  refine wpList_nil ?_
  refine th_n ?_
  refine if_f henv rfl (rfl) ?_
  refine wp_skip ?_
  refine th_n ?_
  refine wp_seq ?_
  refine region_seq ?_
  refine seq_step rfl (op_val (v := .slice A0 n0 c0) henv rfl (rn_move henv rfl) ?_)
  clear henv a; intro a henv
  refine seq_step rfl (op_call henv rfl Tryd.call66 rfl (text_num (N := X) ⟨_, (show U32 _ A0 n0 c0 xs0 from hst.pat (k := 1) rfl), hX0⟩ (by omega)) ?_)
  rintro e w2 ⟨rfl, hb⟩
  refine ⟨_, rfl, ?_⟩
  clear henv a; intro a henv
  replace hst := hst.call hb
  clear hb
  refine seq_step rfl (op_call henv rfl Tryd.call65 rfl (read_textN (N := X) (by omega)) ?_)
  rintro e w5 ⟨_, rfl, ⟨A3, c4, rfl, hU, hA⟩, hb⟩
  refine ⟨_, rfl, ?_⟩
  clear henv a; intro a henv
  replace hst := hst.freshU hb hU hA
  clear hU
  clear hA
  clear hb
  refine seq_step rfl (op_val (v := .tuple #[.slice A3 (nl X) c4, .agg #[.int .i64 0, .int .i64 0]]) henv rfl (rn_move henv rfl) ?_)
  clear henv a; intro a henv
  refine seq_step rfl (op_val (v := .slice A3 (nl X) c4) henv rfl (rn_extract henv rfl rfl) ?_)
  clear henv a; intro a henv
  refine seq_step rfl (op_val (v := .agg #[.int .i64 0, .int .i64 0]) henv rfl (rn_extract henv rfl rfl) ?_)
  clear henv a; intro a henv
  refine seq_step rfl (op_alloc (c := #[.int .i64 0, .int .i64 0]) henv hst rfl zero_anvil_api_Spot rfl ?_)
  clear henv hst a; intro a w7 g6 henv hst
  refine seq_step rfl (op_val (v := .slice A3 (nl X) c4) henv rfl (rn_assign henv rfl) ?_)
  clear henv a; intro a henv
  refine seq_step rfl (op_store (k := 0) (c' := #[.int .i64 0, .int .i64 0]) henv hst (ty_anvil_api_Spot.size) rfl rfl rfl rfl (by simp) rfl rfl ?_)
  clear henv hst a; intro a w8 henv hst
  refine wpList_nil ?_
  refine th_n ?_
  refine wp_seq ?_
  refine wp_seq ?_
  refine region_seq ?_
  refine seq_step rfl (op_val (v := .agg #[.int .i64 0, .int .i64 0]) henv rfl (rn_load0 henv ty_anvil_api_Spot rfl (hst.oat (k := 0) rfl) rfl) ?_)
  clear henv a; intro a henv
  refine seq_step rfl (op_val (v := .agg #[.int .i64 0, .int .i64 0]) henv rfl (rn_spot0) ?_)
  clear henv a; intro a henv
  refine seq_step rfl (op_val (v := .bool (!decide ([(0 : Int), (0 : Int)] = [(0 : Int), (0 : Int)]))) henv rfl (rn_neqI [(0 : Int), (0 : Int)] [(0 : Int), (0 : Int)] henv spotI rfl rfl rfl rfl) ?_)
  clear henv a; intro a henv
  rw [show (!decide ([(0 : Int), (0 : Int)] = [(0 : Int), (0 : Int)])) = false from rfl] at henv
  refine seq_step rfl (op_val (v := .bool false) henv rfl (rn_move henv rfl) ?_)
  clear henv a; intro a henv
  refine seq_g rfl henv rfl rfl (op_val (v := .slice A3 (nl X) c4) henv rfl (rn_move henv rfl) ?_)
  clear henv a; intro a henv
  refine seq_g rfl henv rfl rfl (op_val (v := .slice A0 n0 c0) henv rfl (rn_move henv rfl) ?_)
  clear henv a; intro a henv
  refine seq_g rfl henv rfl rfl (op_call henv rfl Tryd.call34 rfl (norm_num (N := X) ⟨_, (show U32 _ A0 n0 c0 xs0 from hst.pat (k := 2) rfl), hX0⟩ (by omega)) ?_)
  rintro e w11 ⟨_, rfl, ⟨A9, c10, rfl, hU, hA⟩, hb⟩
  refine ⟨_, rfl, ?_⟩
  clear henv a; intro a henv
  replace hst := hst.freshU hb hU hA
  clear hU
  clear hA
  clear hb
  refine seq_g rfl henv rfl rfl (op_call henv rfl Tryd.call36 rfl (equal_u (show U32 _ A3 (nl X) c4 (L X) from hst.pat (k := 1) rfl) (show U32 _ A9 (nl X) c10 (L X) from hst.pat (k := 0) rfl)) ?_)
  rintro e w12 ⟨rfl, hb⟩
  refine ⟨_, rfl, ?_⟩
  clear henv a; intro a henv
  replace hst := hst.call hb
  clear hb
  rw [show (decide ((L X) = (L X))) = true from by rw [L_dec]; exact decide_eq_true (by rfl)] at henv
  refine seq_g rfl henv rfl rfl (op_val (v := .bool false) henv rfl (rn_un henv rfl rfl) ?_)
  clear henv a; intro a henv
  refine seq_step rfl (op_val (v := .bool false) henv rfl (rn_pick henv rfl rfl) ?_)
  clear henv a; intro a henv
  refine wpList_nil ?_
  refine th_n ?_
  refine if_f henv rfl (rfl) ?_
  refine wp_skip ?_
  refine th_n ?_
  refine wp_seq ?_
  refine region_seq ?_
  refine seq_step rfl (op_val (v := .string ⟨t.toArray⟩) henv rfl (rn_move henv rfl) ?_)
  clear henv a; intro a henv
  refine seq_step rfl (op_call henv rfl Tryd.call65 rfl (read_ok (l := t) (by omega) hne hok) ?_)
  rintro e w15 ⟨_, rfl, ⟨A13, c14, rfl, hU, hA⟩, hb⟩
  refine ⟨_, rfl, ?_⟩
  clear henv a; intro a henv
  replace hst := hst.freshU hb hU hA
  clear hU
  clear hA
  clear hb
  refine seq_step rfl (op_val (v := .tuple #[.slice A13 (nl (numOf t)) c14, .agg #[.int .i64 0, .int .i64 0]]) henv rfl (rn_move henv rfl) ?_)
  clear henv a; intro a henv
  refine seq_step rfl (op_val (v := .slice A13 (nl (numOf t)) c14) henv rfl (rn_extract henv rfl rfl) ?_)
  clear henv a; intro a henv
  refine seq_step rfl (op_val (v := .agg #[.int .i64 0, .int .i64 0]) henv rfl (rn_extract henv rfl rfl) ?_)
  clear henv a; intro a henv
  refine seq_step rfl (op_val (v := .slice A13 (nl (numOf t)) c14) henv rfl (rn_assign henv rfl) ?_)
  clear henv a; intro a henv
  refine seq_step rfl (op_store (k := 0) (c' := #[.int .i64 0, .int .i64 0]) henv hst (ty_anvil_api_Spot.size) rfl rfl rfl rfl (by simp) rfl rfl ?_)
  clear henv hst a; intro a w16 henv hst
  refine wpList_nil ?_
  refine th_n ?_
  refine wp_seq ?_
  refine wp_seq ?_
  refine region_seq ?_
  refine seq_step rfl (op_val (v := .agg #[.int .i64 0, .int .i64 0]) henv rfl (rn_load0 henv ty_anvil_api_Spot rfl (hst.oat (k := 0) rfl) rfl) ?_)
  clear henv a; intro a henv
  refine seq_step rfl (op_val (v := .agg #[.int .i64 0, .int .i64 0]) henv rfl (rn_spot0) ?_)
  clear henv a; intro a henv
  refine seq_step rfl (op_val (v := .bool (decide ([(0 : Int), (0 : Int)] = [(0 : Int), (0 : Int)]))) henv rfl (rn_eqlI [(0 : Int), (0 : Int)] [(0 : Int), (0 : Int)] henv spotI rfl rfl rfl rfl) ?_)
  clear henv a; intro a henv
  rw [show (decide ([(0 : Int), (0 : Int)] = [(0 : Int), (0 : Int)])) = true from rfl] at henv
  refine seq_step rfl (op_val (v := .bool true) henv rfl (rn_move henv rfl) ?_)
  clear henv a; intro a henv
  refine seq_g rfl henv rfl rfl (op_val (v := .slice A13 (nl (numOf t)) c14) henv rfl (rn_move henv rfl) ?_)
  clear henv a; intro a henv
  refine seq_g rfl henv rfl rfl (op_call henv rfl Tryd.call66 rfl (text_num (N := (numOf t)) ⟨_, (show U32 _ A13 (nl (numOf t)) c14 (L (numOf t)) from hst.pat (k := 0) rfl), (val_L _)⟩ (by omega)) ?_)
  rintro e w17 ⟨rfl, hb⟩
  refine ⟨_, rfl, ?_⟩
  clear henv a; intro a henv
  replace hst := hst.call hb
  clear hb
  refine seq_g rfl henv rfl rfl (op_val (v := .string ⟨t.toArray⟩) henv rfl (rn_move henv rfl) ?_)
  clear henv a; intro a henv
  refine seq_g rfl henv rfl rfl (op_val (v := .bool (!decide ((textN (numOf t)) = t))) henv rfl (rn_neqs (s := (textN (numOf t))) (t := t) henv rfl rfl) ?_)
  clear henv a; intro a henv
  rw [show (!decide ((textN (numOf t)) = t)) = false from (by rw [textN_numOf _ t rfl hne hok]; simp)] at henv
  refine seq_step rfl (op_val (v := .bool false) henv rfl (rn_pick henv rfl rfl) ?_)
  clear henv a; intro a henv
  refine wpList_nil ?_
  refine th_n ?_
  refine if_f henv rfl (rfl) ?_
  refine wp_skip ?_
  refine th_n ?_
  refine wp_seq ?_
  refine region_seq ?_
  refine seq_step rfl (op_val (v := .slice A0 n0 c0) henv rfl (rn_move henv rfl) ?_)
  clear henv a; intro a henv
  refine seq_step rfl (op_val (v := .int .i64 0) henv rfl (rn_move henv rfl) ?_)
  clear henv a; intro a henv
  have hs20 := nl_shl X 0
  refine seq_step rfl (op_call henv rfl Tryd.call55 rfl (shl_num (N := X) (s := 0) ⟨_, (show U32 _ A0 n0 c0 xs0 from hst.pat (k := 4) rfl), hX0⟩ (by omega) (by omega)) ?_)
  rintro e w21 ⟨_, rfl, ⟨A18, c19, rfl, hU, hA⟩, hb⟩
  refine ⟨_, rfl, ?_⟩
  clear henv a; intro a henv
  replace hst := hst.freshU hb hU hA
  clear hU
  clear hA
  clear hb
  refine seq_step rfl (op_val (v := .tuple #[.slice A18 (nl (X * 2 ^ 0)) c19, .int .i64 0]) henv rfl (rn_move henv rfl) ?_)
  clear henv a; intro a henv
  refine seq_step rfl (op_val (v := .slice A18 (nl (X * 2 ^ 0)) c19) henv rfl (rn_extract henv rfl rfl) ?_)
  clear henv a; intro a henv
  refine seq_step rfl (op_val (v := .int .i64 0) henv rfl (rn_extract henv rfl rfl) ?_)
  clear henv a; intro a henv
  refine seq_step rfl (op_val (v := .slice A18 (nl (X * 2 ^ 0)) c19) henv rfl (rn_assign henv rfl) ?_)
  clear henv a; intro a henv
  refine seq_step rfl (op_val (v := .int .i64 0) henv rfl (rn_assign henv rfl) ?_)
  clear henv a; intro a henv
  refine wpList_nil ?_
  refine th_n ?_
  refine wp_seq ?_
  refine region_seq ?_
  refine seq_step rfl (op_val (v := .slice A18 (nl (X * 2 ^ 0)) c19) henv rfl (rn_move henv rfl) ?_)
  clear henv a; intro a henv
  refine seq_step rfl (op_val (v := .int .i64 0) henv rfl (rn_move henv rfl) ?_)
  clear henv a; intro a henv
  have hs24 := nl_div (X * 2 ^ 0) (2 ^ 0)
  refine seq_step rfl (op_call henv rfl Tryd.call56 rfl (shr_num (N := (X * 2 ^ 0)) (s := 0) ⟨_, (show U32 _ A18 (nl (X * 2 ^ 0)) c19 (L (X * 2 ^ 0)) from hst.pat (k := 0) rfl), (val_L _)⟩ (by omega) (by omega)) ?_)
  rintro e w25 ⟨_, rfl, ⟨A22, c23, rfl, hU, hA⟩, hb⟩
  refine ⟨_, rfl, ?_⟩
  clear henv a; intro a henv
  replace hst := hst.freshU hb hU hA
  clear hU
  clear hA
  clear hb
  refine seq_step rfl (op_val (v := .tuple #[.slice A22 (nl ((X * 2 ^ 0) / 2 ^ 0)) c23, .int .i64 0]) henv rfl (rn_move henv rfl) ?_)
  clear henv a; intro a henv
  refine seq_step rfl (op_val (v := .slice A22 (nl ((X * 2 ^ 0) / 2 ^ 0)) c23) henv rfl (rn_extract henv rfl rfl) ?_)
  clear henv a; intro a henv
  refine seq_step rfl (op_val (v := .int .i64 0) henv rfl (rn_extract henv rfl rfl) ?_)
  clear henv a; intro a henv
  refine seq_step rfl (op_val (v := .slice A22 (nl ((X * 2 ^ 0) / 2 ^ 0)) c23) henv rfl (rn_assign henv rfl) ?_)
  clear henv a; intro a henv
  refine seq_step rfl (op_val (v := .int .i64 0) henv rfl (rn_assign henv rfl) ?_)
  clear henv a; intro a henv
  refine wpList_nil ?_
  refine th_n ?_
  refine wp_seq ?_
  refine wp_seq ?_
  refine region_seq ?_
  refine seq_step rfl (op_val (v := .int .i64 0) henv rfl (rn_move henv rfl) ?_)
  clear henv a; intro a henv
  refine seq_step rfl (op_val (v := .bool false) henv rfl (rn_bin henv rfl rfl rfl) ?_)
  clear henv a; intro a henv
  refine seq_step rfl (op_val (v := .bool false) henv rfl (rn_move henv rfl) ?_)
  clear henv a; intro a henv
  refine seq_g rfl henv rfl rfl (op_val (v := .int .i64 0) henv rfl (rn_move henv rfl) ?_)
  clear henv a; intro a henv
  refine seq_g rfl henv rfl rfl (op_val (v := .bool false) henv rfl (rn_bin henv rfl rfl rfl) ?_)
  clear henv a; intro a henv
  refine seq_step rfl (op_val (v := .bool false) henv rfl (rn_pick henv rfl rfl) ?_)
  clear henv a; intro a henv
  refine seq_step rfl (op_val (v := .bool false) henv rfl (rn_move henv rfl) ?_)
  clear henv a; intro a henv
  refine seq_g rfl henv rfl rfl (op_val (v := .slice A22 (nl ((X * 2 ^ 0) / 2 ^ 0)) c23) henv rfl (rn_move henv rfl) ?_)
  clear henv a; intro a henv
  refine seq_g rfl henv rfl rfl (op_val (v := .slice A0 n0 c0) henv rfl (rn_move henv rfl) ?_)
  clear henv a; intro a henv
  refine seq_g rfl henv rfl rfl (op_call henv rfl Tryd.call34 rfl (norm_num (N := X) ⟨_, (show U32 _ A0 n0 c0 xs0 from hst.pat (k := 6) rfl), hX0⟩ (by omega)) ?_)
  rintro e w28 ⟨_, rfl, ⟨A26, c27, rfl, hU, hA⟩, hb⟩
  refine ⟨_, rfl, ?_⟩
  clear henv a; intro a henv
  replace hst := hst.freshU hb hU hA
  clear hU
  clear hA
  clear hb
  refine seq_g rfl henv rfl rfl (op_call henv rfl Tryd.call36 rfl (equal_u (show U32 _ A22 (nl ((X * 2 ^ 0) / 2 ^ 0)) c23 (L ((X * 2 ^ 0) / 2 ^ 0)) from hst.pat (k := 1) rfl) (show U32 _ A26 (nl X) c27 (L X) from hst.pat (k := 0) rfl)) ?_)
  rintro e w29 ⟨rfl, hb⟩
  refine ⟨_, rfl, ?_⟩
  clear henv a; intro a henv
  replace hst := hst.call hb
  clear hb
  rw [show (decide ((L ((X * 2 ^ 0) / 2 ^ 0)) = (L X))) = true from by rw [L_dec]; exact decide_eq_true (by exact Nat.mul_div_cancel _ (Nat.pow_pos (by decide)))] at henv
  refine seq_g rfl henv rfl rfl (op_val (v := .bool false) henv rfl (rn_un henv rfl rfl) ?_)
  clear henv a; intro a henv
  refine seq_step rfl (op_val (v := .bool false) henv rfl (rn_pick henv rfl rfl) ?_)
  clear henv a; intro a henv
  refine wpList_nil ?_
  refine th_n ?_
  refine if_f henv rfl (rfl) ?_
  refine wp_skip ?_
  refine th_n ?_
  refine wp_seq ?_
  refine wp_seq ?_
  refine region_seq ?_
  refine seq_step rfl (op_val (v := .slice A22 (nl ((X * 2 ^ 0) / 2 ^ 0)) c23) henv rfl (rn_move henv rfl) ?_)
  clear henv a; intro a henv
  refine seq_step rfl (op_val (v := .int .i64 (nl ((X * 2 ^ 0) / 2 ^ 0) : Nat)) henv rfl (rn_len henv Tryd.underlying22 rfl) ?_)
  clear henv a; intro a henv
  refine seq_step rfl (op_val (v := .bool (((nl ((X * 2 ^ 0) / 2 ^ 0) : Nat) : Int) == (0 : Int))) henv rfl (rn_bin henv rfl rfl rfl) ?_)
  clear henv a; intro a henv
  rw [show (((nl ((X * 2 ^ 0) / 2 ^ 0) : Nat) : Int) == (0 : Int)) = false from by rw [Nat.mul_div_cancel _ (Nat.pow_pos (by decide))]; have := nl_pos (N := X) (by omega); simp; omega] at henv
  refine wpList_nil ?_
  refine th_n ?_
  refine if_f henv rfl (rfl) ?_
  refine wp_skip ?_
  refine th_n ?_
  refine wp_seq ?_
  refine region_seq ?_
  refine seq_step rfl (op_val (v := .slice A18 (nl (X * 2 ^ 0)) c19) henv rfl (rn_move henv rfl) ?_)
  clear henv a; intro a henv
  refine seq_step rfl (op_call henv rfl Tryd.call61 rfl (ltwos_to (N := (X * 2 ^ 0)) (show U32 _ A18 (nl (X * 2 ^ 0)) c19 (L (X * 2 ^ 0)) from hst.pat (k := 2) rfl) ((val_L _)) (by omega) (show Deb _ from hst.pat (k := 6) rfl)) ?_)
  rintro e w31 ⟨k30, rfl, hpk30, hzk30, hb⟩
  refine ⟨_, rfl, ?_⟩
  clear henv a; intro a henv
  replace hst := hst.call hb
  have hbk30 := tz_blen (hpk30 (mul_pow_ne hX00))
  clear hb
  refine seq_step rfl (op_val (v := .slice A0 n0 c0) henv rfl (rn_move henv rfl) ?_)
  clear henv a; intro a henv
  refine seq_step rfl (op_call henv rfl Tryd.call61 rfl (ltwos_to (N := X) (show U32 _ A0 n0 c0 xs0 from hst.pat (k := 7) rfl) (hX0) (by omega) (show Deb _ from hst.pat (k := 6) rfl)) ?_)
  rintro e w33 ⟨k32, rfl, hpk32, hzk32, hb⟩
  refine ⟨_, rfl, ?_⟩
  clear henv a; intro a henv
  replace hst := hst.call hb
  have hbk32 := tz_blen (hpk32 hX00)
  clear hb
  refine seq_step rfl (op_val (v := .int .i64 0) henv rfl (rn_move henv rfl) ?_)
  clear henv a; intro a henv
  refine seq_step rfl (op_val (v := .int .i64 (k32 : Nat)) henv rfl (rn_add henv rfl rfl (by rw [Int.add_zero]; exact IntWalk.i64_in _ (by omega))) ?_)
  clear henv a; intro a henv
  refine seq_step rfl (op_val (v := .bool (((k30 : Nat) : Int) == ((k32 : Nat) : Int))) henv rfl (rn_bin henv rfl rfl rfl) ?_)
  clear henv a; intro a henv
  rw [show (((k30 : Nat) : Int) == ((k32 : Nat) : Int)) = true from tz_eq (tz_shl (hpk32 hX00) 0) (hpk30 (mul_pow_ne hX00))] at henv
  refine seq_step rfl (op_val (v := .bool true) henv rfl (rn_move henv rfl) ?_)
  clear henv a; intro a henv
  refine seq_g rfl henv rfl rfl (op_val (v := .slice A18 (nl (X * 2 ^ 0)) c19) henv rfl (rn_move henv rfl) ?_)
  clear henv a; intro a henv
  have hs34 := blen_nl (X * 2 ^ 0)
  refine seq_g rfl henv rfl rfl (op_call henv rfl Tryd.call57 rfl (lbits_num (N := (X * 2 ^ 0)) ⟨_, (show U32 _ A18 (nl (X * 2 ^ 0)) c19 (L (X * 2 ^ 0)) from hst.pat (k := 2) rfl), (val_L _)⟩ (by omega)) ?_)
  rintro e w35 ⟨rfl, hb⟩
  refine ⟨_, rfl, ?_⟩
  clear henv a; intro a henv
  replace hst := hst.call hb
  clear hb
  refine seq_g rfl henv rfl rfl (op_val (v := .slice A0 n0 c0) henv rfl (rn_move henv rfl) ?_)
  clear henv a; intro a henv
  have hs36 := blen_nl X
  refine seq_g rfl henv rfl rfl (op_call henv rfl Tryd.call57 rfl (lbits_num (N := X) ⟨_, (show U32 _ A0 n0 c0 xs0 from hst.pat (k := 7) rfl), hX0⟩ (by omega)) ?_)
  rintro e w37 ⟨rfl, hb⟩
  refine ⟨_, rfl, ?_⟩
  clear henv a; intro a henv
  replace hst := hst.call hb
  clear hb
  refine seq_g rfl henv rfl rfl (op_val (v := .int .i64 0) henv rfl (rn_move henv rfl) ?_)
  clear henv a; intro a henv
  refine seq_g rfl henv rfl rfl (op_val (v := .int .i64 (blen X : Nat)) henv rfl (rn_add henv rfl rfl (by rw [Int.add_zero]; exact IntWalk.i64_in _ (by omega))) ?_)
  clear henv a; intro a henv
  refine seq_g rfl henv rfl rfl (op_val (v := .bool (((blen (X * 2 ^ 0) : Nat) : Int) == ((blen X : Nat) : Int))) henv rfl (rn_bin henv rfl rfl rfl) ?_)
  clear henv a; intro a henv
  rw [show (((blen (X * 2 ^ 0) : Nat) : Int) == ((blen X : Nat) : Int)) = true from blen_eq hX00 0] at henv
  refine seq_step rfl (op_val (v := .bool true) henv rfl (rn_pick henv rfl rfl) ?_)
  clear henv a; intro a henv
  refine seq_step rfl (op_val (v := .bool true) henv rfl (rn_move henv rfl) ?_)
  clear henv a; intro a henv
  refine seq_g rfl henv rfl rfl (op_val (v := .slice A18 (nl (X * 2 ^ 0)) c19) henv rfl (rn_move henv rfl) ?_)
  clear henv a; intro a henv
  refine seq_g rfl henv rfl rfl (op_val (v := .int .i64 0) henv rfl (rn_move henv rfl) ?_)
  clear henv a; intro a henv
  refine seq_g rfl henv rfl rfl (op_val (v := .int .i64 (-1)) henv rfl (rn_bin henv rfl rfl rfl) ?_)
  clear henv a; intro a henv
  refine seq_g rfl henv rfl rfl (op_call henv rfl Tryd.call59 rfl (lb_bit_neg (show U32 _ A18 (nl (X * 2 ^ 0)) c19 (L (X * 2 ^ 0)) from hst.pat (k := 2) rfl) (by omega)) ?_)
  rintro e w38 ⟨rfl, hb⟩
  refine ⟨_, rfl, ?_⟩
  clear henv a; intro a henv
  replace hst := hst.call hb
  clear hb
  refine seq_g rfl henv rfl rfl (op_val (v := .bool true) henv rfl (rn_un henv rfl rfl) ?_)
  clear henv a; intro a henv
  refine seq_step rfl (op_val (v := .bool true) henv rfl (rn_pick henv rfl rfl) ?_)
  clear henv a; intro a henv
  refine seq_step rfl (op_val (v := .bool true) henv rfl (rn_move henv rfl) ?_)
  clear henv a; intro a henv
  refine seq_g rfl henv rfl rfl (op_val (v := .slice A18 (nl (X * 2 ^ 0)) c19) henv rfl (rn_move henv rfl) ?_)
  clear henv a; intro a henv
  refine seq_g rfl henv rfl rfl (op_val (v := .slice A18 (nl (X * 2 ^ 0)) c19) henv rfl (rn_move henv rfl) ?_)
  clear henv a; intro a henv
  have hs39 := blen_nl (X * 2 ^ 0)
  refine seq_g rfl henv rfl rfl (op_call henv rfl Tryd.call57 rfl (lbits_num (N := (X * 2 ^ 0)) ⟨_, (show U32 _ A18 (nl (X * 2 ^ 0)) c19 (L (X * 2 ^ 0)) from hst.pat (k := 2) rfl), (val_L _)⟩ (by omega)) ?_)
  rintro e w40 ⟨rfl, hb⟩
  refine ⟨_, rfl, ?_⟩
  clear henv a; intro a henv
  replace hst := hst.call hb
  clear hb
  refine seq_g rfl henv rfl rfl (op_val (v := .int .i64 ((blen (X * 2 ^ 0)) - 1 : Nat)) henv rfl (rn_sub henv rfl rfl (by rw [IntWalk.i64_in _ (by omega)]; omega)) ?_)
  clear henv a; intro a henv
  refine seq_g rfl henv rfl rfl (op_call henv rfl Tryd.call59 rfl (lb_bit (N := (X * 2 ^ 0)) (k := (blen (X * 2 ^ 0)) - 1) (show U32 _ A18 (nl (X * 2 ^ 0)) c19 (L (X * 2 ^ 0)) from hst.pat (k := 2) rfl) (val_L _) (by omega)) ?_)
  rintro e w42 ⟨⟨b41, rfl, htb41⟩, hb⟩
  refine ⟨_, rfl, ?_⟩
  clear henv a; intro a henv
  replace hst := hst.call hb
  clear hb
  rw [show b41 = true from bit_top (mul_pow_ne hX00) htb41] at henv
  refine seq_step rfl (op_val (v := .bool true) henv rfl (rn_pick henv rfl rfl) ?_)
  clear henv a; intro a henv
  refine seq_step rfl (op_val (v := .bool true) henv rfl (rn_assign henv rfl) ?_)
  clear henv a; intro a henv
  refine wpList_nil ?_
  refine th_n ?_
  refine wp_ret ?_
  refine leave henv (res1 Tryd.results13 (RV.tmp henv rfl)) ?_
  exact ⟨rfl, hst.below⟩

set_option maxRecDepth 100000 in
set_option maxHeartbeats 4000000 in
theorem back_sp_empty {A0 : Option Addr} {n0 c0 : Nat} {xs0 : List Nat} {t : List UInt8} {s : Nat} {w0 : World} (u0 : U32 w0 A0 n0 c0 xs0) (hn0 : n0 ≤ 600) (hT : Deb w0) (_ht4 : t.length ≤ 4000) (hs : s + 1 ≤ 65536) (ht : t = []) (hX : val 4294967296 xs0 ≠ 0) :
    Calls Tryd.prog 13 #[.slice A0 n0 c0, .string ⟨t.toArray⟩, .int .i64 (s + 1 : Nat)] w0 fun e w' => e = .returned (.bool true) ∧ Below w0.heap.size w0 w' := by
  obtain ⟨X, hX0⟩ : ∃ z, val 4294967296 xs0 = z := ⟨_, rfl⟩
  have hl0 : nl X ≤ n0 := hX0 ▸ nl_val u0
  have hxl0 := u0.len
  have hbX := blen_nl X
  have htx := textN_bd X
  have hX00 : X ≠ 0 := hX0 ▸ hX
  have hbS := blen_nl (X * 2 ^ (s + 1))
  have hnS := nl_shl X (s + 1)
  have hnq : nl (X * 2 ^ (s + 1) / 2 ^ (s + 1)) ≤ nl X := by rw [Nat.mul_div_cancel _ (Nat.pow_pos (by decide))]; exact Nat.le_refl _
  have htl0 : t.length = 0 := by rw [ht]; rfl
  refine enter Tryd.func13 rfl Tryd.ntmps13 rfl ?_
  intro a henv hst
  replace hst := (hst.addU u0 trivial)
  clear u0
  replace hst := hst.addT hT hT
  refine wp_seq ?_
  refine region_seq ?_
  refine seq_step rfl (op_val (v := .bool false) henv rfl (rn_assign henv rfl) ?_)
  clear henv a; intro a henv
  refine wpList_nil ?_
  refine th_n ?_
  refine wp_seq ?_
  refine wp_seq ?_
  refine region_seq ?_
  refine seq_step rfl (op_call henv rfl Tryd.call32 rfl (works_true _) ?_)
  rintro e w1 ⟨rfl, hb⟩
  refine ⟨_, rfl, ?_⟩
  clear henv a; intro a henv
  replace hst := hst.call hb
  clear hb
  refine seq_step rfl (op_val (v := .bool false) henv rfl (rn_un henv rfl rfl) ?_)
  clear henv a; intro a henv
  refine wpList_nil ?_
  refine th_n ?_
  refine if_f henv rfl (rfl) ?_
  refine wp_skip ?_
  refine th_n ?_
  refine wp_seq ?_
  refine wp_seq ?_
  refine region_seq ?_
  refine seq_step rfl (op_val (v := .slice A0 n0 c0) henv rfl (rn_move henv rfl) ?_)
  clear henv a; intro a henv
  refine seq_step rfl (op_val (v := .int .i64 (n0 : Nat)) henv rfl (rn_len henv Tryd.underlying22 rfl) ?_)
  clear henv a; intro a henv
  refine seq_step rfl (op_val (v := .bool (decide (((n0 : Nat) : Int) > (600 : Int)))) henv rfl (rn_bin henv rfl rfl rfl) ?_)
  clear henv a; intro a henv
  rw [show (decide (((n0 : Nat) : Int) > (600 : Int))) = false from decide_eq_false (by omega)] at henv
  refine seq_step rfl (op_val (v := .bool false) henv rfl (rn_move henv rfl) ?_)
  clear henv a; intro a henv
  refine seq_g rfl henv rfl rfl (op_val (v := .string ⟨t.toArray⟩) henv rfl (rn_move henv rfl) ?_)
  clear henv a; intro a henv
  refine seq_g rfl henv rfl rfl (op_val (v := .int .i64 (t.length : Nat)) henv rfl (rn_lenS henv Tryd.underlying9 rfl) ?_)
  clear henv a; intro a henv
  refine seq_g rfl henv rfl rfl (op_val (v := .bool (decide (((t.length : Nat) : Int) > (4000 : Int)))) henv rfl (rn_bin henv rfl rfl rfl) ?_)
  clear henv a; intro a henv
  rw [show (decide (((t.length : Nat) : Int) > (4000 : Int))) = false from decide_eq_false (by omega)] at henv
  refine seq_step rfl (op_val (v := .bool false) henv rfl (rn_pick henv rfl rfl) ?_)
  clear henv a; intro a henv
  refine seq_step rfl (op_val (v := .bool false) henv rfl (rn_move henv rfl) ?_)
  clear henv a; intro a henv
  refine seq_g rfl henv rfl rfl (op_val (v := .int .i64 (s + 1 : Nat)) henv rfl (rn_move henv rfl) ?_)
  clear henv a; intro a henv
  refine seq_g rfl henv rfl rfl (op_val (v := .bool (decide (((s + 1 : Nat) : Int) < (0 : Int)))) henv rfl (rn_bin henv rfl rfl rfl) ?_)
  clear henv a; intro a henv
  rw [show (decide (((s + 1 : Nat) : Int) < (0 : Int))) = false from decide_eq_false (by omega)] at henv
  refine seq_step rfl (op_val (v := .bool false) henv rfl (rn_pick henv rfl rfl) ?_)
  clear henv a; intro a henv
  refine seq_step rfl (op_val (v := .bool false) henv rfl (rn_move henv rfl) ?_)
  clear henv a; intro a henv
  refine seq_g rfl henv rfl rfl (op_val (v := .int .i64 (s + 1 : Nat)) henv rfl (rn_move henv rfl) ?_)
  clear henv a; intro a henv
  refine seq_g rfl henv rfl rfl (op_val (v := .bool (decide (((s + 1 : Nat) : Int) > (65536 : Int)))) henv rfl (rn_bin henv rfl rfl rfl) ?_)
  clear henv a; intro a henv
  rw [show (decide (((s + 1 : Nat) : Int) > (65536 : Int))) = false from decide_eq_false (by omega)] at henv
  refine seq_step rfl (op_val (v := .bool false) henv rfl (rn_pick henv rfl rfl) ?_)
  clear henv a; intro a henv
  refine wpList_nil ?_
  refine th_n ?_
  refine if_f henv rfl (rfl) ?_
  refine wp_skip ?_
  refine th_n ?_
  refine wp_seq ?_
  refine region_seq ?_
  refine seq_step rfl (op_val (v := .slice A0 n0 c0) henv rfl (rn_move henv rfl) ?_)
  clear henv a; intro a henv
  refine seq_step rfl (op_call henv rfl Tryd.call66 rfl (text_num (N := X) ⟨_, (show U32 _ A0 n0 c0 xs0 from hst.pat (k := 1) rfl), hX0⟩ (by omega)) ?_)
  rintro e w2 ⟨rfl, hb⟩
  refine ⟨_, rfl, ?_⟩
  clear henv a; intro a henv
  replace hst := hst.call hb
  clear hb
  refine seq_step rfl (op_call henv rfl Tryd.call65 rfl (read_textN (N := X) (by omega)) ?_)
  rintro e w5 ⟨_, rfl, ⟨A3, c4, rfl, hU, hA⟩, hb⟩
  refine ⟨_, rfl, ?_⟩
  clear henv a; intro a henv
  replace hst := hst.freshU hb hU hA
  clear hU
  clear hA
  clear hb
  refine seq_step rfl (op_val (v := .tuple #[.slice A3 (nl X) c4, .agg #[.int .i64 0, .int .i64 0]]) henv rfl (rn_move henv rfl) ?_)
  clear henv a; intro a henv
  refine seq_step rfl (op_val (v := .slice A3 (nl X) c4) henv rfl (rn_extract henv rfl rfl) ?_)
  clear henv a; intro a henv
  refine seq_step rfl (op_val (v := .agg #[.int .i64 0, .int .i64 0]) henv rfl (rn_extract henv rfl rfl) ?_)
  clear henv a; intro a henv
  refine seq_step rfl (op_alloc (c := #[.int .i64 0, .int .i64 0]) henv hst rfl zero_anvil_api_Spot rfl ?_)
  clear henv hst a; intro a w7 g6 henv hst
  refine seq_step rfl (op_val (v := .slice A3 (nl X) c4) henv rfl (rn_assign henv rfl) ?_)
  clear henv a; intro a henv
  refine seq_step rfl (op_store (k := 0) (c' := #[.int .i64 0, .int .i64 0]) henv hst (ty_anvil_api_Spot.size) rfl rfl rfl rfl (by simp) rfl rfl ?_)
  clear henv hst a; intro a w8 henv hst
  refine wpList_nil ?_
  refine th_n ?_
  refine wp_seq ?_
  refine wp_seq ?_
  refine region_seq ?_
  refine seq_step rfl (op_val (v := .agg #[.int .i64 0, .int .i64 0]) henv rfl (rn_load0 henv ty_anvil_api_Spot rfl (hst.oat (k := 0) rfl) rfl) ?_)
  clear henv a; intro a henv
  refine seq_step rfl (op_val (v := .agg #[.int .i64 0, .int .i64 0]) henv rfl (rn_spot0) ?_)
  clear henv a; intro a henv
  refine seq_step rfl (op_val (v := .bool (!decide ([(0 : Int), (0 : Int)] = [(0 : Int), (0 : Int)]))) henv rfl (rn_neqI [(0 : Int), (0 : Int)] [(0 : Int), (0 : Int)] henv spotI rfl rfl rfl rfl) ?_)
  clear henv a; intro a henv
  rw [show (!decide ([(0 : Int), (0 : Int)] = [(0 : Int), (0 : Int)])) = false from rfl] at henv
  refine seq_step rfl (op_val (v := .bool false) henv rfl (rn_move henv rfl) ?_)
  clear henv a; intro a henv
  refine seq_g rfl henv rfl rfl (op_val (v := .slice A3 (nl X) c4) henv rfl (rn_move henv rfl) ?_)
  clear henv a; intro a henv
  refine seq_g rfl henv rfl rfl (op_val (v := .slice A0 n0 c0) henv rfl (rn_move henv rfl) ?_)
  clear henv a; intro a henv
  refine seq_g rfl henv rfl rfl (op_call henv rfl Tryd.call34 rfl (norm_num (N := X) ⟨_, (show U32 _ A0 n0 c0 xs0 from hst.pat (k := 2) rfl), hX0⟩ (by omega)) ?_)
  rintro e w11 ⟨_, rfl, ⟨A9, c10, rfl, hU, hA⟩, hb⟩
  refine ⟨_, rfl, ?_⟩
  clear henv a; intro a henv
  replace hst := hst.freshU hb hU hA
  clear hU
  clear hA
  clear hb
  refine seq_g rfl henv rfl rfl (op_call henv rfl Tryd.call36 rfl (equal_u (show U32 _ A3 (nl X) c4 (L X) from hst.pat (k := 1) rfl) (show U32 _ A9 (nl X) c10 (L X) from hst.pat (k := 0) rfl)) ?_)
  rintro e w12 ⟨rfl, hb⟩
  refine ⟨_, rfl, ?_⟩
  clear henv a; intro a henv
  replace hst := hst.call hb
  clear hb
  rw [show (decide ((L X) = (L X))) = true from by rw [L_dec]; exact decide_eq_true (by rfl)] at henv
  refine seq_g rfl henv rfl rfl (op_val (v := .bool false) henv rfl (rn_un henv rfl rfl) ?_)
  clear henv a; intro a henv
  refine seq_step rfl (op_val (v := .bool false) henv rfl (rn_pick henv rfl rfl) ?_)
  clear henv a; intro a henv
  refine wpList_nil ?_
  refine th_n ?_
  refine if_f henv rfl (rfl) ?_
  refine wp_skip ?_
  refine th_n ?_
  refine wp_seq ?_
  refine region_seq ?_
  refine seq_step rfl (op_val (v := .string ⟨t.toArray⟩) henv rfl (rn_move henv rfl) ?_)
  clear henv a; intro a henv
  refine seq_step rfl (op_call henv rfl Tryd.call65 rfl (read_empty ht) ?_)
  rintro e w13 ⟨rfl, hb⟩
  refine ⟨_, rfl, ?_⟩
  clear henv a; intro a henv
  replace hst := hst.call hb
  clear hb
  refine seq_step rfl (op_val (v := .tuple #[.slice none 0 0, .agg #[.int .i64 6, .int .i64 0]]) henv rfl (rn_move henv rfl) ?_)
  clear henv a; intro a henv
  refine seq_step rfl (op_val (v := .slice none 0 0) henv rfl (rn_extract henv rfl rfl) ?_)
  clear henv a; intro a henv
  refine seq_step rfl (op_val (v := .agg #[.int .i64 6, .int .i64 0]) henv rfl (rn_extract henv rfl rfl) ?_)
  clear henv a; intro a henv
  refine seq_step rfl (op_val (v := .slice none 0 0) henv rfl (rn_assign henv rfl) ?_)
  clear henv a; intro a henv
  refine seq_step rfl (op_store (k := 0) (c' := #[.int .i64 6, .int .i64 0]) henv hst (ty_anvil_api_Spot.size) rfl rfl rfl rfl (by simp) rfl rfl ?_)
  clear henv hst a; intro a w14 henv hst
  refine wpList_nil ?_
  refine th_n ?_
  refine wp_seq ?_
  refine wp_seq ?_
  refine region_seq ?_
  refine seq_step rfl (op_val (v := .agg #[.int .i64 6, .int .i64 0]) henv rfl (rn_load0 henv ty_anvil_api_Spot rfl (hst.oat (k := 0) rfl) rfl) ?_)
  clear henv a; intro a henv
  refine seq_step rfl (op_val (v := .agg #[.int .i64 0, .int .i64 0]) henv rfl (rn_spot0) ?_)
  clear henv a; intro a henv
  refine seq_step rfl (op_val (v := .bool (decide ([(6 : Int), (0 : Int)] = [(0 : Int), (0 : Int)]))) henv rfl (rn_eqlI [(6 : Int), (0 : Int)] [(0 : Int), (0 : Int)] henv spotI rfl rfl rfl rfl) ?_)
  clear henv a; intro a henv
  rw [show (decide ([(6 : Int), (0 : Int)] = [(0 : Int), (0 : Int)])) = false from spot_eq _] at henv
  refine seq_step rfl (op_val (v := .bool false) henv rfl (rn_move henv rfl) ?_)
  clear henv a; intro a henv
  refine seq_skip rfl henv rfl rfl rfl rfl ?_
  clear henv a; intro a henv
  refine seq_skip rfl henv rfl rfl rfl rfl ?_
  clear henv a; intro a henv
  refine seq_skip rfl henv rfl rfl rfl rfl ?_
  clear henv a; intro a henv
  refine seq_skip rfl henv rfl rfl rfl rfl ?_
  clear henv a; intro a henv
  refine seq_step rfl (op_val (v := .bool false) henv rfl (rn_pick henv rfl rfl) ?_)
  clear henv a; intro a henv
  refine wpList_nil ?_
  refine th_n ?_
  refine if_f henv rfl (rfl) ?_
  refine wp_skip ?_
  refine th_n ?_
  refine wp_seq ?_
  refine region_seq ?_
  refine seq_step rfl (op_val (v := .slice A0 n0 c0) henv rfl (rn_move henv rfl) ?_)
  clear henv a; intro a henv
  refine seq_step rfl (op_val (v := .int .i64 (s + 1 : Nat)) henv rfl (rn_move henv rfl) ?_)
  clear henv a; intro a henv
  have hs17 := nl_shl X (s + 1)
  refine seq_step rfl (op_call henv rfl Tryd.call55 rfl (shl_num (N := X) (s := s + 1) ⟨_, (show U32 _ A0 n0 c0 xs0 from hst.pat (k := 3) rfl), hX0⟩ (by omega) (by omega)) ?_)
  rintro e w18 ⟨_, rfl, ⟨A15, c16, rfl, hU, hA⟩, hb⟩
  refine ⟨_, rfl, ?_⟩
  clear henv a; intro a henv
  replace hst := hst.freshU hb hU hA
  clear hU
  clear hA
  clear hb
  refine seq_step rfl (op_val (v := .tuple #[.slice A15 (nl (X * 2 ^ (s + 1))) c16, .int .i64 0]) henv rfl (rn_move henv rfl) ?_)
  clear henv a; intro a henv
  refine seq_step rfl (op_val (v := .slice A15 (nl (X * 2 ^ (s + 1))) c16) henv rfl (rn_extract henv rfl rfl) ?_)
  clear henv a; intro a henv
  refine seq_step rfl (op_val (v := .int .i64 0) henv rfl (rn_extract henv rfl rfl) ?_)
  clear henv a; intro a henv
  refine seq_step rfl (op_val (v := .slice A15 (nl (X * 2 ^ (s + 1))) c16) henv rfl (rn_assign henv rfl) ?_)
  clear henv a; intro a henv
  refine seq_step rfl (op_val (v := .int .i64 0) henv rfl (rn_assign henv rfl) ?_)
  clear henv a; intro a henv
  refine wpList_nil ?_
  refine th_n ?_
  refine wp_seq ?_
  refine region_seq ?_
  refine seq_step rfl (op_val (v := .slice A15 (nl (X * 2 ^ (s + 1))) c16) henv rfl (rn_move henv rfl) ?_)
  clear henv a; intro a henv
  refine seq_step rfl (op_val (v := .int .i64 (s + 1 : Nat)) henv rfl (rn_move henv rfl) ?_)
  clear henv a; intro a henv
  have hs21 := nl_div (X * 2 ^ (s + 1)) (2 ^ (s + 1))
  refine seq_step rfl (op_call henv rfl Tryd.call56 rfl (shr_num (N := (X * 2 ^ (s + 1))) (s := s + 1) ⟨_, (show U32 _ A15 (nl (X * 2 ^ (s + 1))) c16 (L (X * 2 ^ (s + 1))) from hst.pat (k := 0) rfl), (val_L _)⟩ (by omega) (by omega)) ?_)
  rintro e w22 ⟨_, rfl, ⟨A19, c20, rfl, hU, hA⟩, hb⟩
  refine ⟨_, rfl, ?_⟩
  clear henv a; intro a henv
  replace hst := hst.freshU hb hU hA
  clear hU
  clear hA
  clear hb
  refine seq_step rfl (op_val (v := .tuple #[.slice A19 (nl ((X * 2 ^ (s + 1)) / 2 ^ (s + 1))) c20, .int .i64 0]) henv rfl (rn_move henv rfl) ?_)
  clear henv a; intro a henv
  refine seq_step rfl (op_val (v := .slice A19 (nl ((X * 2 ^ (s + 1)) / 2 ^ (s + 1))) c20) henv rfl (rn_extract henv rfl rfl) ?_)
  clear henv a; intro a henv
  refine seq_step rfl (op_val (v := .int .i64 0) henv rfl (rn_extract henv rfl rfl) ?_)
  clear henv a; intro a henv
  refine seq_step rfl (op_val (v := .slice A19 (nl ((X * 2 ^ (s + 1)) / 2 ^ (s + 1))) c20) henv rfl (rn_assign henv rfl) ?_)
  clear henv a; intro a henv
  refine seq_step rfl (op_val (v := .int .i64 0) henv rfl (rn_assign henv rfl) ?_)
  clear henv a; intro a henv
  refine wpList_nil ?_
  refine th_n ?_
  refine wp_seq ?_
  refine wp_seq ?_
  refine region_seq ?_
  refine seq_step rfl (op_val (v := .int .i64 0) henv rfl (rn_move henv rfl) ?_)
  clear henv a; intro a henv
  refine seq_step rfl (op_val (v := .bool false) henv rfl (rn_bin henv rfl rfl rfl) ?_)
  clear henv a; intro a henv
  refine seq_step rfl (op_val (v := .bool false) henv rfl (rn_move henv rfl) ?_)
  clear henv a; intro a henv
  refine seq_g rfl henv rfl rfl (op_val (v := .int .i64 0) henv rfl (rn_move henv rfl) ?_)
  clear henv a; intro a henv
  refine seq_g rfl henv rfl rfl (op_val (v := .bool false) henv rfl (rn_bin henv rfl rfl rfl) ?_)
  clear henv a; intro a henv
  refine seq_step rfl (op_val (v := .bool false) henv rfl (rn_pick henv rfl rfl) ?_)
  clear henv a; intro a henv
  refine seq_step rfl (op_val (v := .bool false) henv rfl (rn_move henv rfl) ?_)
  clear henv a; intro a henv
  refine seq_g rfl henv rfl rfl (op_val (v := .slice A19 (nl ((X * 2 ^ (s + 1)) / 2 ^ (s + 1))) c20) henv rfl (rn_move henv rfl) ?_)
  clear henv a; intro a henv
  refine seq_g rfl henv rfl rfl (op_val (v := .slice A0 n0 c0) henv rfl (rn_move henv rfl) ?_)
  clear henv a; intro a henv
  refine seq_g rfl henv rfl rfl (op_call henv rfl Tryd.call34 rfl (norm_num (N := X) ⟨_, (show U32 _ A0 n0 c0 xs0 from hst.pat (k := 5) rfl), hX0⟩ (by omega)) ?_)
  rintro e w25 ⟨_, rfl, ⟨A23, c24, rfl, hU, hA⟩, hb⟩
  refine ⟨_, rfl, ?_⟩
  clear henv a; intro a henv
  replace hst := hst.freshU hb hU hA
  clear hU
  clear hA
  clear hb
  refine seq_g rfl henv rfl rfl (op_call henv rfl Tryd.call36 rfl (equal_u (show U32 _ A19 (nl ((X * 2 ^ (s + 1)) / 2 ^ (s + 1))) c20 (L ((X * 2 ^ (s + 1)) / 2 ^ (s + 1))) from hst.pat (k := 1) rfl) (show U32 _ A23 (nl X) c24 (L X) from hst.pat (k := 0) rfl)) ?_)
  rintro e w26 ⟨rfl, hb⟩
  refine ⟨_, rfl, ?_⟩
  clear henv a; intro a henv
  replace hst := hst.call hb
  clear hb
  rw [show (decide ((L ((X * 2 ^ (s + 1)) / 2 ^ (s + 1))) = (L X))) = true from by rw [L_dec]; exact decide_eq_true (by exact Nat.mul_div_cancel _ (Nat.pow_pos (by decide)))] at henv
  refine seq_g rfl henv rfl rfl (op_val (v := .bool false) henv rfl (rn_un henv rfl rfl) ?_)
  clear henv a; intro a henv
  refine seq_step rfl (op_val (v := .bool false) henv rfl (rn_pick henv rfl rfl) ?_)
  clear henv a; intro a henv
  refine wpList_nil ?_
  refine th_n ?_
  refine if_f henv rfl (rfl) ?_
  refine wp_skip ?_
  refine th_n ?_
  refine wp_seq ?_
  refine wp_seq ?_
  refine region_seq ?_
  refine seq_step rfl (op_val (v := .slice A19 (nl ((X * 2 ^ (s + 1)) / 2 ^ (s + 1))) c20) henv rfl (rn_move henv rfl) ?_)
  clear henv a; intro a henv
  refine seq_step rfl (op_val (v := .int .i64 (nl ((X * 2 ^ (s + 1)) / 2 ^ (s + 1)) : Nat)) henv rfl (rn_len henv Tryd.underlying22 rfl) ?_)
  clear henv a; intro a henv
  refine seq_step rfl (op_val (v := .bool (((nl ((X * 2 ^ (s + 1)) / 2 ^ (s + 1)) : Nat) : Int) == (0 : Int))) henv rfl (rn_bin henv rfl rfl rfl) ?_)
  clear henv a; intro a henv
  rw [show (((nl ((X * 2 ^ (s + 1)) / 2 ^ (s + 1)) : Nat) : Int) == (0 : Int)) = false from by rw [Nat.mul_div_cancel _ (Nat.pow_pos (by decide))]; have := nl_pos (N := X) (by omega); simp; omega] at henv
  refine wpList_nil ?_
  refine th_n ?_
  refine if_f henv rfl (rfl) ?_
  refine wp_skip ?_
  refine th_n ?_
  refine wp_seq ?_
  refine region_seq ?_
  refine seq_step rfl (op_val (v := .slice A15 (nl (X * 2 ^ (s + 1))) c16) henv rfl (rn_move henv rfl) ?_)
  clear henv a; intro a henv
  refine seq_step rfl (op_call henv rfl Tryd.call61 rfl (ltwos_to (N := (X * 2 ^ (s + 1))) (show U32 _ A15 (nl (X * 2 ^ (s + 1))) c16 (L (X * 2 ^ (s + 1))) from hst.pat (k := 2) rfl) ((val_L _)) (by omega) (show Deb _ from hst.pat (k := 5) rfl)) ?_)
  rintro e w28 ⟨k27, rfl, hpk27, hzk27, hb⟩
  refine ⟨_, rfl, ?_⟩
  clear henv a; intro a henv
  replace hst := hst.call hb
  have hbk27 := tz_blen (hpk27 (mul_pow_ne hX00))
  clear hb
  refine seq_step rfl (op_val (v := .slice A0 n0 c0) henv rfl (rn_move henv rfl) ?_)
  clear henv a; intro a henv
  refine seq_step rfl (op_call henv rfl Tryd.call61 rfl (ltwos_to (N := X) (show U32 _ A0 n0 c0 xs0 from hst.pat (k := 6) rfl) (hX0) (by omega) (show Deb _ from hst.pat (k := 5) rfl)) ?_)
  rintro e w30 ⟨k29, rfl, hpk29, hzk29, hb⟩
  refine ⟨_, rfl, ?_⟩
  clear henv a; intro a henv
  replace hst := hst.call hb
  have hbk29 := tz_blen (hpk29 hX00)
  clear hb
  refine seq_step rfl (op_val (v := .int .i64 (s + 1 : Nat)) henv rfl (rn_move henv rfl) ?_)
  clear henv a; intro a henv
  refine seq_step rfl (op_val (v := .int .i64 (k29 + (s + 1) : Nat)) henv rfl (rn_add henv rfl rfl (by rw [IntWalk.i64_in _ (by omega)]; omega)) ?_)
  clear henv a; intro a henv
  refine seq_step rfl (op_val (v := .bool (((k27 : Nat) : Int) == ((k29 + (s + 1) : Nat) : Int))) henv rfl (rn_bin henv rfl rfl rfl) ?_)
  clear henv a; intro a henv
  rw [show (((k27 : Nat) : Int) == ((k29 + (s + 1) : Nat) : Int)) = true from tz_eq (tz_shl (hpk29 hX00) (s + 1)) (hpk27 (mul_pow_ne hX00))] at henv
  refine seq_step rfl (op_val (v := .bool true) henv rfl (rn_move henv rfl) ?_)
  clear henv a; intro a henv
  refine seq_g rfl henv rfl rfl (op_val (v := .slice A15 (nl (X * 2 ^ (s + 1))) c16) henv rfl (rn_move henv rfl) ?_)
  clear henv a; intro a henv
  have hs31 := blen_nl (X * 2 ^ (s + 1))
  refine seq_g rfl henv rfl rfl (op_call henv rfl Tryd.call57 rfl (lbits_num (N := (X * 2 ^ (s + 1))) ⟨_, (show U32 _ A15 (nl (X * 2 ^ (s + 1))) c16 (L (X * 2 ^ (s + 1))) from hst.pat (k := 2) rfl), (val_L _)⟩ (by omega)) ?_)
  rintro e w32 ⟨rfl, hb⟩
  refine ⟨_, rfl, ?_⟩
  clear henv a; intro a henv
  replace hst := hst.call hb
  clear hb
  refine seq_g rfl henv rfl rfl (op_val (v := .slice A0 n0 c0) henv rfl (rn_move henv rfl) ?_)
  clear henv a; intro a henv
  have hs33 := blen_nl X
  refine seq_g rfl henv rfl rfl (op_call henv rfl Tryd.call57 rfl (lbits_num (N := X) ⟨_, (show U32 _ A0 n0 c0 xs0 from hst.pat (k := 6) rfl), hX0⟩ (by omega)) ?_)
  rintro e w34 ⟨rfl, hb⟩
  refine ⟨_, rfl, ?_⟩
  clear henv a; intro a henv
  replace hst := hst.call hb
  clear hb
  refine seq_g rfl henv rfl rfl (op_val (v := .int .i64 (s + 1 : Nat)) henv rfl (rn_move henv rfl) ?_)
  clear henv a; intro a henv
  refine seq_g rfl henv rfl rfl (op_val (v := .int .i64 ((blen X) + (s + 1) : Nat)) henv rfl (rn_add henv rfl rfl (by rw [IntWalk.i64_in _ (by omega)]; omega)) ?_)
  clear henv a; intro a henv
  refine seq_g rfl henv rfl rfl (op_val (v := .bool (((blen (X * 2 ^ (s + 1)) : Nat) : Int) == (((blen X) + (s + 1) : Nat) : Int))) henv rfl (rn_bin henv rfl rfl rfl) ?_)
  clear henv a; intro a henv
  rw [show (((blen (X * 2 ^ (s + 1)) : Nat) : Int) == (((blen X) + (s + 1) : Nat) : Int)) = true from blen_eq hX00 (s + 1)] at henv
  refine seq_step rfl (op_val (v := .bool true) henv rfl (rn_pick henv rfl rfl) ?_)
  clear henv a; intro a henv
  refine seq_step rfl (op_val (v := .bool true) henv rfl (rn_move henv rfl) ?_)
  clear henv a; intro a henv
  refine seq_g rfl henv rfl rfl (op_val (v := .slice A15 (nl (X * 2 ^ (s + 1))) c16) henv rfl (rn_move henv rfl) ?_)
  clear henv a; intro a henv
  refine seq_g rfl henv rfl rfl (op_val (v := .int .i64 (s + 1 : Nat)) henv rfl (rn_move henv rfl) ?_)
  clear henv a; intro a henv
  refine seq_g rfl henv rfl rfl (op_val (v := .int .i64 (s : Nat)) henv rfl (rn_sub henv rfl rfl (by rw [IntWalk.i64_in _ (by omega)]; omega)) ?_)
  clear henv a; intro a henv
  refine seq_g rfl henv rfl rfl (op_call henv rfl Tryd.call59 rfl (lb_bit (N := (X * 2 ^ (s + 1))) (k := s) (show U32 _ A15 (nl (X * 2 ^ (s + 1))) c16 (L (X * 2 ^ (s + 1))) from hst.pat (k := 2) rfl) (val_L _) (by omega)) ?_)
  rintro e w36 ⟨⟨b35, rfl, htb35⟩, hb⟩
  refine ⟨_, rfl, ?_⟩
  clear henv a; intro a henv
  replace hst := hst.call hb
  clear hb
  refine seq_g rfl henv rfl rfl (op_val (v := .bool (!b35)) henv rfl (rn_un henv rfl rfl) ?_)
  clear henv a; intro a henv
  rw [show (!b35) = true from bit_low htb35] at henv
  refine seq_step rfl (op_val (v := .bool true) henv rfl (rn_pick henv rfl rfl) ?_)
  clear henv a; intro a henv
  refine seq_step rfl (op_val (v := .bool true) henv rfl (rn_move henv rfl) ?_)
  clear henv a; intro a henv
  refine seq_g rfl henv rfl rfl (op_val (v := .slice A15 (nl (X * 2 ^ (s + 1))) c16) henv rfl (rn_move henv rfl) ?_)
  clear henv a; intro a henv
  refine seq_g rfl henv rfl rfl (op_val (v := .slice A15 (nl (X * 2 ^ (s + 1))) c16) henv rfl (rn_move henv rfl) ?_)
  clear henv a; intro a henv
  have hs37 := blen_nl (X * 2 ^ (s + 1))
  refine seq_g rfl henv rfl rfl (op_call henv rfl Tryd.call57 rfl (lbits_num (N := (X * 2 ^ (s + 1))) ⟨_, (show U32 _ A15 (nl (X * 2 ^ (s + 1))) c16 (L (X * 2 ^ (s + 1))) from hst.pat (k := 2) rfl), (val_L _)⟩ (by omega)) ?_)
  rintro e w38 ⟨rfl, hb⟩
  refine ⟨_, rfl, ?_⟩
  clear henv a; intro a henv
  replace hst := hst.call hb
  clear hb
  refine seq_g rfl henv rfl rfl (op_val (v := .int .i64 ((blen (X * 2 ^ (s + 1))) - 1 : Nat)) henv rfl (rn_sub henv rfl rfl (by rw [IntWalk.i64_in _ (by omega)]; omega)) ?_)
  clear henv a; intro a henv
  refine seq_g rfl henv rfl rfl (op_call henv rfl Tryd.call59 rfl (lb_bit (N := (X * 2 ^ (s + 1))) (k := (blen (X * 2 ^ (s + 1))) - 1) (show U32 _ A15 (nl (X * 2 ^ (s + 1))) c16 (L (X * 2 ^ (s + 1))) from hst.pat (k := 2) rfl) (val_L _) (by omega)) ?_)
  rintro e w40 ⟨⟨b39, rfl, htb39⟩, hb⟩
  refine ⟨_, rfl, ?_⟩
  clear henv a; intro a henv
  replace hst := hst.call hb
  clear hb
  rw [show b39 = true from bit_top (mul_pow_ne hX00) htb39] at henv
  refine seq_step rfl (op_val (v := .bool true) henv rfl (rn_pick henv rfl rfl) ?_)
  clear henv a; intro a henv
  refine seq_step rfl (op_val (v := .bool true) henv rfl (rn_assign henv rfl) ?_)
  clear henv a; intro a henv
  refine wpList_nil ?_
  refine th_n ?_
  refine wp_ret ?_
  refine leave henv (res1 Tryd.results13 (RV.tmp henv rfl)) ?_
  exact ⟨rfl, hst.below⟩

set_option maxRecDepth 100000 in
set_option maxHeartbeats 4000000 in
theorem back_sp_bad {A0 : Option Addr} {n0 c0 : Nat} {xs0 : List Nat} {t : List UInt8} {i : Nat} {s : Nat} {w0 : World} (u0 : U32 w0 A0 n0 c0 xs0) (hn0 : n0 ≤ 600) (hT : Deb w0) (ht4 : t.length ≤ 4000) (hs : s + 1 ≤ 65536) (hi : i < t.length) (hbad : BadAt t i) (hok : ∀ j, j < i → ¬ BadAt t j) (hX : val 4294967296 xs0 ≠ 0) :
    Calls Tryd.prog 13 #[.slice A0 n0 c0, .string ⟨t.toArray⟩, .int .i64 (s + 1 : Nat)] w0 fun e w' => e = .returned (.bool true) ∧ Below w0.heap.size w0 w' := by
  obtain ⟨X, hX0⟩ : ∃ z, val 4294967296 xs0 = z := ⟨_, rfl⟩
  have hl0 : nl X ≤ n0 := hX0 ▸ nl_val u0
  have hxl0 := u0.len
  have hbX := blen_nl X
  have htx := textN_bd X
  have hX00 : X ≠ 0 := hX0 ▸ hX
  have hbS := blen_nl (X * 2 ^ (s + 1))
  have hnS := nl_shl X (s + 1)
  have hnq : nl (X * 2 ^ (s + 1) / 2 ^ (s + 1)) ≤ nl X := by rw [Nat.mul_div_cancel _ (Nat.pow_pos (by decide))]; exact Nat.le_refl _
  refine enter Tryd.func13 rfl Tryd.ntmps13 rfl ?_
  intro a henv hst
  replace hst := (hst.addU u0 trivial)
  clear u0
  replace hst := hst.addT hT hT
  refine wp_seq ?_
  refine region_seq ?_
  refine seq_step rfl (op_val (v := .bool false) henv rfl (rn_assign henv rfl) ?_)
  clear henv a; intro a henv
  refine wpList_nil ?_
  refine th_n ?_
  refine wp_seq ?_
  refine wp_seq ?_
  refine region_seq ?_
  refine seq_step rfl (op_call henv rfl Tryd.call32 rfl (works_true _) ?_)
  rintro e w1 ⟨rfl, hb⟩
  refine ⟨_, rfl, ?_⟩
  clear henv a; intro a henv
  replace hst := hst.call hb
  clear hb
  refine seq_step rfl (op_val (v := .bool false) henv rfl (rn_un henv rfl rfl) ?_)
  clear henv a; intro a henv
  refine wpList_nil ?_
  refine th_n ?_
  refine if_f henv rfl (rfl) ?_
  refine wp_skip ?_
  refine th_n ?_
  refine wp_seq ?_
  refine wp_seq ?_
  refine region_seq ?_
  refine seq_step rfl (op_val (v := .slice A0 n0 c0) henv rfl (rn_move henv rfl) ?_)
  clear henv a; intro a henv
  refine seq_step rfl (op_val (v := .int .i64 (n0 : Nat)) henv rfl (rn_len henv Tryd.underlying22 rfl) ?_)
  clear henv a; intro a henv
  refine seq_step rfl (op_val (v := .bool (decide (((n0 : Nat) : Int) > (600 : Int)))) henv rfl (rn_bin henv rfl rfl rfl) ?_)
  clear henv a; intro a henv
  rw [show (decide (((n0 : Nat) : Int) > (600 : Int))) = false from decide_eq_false (by omega)] at henv
  refine seq_step rfl (op_val (v := .bool false) henv rfl (rn_move henv rfl) ?_)
  clear henv a; intro a henv
  refine seq_g rfl henv rfl rfl (op_val (v := .string ⟨t.toArray⟩) henv rfl (rn_move henv rfl) ?_)
  clear henv a; intro a henv
  refine seq_g rfl henv rfl rfl (op_val (v := .int .i64 (t.length : Nat)) henv rfl (rn_lenS henv Tryd.underlying9 rfl) ?_)
  clear henv a; intro a henv
  refine seq_g rfl henv rfl rfl (op_val (v := .bool (decide (((t.length : Nat) : Int) > (4000 : Int)))) henv rfl (rn_bin henv rfl rfl rfl) ?_)
  clear henv a; intro a henv
  rw [show (decide (((t.length : Nat) : Int) > (4000 : Int))) = false from decide_eq_false (by omega)] at henv
  refine seq_step rfl (op_val (v := .bool false) henv rfl (rn_pick henv rfl rfl) ?_)
  clear henv a; intro a henv
  refine seq_step rfl (op_val (v := .bool false) henv rfl (rn_move henv rfl) ?_)
  clear henv a; intro a henv
  refine seq_g rfl henv rfl rfl (op_val (v := .int .i64 (s + 1 : Nat)) henv rfl (rn_move henv rfl) ?_)
  clear henv a; intro a henv
  refine seq_g rfl henv rfl rfl (op_val (v := .bool (decide (((s + 1 : Nat) : Int) < (0 : Int)))) henv rfl (rn_bin henv rfl rfl rfl) ?_)
  clear henv a; intro a henv
  rw [show (decide (((s + 1 : Nat) : Int) < (0 : Int))) = false from decide_eq_false (by omega)] at henv
  refine seq_step rfl (op_val (v := .bool false) henv rfl (rn_pick henv rfl rfl) ?_)
  clear henv a; intro a henv
  refine seq_step rfl (op_val (v := .bool false) henv rfl (rn_move henv rfl) ?_)
  clear henv a; intro a henv
  refine seq_g rfl henv rfl rfl (op_val (v := .int .i64 (s + 1 : Nat)) henv rfl (rn_move henv rfl) ?_)
  clear henv a; intro a henv
  refine seq_g rfl henv rfl rfl (op_val (v := .bool (decide (((s + 1 : Nat) : Int) > (65536 : Int)))) henv rfl (rn_bin henv rfl rfl rfl) ?_)
  clear henv a; intro a henv
  rw [show (decide (((s + 1 : Nat) : Int) > (65536 : Int))) = false from decide_eq_false (by omega)] at henv
  refine seq_step rfl (op_val (v := .bool false) henv rfl (rn_pick henv rfl rfl) ?_)
  clear henv a; intro a henv
  refine wpList_nil ?_
  refine th_n ?_
  refine if_f henv rfl (rfl) ?_
  refine wp_skip ?_
  refine th_n ?_
  refine wp_seq ?_
  refine region_seq ?_
  refine seq_step rfl (op_val (v := .slice A0 n0 c0) henv rfl (rn_move henv rfl) ?_)
  clear henv a; intro a henv
  refine seq_step rfl (op_call henv rfl Tryd.call66 rfl (text_num (N := X) ⟨_, (show U32 _ A0 n0 c0 xs0 from hst.pat (k := 1) rfl), hX0⟩ (by omega)) ?_)
  rintro e w2 ⟨rfl, hb⟩
  refine ⟨_, rfl, ?_⟩
  clear henv a; intro a henv
  replace hst := hst.call hb
  clear hb
  refine seq_step rfl (op_call henv rfl Tryd.call65 rfl (read_textN (N := X) (by omega)) ?_)
  rintro e w5 ⟨_, rfl, ⟨A3, c4, rfl, hU, hA⟩, hb⟩
  refine ⟨_, rfl, ?_⟩
  clear henv a; intro a henv
  replace hst := hst.freshU hb hU hA
  clear hU
  clear hA
  clear hb
  refine seq_step rfl (op_val (v := .tuple #[.slice A3 (nl X) c4, .agg #[.int .i64 0, .int .i64 0]]) henv rfl (rn_move henv rfl) ?_)
  clear henv a; intro a henv
  refine seq_step rfl (op_val (v := .slice A3 (nl X) c4) henv rfl (rn_extract henv rfl rfl) ?_)
  clear henv a; intro a henv
  refine seq_step rfl (op_val (v := .agg #[.int .i64 0, .int .i64 0]) henv rfl (rn_extract henv rfl rfl) ?_)
  clear henv a; intro a henv
  refine seq_step rfl (op_alloc (c := #[.int .i64 0, .int .i64 0]) henv hst rfl zero_anvil_api_Spot rfl ?_)
  clear henv hst a; intro a w7 g6 henv hst
  refine seq_step rfl (op_val (v := .slice A3 (nl X) c4) henv rfl (rn_assign henv rfl) ?_)
  clear henv a; intro a henv
  refine seq_step rfl (op_store (k := 0) (c' := #[.int .i64 0, .int .i64 0]) henv hst (ty_anvil_api_Spot.size) rfl rfl rfl rfl (by simp) rfl rfl ?_)
  clear henv hst a; intro a w8 henv hst
  refine wpList_nil ?_
  refine th_n ?_
  refine wp_seq ?_
  refine wp_seq ?_
  refine region_seq ?_
  refine seq_step rfl (op_val (v := .agg #[.int .i64 0, .int .i64 0]) henv rfl (rn_load0 henv ty_anvil_api_Spot rfl (hst.oat (k := 0) rfl) rfl) ?_)
  clear henv a; intro a henv
  refine seq_step rfl (op_val (v := .agg #[.int .i64 0, .int .i64 0]) henv rfl (rn_spot0) ?_)
  clear henv a; intro a henv
  refine seq_step rfl (op_val (v := .bool (!decide ([(0 : Int), (0 : Int)] = [(0 : Int), (0 : Int)]))) henv rfl (rn_neqI [(0 : Int), (0 : Int)] [(0 : Int), (0 : Int)] henv spotI rfl rfl rfl rfl) ?_)
  clear henv a; intro a henv
  rw [show (!decide ([(0 : Int), (0 : Int)] = [(0 : Int), (0 : Int)])) = false from rfl] at henv
  refine seq_step rfl (op_val (v := .bool false) henv rfl (rn_move henv rfl) ?_)
  clear henv a; intro a henv
  refine seq_g rfl henv rfl rfl (op_val (v := .slice A3 (nl X) c4) henv rfl (rn_move henv rfl) ?_)
  clear henv a; intro a henv
  refine seq_g rfl henv rfl rfl (op_val (v := .slice A0 n0 c0) henv rfl (rn_move henv rfl) ?_)
  clear henv a; intro a henv
  refine seq_g rfl henv rfl rfl (op_call henv rfl Tryd.call34 rfl (norm_num (N := X) ⟨_, (show U32 _ A0 n0 c0 xs0 from hst.pat (k := 2) rfl), hX0⟩ (by omega)) ?_)
  rintro e w11 ⟨_, rfl, ⟨A9, c10, rfl, hU, hA⟩, hb⟩
  refine ⟨_, rfl, ?_⟩
  clear henv a; intro a henv
  replace hst := hst.freshU hb hU hA
  clear hU
  clear hA
  clear hb
  refine seq_g rfl henv rfl rfl (op_call henv rfl Tryd.call36 rfl (equal_u (show U32 _ A3 (nl X) c4 (L X) from hst.pat (k := 1) rfl) (show U32 _ A9 (nl X) c10 (L X) from hst.pat (k := 0) rfl)) ?_)
  rintro e w12 ⟨rfl, hb⟩
  refine ⟨_, rfl, ?_⟩
  clear henv a; intro a henv
  replace hst := hst.call hb
  clear hb
  rw [show (decide ((L X) = (L X))) = true from by rw [L_dec]; exact decide_eq_true (by rfl)] at henv
  refine seq_g rfl henv rfl rfl (op_val (v := .bool false) henv rfl (rn_un henv rfl rfl) ?_)
  clear henv a; intro a henv
  refine seq_step rfl (op_val (v := .bool false) henv rfl (rn_pick henv rfl rfl) ?_)
  clear henv a; intro a henv
  refine wpList_nil ?_
  refine th_n ?_
  refine if_f henv rfl (rfl) ?_
  refine wp_skip ?_
  refine th_n ?_
  refine wp_seq ?_
  refine region_seq ?_
  refine seq_step rfl (op_val (v := .string ⟨t.toArray⟩) henv rfl (rn_move henv rfl) ?_)
  clear henv a; intro a henv
  refine seq_step rfl (op_call henv rfl Tryd.call65 rfl (read_bad (by omega) hi hbad hok) ?_)
  rintro e w13 ⟨rfl, hb⟩
  refine ⟨_, rfl, ?_⟩
  clear henv a; intro a henv
  replace hst := hst.call hb
  clear hb
  refine seq_step rfl (op_val (v := .tuple #[.slice none 0 0, .agg #[.int .i64 6, .int .i64 (i : Nat)]]) henv rfl (rn_move henv rfl) ?_)
  clear henv a; intro a henv
  refine seq_step rfl (op_val (v := .slice none 0 0) henv rfl (rn_extract henv rfl rfl) ?_)
  clear henv a; intro a henv
  refine seq_step rfl (op_val (v := .agg #[.int .i64 6, .int .i64 (i : Nat)]) henv rfl (rn_extract henv rfl rfl) ?_)
  clear henv a; intro a henv
  refine seq_step rfl (op_val (v := .slice none 0 0) henv rfl (rn_assign henv rfl) ?_)
  clear henv a; intro a henv
  refine seq_step rfl (op_store (k := 0) (c' := #[.int .i64 6, .int .i64 (i : Nat)]) henv hst (ty_anvil_api_Spot.size) rfl rfl rfl rfl (by simp) rfl rfl ?_)
  clear henv hst a; intro a w14 henv hst
  refine wpList_nil ?_
  refine th_n ?_
  refine wp_seq ?_
  refine wp_seq ?_
  refine region_seq ?_
  refine seq_step rfl (op_val (v := .agg #[.int .i64 6, .int .i64 (i : Nat)]) henv rfl (rn_load0 henv ty_anvil_api_Spot rfl (hst.oat (k := 0) rfl) rfl) ?_)
  clear henv a; intro a henv
  refine seq_step rfl (op_val (v := .agg #[.int .i64 0, .int .i64 0]) henv rfl (rn_spot0) ?_)
  clear henv a; intro a henv
  refine seq_step rfl (op_val (v := .bool (decide ([(6 : Int), ((i : Nat) : Int)] = [(0 : Int), (0 : Int)]))) henv rfl (rn_eqlI [(6 : Int), ((i : Nat) : Int)] [(0 : Int), (0 : Int)] henv spotI rfl rfl rfl rfl) ?_)
  clear henv a; intro a henv
  rw [show (decide ([(6 : Int), ((i : Nat) : Int)] = [(0 : Int), (0 : Int)])) = false from spot_eq _] at henv
  refine seq_step rfl (op_val (v := .bool false) henv rfl (rn_move henv rfl) ?_)
  clear henv a; intro a henv
  refine seq_skip rfl henv rfl rfl rfl rfl ?_
  clear henv a; intro a henv
  refine seq_skip rfl henv rfl rfl rfl rfl ?_
  clear henv a; intro a henv
  refine seq_skip rfl henv rfl rfl rfl rfl ?_
  clear henv a; intro a henv
  refine seq_skip rfl henv rfl rfl rfl rfl ?_
  clear henv a; intro a henv
  refine seq_step rfl (op_val (v := .bool false) henv rfl (rn_pick henv rfl rfl) ?_)
  clear henv a; intro a henv
  refine wpList_nil ?_
  refine th_n ?_
  refine if_f henv rfl (rfl) ?_
  refine wp_skip ?_
  refine th_n ?_
  refine wp_seq ?_
  refine region_seq ?_
  refine seq_step rfl (op_val (v := .slice A0 n0 c0) henv rfl (rn_move henv rfl) ?_)
  clear henv a; intro a henv
  refine seq_step rfl (op_val (v := .int .i64 (s + 1 : Nat)) henv rfl (rn_move henv rfl) ?_)
  clear henv a; intro a henv
  have hs17 := nl_shl X (s + 1)
  refine seq_step rfl (op_call henv rfl Tryd.call55 rfl (shl_num (N := X) (s := s + 1) ⟨_, (show U32 _ A0 n0 c0 xs0 from hst.pat (k := 3) rfl), hX0⟩ (by omega) (by omega)) ?_)
  rintro e w18 ⟨_, rfl, ⟨A15, c16, rfl, hU, hA⟩, hb⟩
  refine ⟨_, rfl, ?_⟩
  clear henv a; intro a henv
  replace hst := hst.freshU hb hU hA
  clear hU
  clear hA
  clear hb
  refine seq_step rfl (op_val (v := .tuple #[.slice A15 (nl (X * 2 ^ (s + 1))) c16, .int .i64 0]) henv rfl (rn_move henv rfl) ?_)
  clear henv a; intro a henv
  refine seq_step rfl (op_val (v := .slice A15 (nl (X * 2 ^ (s + 1))) c16) henv rfl (rn_extract henv rfl rfl) ?_)
  clear henv a; intro a henv
  refine seq_step rfl (op_val (v := .int .i64 0) henv rfl (rn_extract henv rfl rfl) ?_)
  clear henv a; intro a henv
  refine seq_step rfl (op_val (v := .slice A15 (nl (X * 2 ^ (s + 1))) c16) henv rfl (rn_assign henv rfl) ?_)
  clear henv a; intro a henv
  refine seq_step rfl (op_val (v := .int .i64 0) henv rfl (rn_assign henv rfl) ?_)
  clear henv a; intro a henv
  refine wpList_nil ?_
  refine th_n ?_
  refine wp_seq ?_
  refine region_seq ?_
  refine seq_step rfl (op_val (v := .slice A15 (nl (X * 2 ^ (s + 1))) c16) henv rfl (rn_move henv rfl) ?_)
  clear henv a; intro a henv
  refine seq_step rfl (op_val (v := .int .i64 (s + 1 : Nat)) henv rfl (rn_move henv rfl) ?_)
  clear henv a; intro a henv
  have hs21 := nl_div (X * 2 ^ (s + 1)) (2 ^ (s + 1))
  refine seq_step rfl (op_call henv rfl Tryd.call56 rfl (shr_num (N := (X * 2 ^ (s + 1))) (s := s + 1) ⟨_, (show U32 _ A15 (nl (X * 2 ^ (s + 1))) c16 (L (X * 2 ^ (s + 1))) from hst.pat (k := 0) rfl), (val_L _)⟩ (by omega) (by omega)) ?_)
  rintro e w22 ⟨_, rfl, ⟨A19, c20, rfl, hU, hA⟩, hb⟩
  refine ⟨_, rfl, ?_⟩
  clear henv a; intro a henv
  replace hst := hst.freshU hb hU hA
  clear hU
  clear hA
  clear hb
  refine seq_step rfl (op_val (v := .tuple #[.slice A19 (nl ((X * 2 ^ (s + 1)) / 2 ^ (s + 1))) c20, .int .i64 0]) henv rfl (rn_move henv rfl) ?_)
  clear henv a; intro a henv
  refine seq_step rfl (op_val (v := .slice A19 (nl ((X * 2 ^ (s + 1)) / 2 ^ (s + 1))) c20) henv rfl (rn_extract henv rfl rfl) ?_)
  clear henv a; intro a henv
  refine seq_step rfl (op_val (v := .int .i64 0) henv rfl (rn_extract henv rfl rfl) ?_)
  clear henv a; intro a henv
  refine seq_step rfl (op_val (v := .slice A19 (nl ((X * 2 ^ (s + 1)) / 2 ^ (s + 1))) c20) henv rfl (rn_assign henv rfl) ?_)
  clear henv a; intro a henv
  refine seq_step rfl (op_val (v := .int .i64 0) henv rfl (rn_assign henv rfl) ?_)
  clear henv a; intro a henv
  refine wpList_nil ?_
  refine th_n ?_
  refine wp_seq ?_
  refine wp_seq ?_
  refine region_seq ?_
  refine seq_step rfl (op_val (v := .int .i64 0) henv rfl (rn_move henv rfl) ?_)
  clear henv a; intro a henv
  refine seq_step rfl (op_val (v := .bool false) henv rfl (rn_bin henv rfl rfl rfl) ?_)
  clear henv a; intro a henv
  refine seq_step rfl (op_val (v := .bool false) henv rfl (rn_move henv rfl) ?_)
  clear henv a; intro a henv
  refine seq_g rfl henv rfl rfl (op_val (v := .int .i64 0) henv rfl (rn_move henv rfl) ?_)
  clear henv a; intro a henv
  refine seq_g rfl henv rfl rfl (op_val (v := .bool false) henv rfl (rn_bin henv rfl rfl rfl) ?_)
  clear henv a; intro a henv
  refine seq_step rfl (op_val (v := .bool false) henv rfl (rn_pick henv rfl rfl) ?_)
  clear henv a; intro a henv
  refine seq_step rfl (op_val (v := .bool false) henv rfl (rn_move henv rfl) ?_)
  clear henv a; intro a henv
  refine seq_g rfl henv rfl rfl (op_val (v := .slice A19 (nl ((X * 2 ^ (s + 1)) / 2 ^ (s + 1))) c20) henv rfl (rn_move henv rfl) ?_)
  clear henv a; intro a henv
  refine seq_g rfl henv rfl rfl (op_val (v := .slice A0 n0 c0) henv rfl (rn_move henv rfl) ?_)
  clear henv a; intro a henv
  refine seq_g rfl henv rfl rfl (op_call henv rfl Tryd.call34 rfl (norm_num (N := X) ⟨_, (show U32 _ A0 n0 c0 xs0 from hst.pat (k := 5) rfl), hX0⟩ (by omega)) ?_)
  rintro e w25 ⟨_, rfl, ⟨A23, c24, rfl, hU, hA⟩, hb⟩
  refine ⟨_, rfl, ?_⟩
  clear henv a; intro a henv
  replace hst := hst.freshU hb hU hA
  clear hU
  clear hA
  clear hb
  refine seq_g rfl henv rfl rfl (op_call henv rfl Tryd.call36 rfl (equal_u (show U32 _ A19 (nl ((X * 2 ^ (s + 1)) / 2 ^ (s + 1))) c20 (L ((X * 2 ^ (s + 1)) / 2 ^ (s + 1))) from hst.pat (k := 1) rfl) (show U32 _ A23 (nl X) c24 (L X) from hst.pat (k := 0) rfl)) ?_)
  rintro e w26 ⟨rfl, hb⟩
  refine ⟨_, rfl, ?_⟩
  clear henv a; intro a henv
  replace hst := hst.call hb
  clear hb
  rw [show (decide ((L ((X * 2 ^ (s + 1)) / 2 ^ (s + 1))) = (L X))) = true from by rw [L_dec]; exact decide_eq_true (by exact Nat.mul_div_cancel _ (Nat.pow_pos (by decide)))] at henv
  refine seq_g rfl henv rfl rfl (op_val (v := .bool false) henv rfl (rn_un henv rfl rfl) ?_)
  clear henv a; intro a henv
  refine seq_step rfl (op_val (v := .bool false) henv rfl (rn_pick henv rfl rfl) ?_)
  clear henv a; intro a henv
  refine wpList_nil ?_
  refine th_n ?_
  refine if_f henv rfl (rfl) ?_
  refine wp_skip ?_
  refine th_n ?_
  refine wp_seq ?_
  refine wp_seq ?_
  refine region_seq ?_
  refine seq_step rfl (op_val (v := .slice A19 (nl ((X * 2 ^ (s + 1)) / 2 ^ (s + 1))) c20) henv rfl (rn_move henv rfl) ?_)
  clear henv a; intro a henv
  refine seq_step rfl (op_val (v := .int .i64 (nl ((X * 2 ^ (s + 1)) / 2 ^ (s + 1)) : Nat)) henv rfl (rn_len henv Tryd.underlying22 rfl) ?_)
  clear henv a; intro a henv
  refine seq_step rfl (op_val (v := .bool (((nl ((X * 2 ^ (s + 1)) / 2 ^ (s + 1)) : Nat) : Int) == (0 : Int))) henv rfl (rn_bin henv rfl rfl rfl) ?_)
  clear henv a; intro a henv
  rw [show (((nl ((X * 2 ^ (s + 1)) / 2 ^ (s + 1)) : Nat) : Int) == (0 : Int)) = false from by rw [Nat.mul_div_cancel _ (Nat.pow_pos (by decide))]; have := nl_pos (N := X) (by omega); simp; omega] at henv
  refine wpList_nil ?_
  refine th_n ?_
  refine if_f henv rfl (rfl) ?_
  refine wp_skip ?_
  refine th_n ?_
  refine wp_seq ?_
  refine region_seq ?_
  refine seq_step rfl (op_val (v := .slice A15 (nl (X * 2 ^ (s + 1))) c16) henv rfl (rn_move henv rfl) ?_)
  clear henv a; intro a henv
  refine seq_step rfl (op_call henv rfl Tryd.call61 rfl (ltwos_to (N := (X * 2 ^ (s + 1))) (show U32 _ A15 (nl (X * 2 ^ (s + 1))) c16 (L (X * 2 ^ (s + 1))) from hst.pat (k := 2) rfl) ((val_L _)) (by omega) (show Deb _ from hst.pat (k := 5) rfl)) ?_)
  rintro e w28 ⟨k27, rfl, hpk27, hzk27, hb⟩
  refine ⟨_, rfl, ?_⟩
  clear henv a; intro a henv
  replace hst := hst.call hb
  have hbk27 := tz_blen (hpk27 (mul_pow_ne hX00))
  clear hb
  refine seq_step rfl (op_val (v := .slice A0 n0 c0) henv rfl (rn_move henv rfl) ?_)
  clear henv a; intro a henv
  refine seq_step rfl (op_call henv rfl Tryd.call61 rfl (ltwos_to (N := X) (show U32 _ A0 n0 c0 xs0 from hst.pat (k := 6) rfl) (hX0) (by omega) (show Deb _ from hst.pat (k := 5) rfl)) ?_)
  rintro e w30 ⟨k29, rfl, hpk29, hzk29, hb⟩
  refine ⟨_, rfl, ?_⟩
  clear henv a; intro a henv
  replace hst := hst.call hb
  have hbk29 := tz_blen (hpk29 hX00)
  clear hb
  refine seq_step rfl (op_val (v := .int .i64 (s + 1 : Nat)) henv rfl (rn_move henv rfl) ?_)
  clear henv a; intro a henv
  refine seq_step rfl (op_val (v := .int .i64 (k29 + (s + 1) : Nat)) henv rfl (rn_add henv rfl rfl (by rw [IntWalk.i64_in _ (by omega)]; omega)) ?_)
  clear henv a; intro a henv
  refine seq_step rfl (op_val (v := .bool (((k27 : Nat) : Int) == ((k29 + (s + 1) : Nat) : Int))) henv rfl (rn_bin henv rfl rfl rfl) ?_)
  clear henv a; intro a henv
  rw [show (((k27 : Nat) : Int) == ((k29 + (s + 1) : Nat) : Int)) = true from tz_eq (tz_shl (hpk29 hX00) (s + 1)) (hpk27 (mul_pow_ne hX00))] at henv
  refine seq_step rfl (op_val (v := .bool true) henv rfl (rn_move henv rfl) ?_)
  clear henv a; intro a henv
  refine seq_g rfl henv rfl rfl (op_val (v := .slice A15 (nl (X * 2 ^ (s + 1))) c16) henv rfl (rn_move henv rfl) ?_)
  clear henv a; intro a henv
  have hs31 := blen_nl (X * 2 ^ (s + 1))
  refine seq_g rfl henv rfl rfl (op_call henv rfl Tryd.call57 rfl (lbits_num (N := (X * 2 ^ (s + 1))) ⟨_, (show U32 _ A15 (nl (X * 2 ^ (s + 1))) c16 (L (X * 2 ^ (s + 1))) from hst.pat (k := 2) rfl), (val_L _)⟩ (by omega)) ?_)
  rintro e w32 ⟨rfl, hb⟩
  refine ⟨_, rfl, ?_⟩
  clear henv a; intro a henv
  replace hst := hst.call hb
  clear hb
  refine seq_g rfl henv rfl rfl (op_val (v := .slice A0 n0 c0) henv rfl (rn_move henv rfl) ?_)
  clear henv a; intro a henv
  have hs33 := blen_nl X
  refine seq_g rfl henv rfl rfl (op_call henv rfl Tryd.call57 rfl (lbits_num (N := X) ⟨_, (show U32 _ A0 n0 c0 xs0 from hst.pat (k := 6) rfl), hX0⟩ (by omega)) ?_)
  rintro e w34 ⟨rfl, hb⟩
  refine ⟨_, rfl, ?_⟩
  clear henv a; intro a henv
  replace hst := hst.call hb
  clear hb
  refine seq_g rfl henv rfl rfl (op_val (v := .int .i64 (s + 1 : Nat)) henv rfl (rn_move henv rfl) ?_)
  clear henv a; intro a henv
  refine seq_g rfl henv rfl rfl (op_val (v := .int .i64 ((blen X) + (s + 1) : Nat)) henv rfl (rn_add henv rfl rfl (by rw [IntWalk.i64_in _ (by omega)]; omega)) ?_)
  clear henv a; intro a henv
  refine seq_g rfl henv rfl rfl (op_val (v := .bool (((blen (X * 2 ^ (s + 1)) : Nat) : Int) == (((blen X) + (s + 1) : Nat) : Int))) henv rfl (rn_bin henv rfl rfl rfl) ?_)
  clear henv a; intro a henv
  rw [show (((blen (X * 2 ^ (s + 1)) : Nat) : Int) == (((blen X) + (s + 1) : Nat) : Int)) = true from blen_eq hX00 (s + 1)] at henv
  refine seq_step rfl (op_val (v := .bool true) henv rfl (rn_pick henv rfl rfl) ?_)
  clear henv a; intro a henv
  refine seq_step rfl (op_val (v := .bool true) henv rfl (rn_move henv rfl) ?_)
  clear henv a; intro a henv
  refine seq_g rfl henv rfl rfl (op_val (v := .slice A15 (nl (X * 2 ^ (s + 1))) c16) henv rfl (rn_move henv rfl) ?_)
  clear henv a; intro a henv
  refine seq_g rfl henv rfl rfl (op_val (v := .int .i64 (s + 1 : Nat)) henv rfl (rn_move henv rfl) ?_)
  clear henv a; intro a henv
  refine seq_g rfl henv rfl rfl (op_val (v := .int .i64 (s : Nat)) henv rfl (rn_sub henv rfl rfl (by rw [IntWalk.i64_in _ (by omega)]; omega)) ?_)
  clear henv a; intro a henv
  refine seq_g rfl henv rfl rfl (op_call henv rfl Tryd.call59 rfl (lb_bit (N := (X * 2 ^ (s + 1))) (k := s) (show U32 _ A15 (nl (X * 2 ^ (s + 1))) c16 (L (X * 2 ^ (s + 1))) from hst.pat (k := 2) rfl) (val_L _) (by omega)) ?_)
  rintro e w36 ⟨⟨b35, rfl, htb35⟩, hb⟩
  refine ⟨_, rfl, ?_⟩
  clear henv a; intro a henv
  replace hst := hst.call hb
  clear hb
  refine seq_g rfl henv rfl rfl (op_val (v := .bool (!b35)) henv rfl (rn_un henv rfl rfl) ?_)
  clear henv a; intro a henv
  rw [show (!b35) = true from bit_low htb35] at henv
  refine seq_step rfl (op_val (v := .bool true) henv rfl (rn_pick henv rfl rfl) ?_)
  clear henv a; intro a henv
  refine seq_step rfl (op_val (v := .bool true) henv rfl (rn_move henv rfl) ?_)
  clear henv a; intro a henv
  refine seq_g rfl henv rfl rfl (op_val (v := .slice A15 (nl (X * 2 ^ (s + 1))) c16) henv rfl (rn_move henv rfl) ?_)
  clear henv a; intro a henv
  refine seq_g rfl henv rfl rfl (op_val (v := .slice A15 (nl (X * 2 ^ (s + 1))) c16) henv rfl (rn_move henv rfl) ?_)
  clear henv a; intro a henv
  have hs37 := blen_nl (X * 2 ^ (s + 1))
  refine seq_g rfl henv rfl rfl (op_call henv rfl Tryd.call57 rfl (lbits_num (N := (X * 2 ^ (s + 1))) ⟨_, (show U32 _ A15 (nl (X * 2 ^ (s + 1))) c16 (L (X * 2 ^ (s + 1))) from hst.pat (k := 2) rfl), (val_L _)⟩ (by omega)) ?_)
  rintro e w38 ⟨rfl, hb⟩
  refine ⟨_, rfl, ?_⟩
  clear henv a; intro a henv
  replace hst := hst.call hb
  clear hb
  refine seq_g rfl henv rfl rfl (op_val (v := .int .i64 ((blen (X * 2 ^ (s + 1))) - 1 : Nat)) henv rfl (rn_sub henv rfl rfl (by rw [IntWalk.i64_in _ (by omega)]; omega)) ?_)
  clear henv a; intro a henv
  refine seq_g rfl henv rfl rfl (op_call henv rfl Tryd.call59 rfl (lb_bit (N := (X * 2 ^ (s + 1))) (k := (blen (X * 2 ^ (s + 1))) - 1) (show U32 _ A15 (nl (X * 2 ^ (s + 1))) c16 (L (X * 2 ^ (s + 1))) from hst.pat (k := 2) rfl) (val_L _) (by omega)) ?_)
  rintro e w40 ⟨⟨b39, rfl, htb39⟩, hb⟩
  refine ⟨_, rfl, ?_⟩
  clear henv a; intro a henv
  replace hst := hst.call hb
  clear hb
  rw [show b39 = true from bit_top (mul_pow_ne hX00) htb39] at henv
  refine seq_step rfl (op_val (v := .bool true) henv rfl (rn_pick henv rfl rfl) ?_)
  clear henv a; intro a henv
  refine seq_step rfl (op_val (v := .bool true) henv rfl (rn_assign henv rfl) ?_)
  clear henv a; intro a henv
  refine wpList_nil ?_
  refine th_n ?_
  refine wp_ret ?_
  refine leave henv (res1 Tryd.results13 (RV.tmp henv rfl)) ?_
  exact ⟨rfl, hst.below⟩

set_option maxRecDepth 100000 in
set_option maxHeartbeats 4000000 in
theorem back_sp_ok {A0 : Option Addr} {n0 c0 : Nat} {xs0 : List Nat} {t : List UInt8} {s : Nat} {w0 : World} (u0 : U32 w0 A0 n0 c0 xs0) (hn0 : n0 ≤ 600) (hT : Deb w0) (ht4 : t.length ≤ 4000) (hs : s + 1 ≤ 65536) (hne : t ≠ []) (hok : ∀ j, j < t.length → ¬ BadAt t j) (hX : val 4294967296 xs0 ≠ 0) :
    Calls Tryd.prog 13 #[.slice A0 n0 c0, .string ⟨t.toArray⟩, .int .i64 (s + 1 : Nat)] w0 fun e w' => e = .returned (.bool true) ∧ Below w0.heap.size w0 w' := by
  obtain ⟨X, hX0⟩ : ∃ z, val 4294967296 xs0 = z := ⟨_, rfl⟩
  have hl0 : nl X ≤ n0 := hX0 ▸ nl_val u0
  have hxl0 := u0.len
  have hbX := blen_nl X
  have htx := textN_bd X
  have hX00 : X ≠ 0 := hX0 ▸ hX
  have hbS := blen_nl (X * 2 ^ (s + 1))
  have hnS := nl_shl X (s + 1)
  have hnq : nl (X * 2 ^ (s + 1) / 2 ^ (s + 1)) ≤ nl X := by rw [Nat.mul_div_cancel _ (Nat.pow_pos (by decide))]; exact Nat.le_refl _
  have htn : nl (numOf t) ≤ 65536 := nl_numOf (fun c hc => (digits_of hok c hc).2) (by omega)
  refine enter Tryd.func13 rfl Tryd.ntmps13 rfl ?_
  intro a henv hst
  replace hst := (hst.addU u0 trivial)
  clear u0
  replace hst := hst.addT hT hT
  refine wp_seq ?_
  refine region_seq ?_
  refine seq_step rfl (op_val (v := .bool false) henv rfl (rn_assign henv rfl) ?_)
  clear henv a; intro a henv
  refine wpList_nil ?_
  refine th_n ?_
  refine wp_seq ?_
  refine wp_seq ?_
  refine region_seq ?_
  refine seq_step rfl (op_call henv rfl Tryd.call32 rfl (works_true _) ?_)
  rintro e w1 ⟨rfl, hb⟩
  refine ⟨_, rfl, ?_⟩
  clear henv a; intro a henv
  replace hst := hst.call hb
  clear hb
  refine seq_step rfl (op_val (v := .bool false) henv rfl (rn_un henv rfl rfl) ?_)
  clear henv a; intro a henv
  refine wpList_nil ?_
  refine th_n ?_
  refine if_f henv rfl (rfl) ?_
  refine wp_skip ?_
  refine th_n ?_
  refine wp_seq ?_
  refine wp_seq ?_
  refine region_seq ?_
  refine seq_step rfl (op_val (v := .slice A0 n0 c0) henv rfl (rn_move henv rfl) ?_)
  clear henv a; intro a henv
  refine seq_step rfl (op_val (v := .int .i64 (n0 : Nat)) henv rfl (rn_len henv Tryd.underlying22 rfl) ?_)
  clear henv a; intro a henv
  refine seq_step rfl (op_val (v := .bool (decide (((n0 : Nat) : Int) > (600 : Int)))) henv rfl (rn_bin henv rfl rfl rfl) ?_)
  clear henv a; intro a henv
  rw [show (decide (((n0 : Nat) : Int) > (600 : Int))) = false from decide_eq_false (by omega)] at henv
  refine seq_step rfl (op_val (v := .bool false) henv rfl (rn_move henv rfl) ?_)
  clear henv a; intro a henv
  refine seq_g rfl henv rfl rfl (op_val (v := .string ⟨t.toArray⟩) henv rfl (rn_move henv rfl) ?_)
  clear henv a; intro a henv
  refine seq_g rfl henv rfl rfl (op_val (v := .int .i64 (t.length : Nat)) henv rfl (rn_lenS henv Tryd.underlying9 rfl) ?_)
  clear henv a; intro a henv
  refine seq_g rfl henv rfl rfl (op_val (v := .bool (decide (((t.length : Nat) : Int) > (4000 : Int)))) henv rfl (rn_bin henv rfl rfl rfl) ?_)
  clear henv a; intro a henv
  rw [show (decide (((t.length : Nat) : Int) > (4000 : Int))) = false from decide_eq_false (by omega)] at henv
  refine seq_step rfl (op_val (v := .bool false) henv rfl (rn_pick henv rfl rfl) ?_)
  clear henv a; intro a henv
  refine seq_step rfl (op_val (v := .bool false) henv rfl (rn_move henv rfl) ?_)
  clear henv a; intro a henv
  refine seq_g rfl henv rfl rfl (op_val (v := .int .i64 (s + 1 : Nat)) henv rfl (rn_move henv rfl) ?_)
  clear henv a; intro a henv
  refine seq_g rfl henv rfl rfl (op_val (v := .bool (decide (((s + 1 : Nat) : Int) < (0 : Int)))) henv rfl (rn_bin henv rfl rfl rfl) ?_)
  clear henv a; intro a henv
  rw [show (decide (((s + 1 : Nat) : Int) < (0 : Int))) = false from decide_eq_false (by omega)] at henv
  refine seq_step rfl (op_val (v := .bool false) henv rfl (rn_pick henv rfl rfl) ?_)
  clear henv a; intro a henv
  refine seq_step rfl (op_val (v := .bool false) henv rfl (rn_move henv rfl) ?_)
  clear henv a; intro a henv
  refine seq_g rfl henv rfl rfl (op_val (v := .int .i64 (s + 1 : Nat)) henv rfl (rn_move henv rfl) ?_)
  clear henv a; intro a henv
  refine seq_g rfl henv rfl rfl (op_val (v := .bool (decide (((s + 1 : Nat) : Int) > (65536 : Int)))) henv rfl (rn_bin henv rfl rfl rfl) ?_)
  clear henv a; intro a henv
  rw [show (decide (((s + 1 : Nat) : Int) > (65536 : Int))) = false from decide_eq_false (by omega)] at henv
  refine seq_step rfl (op_val (v := .bool false) henv rfl (rn_pick henv rfl rfl) ?_)
  clear henv a; intro a henv
  refine wpList_nil ?_
  refine th_n ?_
  refine if_f henv rfl (rfl) ?_
  refine wp_skip ?_
  refine th_n ?_
  refine wp_seq ?_
  refine region_seq ?_
  refine seq_step rfl (op_val (v := .slice A0 n0 c0) henv rfl (rn_move henv rfl) ?_)
  clear henv a; intro a henv
  refine seq_step rfl (op_call henv rfl Tryd.call66 rfl (text_num (N := X) ⟨_, (show U32 _ A0 n0 c0 xs0 from hst.pat (k := 1) rfl), hX0⟩ (by omega)) ?_)
  rintro e w2 ⟨rfl, hb⟩
  refine ⟨_, rfl, ?_⟩
  clear henv a; intro a henv
  replace hst := hst.call hb
  clear hb
  refine seq_step rfl (op_call henv rfl Tryd.call65 rfl (read_textN (N := X) (by omega)) ?_)
  rintro e w5 ⟨_, rfl, ⟨A3, c4, rfl, hU, hA⟩, hb⟩
  refine ⟨_, rfl, ?_⟩
  clear henv a; intro a henv
  replace hst := hst.freshU hb hU hA
  clear hU
  clear hA
  clear hb
  refine seq_step rfl (op_val (v := .tuple #[.slice A3 (nl X) c4, .agg #[.int .i64 0, .int .i64 0]]) henv rfl (rn_move henv rfl) ?_)
  clear henv a; intro a henv
  refine seq_step rfl (op_val (v := .slice A3 (nl X) c4) henv rfl (rn_extract henv rfl rfl) ?_)
  clear henv a; intro a henv
  refine seq_step rfl (op_val (v := .agg #[.int .i64 0, .int .i64 0]) henv rfl (rn_extract henv rfl rfl) ?_)
  clear henv a; intro a henv
  refine seq_step rfl (op_alloc (c := #[.int .i64 0, .int .i64 0]) henv hst rfl zero_anvil_api_Spot rfl ?_)
  clear henv hst a; intro a w7 g6 henv hst
  refine seq_step rfl (op_val (v := .slice A3 (nl X) c4) henv rfl (rn_assign henv rfl) ?_)
  clear henv a; intro a henv
  refine seq_step rfl (op_store (k := 0) (c' := #[.int .i64 0, .int .i64 0]) henv hst (ty_anvil_api_Spot.size) rfl rfl rfl rfl (by simp) rfl rfl ?_)
  clear henv hst a; intro a w8 henv hst
  refine wpList_nil ?_
  refine th_n ?_
  refine wp_seq ?_
  refine wp_seq ?_
  refine region_seq ?_
  refine seq_step rfl (op_val (v := .agg #[.int .i64 0, .int .i64 0]) henv rfl (rn_load0 henv ty_anvil_api_Spot rfl (hst.oat (k := 0) rfl) rfl) ?_)
  clear henv a; intro a henv
  refine seq_step rfl (op_val (v := .agg #[.int .i64 0, .int .i64 0]) henv rfl (rn_spot0) ?_)
  clear henv a; intro a henv
  refine seq_step rfl (op_val (v := .bool (!decide ([(0 : Int), (0 : Int)] = [(0 : Int), (0 : Int)]))) henv rfl (rn_neqI [(0 : Int), (0 : Int)] [(0 : Int), (0 : Int)] henv spotI rfl rfl rfl rfl) ?_)
  clear henv a; intro a henv
  rw [show (!decide ([(0 : Int), (0 : Int)] = [(0 : Int), (0 : Int)])) = false from rfl] at henv
  refine seq_step rfl (op_val (v := .bool false) henv rfl (rn_move henv rfl) ?_)
  clear henv a; intro a henv
  refine seq_g rfl henv rfl rfl (op_val (v := .slice A3 (nl X) c4) henv rfl (rn_move henv rfl) ?_)
  clear henv a; intro a henv
  refine seq_g rfl henv rfl rfl (op_val (v := .slice A0 n0 c0) henv rfl (rn_move henv rfl) ?_)
  clear henv a; intro a henv
  refine seq_g rfl henv rfl rfl (op_call henv rfl Tryd.call34 rfl (norm_num (N := X) ⟨_, (show U32 _ A0 n0 c0 xs0 from hst.pat (k := 2) rfl), hX0⟩ (by omega)) ?_)
  rintro e w11 ⟨_, rfl, ⟨A9, c10, rfl, hU, hA⟩, hb⟩
  refine ⟨_, rfl, ?_⟩
  clear henv a; intro a henv
  replace hst := hst.freshU hb hU hA
  clear hU
  clear hA
  clear hb
  refine seq_g rfl henv rfl rfl (op_call henv rfl Tryd.call36 rfl (equal_u (show U32 _ A3 (nl X) c4 (L X) from hst.pat (k := 1) rfl) (show U32 _ A9 (nl X) c10 (L X) from hst.pat (k := 0) rfl)) ?_)
  rintro e w12 ⟨rfl, hb⟩
  refine ⟨_, rfl, ?_⟩
  clear henv a; intro a henv
  replace hst := hst.call hb
  clear hb
  rw [show (decide ((L X) = (L X))) = true from by rw [L_dec]; exact decide_eq_true (by rfl)] at henv
  refine seq_g rfl henv rfl rfl (op_val (v := .bool false) henv rfl (rn_un henv rfl rfl) ?_)
  clear henv a; intro a henv
  refine seq_step rfl (op_val (v := .bool false) henv rfl (rn_pick henv rfl rfl) ?_)
  clear henv a; intro a henv
  refine wpList_nil ?_
  refine th_n ?_
  refine if_f henv rfl (rfl) ?_
  refine wp_skip ?_
  refine th_n ?_
  refine wp_seq ?_
  refine region_seq ?_
  refine seq_step rfl (op_val (v := .string ⟨t.toArray⟩) henv rfl (rn_move henv rfl) ?_)
  clear henv a; intro a henv
  refine seq_step rfl (op_call henv rfl Tryd.call65 rfl (read_ok (l := t) (by omega) hne hok) ?_)
  rintro e w15 ⟨_, rfl, ⟨A13, c14, rfl, hU, hA⟩, hb⟩
  refine ⟨_, rfl, ?_⟩
  clear henv a; intro a henv
  replace hst := hst.freshU hb hU hA
  clear hU
  clear hA
  clear hb
  refine seq_step rfl (op_val (v := .tuple #[.slice A13 (nl (numOf t)) c14, .agg #[.int .i64 0, .int .i64 0]]) henv rfl (rn_move henv rfl) ?_)
  clear henv a; intro a henv
  refine seq_step rfl (op_val (v := .slice A13 (nl (numOf t)) c14) henv rfl (rn_extract henv rfl rfl) ?_)
  clear henv a; intro a henv
  refine seq_step rfl (op_val (v := .agg #[.int .i64 0, .int .i64 0]) henv rfl (rn_extract henv rfl rfl) ?_)
  clear henv a; intro a henv
  refine seq_step rfl (op_val (v := .slice A13 (nl (numOf t)) c14) henv rfl (rn_assign henv rfl) ?_)
  clear henv a; intro a henv
  refine seq_step rfl (op_store (k := 0) (c' := #[.int .i64 0, .int .i64 0]) henv hst (ty_anvil_api_Spot.size) rfl rfl rfl rfl (by simp) rfl rfl ?_)
  clear henv hst a; intro a w16 henv hst
  refine wpList_nil ?_
  refine th_n ?_
  refine wp_seq ?_
  refine wp_seq ?_
  refine region_seq ?_
  refine seq_step rfl (op_val (v := .agg #[.int .i64 0, .int .i64 0]) henv rfl (rn_load0 henv ty_anvil_api_Spot rfl (hst.oat (k := 0) rfl) rfl) ?_)
  clear henv a; intro a henv
  refine seq_step rfl (op_val (v := .agg #[.int .i64 0, .int .i64 0]) henv rfl (rn_spot0) ?_)
  clear henv a; intro a henv
  refine seq_step rfl (op_val (v := .bool (decide ([(0 : Int), (0 : Int)] = [(0 : Int), (0 : Int)]))) henv rfl (rn_eqlI [(0 : Int), (0 : Int)] [(0 : Int), (0 : Int)] henv spotI rfl rfl rfl rfl) ?_)
  clear henv a; intro a henv
  rw [show (decide ([(0 : Int), (0 : Int)] = [(0 : Int), (0 : Int)])) = true from rfl] at henv
  refine seq_step rfl (op_val (v := .bool true) henv rfl (rn_move henv rfl) ?_)
  clear henv a; intro a henv
  refine seq_g rfl henv rfl rfl (op_val (v := .slice A13 (nl (numOf t)) c14) henv rfl (rn_move henv rfl) ?_)
  clear henv a; intro a henv
  refine seq_g rfl henv rfl rfl (op_call henv rfl Tryd.call66 rfl (text_num (N := (numOf t)) ⟨_, (show U32 _ A13 (nl (numOf t)) c14 (L (numOf t)) from hst.pat (k := 0) rfl), (val_L _)⟩ (by omega)) ?_)
  rintro e w17 ⟨rfl, hb⟩
  refine ⟨_, rfl, ?_⟩
  clear henv a; intro a henv
  replace hst := hst.call hb
  clear hb
  refine seq_g rfl henv rfl rfl (op_val (v := .string ⟨t.toArray⟩) henv rfl (rn_move henv rfl) ?_)
  clear henv a; intro a henv
  refine seq_g rfl henv rfl rfl (op_val (v := .bool (!decide ((textN (numOf t)) = t))) henv rfl (rn_neqs (s := (textN (numOf t))) (t := t) henv rfl rfl) ?_)
  clear henv a; intro a henv
  rw [show (!decide ((textN (numOf t)) = t)) = false from (by rw [textN_numOf _ t rfl hne hok]; simp)] at henv
  refine seq_step rfl (op_val (v := .bool false) henv rfl (rn_pick henv rfl rfl) ?_)
  clear henv a; intro a henv
  refine wpList_nil ?_
  refine th_n ?_
  refine if_f henv rfl (rfl) ?_
  refine wp_skip ?_
  refine th_n ?_
  refine wp_seq ?_
  refine region_seq ?_
  refine seq_step rfl (op_val (v := .slice A0 n0 c0) henv rfl (rn_move henv rfl) ?_)
  clear henv a; intro a henv
  refine seq_step rfl (op_val (v := .int .i64 (s + 1 : Nat)) henv rfl (rn_move henv rfl) ?_)
  clear henv a; intro a henv
  have hs20 := nl_shl X (s + 1)
  refine seq_step rfl (op_call henv rfl Tryd.call55 rfl (shl_num (N := X) (s := s + 1) ⟨_, (show U32 _ A0 n0 c0 xs0 from hst.pat (k := 4) rfl), hX0⟩ (by omega) (by omega)) ?_)
  rintro e w21 ⟨_, rfl, ⟨A18, c19, rfl, hU, hA⟩, hb⟩
  refine ⟨_, rfl, ?_⟩
  clear henv a; intro a henv
  replace hst := hst.freshU hb hU hA
  clear hU
  clear hA
  clear hb
  refine seq_step rfl (op_val (v := .tuple #[.slice A18 (nl (X * 2 ^ (s + 1))) c19, .int .i64 0]) henv rfl (rn_move henv rfl) ?_)
  clear henv a; intro a henv
  refine seq_step rfl (op_val (v := .slice A18 (nl (X * 2 ^ (s + 1))) c19) henv rfl (rn_extract henv rfl rfl) ?_)
  clear henv a; intro a henv
  refine seq_step rfl (op_val (v := .int .i64 0) henv rfl (rn_extract henv rfl rfl) ?_)
  clear henv a; intro a henv
  refine seq_step rfl (op_val (v := .slice A18 (nl (X * 2 ^ (s + 1))) c19) henv rfl (rn_assign henv rfl) ?_)
  clear henv a; intro a henv
  refine seq_step rfl (op_val (v := .int .i64 0) henv rfl (rn_assign henv rfl) ?_)
  clear henv a; intro a henv
  refine wpList_nil ?_
  refine th_n ?_
  refine wp_seq ?_
  refine region_seq ?_
  refine seq_step rfl (op_val (v := .slice A18 (nl (X * 2 ^ (s + 1))) c19) henv rfl (rn_move henv rfl) ?_)
  clear henv a; intro a henv
  refine seq_step rfl (op_val (v := .int .i64 (s + 1 : Nat)) henv rfl (rn_move henv rfl) ?_)
  clear henv a; intro a henv
  have hs24 := nl_div (X * 2 ^ (s + 1)) (2 ^ (s + 1))
  refine seq_step rfl (op_call henv rfl Tryd.call56 rfl (shr_num (N := (X * 2 ^ (s + 1))) (s := s + 1) ⟨_, (show U32 _ A18 (nl (X * 2 ^ (s + 1))) c19 (L (X * 2 ^ (s + 1))) from hst.pat (k := 0) rfl), (val_L _)⟩ (by omega) (by omega)) ?_)
  rintro e w25 ⟨_, rfl, ⟨A22, c23, rfl, hU, hA⟩, hb⟩
  refine ⟨_, rfl, ?_⟩
  clear henv a; intro a henv
  replace hst := hst.freshU hb hU hA
  clear hU
  clear hA
  clear hb
  refine seq_step rfl (op_val (v := .tuple #[.slice A22 (nl ((X * 2 ^ (s + 1)) / 2 ^ (s + 1))) c23, .int .i64 0]) henv rfl (rn_move henv rfl) ?_)
  clear henv a; intro a henv
  refine seq_step rfl (op_val (v := .slice A22 (nl ((X * 2 ^ (s + 1)) / 2 ^ (s + 1))) c23) henv rfl (rn_extract henv rfl rfl) ?_)
  clear henv a; intro a henv
  refine seq_step rfl (op_val (v := .int .i64 0) henv rfl (rn_extract henv rfl rfl) ?_)
  clear henv a; intro a henv
  refine seq_step rfl (op_val (v := .slice A22 (nl ((X * 2 ^ (s + 1)) / 2 ^ (s + 1))) c23) henv rfl (rn_assign henv rfl) ?_)
  clear henv a; intro a henv
  refine seq_step rfl (op_val (v := .int .i64 0) henv rfl (rn_assign henv rfl) ?_)
  clear henv a; intro a henv
  refine wpList_nil ?_
  refine th_n ?_
  refine wp_seq ?_
  refine wp_seq ?_
  refine region_seq ?_
  refine seq_step rfl (op_val (v := .int .i64 0) henv rfl (rn_move henv rfl) ?_)
  clear henv a; intro a henv
  refine seq_step rfl (op_val (v := .bool false) henv rfl (rn_bin henv rfl rfl rfl) ?_)
  clear henv a; intro a henv
  refine seq_step rfl (op_val (v := .bool false) henv rfl (rn_move henv rfl) ?_)
  clear henv a; intro a henv
  refine seq_g rfl henv rfl rfl (op_val (v := .int .i64 0) henv rfl (rn_move henv rfl) ?_)
  clear henv a; intro a henv
  refine seq_g rfl henv rfl rfl (op_val (v := .bool false) henv rfl (rn_bin henv rfl rfl rfl) ?_)
  clear henv a; intro a henv
  refine seq_step rfl (op_val (v := .bool false) henv rfl (rn_pick henv rfl rfl) ?_)
  clear henv a; intro a henv
  refine seq_step rfl (op_val (v := .bool false) henv rfl (rn_move henv rfl) ?_)
  clear henv a; intro a henv
  refine seq_g rfl henv rfl rfl (op_val (v := .slice A22 (nl ((X * 2 ^ (s + 1)) / 2 ^ (s + 1))) c23) henv rfl (rn_move henv rfl) ?_)
  clear henv a; intro a henv
  refine seq_g rfl henv rfl rfl (op_val (v := .slice A0 n0 c0) henv rfl (rn_move henv rfl) ?_)
  clear henv a; intro a henv
  refine seq_g rfl henv rfl rfl (op_call henv rfl Tryd.call34 rfl (norm_num (N := X) ⟨_, (show U32 _ A0 n0 c0 xs0 from hst.pat (k := 6) rfl), hX0⟩ (by omega)) ?_)
  rintro e w28 ⟨_, rfl, ⟨A26, c27, rfl, hU, hA⟩, hb⟩
  refine ⟨_, rfl, ?_⟩
  clear henv a; intro a henv
  replace hst := hst.freshU hb hU hA
  clear hU
  clear hA
  clear hb
  refine seq_g rfl henv rfl rfl (op_call henv rfl Tryd.call36 rfl (equal_u (show U32 _ A22 (nl ((X * 2 ^ (s + 1)) / 2 ^ (s + 1))) c23 (L ((X * 2 ^ (s + 1)) / 2 ^ (s + 1))) from hst.pat (k := 1) rfl) (show U32 _ A26 (nl X) c27 (L X) from hst.pat (k := 0) rfl)) ?_)
  rintro e w29 ⟨rfl, hb⟩
  refine ⟨_, rfl, ?_⟩
  clear henv a; intro a henv
  replace hst := hst.call hb
  clear hb
  rw [show (decide ((L ((X * 2 ^ (s + 1)) / 2 ^ (s + 1))) = (L X))) = true from by rw [L_dec]; exact decide_eq_true (by exact Nat.mul_div_cancel _ (Nat.pow_pos (by decide)))] at henv
  refine seq_g rfl henv rfl rfl (op_val (v := .bool false) henv rfl (rn_un henv rfl rfl) ?_)
  clear henv a; intro a henv
  refine seq_step rfl (op_val (v := .bool false) henv rfl (rn_pick henv rfl rfl) ?_)
  clear henv a; intro a henv
  refine wpList_nil ?_
  refine th_n ?_
  refine if_f henv rfl (rfl) ?_
  refine wp_skip ?_
  refine th_n ?_
  refine wp_seq ?_
  refine wp_seq ?_
  refine region_seq ?_
  refine seq_step rfl (op_val (v := .slice A22 (nl ((X * 2 ^ (s + 1)) / 2 ^ (s + 1))) c23) henv rfl (rn_move henv rfl) ?_)
  clear henv a; intro a henv
  refine seq_step rfl (op_val (v := .int .i64 (nl ((X * 2 ^ (s + 1)) / 2 ^ (s + 1)) : Nat)) henv rfl (rn_len henv Tryd.underlying22 rfl) ?_)
  clear henv a; intro a henv
  refine seq_step rfl (op_val (v := .bool (((nl ((X * 2 ^ (s + 1)) / 2 ^ (s + 1)) : Nat) : Int) == (0 : Int))) henv rfl (rn_bin henv rfl rfl rfl) ?_)
  clear henv a; intro a henv
  rw [show (((nl ((X * 2 ^ (s + 1)) / 2 ^ (s + 1)) : Nat) : Int) == (0 : Int)) = false from by rw [Nat.mul_div_cancel _ (Nat.pow_pos (by decide))]; have := nl_pos (N := X) (by omega); simp; omega] at henv
  refine wpList_nil ?_
  refine th_n ?_
  refine if_f henv rfl (rfl) ?_
  refine wp_skip ?_
  refine th_n ?_
  refine wp_seq ?_
  refine region_seq ?_
  refine seq_step rfl (op_val (v := .slice A18 (nl (X * 2 ^ (s + 1))) c19) henv rfl (rn_move henv rfl) ?_)
  clear henv a; intro a henv
  refine seq_step rfl (op_call henv rfl Tryd.call61 rfl (ltwos_to (N := (X * 2 ^ (s + 1))) (show U32 _ A18 (nl (X * 2 ^ (s + 1))) c19 (L (X * 2 ^ (s + 1))) from hst.pat (k := 2) rfl) ((val_L _)) (by omega) (show Deb _ from hst.pat (k := 6) rfl)) ?_)
  rintro e w31 ⟨k30, rfl, hpk30, hzk30, hb⟩
  refine ⟨_, rfl, ?_⟩
  clear henv a; intro a henv
  replace hst := hst.call hb
  have hbk30 := tz_blen (hpk30 (mul_pow_ne hX00))
  clear hb
  refine seq_step rfl (op_val (v := .slice A0 n0 c0) henv rfl (rn_move henv rfl) ?_)
  clear henv a; intro a henv
  refine seq_step rfl (op_call henv rfl Tryd.call61 rfl (ltwos_to (N := X) (show U32 _ A0 n0 c0 xs0 from hst.pat (k := 7) rfl) (hX0) (by omega) (show Deb _ from hst.pat (k := 6) rfl)) ?_)
  rintro e w33 ⟨k32, rfl, hpk32, hzk32, hb⟩
  refine ⟨_, rfl, ?_⟩
  clear henv a; intro a henv
  replace hst := hst.call hb
  have hbk32 := tz_blen (hpk32 hX00)
  clear hb
  refine seq_step rfl (op_val (v := .int .i64 (s + 1 : Nat)) henv rfl (rn_move henv rfl) ?_)
  clear henv a; intro a henv
  refine seq_step rfl (op_val (v := .int .i64 (k32 + (s + 1) : Nat)) henv rfl (rn_add henv rfl rfl (by rw [IntWalk.i64_in _ (by omega)]; omega)) ?_)
  clear henv a; intro a henv
  refine seq_step rfl (op_val (v := .bool (((k30 : Nat) : Int) == ((k32 + (s + 1) : Nat) : Int))) henv rfl (rn_bin henv rfl rfl rfl) ?_)
  clear henv a; intro a henv
  rw [show (((k30 : Nat) : Int) == ((k32 + (s + 1) : Nat) : Int)) = true from tz_eq (tz_shl (hpk32 hX00) (s + 1)) (hpk30 (mul_pow_ne hX00))] at henv
  refine seq_step rfl (op_val (v := .bool true) henv rfl (rn_move henv rfl) ?_)
  clear henv a; intro a henv
  refine seq_g rfl henv rfl rfl (op_val (v := .slice A18 (nl (X * 2 ^ (s + 1))) c19) henv rfl (rn_move henv rfl) ?_)
  clear henv a; intro a henv
  have hs34 := blen_nl (X * 2 ^ (s + 1))
  refine seq_g rfl henv rfl rfl (op_call henv rfl Tryd.call57 rfl (lbits_num (N := (X * 2 ^ (s + 1))) ⟨_, (show U32 _ A18 (nl (X * 2 ^ (s + 1))) c19 (L (X * 2 ^ (s + 1))) from hst.pat (k := 2) rfl), (val_L _)⟩ (by omega)) ?_)
  rintro e w35 ⟨rfl, hb⟩
  refine ⟨_, rfl, ?_⟩
  clear henv a; intro a henv
  replace hst := hst.call hb
  clear hb
  refine seq_g rfl henv rfl rfl (op_val (v := .slice A0 n0 c0) henv rfl (rn_move henv rfl) ?_)
  clear henv a; intro a henv
  have hs36 := blen_nl X
  refine seq_g rfl henv rfl rfl (op_call henv rfl Tryd.call57 rfl (lbits_num (N := X) ⟨_, (show U32 _ A0 n0 c0 xs0 from hst.pat (k := 7) rfl), hX0⟩ (by omega)) ?_)
  rintro e w37 ⟨rfl, hb⟩
  refine ⟨_, rfl, ?_⟩
  clear henv a; intro a henv
  replace hst := hst.call hb
  clear hb
  refine seq_g rfl henv rfl rfl (op_val (v := .int .i64 (s + 1 : Nat)) henv rfl (rn_move henv rfl) ?_)
  clear henv a; intro a henv
  refine seq_g rfl henv rfl rfl (op_val (v := .int .i64 ((blen X) + (s + 1) : Nat)) henv rfl (rn_add henv rfl rfl (by rw [IntWalk.i64_in _ (by omega)]; omega)) ?_)
  clear henv a; intro a henv
  refine seq_g rfl henv rfl rfl (op_val (v := .bool (((blen (X * 2 ^ (s + 1)) : Nat) : Int) == (((blen X) + (s + 1) : Nat) : Int))) henv rfl (rn_bin henv rfl rfl rfl) ?_)
  clear henv a; intro a henv
  rw [show (((blen (X * 2 ^ (s + 1)) : Nat) : Int) == (((blen X) + (s + 1) : Nat) : Int)) = true from blen_eq hX00 (s + 1)] at henv
  refine seq_step rfl (op_val (v := .bool true) henv rfl (rn_pick henv rfl rfl) ?_)
  clear henv a; intro a henv
  refine seq_step rfl (op_val (v := .bool true) henv rfl (rn_move henv rfl) ?_)
  clear henv a; intro a henv
  refine seq_g rfl henv rfl rfl (op_val (v := .slice A18 (nl (X * 2 ^ (s + 1))) c19) henv rfl (rn_move henv rfl) ?_)
  clear henv a; intro a henv
  refine seq_g rfl henv rfl rfl (op_val (v := .int .i64 (s + 1 : Nat)) henv rfl (rn_move henv rfl) ?_)
  clear henv a; intro a henv
  refine seq_g rfl henv rfl rfl (op_val (v := .int .i64 (s : Nat)) henv rfl (rn_sub henv rfl rfl (by rw [IntWalk.i64_in _ (by omega)]; omega)) ?_)
  clear henv a; intro a henv
  refine seq_g rfl henv rfl rfl (op_call henv rfl Tryd.call59 rfl (lb_bit (N := (X * 2 ^ (s + 1))) (k := s) (show U32 _ A18 (nl (X * 2 ^ (s + 1))) c19 (L (X * 2 ^ (s + 1))) from hst.pat (k := 2) rfl) (val_L _) (by omega)) ?_)
  rintro e w39 ⟨⟨b38, rfl, htb38⟩, hb⟩
  refine ⟨_, rfl, ?_⟩
  clear henv a; intro a henv
  replace hst := hst.call hb
  clear hb
  refine seq_g rfl henv rfl rfl (op_val (v := .bool (!b38)) henv rfl (rn_un henv rfl rfl) ?_)
  clear henv a; intro a henv
  rw [show (!b38) = true from bit_low htb38] at henv
  refine seq_step rfl (op_val (v := .bool true) henv rfl (rn_pick henv rfl rfl) ?_)
  clear henv a; intro a henv
  refine seq_step rfl (op_val (v := .bool true) henv rfl (rn_move henv rfl) ?_)
  clear henv a; intro a henv
  refine seq_g rfl henv rfl rfl (op_val (v := .slice A18 (nl (X * 2 ^ (s + 1))) c19) henv rfl (rn_move henv rfl) ?_)
  clear henv a; intro a henv
  refine seq_g rfl henv rfl rfl (op_val (v := .slice A18 (nl (X * 2 ^ (s + 1))) c19) henv rfl (rn_move henv rfl) ?_)
  clear henv a; intro a henv
  have hs40 := blen_nl (X * 2 ^ (s + 1))
  refine seq_g rfl henv rfl rfl (op_call henv rfl Tryd.call57 rfl (lbits_num (N := (X * 2 ^ (s + 1))) ⟨_, (show U32 _ A18 (nl (X * 2 ^ (s + 1))) c19 (L (X * 2 ^ (s + 1))) from hst.pat (k := 2) rfl), (val_L _)⟩ (by omega)) ?_)
  rintro e w41 ⟨rfl, hb⟩
  refine ⟨_, rfl, ?_⟩
  clear henv a; intro a henv
  replace hst := hst.call hb
  clear hb
  refine seq_g rfl henv rfl rfl (op_val (v := .int .i64 ((blen (X * 2 ^ (s + 1))) - 1 : Nat)) henv rfl (rn_sub henv rfl rfl (by rw [IntWalk.i64_in _ (by omega)]; omega)) ?_)
  clear henv a; intro a henv
  refine seq_g rfl henv rfl rfl (op_call henv rfl Tryd.call59 rfl (lb_bit (N := (X * 2 ^ (s + 1))) (k := (blen (X * 2 ^ (s + 1))) - 1) (show U32 _ A18 (nl (X * 2 ^ (s + 1))) c19 (L (X * 2 ^ (s + 1))) from hst.pat (k := 2) rfl) (val_L _) (by omega)) ?_)
  rintro e w43 ⟨⟨b42, rfl, htb42⟩, hb⟩
  refine ⟨_, rfl, ?_⟩
  clear henv a; intro a henv
  replace hst := hst.call hb
  clear hb
  rw [show b42 = true from bit_top (mul_pow_ne hX00) htb42] at henv
  refine seq_step rfl (op_val (v := .bool true) henv rfl (rn_pick henv rfl rfl) ?_)
  clear henv a; intro a henv
  refine seq_step rfl (op_val (v := .bool true) henv rfl (rn_assign henv rfl) ?_)
  clear henv a; intro a henv
  refine wpList_nil ?_
  refine th_n ?_
  refine wp_ret ?_
  refine leave henv (res1 Tryd.results13 (RV.tmp henv rfl)) ?_
  exact ⟨rfl, hst.below⟩

set_option maxRecDepth 100000 in
set_option maxHeartbeats 4000000 in
theorem back_long_a {A0 : Option Addr} {n0 c0 : Nat} {xs0 : List Nat} {t : List UInt8} {i : Int} {w0 : World} (u0 : U32 w0 A0 n0 c0 xs0) (hb : 600 < n0) :
    Calls Tryd.prog 13 #[.slice A0 n0 c0, .string ⟨t.toArray⟩, .int .i64 i] w0 fun e w' => e = .returned (.bool true) ∧ Below w0.heap.size w0 w' := by
  obtain ⟨X, hX0⟩ : ∃ z, val 4294967296 xs0 = z := ⟨_, rfl⟩
  have hl0 : nl X ≤ n0 := hX0 ▸ nl_val u0
  have hxl0 := u0.len
  refine enter Tryd.func13 rfl Tryd.ntmps13 rfl ?_
  intro a henv hst
  replace hst := (hst.addU u0 trivial)
  clear u0
  refine wp_seq ?_
  refine region_seq ?_
  refine seq_step rfl (op_val (v := .bool false) henv rfl (rn_assign henv rfl) ?_)
  clear henv a; intro a henv
  refine wpList_nil ?_
  refine th_n ?_
  refine wp_seq ?_
  refine wp_seq ?_
  refine region_seq ?_
  refine seq_step rfl (op_call henv rfl Tryd.call32 rfl (works_true _) ?_)
  rintro e w1 ⟨rfl, hb⟩
  refine ⟨_, rfl, ?_⟩
  clear henv a; intro a henv
  replace hst := hst.call hb
  clear hb
  refine seq_step rfl (op_val (v := .bool false) henv rfl (rn_un henv rfl rfl) ?_)
  clear henv a; intro a henv
  refine wpList_nil ?_
  refine th_n ?_
  refine if_f henv rfl (rfl) ?_
  refine wp_skip ?_
  refine th_n ?_
  refine wp_seq ?_
  refine wp_seq ?_
  refine region_seq ?_
  refine seq_step rfl (op_val (v := .slice A0 n0 c0) henv rfl (rn_move henv rfl) ?_)
  clear henv a; intro a henv
  refine seq_step rfl (op_val (v := .int .i64 (n0 : Nat)) henv rfl (rn_len henv Tryd.underlying22 rfl) ?_)
  clear henv a; intro a henv
  refine seq_step rfl (op_val (v := .bool (decide (((n0 : Nat) : Int) > (600 : Int)))) henv rfl (rn_bin henv rfl rfl rfl) ?_)
  clear henv a; intro a henv
  rw [show (decide (((n0 : Nat) : Int) > (600 : Int))) = true from decide_eq_true (by omega)] at henv
  refine seq_step rfl (op_val (v := .bool true) henv rfl (rn_move henv rfl) ?_)
  clear henv a; intro a henv
  refine seq_skip rfl henv rfl rfl rfl rfl ?_
  clear henv a; intro a henv
  refine seq_skip rfl henv rfl rfl rfl rfl ?_
  clear henv a; intro a henv
  refine seq_skip rfl henv rfl rfl rfl rfl ?_
  clear henv a; intro a henv
  refine seq_step rfl (op_val (v := .bool true) henv rfl (rn_pick henv rfl rfl) ?_)
  clear henv a; intro a henv
  refine seq_step rfl (op_val (v := .bool true) henv rfl (rn_move henv rfl) ?_)
  clear henv a; intro a henv
  refine seq_skip rfl henv rfl rfl rfl rfl ?_
  clear henv a; intro a henv
  refine seq_skip rfl henv rfl rfl rfl rfl ?_
  clear henv a; intro a henv
  refine seq_step rfl (op_val (v := .bool true) henv rfl (rn_pick henv rfl rfl) ?_)
  clear henv a; intro a henv
  refine seq_step rfl (op_val (v := .bool true) henv rfl (rn_move henv rfl) ?_)
  clear henv a; intro a henv
  refine seq_skip rfl henv rfl rfl rfl rfl ?_
  clear henv a; intro a henv
  refine seq_skip rfl henv rfl rfl rfl rfl ?_
  clear henv a; intro a henv
  refine seq_step rfl (op_val (v := .bool true) henv rfl (rn_pick henv rfl rfl) ?_)
  clear henv a; intro a henv
  refine wpList_nil ?_
  refine th_n ?_
  refine if_t henv rfl (rfl) ?_
  refine wp_seq ?_
  refine region_seq ?_
  refine seq_step rfl (op_val (v := .bool true) henv rfl (rn_assign henv rfl) ?_)
  clear henv a; intro a henv
  refine wpList_nil ?_
  refine th_n ?_
  refine wp_ret ?_
  refine th_r ?_
  refine leave henv (res1 Tryd.results13 (RV.tmp henv rfl)) ?_
  exact ⟨rfl, hst.below⟩

set_option maxRecDepth 100000 in
set_option maxHeartbeats 4000000 in
theorem back_long_t {A0 : Option Addr} {n0 c0 : Nat} {xs0 : List Nat} {t : List UInt8} {i : Int} {w0 : World} (u0 : U32 w0 A0 n0 c0 xs0) (hn0 : n0 ≤ 600) (hb : 4000 < t.length) (_hmx : t.length ≤ maxLen) :
    Calls Tryd.prog 13 #[.slice A0 n0 c0, .string ⟨t.toArray⟩, .int .i64 i] w0 fun e w' => e = .returned (.bool true) ∧ Below w0.heap.size w0 w' := by
  obtain ⟨X, hX0⟩ : ∃ z, val 4294967296 xs0 = z := ⟨_, rfl⟩
  have hl0 : nl X ≤ n0 := hX0 ▸ nl_val u0
  have hxl0 := u0.len
  refine enter Tryd.func13 rfl Tryd.ntmps13 rfl ?_
  intro a henv hst
  replace hst := (hst.addU u0 trivial)
  clear u0
  refine wp_seq ?_
  refine region_seq ?_
  refine seq_step rfl (op_val (v := .bool false) henv rfl (rn_assign henv rfl) ?_)
  clear henv a; intro a henv
  refine wpList_nil ?_
  refine th_n ?_
  refine wp_seq ?_
  refine wp_seq ?_
  refine region_seq ?_
  refine seq_step rfl (op_call henv rfl Tryd.call32 rfl (works_true _) ?_)
  rintro e w1 ⟨rfl, hb⟩
  refine ⟨_, rfl, ?_⟩
  clear henv a; intro a henv
  replace hst := hst.call hb
  clear hb
  refine seq_step rfl (op_val (v := .bool false) henv rfl (rn_un henv rfl rfl) ?_)
  clear henv a; intro a henv
  refine wpList_nil ?_
  refine th_n ?_
  refine if_f henv rfl (rfl) ?_
  refine wp_skip ?_
  refine th_n ?_
  refine wp_seq ?_
  refine wp_seq ?_
  refine region_seq ?_
  refine seq_step rfl (op_val (v := .slice A0 n0 c0) henv rfl (rn_move henv rfl) ?_)
  clear henv a; intro a henv
  refine seq_step rfl (op_val (v := .int .i64 (n0 : Nat)) henv rfl (rn_len henv Tryd.underlying22 rfl) ?_)
  clear henv a; intro a henv
  refine seq_step rfl (op_val (v := .bool (decide (((n0 : Nat) : Int) > (600 : Int)))) henv rfl (rn_bin henv rfl rfl rfl) ?_)
  clear henv a; intro a henv
  rw [show (decide (((n0 : Nat) : Int) > (600 : Int))) = false from decide_eq_false (by omega)] at henv
  refine seq_step rfl (op_val (v := .bool false) henv rfl (rn_move henv rfl) ?_)
  clear henv a; intro a henv
  refine seq_g rfl henv rfl rfl (op_val (v := .string ⟨t.toArray⟩) henv rfl (rn_move henv rfl) ?_)
  clear henv a; intro a henv
  refine seq_g rfl henv rfl rfl (op_val (v := .int .i64 (t.length : Nat)) henv rfl (rn_lenS henv Tryd.underlying9 rfl) ?_)
  clear henv a; intro a henv
  refine seq_g rfl henv rfl rfl (op_val (v := .bool (decide (((t.length : Nat) : Int) > (4000 : Int)))) henv rfl (rn_bin henv rfl rfl rfl) ?_)
  clear henv a; intro a henv
  rw [show (decide (((t.length : Nat) : Int) > (4000 : Int))) = true from decide_eq_true (by omega)] at henv
  refine seq_step rfl (op_val (v := .bool true) henv rfl (rn_pick henv rfl rfl) ?_)
  clear henv a; intro a henv
  refine seq_step rfl (op_val (v := .bool true) henv rfl (rn_move henv rfl) ?_)
  clear henv a; intro a henv
  refine seq_skip rfl henv rfl rfl rfl rfl ?_
  clear henv a; intro a henv
  refine seq_skip rfl henv rfl rfl rfl rfl ?_
  clear henv a; intro a henv
  refine seq_step rfl (op_val (v := .bool true) henv rfl (rn_pick henv rfl rfl) ?_)
  clear henv a; intro a henv
  refine seq_step rfl (op_val (v := .bool true) henv rfl (rn_move henv rfl) ?_)
  clear henv a; intro a henv
  refine seq_skip rfl henv rfl rfl rfl rfl ?_
  clear henv a; intro a henv
  refine seq_skip rfl henv rfl rfl rfl rfl ?_
  clear henv a; intro a henv
  refine seq_step rfl (op_val (v := .bool true) henv rfl (rn_pick henv rfl rfl) ?_)
  clear henv a; intro a henv
  refine wpList_nil ?_
  refine th_n ?_
  refine if_t henv rfl (rfl) ?_
  refine wp_seq ?_
  refine region_seq ?_
  refine seq_step rfl (op_val (v := .bool true) henv rfl (rn_assign henv rfl) ?_)
  clear henv a; intro a henv
  refine wpList_nil ?_
  refine th_n ?_
  refine wp_ret ?_
  refine th_r ?_
  refine leave henv (res1 Tryd.results13 (RV.tmp henv rfl)) ?_
  exact ⟨rfl, hst.below⟩

set_option maxRecDepth 100000 in
set_option maxHeartbeats 4000000 in
theorem back_long_neg {A0 : Option Addr} {n0 c0 : Nat} {xs0 : List Nat} {t : List UInt8} {i : Int} {w0 : World} (u0 : U32 w0 A0 n0 c0 xs0) (hn0 : n0 ≤ 600) (ht4 : t.length ≤ 4000) (hb : i < 0) :
    Calls Tryd.prog 13 #[.slice A0 n0 c0, .string ⟨t.toArray⟩, .int .i64 i] w0 fun e w' => e = .returned (.bool true) ∧ Below w0.heap.size w0 w' := by
  obtain ⟨X, hX0⟩ : ∃ z, val 4294967296 xs0 = z := ⟨_, rfl⟩
  have hl0 : nl X ≤ n0 := hX0 ▸ nl_val u0
  have hxl0 := u0.len
  refine enter Tryd.func13 rfl Tryd.ntmps13 rfl ?_
  intro a henv hst
  replace hst := (hst.addU u0 trivial)
  clear u0
  refine wp_seq ?_
  refine region_seq ?_
  refine seq_step rfl (op_val (v := .bool false) henv rfl (rn_assign henv rfl) ?_)
  clear henv a; intro a henv
  refine wpList_nil ?_
  refine th_n ?_
  refine wp_seq ?_
  refine wp_seq ?_
  refine region_seq ?_
  refine seq_step rfl (op_call henv rfl Tryd.call32 rfl (works_true _) ?_)
  rintro e w1 ⟨rfl, hb⟩
  refine ⟨_, rfl, ?_⟩
  clear henv a; intro a henv
  replace hst := hst.call hb
  clear hb
  refine seq_step rfl (op_val (v := .bool false) henv rfl (rn_un henv rfl rfl) ?_)
  clear henv a; intro a henv
  refine wpList_nil ?_
  refine th_n ?_
  refine if_f henv rfl (rfl) ?_
  refine wp_skip ?_
  refine th_n ?_
  refine wp_seq ?_
  refine wp_seq ?_
  refine region_seq ?_
  refine seq_step rfl (op_val (v := .slice A0 n0 c0) henv rfl (rn_move henv rfl) ?_)
  clear henv a; intro a henv
  refine seq_step rfl (op_val (v := .int .i64 (n0 : Nat)) henv rfl (rn_len henv Tryd.underlying22 rfl) ?_)
  clear henv a; intro a henv
  refine seq_step rfl (op_val (v := .bool (decide (((n0 : Nat) : Int) > (600 : Int)))) henv rfl (rn_bin henv rfl rfl rfl) ?_)
  clear henv a; intro a henv
  rw [show (decide (((n0 : Nat) : Int) > (600 : Int))) = false from decide_eq_false (by omega)] at henv
  refine seq_step rfl (op_val (v := .bool false) henv rfl (rn_move henv rfl) ?_)
  clear henv a; intro a henv
  refine seq_g rfl henv rfl rfl (op_val (v := .string ⟨t.toArray⟩) henv rfl (rn_move henv rfl) ?_)
  clear henv a; intro a henv
  refine seq_g rfl henv rfl rfl (op_val (v := .int .i64 (t.length : Nat)) henv rfl (rn_lenS henv Tryd.underlying9 rfl) ?_)
  clear henv a; intro a henv
  refine seq_g rfl henv rfl rfl (op_val (v := .bool (decide (((t.length : Nat) : Int) > (4000 : Int)))) henv rfl (rn_bin henv rfl rfl rfl) ?_)
  clear henv a; intro a henv
  rw [show (decide (((t.length : Nat) : Int) > (4000 : Int))) = false from decide_eq_false (by omega)] at henv
  refine seq_step rfl (op_val (v := .bool false) henv rfl (rn_pick henv rfl rfl) ?_)
  clear henv a; intro a henv
  refine seq_step rfl (op_val (v := .bool false) henv rfl (rn_move henv rfl) ?_)
  clear henv a; intro a henv
  refine seq_g rfl henv rfl rfl (op_val (v := .int .i64 i) henv rfl (rn_move henv rfl) ?_)
  clear henv a; intro a henv
  refine seq_g rfl henv rfl rfl (op_val (v := .bool (decide (i < (0 : Int)))) henv rfl (rn_bin henv rfl rfl rfl) ?_)
  clear henv a; intro a henv
  rw [show (decide (i < (0 : Int))) = true from decide_eq_true (by omega)] at henv
  refine seq_step rfl (op_val (v := .bool true) henv rfl (rn_pick henv rfl rfl) ?_)
  clear henv a; intro a henv
  refine seq_step rfl (op_val (v := .bool true) henv rfl (rn_move henv rfl) ?_)
  clear henv a; intro a henv
  refine seq_skip rfl henv rfl rfl rfl rfl ?_
  clear henv a; intro a henv
  refine seq_skip rfl henv rfl rfl rfl rfl ?_
  clear henv a; intro a henv
  refine seq_step rfl (op_val (v := .bool true) henv rfl (rn_pick henv rfl rfl) ?_)
  clear henv a; intro a henv
  refine wpList_nil ?_
  refine th_n ?_
  refine if_t henv rfl (rfl) ?_
  refine wp_seq ?_
  refine region_seq ?_
  refine seq_step rfl (op_val (v := .bool true) henv rfl (rn_assign henv rfl) ?_)
  clear henv a; intro a henv
  refine wpList_nil ?_
  refine th_n ?_
  refine wp_ret ?_
  refine th_r ?_
  refine leave henv (res1 Tryd.results13 (RV.tmp henv rfl)) ?_
  exact ⟨rfl, hst.below⟩

set_option maxRecDepth 100000 in
set_option maxHeartbeats 4000000 in
theorem back_long_far {A0 : Option Addr} {n0 c0 : Nat} {xs0 : List Nat} {t : List UInt8} {i : Int} {w0 : World} (u0 : U32 w0 A0 n0 c0 xs0) (hn0 : n0 ≤ 600) (ht4 : t.length ≤ 4000) (hb : 65536 < i) :
    Calls Tryd.prog 13 #[.slice A0 n0 c0, .string ⟨t.toArray⟩, .int .i64 i] w0 fun e w' => e = .returned (.bool true) ∧ Below w0.heap.size w0 w' := by
  obtain ⟨X, hX0⟩ : ∃ z, val 4294967296 xs0 = z := ⟨_, rfl⟩
  have hl0 : nl X ≤ n0 := hX0 ▸ nl_val u0
  have hxl0 := u0.len
  refine enter Tryd.func13 rfl Tryd.ntmps13 rfl ?_
  intro a henv hst
  replace hst := (hst.addU u0 trivial)
  clear u0
  refine wp_seq ?_
  refine region_seq ?_
  refine seq_step rfl (op_val (v := .bool false) henv rfl (rn_assign henv rfl) ?_)
  clear henv a; intro a henv
  refine wpList_nil ?_
  refine th_n ?_
  refine wp_seq ?_
  refine wp_seq ?_
  refine region_seq ?_
  refine seq_step rfl (op_call henv rfl Tryd.call32 rfl (works_true _) ?_)
  rintro e w1 ⟨rfl, hb⟩
  refine ⟨_, rfl, ?_⟩
  clear henv a; intro a henv
  replace hst := hst.call hb
  clear hb
  refine seq_step rfl (op_val (v := .bool false) henv rfl (rn_un henv rfl rfl) ?_)
  clear henv a; intro a henv
  refine wpList_nil ?_
  refine th_n ?_
  refine if_f henv rfl (rfl) ?_
  refine wp_skip ?_
  refine th_n ?_
  refine wp_seq ?_
  refine wp_seq ?_
  refine region_seq ?_
  refine seq_step rfl (op_val (v := .slice A0 n0 c0) henv rfl (rn_move henv rfl) ?_)
  clear henv a; intro a henv
  refine seq_step rfl (op_val (v := .int .i64 (n0 : Nat)) henv rfl (rn_len henv Tryd.underlying22 rfl) ?_)
  clear henv a; intro a henv
  refine seq_step rfl (op_val (v := .bool (decide (((n0 : Nat) : Int) > (600 : Int)))) henv rfl (rn_bin henv rfl rfl rfl) ?_)
  clear henv a; intro a henv
  rw [show (decide (((n0 : Nat) : Int) > (600 : Int))) = false from decide_eq_false (by omega)] at henv
  refine seq_step rfl (op_val (v := .bool false) henv rfl (rn_move henv rfl) ?_)
  clear henv a; intro a henv
  refine seq_g rfl henv rfl rfl (op_val (v := .string ⟨t.toArray⟩) henv rfl (rn_move henv rfl) ?_)
  clear henv a; intro a henv
  refine seq_g rfl henv rfl rfl (op_val (v := .int .i64 (t.length : Nat)) henv rfl (rn_lenS henv Tryd.underlying9 rfl) ?_)
  clear henv a; intro a henv
  refine seq_g rfl henv rfl rfl (op_val (v := .bool (decide (((t.length : Nat) : Int) > (4000 : Int)))) henv rfl (rn_bin henv rfl rfl rfl) ?_)
  clear henv a; intro a henv
  rw [show (decide (((t.length : Nat) : Int) > (4000 : Int))) = false from decide_eq_false (by omega)] at henv
  refine seq_step rfl (op_val (v := .bool false) henv rfl (rn_pick henv rfl rfl) ?_)
  clear henv a; intro a henv
  refine seq_step rfl (op_val (v := .bool false) henv rfl (rn_move henv rfl) ?_)
  clear henv a; intro a henv
  refine seq_g rfl henv rfl rfl (op_val (v := .int .i64 i) henv rfl (rn_move henv rfl) ?_)
  clear henv a; intro a henv
  refine seq_g rfl henv rfl rfl (op_val (v := .bool (decide (i < (0 : Int)))) henv rfl (rn_bin henv rfl rfl rfl) ?_)
  clear henv a; intro a henv
  rw [show (decide (i < (0 : Int))) = false from decide_eq_false (by omega)] at henv
  refine seq_step rfl (op_val (v := .bool false) henv rfl (rn_pick henv rfl rfl) ?_)
  clear henv a; intro a henv
  refine seq_step rfl (op_val (v := .bool false) henv rfl (rn_move henv rfl) ?_)
  clear henv a; intro a henv
  refine seq_g rfl henv rfl rfl (op_val (v := .int .i64 i) henv rfl (rn_move henv rfl) ?_)
  clear henv a; intro a henv
  refine seq_g rfl henv rfl rfl (op_val (v := .bool (decide (i > (65536 : Int)))) henv rfl (rn_bin henv rfl rfl rfl) ?_)
  clear henv a; intro a henv
  rw [show (decide (i > (65536 : Int))) = true from decide_eq_true (by omega)] at henv
  refine seq_step rfl (op_val (v := .bool true) henv rfl (rn_pick henv rfl rfl) ?_)
  clear henv a; intro a henv
  refine wpList_nil ?_
  refine th_n ?_
  refine if_t henv rfl (rfl) ?_
  refine wp_seq ?_
  refine region_seq ?_
  refine seq_step rfl (op_val (v := .bool true) henv rfl (rn_assign henv rfl) ?_)
  clear henv a; intro a henv
  refine wpList_nil ?_
  refine th_n ?_
  refine wp_ret ?_
  refine th_r ?_
  refine leave henv (res1 Tryd.results13 (RV.tmp henv rfl)) ?_
  exact ⟨rfl, hst.below⟩

theorem back_law {A0 : Option Addr} {n0 c0 : Nat} {xs0 : List Nat} {t : List UInt8} {i : Int} {w0 : World} (u0 : U32 w0 A0 n0 c0 xs0) (hmx : t.length ≤ maxLen) (_hi : -9223372036854775808 ≤ i ∧ i ≤ 9223372036854775807) (hT : Deb w0) :
    Calls Tryd.prog 13 #[.slice A0 n0 c0, .string ⟨t.toArray⟩, .int .i64 i] w0 fun e w' => e = .returned (.bool true) ∧ Below w0.heap.size w0 w' := by
  rcases Nat.lt_or_ge 600 n0 with hb | hn0
  · exact back_long_a u0 hb
  rcases Nat.lt_or_ge 4000 t.length with hb | ht4
  · exact back_long_t u0 hn0 hb hmx
  rcases (show i < 0 ∨ 0 ≤ i by omega) with hb | h0
  · exact back_long_neg u0 hn0 ht4 hb
  rcases (show 65536 < i ∨ i ≤ 65536 by omega) with hb | h1
  · exact back_long_far u0 hn0 ht4 hb
  obtain ⟨s, rfl⟩ : ∃ s : Nat, i = s := ⟨i.toNat, by omega⟩
  by_cases hX : val 4294967296 xs0 = 0
  · rcases text_cases t with ht | ⟨j, hj, hbad, hok⟩ | ⟨hne, hok⟩
    · exact back_zero_empty u0 hn0 hT ht4 (by omega) ht hX
    · exact back_zero_bad u0 hn0 hT ht4 (by omega) hj hbad hok hX
    · exact back_zero_ok u0 hn0 hT ht4 (by omega) hne hok hX
  · cases s with
    | zero =>
      rcases text_cases t with ht | ⟨j, hj, hbad, hok⟩ | ⟨hne, hok⟩
      · exact back_s0_empty u0 hn0 hT ht4 ht hX
      · exact back_s0_bad u0 hn0 hT ht4 hj hbad hok hX
      · exact back_s0_ok u0 hn0 hT ht4 hne hok hX
    | succ s =>
      rcases text_cases t with ht | ⟨j, hj, hbad, hok⟩ | ⟨hne, hok⟩
      · exact back_sp_empty u0 hn0 hT ht4 (by omega) ht hX
      · exact back_sp_bad u0 hn0 hT ht4 (by omega) hj hbad hok hX
      · exact back_sp_ok u0 hn0 hT ht4 (by omega) hne hok hX

end Go.Proofs.YtnldopjbiacbfaaDoor.W
