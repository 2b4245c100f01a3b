/- The reference's reading of a number. Printed by pv/gen_iread.py. No condition. -/
import Derived.Test.YtghaenkacjgdnaaDoorM41
import Derived.Test.YtghaenkacjgdnaaDoorM15

namespace Go.Proofs.YtghaenkacjgdnaaDoor.W
open Go.RowKit Anv Go.Lib
theorem fb_le {f b : Nat} {d : List UInt8} (h : Fb f d b) : b ≤ d.length := by rcases h.1 with h1 | h1 <;> omega
theorem fb_first {f b : Nat} {d : List UInt8} (h : Fb f d b) (hb : 0 < b) : 0 < d.length ∧ 48 ≤ (d.getD 0 0).toNat ∧ (d.getD 0 0).toNat ≤ 57 ∧ (f = 1 → (d.getD 0 0).toNat ≠ 48) := by
  obtain ⟨h1, h2, _, h4⟩ := not_bad (h.2 0 hb)
  have := fb_le h
  exact ⟨by omega, h1, h2, h4 rfl⟩
theorem ok_first {f : Nat} {d : List UInt8} (h : Ok f d) : 0 < d.length ∧ 48 ≤ (d.getD 0 0).toNat ∧ (d.getD 0 0).toNat ≤ 57 ∧ (f = 1 → (d.getD 0 0).toNat ≠ 48) := by
  obtain ⟨h1, h2, _, h4⟩ := not_bad (h.2 0 h.1)
  exact ⟨h.1, h1, h2, h4 rfl⟩
theorem bad_split3 {f b k : Nat} {d : List UInt8} (h : Fb f d b) (hk : k ≤ b) (hb0 : 0 < b) :
    (k < d.length ∧ 48 ≤ (d.getD k 0).toNat ∧ (d.getD k 0).toNat ≤ 57 ∧ k = 0 ∧ (f = 1 → (d.getD 0 0).toNat ≠ 48) ∧ k < b) ∨
    (k < d.length ∧ 48 ≤ (d.getD k 0).toNat ∧ (d.getD k 0).toNat ≤ 57 ∧ k = 1 ∧ (d.getD 0 0).toNat ≠ 48 ∧ k < b) ∨
    (k < d.length ∧ 48 ≤ (d.getD k 0).toNat ∧ (d.getD k 0).toNat ≤ 57 ∧ 1 < k ∧ k < b) ∨
    (k = b ∧ k < d.length ∧ (d.getD k 0).toNat < 48 ∧ 0 < k) ∨ (k = b ∧ k < d.length ∧ 57 < (d.getD k 0).toNat ∧ 0 < k) ∨
    (k = b ∧ k < d.length ∧ 48 ≤ (d.getD k 0).toNat ∧ (d.getD k 0).toNat ≤ 57 ∧ k = 1 ∧ (d.getD 0 0).toNat = 48) := by
  rcases bad_split2 h hk with h | h | h | h | h | h | h | h | h | h
  · exact .inl h
  · exact .inr (.inl h)
  · exact .inr (.inr (.inl h))
  · omega
  · omega
  · exact .inr (.inr (.inr (.inl h)))
  · omega
  · exact .inr (.inr (.inr (.inr (.inl h))))
  · exact .inr (.inr (.inr (.inr (.inr h))))
  · omega
theorem dl_num {d : List UInt8} {k : Nat} (h : ∀ c ∈ d, 48 ≤ c.toNat ∧ c.toNat ≤ 57) (_hk : k ≤ d.length) : dl ((numOf (d.take k) : Nat) : Int) ≤ d.length + 1 := by
  have h1 := numOf_lt (l := d.take k) fun c hc => (h c (List.mem_of_mem_take hc)).2
  have h2 : (d.take k).length ≤ d.length := List.length_take_le' _ _
  unfold dl
  rw [Int.natAbs_natCast]
  refine dn_le_of_lt (Nat.lt_of_lt_of_le h1 ?_)
  exact Nat.le_trans (Nat.pow_le_pow_left (show 10 ≤ 65536 by decide) _) (Nat.pow_le_pow_right (by decide) (by omega))
theorem dl_num2 {f b k : Nat} {d : List UInt8} (h : Fb f d b) (hk : k ≤ b) : dl ((numOf (d.take k) : Nat) : Int) ≤ d.length + 1 := by
  have hdg : ∀ c ∈ d.take k, 48 ≤ c.toNat ∧ c.toNat ≤ 57 := by
    intro c hc
    obtain ⟨i, hi, rfl⟩ := List.getElem_of_mem hc
    have hi' : i < k ∧ i < d.length := by rw [List.length_take] at hi; omega
    have h1 := not_bad (h.2 i (by omega))
    have e : (d.take k)[i] = d.getD i 0 := by simp [List.getD, hi'.2]
    rw [e]
    exact ⟨h1.1, h1.2.1⟩
  have h2 := dl_num (d := d.take k) (k := (d.take k).length) hdg (Nat.le_refl _)
  rw [List.take_length] at h2
  have h3 : (d.take k).length ≤ d.length := List.length_take_le' _ _
  omega
theorem num_step {d : List UInt8} {k : Nat} (h : k < d.length) : ((numOf (d.take k) : Nat) : Int) * 10 + (((d.getD k 0).toNat - 48 : Nat) : Int) = ((numOf (d.take (k + 1)) : Nat) : Int) := by
  rw [numOf_take_succ h, Int.natCast_add, Int.natCast_mul]
  rfl
set_option maxRecDepth 100000 in
set_option maxHeartbeats 4000000 in
theorem rread_empty0 {d : List UInt8} {w0 : World} (hl0 : d.length = 0) :
    Calls Tryd.prog 80 #[.string ⟨d.toArray⟩] w0 fun e w' => e = .returned (.tuple #[.agg #[.bool (neg 0), .slice none (dl 0) 0], .int .i64 0]) ∧ Below w0.heap.size w0 w' := by
  refine enter Tryd.func80 rfl Tryd.ntmps80 rfl ?_
  intro a henv hst
  refine wp_seq ?_
  refine region_seq ?_
  refine seq_step rfl (op_alloc (c := #[.bool (neg 0), .slice none (dl 0) 0]) henv hst rfl zero_anvil_anvilref02_Int rcells ?_)
  clear henv hst a; intro a w2 g1 henv hst
  refine sv (v := .int .i64 0) henv rfl (rn_assign henv rfl) ?_
  clear henv a; intro a henv
  refine wpList_nil ?_
  refine th_n ?_
  refine wp_seq ?_
  refine region_seq ?_
  refine sv (v := .int .i64 0) henv rfl (rn_assign henv rfl) ?_
  clear henv a; intro a henv
  refine wpList_nil ?_
  refine th_n ?_
  refine wp_seq ?_
  refine wp_seq ?_
  refine region_seq ?_
  revert a
  refine mA rfl rfl ?_
  refine sA (v := .int .i64 (d.length : Nat)) rfl (fun _ henv => rn_lenS henv Tryd.underlying9 rfl) ?_
  refine sA (v := .bool (decide (((d.length : Nat) : Int) > (0 : Int)))) rfl (fun _ henv => rn_bin henv rfl rfl rfl) ?_
  intro a henv
  rw [show (decide (((d.length : Nat) : Int) > (0 : Int))) = false from decide_eq_false (by omega)] at henv
  revert a
  refine mA rfl rfl ?_
  refine kA rfl rfl rfl rfl rfl ?_
  refine kA rfl rfl rfl rfl rfl ?_
  refine kA rfl rfl rfl rfl rfl ?_
  refine sA (v := .bool false) rfl (fun _ henv => rn_pick henv rfl rfl) ?_
  intro a henv
  refine wpList_nil ?_
  refine th_n ?_
  refine if_f henv rfl (rfl) ?_
  refine wp_skip ?_
  refine th_n ?_
  refine wp_seq ?_
  refine wp_seq ?_
  refine region_seq ?_
  revert a
  refine mA rfl rfl ?_
  refine mA rfl rfl ?_
  refine sA (v := .int .i64 (d.length : Nat)) rfl (fun _ henv => rn_lenS henv Tryd.underlying9 rfl) ?_
  refine sA (v := .bool (decide ((0 : Int) ≥ ((d.length : Nat) : Int)))) rfl (fun _ henv => rn_bin henv rfl rfl rfl) ?_
  intro a henv
  rw [show (decide ((0 : Int) ≥ ((d.length : Nat) : Int))) = true from decide_eq_true (by omega)] at henv
  revert a
  refine mA rfl rfl ?_
  refine kA rfl rfl rfl rfl rfl ?_
  refine kA rfl rfl rfl rfl rfl ?_
  refine kA rfl rfl rfl rfl rfl ?_
  refine kA rfl rfl rfl rfl rfl ?_
  refine sA (v := .bool true) rfl (fun _ henv => rn_pick henv rfl rfl) ?_
  refine mA rfl rfl ?_
  refine kA rfl rfl rfl rfl rfl ?_
  refine kA rfl rfl rfl rfl rfl ?_
  refine kA rfl rfl rfl rfl rfl ?_
  refine kA rfl rfl rfl rfl rfl ?_
  refine sA (v := .bool true) rfl (fun _ henv => rn_pick henv rfl rfl) ?_
  refine mA rfl rfl ?_
  refine kA rfl rfl rfl rfl rfl ?_
  refine kA rfl rfl rfl rfl rfl ?_
  refine kA rfl rfl rfl rfl rfl ?_
  refine kA rfl rfl rfl rfl rfl ?_
  refine kA rfl rfl rfl rfl rfl ?_
  refine kA rfl rfl rfl rfl rfl ?_
  refine kA rfl rfl rfl rfl rfl ?_
  refine sA (v := .bool true) rfl (fun _ henv => rn_pick henv rfl rfl) ?_
  intro a henv
  refine wpList_nil ?_
  refine th_n ?_
  refine if_t henv rfl (rfl) ?_
  refine wp_seq ?_
  refine region_seq ?_
  revert a
  refine sA (v := .agg #[.bool (neg 0), .slice none (dl 0) 0]) rfl (fun _ henv => rn_zref) ?_
  refine mA rfl rfl ?_
  intro a henv
  refine seq_step rfl (op_store (k := 0) (c' := #[.bool (neg 0), .slice none (dl 0) 0]) henv hst (ty_anvil_anvilref02_Int.size) rfl rfl rfl rfl (by simp) rfl rfl ?_)
  clear henv hst a; intro a w3 henv hst
  refine sv (v := .int .i64 0) henv rfl (rn_assign henv rfl) ?_
  clear henv a; intro a henv
  refine wpList_nil ?_
  refine th_n ?_
  refine wp_ret ?_
  refine th_r ?_
  refine leave henv (res2 Tryd.results80 (RV.cell henv ty_anvil_anvilref02_Int rfl (hst.oat (k := 0) rfl) rfl) (RV.tmp henv rfl)) ?_
  exact ⟨rfl, hst.below⟩
set_option maxRecDepth 100000 in
set_option maxHeartbeats 4000000 in
theorem rread_lo0 {d : List UInt8} {w0 : World} (h45 : (d.getD 0 0).toNat ≠ 45) (hl0 : 0 < d.length) (h1 : (d.getD 0 0).toNat < 48) (hl : d.length ≤ 100000) :
    Calls Tryd.prog 80 #[.string ⟨d.toArray⟩] w0 fun e w' => e = .returned (.tuple #[.agg #[.bool (neg 0), .slice none (dl 0) 0], .int .i64 0]) ∧ Below w0.heap.size w0 w' := by
  refine enter Tryd.func80 rfl Tryd.ntmps80 rfl ?_
  intro a henv hst
  refine wp_seq ?_
  refine region_seq ?_
  refine seq_step rfl (op_alloc (c := #[.bool (neg 0), .slice none (dl 0) 0]) henv hst rfl zero_anvil_anvilref02_Int rcells ?_)
  clear henv hst a; intro a w2 g1 henv hst
  refine sv (v := .int .i64 0) henv rfl (rn_assign henv rfl) ?_
  clear henv a; intro a henv
  refine wpList_nil ?_
  refine th_n ?_
  refine wp_seq ?_
  refine region_seq ?_
  refine sv (v := .int .i64 0) henv rfl (rn_assign henv rfl) ?_
  clear henv a; intro a henv
  refine wpList_nil ?_
  refine th_n ?_
  refine wp_seq ?_
  refine wp_seq ?_
  refine region_seq ?_
  revert a
  refine mA rfl rfl ?_
  refine sA (v := .int .i64 (d.length : Nat)) rfl (fun _ henv => rn_lenS henv Tryd.underlying9 rfl) ?_
  refine sA (v := .bool (decide (((d.length : Nat) : Int) > (0 : Int)))) rfl (fun _ henv => rn_bin henv rfl rfl rfl) ?_
  intro a henv
  rw [show (decide (((d.length : Nat) : Int) > (0 : Int))) = true from decide_eq_true (by omega)] at henv
  revert a
  refine mA rfl rfl ?_
  refine gA (v := .string ⟨d.toArray⟩) rfl rfl rfl rfl (fun _ henv => rn_move henv rfl) ?_
  refine gA (v := .int .u8 ((d.getD 0 0).toNat : Nat)) rfl rfl rfl rfl (fun _ henv => rn_idxS (i := 0) henv Tryd.underlying9 rfl rfl (by omega)) ?_
  refine gA (v := .bool ((((d.getD 0 0).toNat : Nat) : Int) == (45 : Int))) rfl rfl rfl rfl (fun _ henv => rn_bin henv rfl rfl rfl) ?_
  intro a henv
  rw [show ((((d.getD 0 0).toNat : Nat) : Int) == (45 : Int)) = false from beq_eq_false_iff_ne.2 (by omega)] at henv
  refine sv (v := .bool false) henv rfl (rn_pick henv rfl rfl) ?_
  clear henv a; intro a henv
  refine wpList_nil ?_
  refine th_n ?_
  refine if_f henv rfl (rfl) ?_
  refine wp_skip ?_
  refine th_n ?_
  refine wp_seq ?_
  refine wp_seq ?_
  refine region_seq ?_
  revert a
  refine mA rfl rfl ?_
  refine mA rfl rfl ?_
  refine sA (v := .int .i64 (d.length : Nat)) rfl (fun _ henv => rn_lenS henv Tryd.underlying9 rfl) ?_
  refine sA (v := .bool (decide ((0 : Int) ≥ ((d.length : Nat) : Int)))) rfl (fun _ henv => rn_bin henv rfl rfl rfl) ?_
  intro a henv
  rw [show (decide ((0 : Int) ≥ ((d.length : Nat) : Int))) = false from decide_eq_false (by omega)] at henv
  revert a
  refine mA rfl rfl ?_
  refine gA (v := .string ⟨d.toArray⟩) rfl rfl rfl rfl (fun _ henv => rn_move henv rfl) ?_
  refine gA (v := .int .i64 0) rfl rfl rfl rfl (fun _ henv => rn_move henv rfl) ?_
  refine gA (v := .int .u8 ((d.getD 0 0).toNat : Nat)) rfl rfl rfl rfl (fun _ henv => rn_idxS (i := 0) henv Tryd.underlying9 rfl rfl (by omega)) ?_
  refine gA (v := .bool (decide ((((d.getD 0 0).toNat : Nat) : Int) < (48 : Int)))) rfl rfl rfl rfl (fun _ henv => rn_bin henv rfl rfl rfl) ?_
  intro a henv
  rw [show (decide ((((d.getD 0 0).toNat : Nat) : Int) < (48 : Int))) = true from decide_eq_true (by omega)] at henv
  revert a
  refine sA (v := .bool true) rfl (fun _ henv => rn_pick henv rfl rfl) ?_
  refine mA rfl rfl ?_
  refine kA rfl rfl rfl rfl rfl ?_
  refine kA rfl rfl rfl rfl rfl ?_
  refine kA rfl rfl rfl rfl rfl ?_
  refine kA rfl rfl rfl rfl rfl ?_
  refine sA (v := .bool true) rfl (fun _ henv => rn_pick henv rfl rfl) ?_
  refine mA rfl rfl ?_
  refine kA rfl rfl rfl rfl rfl ?_
  refine kA rfl rfl rfl rfl rfl ?_
  refine kA rfl rfl rfl rfl rfl ?_
  refine kA rfl rfl rfl rfl rfl ?_
  refine kA rfl rfl rfl rfl rfl ?_
  refine kA rfl rfl rfl rfl rfl ?_
  refine kA rfl rfl rfl rfl rfl ?_
  refine sA (v := .bool true) rfl (fun _ henv => rn_pick henv rfl rfl) ?_
  intro a henv
  refine wpList_nil ?_
  refine th_n ?_
  refine if_t henv rfl (rfl) ?_
  refine wp_seq ?_
  refine region_seq ?_
  revert a
  refine sA (v := .agg #[.bool (neg 0), .slice none (dl 0) 0]) rfl (fun _ henv => rn_zref) ?_
  refine mA rfl rfl ?_
  intro a henv
  refine seq_step rfl (op_store (k := 0) (c' := #[.bool (neg 0), .slice none (dl 0) 0]) henv hst (ty_anvil_anvilref02_Int.size) rfl rfl rfl rfl (by simp) rfl rfl ?_)
  clear henv hst a; intro a w3 henv hst
  refine sv (v := .int .i64 0) henv rfl (rn_assign henv rfl) ?_
  clear henv a; intro a henv
  refine wpList_nil ?_
  refine th_n ?_
  refine wp_ret ?_
  refine th_r ?_
  refine leave henv (res2 Tryd.results80 (RV.cell henv ty_anvil_anvilref02_Int rfl (hst.oat (k := 0) rfl) rfl) (RV.tmp henv rfl)) ?_
  exact ⟨rfl, hst.below⟩
set_option maxRecDepth 100000 in
set_option maxHeartbeats 4000000 in
theorem rread_hi0 {d : List UInt8} {w0 : World} (h45 : (d.getD 0 0).toNat ≠ 45) (hl0 : 0 < d.length) (h1 : 57 < (d.getD 0 0).toNat) (hl : d.length ≤ 100000) :
    Calls Tryd.prog 80 #[.string ⟨d.toArray⟩] w0 fun e w' => e = .returned (.tuple #[.agg #[.bool (neg 0), .slice none (dl 0) 0], .int .i64 0]) ∧ Below w0.heap.size w0 w' := by
  refine enter Tryd.func80 rfl Tryd.ntmps80 rfl ?_
  intro a henv hst
  refine wp_seq ?_
  refine region_seq ?_
  refine seq_step rfl (op_alloc (c := #[.bool (neg 0), .slice none (dl 0) 0]) henv hst rfl zero_anvil_anvilref02_Int rcells ?_)
  clear henv hst a; intro a w2 g1 henv hst
  refine sv (v := .int .i64 0) henv rfl (rn_assign henv rfl) ?_
  clear henv a; intro a henv
  refine wpList_nil ?_
  refine th_n ?_
  refine wp_seq ?_
  refine region_seq ?_
  refine sv (v := .int .i64 0) henv rfl (rn_assign henv rfl) ?_
  clear henv a; intro a henv
  refine wpList_nil ?_
  refine th_n ?_
  refine wp_seq ?_
  refine wp_seq ?_
  refine region_seq ?_
  revert a
  refine mA rfl rfl ?_
  refine sA (v := .int .i64 (d.length : Nat)) rfl (fun _ henv => rn_lenS henv Tryd.underlying9 rfl) ?_
  refine sA (v := .bool (decide (((d.length : Nat) : Int) > (0 : Int)))) rfl (fun _ henv => rn_bin henv rfl rfl rfl) ?_
  intro a henv
  rw [show (decide (((d.length : Nat) : Int) > (0 : Int))) = true from decide_eq_true (by omega)] at henv
  revert a
  refine mA rfl rfl ?_
  refine gA (v := .string ⟨d.toArray⟩) rfl rfl rfl rfl (fun _ henv => rn_move henv rfl) ?_
  refine gA (v := .int .u8 ((d.getD 0 0).toNat : Nat)) rfl rfl rfl rfl (fun _ henv => rn_idxS (i := 0) henv Tryd.underlying9 rfl rfl (by omega)) ?_
  refine gA (v := .bool ((((d.getD 0 0).toNat : Nat) : Int) == (45 : Int))) rfl rfl rfl rfl (fun _ henv => rn_bin henv rfl rfl rfl) ?_
  intro a henv
  rw [show ((((d.getD 0 0).toNat : Nat) : Int) == (45 : Int)) = false from beq_eq_false_iff_ne.2 (by omega)] at henv
  refine sv (v := .bool false) henv rfl (rn_pick henv rfl rfl) ?_
  clear henv a; intro a henv
  refine wpList_nil ?_
  refine th_n ?_
  refine if_f henv rfl (rfl) ?_
  refine wp_skip ?_
  refine th_n ?_
  refine wp_seq ?_
  refine wp_seq ?_
  refine region_seq ?_
  revert a
  refine mA rfl rfl ?_
  refine mA rfl rfl ?_
  refine sA (v := .int .i64 (d.length : Nat)) rfl (fun _ henv => rn_lenS henv Tryd.underlying9 rfl) ?_
  refine sA (v := .bool (decide ((0 : Int) ≥ ((d.length : Nat) : Int)))) rfl (fun _ henv => rn_bin henv rfl rfl rfl) ?_
  intro a henv
  rw [show (decide ((0 : Int) ≥ ((d.length : Nat) : Int))) = false from decide_eq_false (by omega)] at henv
  revert a
  refine mA rfl rfl ?_
  refine gA (v := .string ⟨d.toArray⟩) rfl rfl rfl rfl (fun _ henv => rn_move henv rfl) ?_
  refine gA (v := .int .i64 0) rfl rfl rfl rfl (fun _ henv => rn_move henv rfl) ?_
  refine gA (v := .int .u8 ((d.getD 0 0).toNat : Nat)) rfl rfl rfl rfl (fun _ henv => rn_idxS (i := 0) henv Tryd.underlying9 rfl rfl (by omega)) ?_
  refine gA (v := .bool (decide ((((d.getD 0 0).toNat : Nat) : Int) < (48 : Int)))) rfl rfl rfl rfl (fun _ henv => rn_bin henv rfl rfl rfl) ?_
  intro a henv
  rw [show (decide ((((d.getD 0 0).toNat : Nat) : Int) < (48 : Int))) = false from decide_eq_false (by omega)] at henv
  revert a
  refine sA (v := .bool false) rfl (fun _ henv => rn_pick henv rfl rfl) ?_
  refine mA rfl rfl ?_
  refine gA (v := .string ⟨d.toArray⟩) rfl rfl rfl rfl (fun _ henv => rn_move henv rfl) ?_
  refine gA (v := .int .i64 0) rfl rfl rfl rfl (fun _ henv => rn_move henv rfl) ?_
  refine gA (v := .int .u8 ((d.getD 0 0).toNat : Nat)) rfl rfl rfl rfl (fun _ henv => rn_idxS (i := 0) henv Tryd.underlying9 rfl rfl (by omega)) ?_
  refine gA (v := .bool (decide ((((d.getD 0 0).toNat : Nat) : Int) > (57 : Int)))) rfl rfl rfl rfl (fun _ henv => rn_bin henv rfl rfl rfl) ?_
  intro a henv
  rw [show (decide ((((d.getD 0 0).toNat : Nat) : Int) > (57 : Int))) = true from decide_eq_true (by omega)] at henv
  revert a
  refine sA (v := .bool true) rfl (fun _ henv => rn_pick henv rfl rfl) ?_
  refine mA rfl rfl ?_
  refine kA rfl rfl rfl rfl rfl ?_
  refine kA rfl rfl rfl rfl rfl ?_
  refine kA rfl rfl rfl rfl rfl ?_
  refine kA rfl rfl rfl rfl rfl ?_
  refine kA rfl rfl rfl rfl rfl ?_
  refine kA rfl rfl rfl rfl rfl ?_
  refine kA rfl rfl rfl rfl rfl ?_
  refine sA (v := .bool true) rfl (fun _ henv => rn_pick henv rfl rfl) ?_
  intro a henv
  refine wpList_nil ?_
  refine th_n ?_
  refine if_t henv rfl (rfl) ?_
  refine wp_seq ?_
  refine region_seq ?_
  revert a
  refine sA (v := .agg #[.bool (neg 0), .slice none (dl 0) 0]) rfl (fun _ henv => rn_zref) ?_
  refine mA rfl rfl ?_
  intro a henv
  refine seq_step rfl (op_store (k := 0) (c' := #[.bool (neg 0), .slice none (dl 0) 0]) henv hst (ty_anvil_anvilref02_Int.size) rfl rfl rfl rfl (by simp) rfl rfl ?_)
  clear henv hst a; intro a w3 henv hst
  refine sv (v := .int .i64 0) henv rfl (rn_assign henv rfl) ?_
  clear henv a; intro a henv
  refine wpList_nil ?_
  refine th_n ?_
  refine wp_ret ?_
  refine th_r ?_
  refine leave henv (res2 Tryd.results80 (RV.cell henv ty_anvil_anvilref02_Int rfl (hst.oat (k := 0) rfl) rfl) (RV.tmp henv rfl)) ?_
  exact ⟨rfl, hst.below⟩
set_option maxRecDepth 100000 in
set_option maxHeartbeats 4000000 in
theorem rread_bad0 {d : List UInt8} {b : Nat} {w0 : World} (h45 : (d.getD 0 0).toNat ≠ 45) (hfb : Fb 0 d b) (hb0 : 0 < b) (hl : d.length ≤ 100000) :
    Calls Tryd.prog 80 #[.string ⟨d.toArray⟩] w0 fun e w' => e = .returned (.tuple #[.agg #[.bool (neg 0), .slice none (dl 0) 0], .int .i64 (b : Nat)]) ∧ Below w0.heap.size w0 w' := by
  have hd0 := fb_first hfb hb0
  obtain ⟨hl0, hd1, hd2, hd3⟩ := hd0
  refine enter Tryd.func80 rfl Tryd.ntmps80 rfl ?_
  intro a henv hst
  refine wp_seq ?_
  refine region_seq ?_
  refine seq_step rfl (op_alloc (c := #[.bool (neg 0), .slice none (dl 0) 0]) henv hst rfl zero_anvil_anvilref02_Int rcells ?_)
  clear henv hst a; intro a w2 g1 henv hst
  refine sv (v := .int .i64 0) henv rfl (rn_assign henv rfl) ?_
  clear henv a; intro a henv
  refine wpList_nil ?_
  refine th_n ?_
  refine wp_seq ?_
  refine region_seq ?_
  refine sv (v := .int .i64 0) henv rfl (rn_assign henv rfl) ?_
  clear henv a; intro a henv
  refine wpList_nil ?_
  refine th_n ?_
  refine wp_seq ?_
  refine wp_seq ?_
  refine region_seq ?_
  revert a
  refine mA rfl rfl ?_
  refine sA (v := .int .i64 (d.length : Nat)) rfl (fun _ henv => rn_lenS henv Tryd.underlying9 rfl) ?_
  refine sA (v := .bool (decide (((d.length : Nat) : Int) > (0 : Int)))) rfl (fun _ henv => rn_bin henv rfl rfl rfl) ?_
  intro a henv
  rw [show (decide (((d.length : Nat) : Int) > (0 : Int))) = true from decide_eq_true (by omega)] at henv
  revert a
  refine mA rfl rfl ?_
  refine gA (v := .string ⟨d.toArray⟩) rfl rfl rfl rfl (fun _ henv => rn_move henv rfl) ?_
  refine gA (v := .int .u8 ((d.getD 0 0).toNat : Nat)) rfl rfl rfl rfl (fun _ henv => rn_idxS (i := 0) henv Tryd.underlying9 rfl rfl (by omega)) ?_
  refine gA (v := .bool ((((d.getD 0 0).toNat : Nat) : Int) == (45 : Int))) rfl rfl rfl rfl (fun _ henv => rn_bin henv rfl rfl rfl) ?_
  intro a henv
  rw [show ((((d.getD 0 0).toNat : Nat) : Int) == (45 : Int)) = false from beq_eq_false_iff_ne.2 (by omega)] at henv
  refine sv (v := .bool false) henv rfl (rn_pick henv rfl rfl) ?_
  clear henv a; intro a henv
  refine wpList_nil ?_
  refine th_n ?_
  refine if_f henv rfl (rfl) ?_
  refine wp_skip ?_
  refine th_n ?_
  refine wp_seq ?_
  refine wp_seq ?_
  refine region_seq ?_
  revert a
  refine mA rfl rfl ?_
  refine mA rfl rfl ?_
  refine sA (v := .int .i64 (d.length : Nat)) rfl (fun _ henv => rn_lenS henv Tryd.underlying9 rfl) ?_
  refine sA (v := .bool (decide ((0 : Int) ≥ ((d.length : Nat) : Int)))) rfl (fun _ henv => rn_bin henv rfl rfl rfl) ?_
  intro a henv
  rw [show (decide ((0 : Int) ≥ ((d.length : Nat) : Int))) = false from decide_eq_false (by omega)] at henv
  revert a
  refine mA rfl rfl ?_
  refine gA (v := .string ⟨d.toArray⟩) rfl rfl rfl rfl (fun _ henv => rn_move henv rfl) ?_
  refine gA (v := .int .i64 0) rfl rfl rfl rfl (fun _ henv => rn_move henv rfl) ?_
  refine gA (v := .int .u8 ((d.getD 0 0).toNat : Nat)) rfl rfl rfl rfl (fun _ henv => rn_idxS (i := 0) henv Tryd.underlying9 rfl rfl (by omega)) ?_
  refine gA (v := .bool (decide ((((d.getD 0 0).toNat : Nat) : Int) < (48 : Int)))) rfl rfl rfl rfl (fun _ henv => rn_bin henv rfl rfl rfl) ?_
  intro a henv
  rw [show (decide ((((d.getD 0 0).toNat : Nat) : Int) < (48 : Int))) = false from decide_eq_false (by omega)] at henv
  revert a
  refine sA (v := .bool false) rfl (fun _ henv => rn_pick henv rfl rfl) ?_
  refine mA rfl rfl ?_
  refine gA (v := .string ⟨d.toArray⟩) rfl rfl rfl rfl (fun _ henv => rn_move henv rfl) ?_
  refine gA (v := .int .i64 0) rfl rfl rfl rfl (fun _ henv => rn_move henv rfl) ?_
  refine gA (v := .int .u8 ((d.getD 0 0).toNat : Nat)) rfl rfl rfl rfl (fun _ henv => rn_idxS (i := 0) henv Tryd.underlying9 rfl rfl (by omega)) ?_
  refine gA (v := .bool (decide ((((d.getD 0 0).toNat : Nat) : Int) > (57 : Int)))) rfl rfl rfl rfl (fun _ henv => rn_bin henv rfl rfl rfl) ?_
  intro a henv
  rw [show (decide ((((d.getD 0 0).toNat : Nat) : Int) > (57 : Int))) = false from decide_eq_false (by omega)] at henv
  revert a
  refine sA (v := .bool false) rfl (fun _ henv => rn_pick henv rfl rfl) ?_
  refine mA rfl rfl ?_
  refine gA (v := .int .i64 0) rfl rfl rfl rfl (fun _ henv => rn_move henv rfl) ?_
  refine gA (v := .bool false) rfl rfl rfl rfl (fun _ henv => rn_bin henv rfl rfl rfl) ?_
  refine gA (v := .bool false) rfl rfl rfl rfl (fun _ henv => rn_move henv rfl) ?_
  refine kA rfl rfl rfl rfl rfl ?_
  refine kA rfl rfl rfl rfl rfl ?_
  refine kA rfl rfl rfl rfl rfl ?_
  refine gA (v := .bool false) rfl rfl rfl rfl (fun _ henv => rn_pick henv rfl rfl) ?_
  refine sA (v := .bool false) rfl (fun _ henv => rn_pick henv rfl rfl) ?_
  intro a henv
  refine wpList_nil ?_
  refine th_n ?_
  refine if_f henv rfl (rfl) ?_
  refine wp_skip ?_
  refine th_n ?_
  refine wp_seq ?_
  refine region_seq ?_
  refine sv (v := .agg #[.bool (neg 0), .slice none (dl 0) 0]) henv rfl (rn_zref) ?_
  clear henv a; intro a henv
  refine seq_step rfl (op_alloc (c := #[.bool (neg 0), .slice none (dl 0) 0]) henv hst rfl zero_anvil_anvilref02_Int rcells ?_)
  clear henv hst a; intro a w4 g3 henv hst
  refine seq_step rfl (op_store (k := 0) (c' := #[.bool (neg 0), .slice none (dl 0) 0]) henv hst (ty_anvil_anvilref02_Int.size) rfl rfl rfl rfl (by simp) rfl rfl ?_)
  clear henv hst a; intro a w5 henv hst
  refine wpList_nil ?_
  refine th_n ?_
  refine wp_seq ?_
  refine wp_seq ?_
  refine region_seq ?_
  revert a
  refine mA rfl rfl ?_
  refine aA rfl rfl ?_
  intro a henv
  refine wpList_nil ?_
  refine th_n ?_
  refine wp_block ?_
  replace hst := hst.addR (rin_none _) ⟨nou_bk rfl, nou_bk rfl, trivial⟩
  refine wp_loop_ghost (fun mz a w => ∃ k : Nat, ∃ A1 : Option Addr, ∃ c1 : Nat, d.length - k = mz ∧ Env 89 a [(0, .string ⟨d.toArray⟩), (2, .pointer (some ⟨g1, 0, none⟩)), (4, .int .i64 0), (5, .pointer (some ⟨g3, 0, none⟩)), (6, .int .i64 (k : Nat))] ∧ St w0 w [bk g3 #[.bool (neg ((numOf (d.take k) : Nat) : Int)), .slice A1 (dl ((numOf (d.take k) : Nat) : Int)) c1] 39, bk g1 #[.bool (neg 0), .slice none (dl 0) 0] 39] [pfR A1 c1 ((numOf (d.take k) : Nat) : Int)] ∧ k ≤ b) _ ⟨0, none, 0, rfl, henv.sub ⟨rfl, rfl, rfl, rfl, rfl, trivial⟩, hst.pick [0, 1] [0] (by decide), (Nat.zero_le _)⟩ ?_
  clear henv hst a
  rintro mz a w6 ⟨k, A1, c1, rfl, henv, hst, hk⟩
  have hkl : k ≤ d.length := by have := fb_le hfb; omega
  have hdl1 := dl_num2 hfb hk
  rcases bad_split3 hfb hk hb0 with ⟨hlt, h1, h2, hk0, h3, hkb⟩ | ⟨hlt, h1, h2, hk0, h3, hkb⟩ | ⟨hlt, h1, h2, hk0, hkb⟩ | ⟨hkb, hlt, h1, hk0⟩ | ⟨hkb, hlt, h1, hk0⟩ | ⟨hkb, hlt, h1, h2, hk0, h3⟩
  · refine wp_seq ?_
    refine wp_seq ?_
    refine region_seq ?_
    revert a
    refine mA rfl rfl ?_
    refine mA rfl rfl ?_
    refine sA (v := .int .i64 (d.length : Nat)) rfl (fun _ henv => rn_lenS henv Tryd.underlying9 rfl) ?_
    refine sA (v := .bool (decide (((k : Nat) : Int) < ((d.length : Nat) : Int)))) rfl (fun _ henv => rn_bin henv rfl rfl rfl) ?_
    intro a henv
    rw [show (decide (((k : Nat) : Int) < ((d.length : Nat) : Int))) = true from decide_eq_true (by omega)] at henv
    refine wpList_nil ?_
    refine th_n ?_
    refine if_t henv rfl (rfl) ?_
    refine wp_skip ?_
    refine th_n ?_
    refine wp_seq ?_
    refine wp_block ?_
    refine wp_seq ?_
    refine wp_seq ?_
    refine region_seq ?_
    revert a
    refine mA rfl rfl ?_
    refine mA rfl rfl ?_
    refine sA (v := .int .u8 ((d.getD k 0).toNat : Nat)) rfl (fun _ henv => rn_idxS (i := k) henv Tryd.underlying9 rfl rfl (by omega)) ?_
    refine sA (v := .bool (decide ((((d.getD k 0).toNat : Nat) : Int) < (48 : Int)))) rfl (fun _ henv => rn_bin henv rfl rfl rfl) ?_
    intro a henv
    rw [show (decide ((((d.getD k 0).toNat : Nat) : Int) < (48 : Int))) = false from decide_eq_false (by omega)] at henv
    revert a
    refine mA rfl rfl ?_
    refine gA (v := .string ⟨d.toArray⟩) rfl rfl rfl rfl (fun _ henv => rn_move henv rfl) ?_
    refine gA (v := .int .i64 (k : Nat)) rfl rfl rfl rfl (fun _ henv => rn_move henv rfl) ?_
    refine gA (v := .int .u8 ((d.getD k 0).toNat : Nat)) rfl rfl rfl rfl (fun _ henv => rn_idxS (i := k) henv Tryd.underlying9 rfl rfl (by omega)) ?_
    refine gA (v := .bool (decide ((((d.getD k 0).toNat : Nat) : Int) > (57 : Int)))) rfl rfl rfl rfl (fun _ henv => rn_bin henv rfl rfl rfl) ?_
    intro a henv
    rw [show (decide ((((d.getD k 0).toNat : Nat) : Int) > (57 : Int))) = false from decide_eq_false (by omega)] at henv
    revert a
    refine sA (v := .bool false) rfl (fun _ henv => rn_pick henv rfl rfl) ?_
    refine mA rfl rfl ?_
    refine gA (v := .int .i64 (k : Nat)) rfl rfl rfl rfl (fun _ henv => rn_move henv rfl) ?_
    refine gA (v := .int .i64 0) rfl rfl rfl rfl (fun _ henv => rn_move henv rfl) ?_
    refine gA (v := .int .i64 1) rfl rfl rfl rfl (fun _ henv => rn_bin henv rfl rfl rfl) ?_
    refine gA (v := .bool (((k : Nat) : Int) == (1 : Int))) rfl rfl rfl rfl (fun _ henv => rn_bin henv rfl rfl rfl) ?_
    intro a henv
    rw [show (((k : Nat) : Int) == (1 : Int)) = false from beq_eq_false_iff_ne.2 (by omega)] at henv
    revert a
    refine gA (v := .bool false) rfl rfl rfl rfl (fun _ henv => rn_move henv rfl) ?_
    refine kA rfl rfl rfl rfl rfl ?_
    refine kA rfl rfl rfl rfl rfl ?_
    refine kA rfl rfl rfl rfl rfl ?_
    refine kA rfl rfl rfl rfl rfl ?_
    refine gA (v := .bool false) rfl rfl rfl rfl (fun _ henv => rn_pick henv rfl rfl) ?_
    refine sA (v := .bool false) rfl (fun _ henv => rn_pick henv rfl rfl) ?_
    intro a henv
    refine wpList_nil ?_
    refine th_n ?_
    refine if_f henv rfl (rfl) ?_
    refine wp_skip ?_
    refine th_n ?_
    refine region_any (n := 11) (Sk [bk g1 #[.bool (neg 0), .slice none (dl 0) 0] 39] [pfR A1 c1 ((numOf (d.take k) : Nat) : Int)] [10] [bk g3 #[.bool (neg ((numOf (d.take k) : Nat) : Int)), .slice A1 (dl ((numOf (d.take k) : Nat) : Int)) c1] 39]) mixed rfl henv hst ?_
    clear henv hst; intro w7 henv hst
    refine sAny_take (i := 0) [2, 8, 9, 10] (fun w' => w'.heap[g3]? = some (.cells #[.bool (neg ((numOf (d.take k) : Nat) : Int)), .slice A1 (dl ((numOf (d.take k) : Nat) : Int)) c1] 39 (0, 0))) (v := .agg #[.bool (neg ((numOf (d.take k) : Nat) : Int)), .slice A1 (dl ((numOf (d.take k) : Nat) : Int)) c1]) rfl (by kernel_rfl) (fun _ _ _ h => h) (fun _ _ hj hS => (hS.two rfl hj).oat (k := 0) rfl) henv rfl (hst.oat (k := 0) rfl) (fun w' hg => rn_load0 henv ty_anvil_anvilref02_Int rfl hg rfl) ?_
    clear henv a; intro a henv
    refine tM (i := 3) (rg 5 6) rfl (by kernel_rfl) (fun _ _ _ h => h) henv rfl rfl ?_
    clear henv a; intro a henv
    refine tM (i := 4) (rg 5 6) rfl (by kernel_rfl) (fun _ _ _ h => h) henv rfl rfl ?_
    clear henv a; intro a henv
    refine tA (i := 5) (rg 6 5) (v := .int .u8 ((d.getD k 0).toNat : Nat)) rfl (by kernel_rfl) (fun _ _ _ h => h) henv rfl (fun _ => rn_idxS (i := k) henv Tryd.underlying9 rfl rfl (by omega)) ?_
    clear henv a; intro a henv
    refine tA (i := 6) (rg 7 4) (v := .int .u8 (((d.getD k 0).toNat) - 48 : Nat)) rfl (by kernel_rfl) (fun _ _ _ h => h) henv rfl (fun _ => rn_sub henv rfl rfl (by rw [IntWalk.u8_in _ (by omega)]; omega)) ?_
    clear henv a; intro a henv
    refine tA (i := 7) [8, 9, 10] (v := .int .i64 (((d.getD k 0).toNat) - 48 : Nat)) rfl (by kernel_rfl) (fun _ _ _ h => h) henv rfl (fun _ => rn_conv henv rfl Tryd.underlying5 Tryd.underlying2 (IntWalk.i64_in _ (by omega))) ?_
    clear henv a; intro a henv
    refine sAny_one (i := 1) (by kernel_rfl) rfl rfl (op_call henv rfl Tryd.call36 rfl (of_r (n := (10 : Int)) (by omega) (by omega)) ?_)
    rintro e w11 ⟨_, rfl, ⟨A8, c9, rfl, hz10⟩, hb⟩
    refine ⟨_, rfl, ?_⟩
    clear henv a; intro a henv
    replace hst := (hst.call hb).addR hz10 ⟨nou_bk rfl, nou_bk rfl, trivial⟩
    clear hz10
    clear hb
    refine ⟨.inr ⟨hst.kn.pick [1] [1], .inr (hst.kn.pick [0] [])⟩, ?_⟩
    refine sAny_one (i := 2) (by kernel_rfl) rfl rfl (op_call henv rfl Tryd.call52 rfl (mul_r (x := ((numOf (d.take k) : Nat) : Int)) (y := 10) (show RIn _ A1 c1 ((numOf (d.take k) : Nat) : Int) from hst.pat (k := 1) rfl) (show RIn _ A8 c9 10 from hst.pat (k := 0) rfl) (by omega) (by have := dl_small (n := 10) (by decide) (by decide); omega)) ?_)
    rintro e w15 ⟨_, rfl, ⟨A12, c13, rfl, hz14⟩, hb⟩
    refine ⟨_, rfl, ?_⟩
    clear henv a; intro a henv
    replace hst := (hst.call hb).addR hz14 ⟨nou_bk rfl, nou_bk rfl, trivial⟩
    clear hz14
    clear hb
    refine ⟨.inr ⟨hst.kn.pick [1] [2], .inr (hst.kn.pick [0] [])⟩, ?_⟩
    refine sAny_one (i := 8) (by kernel_rfl) rfl rfl (op_call henv rfl Tryd.call36 rfl (of_r (n := (((d.getD k 0).toNat) - 48 : Nat)) (by omega) (by omega)) ?_)
    rintro e w19 ⟨_, rfl, ⟨A16, c17, rfl, hz18⟩, hb⟩
    refine ⟨_, rfl, ?_⟩
    clear henv a; intro a henv
    replace hst := (hst.call hb).addR hz18 ⟨nou_bk rfl, nou_bk rfl, trivial⟩
    clear hz18
    clear hb
    refine ⟨.inr ⟨hst.kn.pick [1] [3], .inr (hst.kn.pick [0] [])⟩, ?_⟩
    refine sAny_one (i := 9) (by kernel_rfl) rfl rfl (op_call henv rfl Tryd.call54 rfl (add_r (x := ((numOf (d.take k) : Nat) : Int) * 10) (y := (((d.getD k 0).toNat) - 48 : Nat)) (show RIn _ A12 c13 (((numOf (d.take k) : Nat) : Int) * 10) from hst.pat (k := 1) rfl) (show RIn _ A16 c17 (((d.getD k 0).toNat) - 48 : Nat) from hst.pat (k := 0) rfl) (by have h1 := dl_mul ((numOf (d.take k) : Nat) : Int) 10; have h2 := dl_small (n := 10) (by decide) (by decide); omega) (by have := dl_small (n := (((d.getD k 0).toNat) - 48 : Nat)) (by omega) (by omega); omega)) ?_)
    rintro e w23 ⟨_, rfl, ⟨A20, c21, rfl, hz22⟩, hb⟩
    refine ⟨_, rfl, ?_⟩
    clear henv a; intro a henv
    replace hst := (hst.call hb).addR hz22 ⟨nou_bk rfl, nou_bk rfl, trivial⟩
    clear hz22
    clear hb
    refine ⟨.inr ⟨hst.kn.pick [1] [4], .inr (hst.kn.pick [0] [])⟩, ?_⟩
    refine sAny_one (i := 10) (by kernel_rfl) rfl rfl (op_store (k := 0) (c' := #[.bool (neg ((((numOf (d.take k) : Nat) : Int) * 10) + (((d.getD k 0).toNat) - 48 : Nat))), .slice A20 (dl ((((numOf (d.take k) : Nat) : Int) * 10) + (((d.getD k 0).toNat) - 48 : Nat))) c21]) henv hst (ty_anvil_anvilref02_Int.size) rfl rfl rfl rfl (by simp) rfl rfl ?_)
    clear henv hst a; intro a w24 henv hst
    refine ⟨.inr ⟨hst.kn.pick [1] [4], .inl rfl⟩, ?_⟩
    refine sAny_done (by kernel_rfl) ?_ _
    refine bl_n (th_n ?_)
    refine region_seq ?_
    revert a
    refine mA rfl rfl ?_
    refine sA (v := .int .i64 (k + 1 : Nat)) rfl (fun _ henv => rn_add henv rfl rfl (by rw [IntWalk.i64_in _ (by omega)]; omega)) ?_
    refine aA rfl rfl ?_
    intro a henv
    refine wpList_nil ?_
    rw [num_step hlt] at hst
    exact th_n ⟨_, (by omega), ⟨k + 1, A20, c21, rfl, henv.sub ⟨rfl, rfl, rfl, rfl, rfl, trivial⟩, hst.pick [0, 1] [0] (by decide), (by omega)⟩⟩
  · refine wp_seq ?_
    refine wp_seq ?_
    refine region_seq ?_
    revert a
    refine mA rfl rfl ?_
    refine mA rfl rfl ?_
    refine sA (v := .int .i64 (d.length : Nat)) rfl (fun _ henv => rn_lenS henv Tryd.underlying9 rfl) ?_
    refine sA (v := .bool (decide (((k : Nat) : Int) < ((d.length : Nat) : Int)))) rfl (fun _ henv => rn_bin henv rfl rfl rfl) ?_
    intro a henv
    rw [show (decide (((k : Nat) : Int) < ((d.length : Nat) : Int))) = true from decide_eq_true (by omega)] at henv
    refine wpList_nil ?_
    refine th_n ?_
    refine if_t henv rfl (rfl) ?_
    refine wp_skip ?_
    refine th_n ?_
    refine wp_seq ?_
    refine wp_block ?_
    refine wp_seq ?_
    refine wp_seq ?_
    refine region_seq ?_
    revert a
    refine mA rfl rfl ?_
    refine mA rfl rfl ?_
    refine sA (v := .int .u8 ((d.getD k 0).toNat : Nat)) rfl (fun _ henv => rn_idxS (i := k) henv Tryd.underlying9 rfl rfl (by omega)) ?_
    refine sA (v := .bool (decide ((((d.getD k 0).toNat : Nat) : Int) < (48 : Int)))) rfl (fun _ henv => rn_bin henv rfl rfl rfl) ?_
    intro a henv
    rw [show (decide ((((d.getD k 0).toNat : Nat) : Int) < (48 : Int))) = false from decide_eq_false (by omega)] at henv
    revert a
    refine mA rfl rfl ?_
    refine gA (v := .string ⟨d.toArray⟩) rfl rfl rfl rfl (fun _ henv => rn_move henv rfl) ?_
    refine gA (v := .int .i64 (k : Nat)) rfl rfl rfl rfl (fun _ henv => rn_move henv rfl) ?_
    refine gA (v := .int .u8 ((d.getD k 0).toNat : Nat)) rfl rfl rfl rfl (fun _ henv => rn_idxS (i := k) henv Tryd.underlying9 rfl rfl (by omega)) ?_
    refine gA (v := .bool (decide ((((d.getD k 0).toNat : Nat) : Int) > (57 : Int)))) rfl rfl rfl rfl (fun _ henv => rn_bin henv rfl rfl rfl) ?_
    intro a henv
    rw [show (decide ((((d.getD k 0).toNat : Nat) : Int) > (57 : Int))) = false from decide_eq_false (by omega)] at henv
    revert a
    refine sA (v := .bool false) rfl (fun _ henv => rn_pick henv rfl rfl) ?_
    refine mA rfl rfl ?_
    refine gA (v := .int .i64 (k : Nat)) rfl rfl rfl rfl (fun _ henv => rn_move henv rfl) ?_
    refine gA (v := .int .i64 0) rfl rfl rfl rfl (fun _ henv => rn_move henv rfl) ?_
    refine gA (v := .int .i64 1) rfl rfl rfl rfl (fun _ henv => rn_bin henv rfl rfl rfl) ?_
    refine gA (v := .bool (((k : Nat) : Int) == (1 : Int))) rfl rfl rfl rfl (fun _ henv => rn_bin henv rfl rfl rfl) ?_
    intro a henv
    rw [show (((k : Nat) : Int) == (1 : Int)) = true from beq_iff_eq.2 (by omega)] at henv
    revert a
    refine gA (v := .bool true) rfl rfl rfl rfl (fun _ henv => rn_move henv rfl) ?_
    refine gA (v := .string ⟨d.toArray⟩) rfl rfl rfl rfl (fun _ henv => rn_move henv rfl) ?_
    refine gA (v := .int .i64 0) rfl rfl rfl rfl (fun _ henv => rn_move henv rfl) ?_
    refine gA (v := .int .u8 ((d.getD 0 0).toNat : Nat)) rfl rfl rfl rfl (fun _ henv => rn_idxS (i := 0) henv Tryd.underlying9 rfl rfl (by omega)) ?_
    refine gA (v := .bool ((((d.getD 0 0).toNat : Nat) : Int) == (48 : Int))) rfl rfl rfl rfl (fun _ henv => rn_bin henv rfl rfl rfl) ?_
    intro a henv
    rw [show ((((d.getD 0 0).toNat : Nat) : Int) == (48 : Int)) = false from beq_eq_false_iff_ne.2 (by omega)] at henv
    revert a
    refine gA (v := .bool false) rfl rfl rfl rfl (fun _ henv => rn_pick henv rfl rfl) ?_
    refine sA (v := .bool false) rfl (fun _ henv => rn_pick henv rfl rfl) ?_
    intro a henv
    refine wpList_nil ?_
    refine th_n ?_
    refine if_f henv rfl (rfl) ?_
    refine wp_skip ?_
    refine th_n ?_
    refine region_any (n := 11) (Sk [bk g1 #[.bool (neg 0), .slice none (dl 0) 0] 39] [pfR A1 c1 ((numOf (d.take k) : Nat) : Int)] [10] [bk g3 #[.bool (neg ((numOf (d.take k) : Nat) : Int)), .slice A1 (dl ((numOf (d.take k) : Nat) : Int)) c1] 39]) mixed rfl henv hst ?_
    clear henv hst; intro w25 henv hst
    refine sAny_take (i := 0) [2, 8, 9, 10] (fun w' => w'.heap[g3]? = some (.cells #[.bool (neg ((numOf (d.take k) : Nat) : Int)), .slice A1 (dl ((numOf (d.take k) : Nat) : Int)) c1] 39 (0, 0))) (v := .agg #[.bool (neg ((numOf (d.take k) : Nat) : Int)), .slice A1 (dl ((numOf (d.take k) : Nat) : Int)) c1]) rfl (by kernel_rfl) (fun _ _ _ h => h) (fun _ _ hj hS => (hS.two rfl hj).oat (k := 0) rfl) henv rfl (hst.oat (k := 0) rfl) (fun w' hg => rn_load0 henv ty_anvil_anvilref02_Int rfl hg rfl) ?_
    clear henv a; intro a henv
    refine tM (i := 3) (rg 5 6) rfl (by kernel_rfl) (fun _ _ _ h => h) henv rfl rfl ?_
    clear henv a; intro a henv
    refine tM (i := 4) (rg 5 6) rfl (by kernel_rfl) (fun _ _ _ h => h) henv rfl rfl ?_
    clear henv a; intro a henv
    refine tA (i := 5) (rg 6 5) (v := .int .u8 ((d.getD k 0).toNat : Nat)) rfl (by kernel_rfl) (fun _ _ _ h => h) henv rfl (fun _ => rn_idxS (i := k) henv Tryd.underlying9 rfl rfl (by omega)) ?_
    clear henv a; intro a henv
    refine tA (i := 6) (rg 7 4) (v := .int .u8 (((d.getD k 0).toNat) - 48 : Nat)) rfl (by kernel_rfl) (fun _ _ _ h => h) henv rfl (fun _ => rn_sub henv rfl rfl (by rw [IntWalk.u8_in _ (by omega)]; omega)) ?_
    clear henv a; intro a henv
    refine tA (i := 7) [8, 9, 10] (v := .int .i64 (((d.getD k 0).toNat) - 48 : Nat)) rfl (by kernel_rfl) (fun _ _ _ h => h) henv rfl (fun _ => rn_conv henv rfl Tryd.underlying5 Tryd.underlying2 (IntWalk.i64_in _ (by omega))) ?_
    clear henv a; intro a henv
    refine sAny_one (i := 1) (by kernel_rfl) rfl rfl (op_call henv rfl Tryd.call36 rfl (of_r (n := (10 : Int)) (by omega) (by omega)) ?_)
    rintro e w29 ⟨_, rfl, ⟨A26, c27, rfl, hz28⟩, hb⟩
    refine ⟨_, rfl, ?_⟩
    clear henv a; intro a henv
    replace hst := (hst.call hb).addR hz28 ⟨nou_bk rfl, nou_bk rfl, trivial⟩
    clear hz28
    clear hb
    refine ⟨.inr ⟨hst.kn.pick [1] [1], .inr (hst.kn.pick [0] [])⟩, ?_⟩
    refine sAny_one (i := 2) (by kernel_rfl) rfl rfl (op_call henv rfl Tryd.call52 rfl (mul_r (x := ((numOf (d.take k) : Nat) : Int)) (y := 10) (show RIn _ A1 c1 ((numOf (d.take k) : Nat) : Int) from hst.pat (k := 1) rfl) (show RIn _ A26 c27 10 from hst.pat (k := 0) rfl) (by omega) (by have := dl_small (n := 10) (by decide) (by decide); omega)) ?_)
    rintro e w33 ⟨_, rfl, ⟨A30, c31, rfl, hz32⟩, hb⟩
    refine ⟨_, rfl, ?_⟩
    clear henv a; intro a henv
    replace hst := (hst.call hb).addR hz32 ⟨nou_bk rfl, nou_bk rfl, trivial⟩
    clear hz32
    clear hb
    refine ⟨.inr ⟨hst.kn.pick [1] [2], .inr (hst.kn.pick [0] [])⟩, ?_⟩
    refine sAny_one (i := 8) (by kernel_rfl) rfl rfl (op_call henv rfl Tryd.call36 rfl (of_r (n := (((d.getD k 0).toNat) - 48 : Nat)) (by omega) (by omega)) ?_)
    rintro e w37 ⟨_, rfl, ⟨A34, c35, rfl, hz36⟩, hb⟩
    refine ⟨_, rfl, ?_⟩
    clear henv a; intro a henv
    replace hst := (hst.call hb).addR hz36 ⟨nou_bk rfl, nou_bk rfl, trivial⟩
    clear hz36
    clear hb
    refine ⟨.inr ⟨hst.kn.pick [1] [3], .inr (hst.kn.pick [0] [])⟩, ?_⟩
    refine sAny_one (i := 9) (by kernel_rfl) rfl rfl (op_call henv rfl Tryd.call54 rfl (add_r (x := ((numOf (d.take k) : Nat) : Int) * 10) (y := (((d.getD k 0).toNat) - 48 : Nat)) (show RIn _ A30 c31 (((numOf (d.take k) : Nat) : Int) * 10) from hst.pat (k := 1) rfl) (show RIn _ A34 c35 (((d.getD k 0).toNat) - 48 : Nat) from hst.pat (k := 0) rfl) (by have h1 := dl_mul ((numOf (d.take k) : Nat) : Int) 10; have h2 := dl_small (n := 10) (by decide) (by decide); omega) (by have := dl_small (n := (((d.getD k 0).toNat) - 48 : Nat)) (by omega) (by omega); omega)) ?_)
    rintro e w41 ⟨_, rfl, ⟨A38, c39, rfl, hz40⟩, hb⟩
    refine ⟨_, rfl, ?_⟩
    clear henv a; intro a henv
    replace hst := (hst.call hb).addR hz40 ⟨nou_bk rfl, nou_bk rfl, trivial⟩
    clear hz40
    clear hb
    refine ⟨.inr ⟨hst.kn.pick [1] [4], .inr (hst.kn.pick [0] [])⟩, ?_⟩
    refine sAny_one (i := 10) (by kernel_rfl) rfl rfl (op_store (k := 0) (c' := #[.bool (neg ((((numOf (d.take k) : Nat) : Int) * 10) + (((d.getD k 0).toNat) - 48 : Nat))), .slice A38 (dl ((((numOf (d.take k) : Nat) : Int) * 10) + (((d.getD k 0).toNat) - 48 : Nat))) c39]) henv hst (ty_anvil_anvilref02_Int.size) rfl rfl rfl rfl (by simp) rfl rfl ?_)
    clear henv hst a; intro a w42 henv hst
    refine ⟨.inr ⟨hst.kn.pick [1] [4], .inl rfl⟩, ?_⟩
    refine sAny_done (by kernel_rfl) ?_ _
    refine bl_n (th_n ?_)
    refine region_seq ?_
    revert a
    refine mA rfl rfl ?_
    refine sA (v := .int .i64 (k + 1 : Nat)) rfl (fun _ henv => rn_add henv rfl rfl (by rw [IntWalk.i64_in _ (by omega)]; omega)) ?_
    refine aA rfl rfl ?_
    intro a henv
    refine wpList_nil ?_
    rw [num_step hlt] at hst
    exact th_n ⟨_, (by omega), ⟨k + 1, A38, c39, rfl, henv.sub ⟨rfl, rfl, rfl, rfl, rfl, trivial⟩, hst.pick [0, 1] [0] (by decide), (by omega)⟩⟩
  · refine wp_seq ?_
    refine wp_seq ?_
    refine region_seq ?_
    revert a
    refine mA rfl rfl ?_
    refine mA rfl rfl ?_
    refine sA (v := .int .i64 (d.length : Nat)) rfl (fun _ henv => rn_lenS henv Tryd.underlying9 rfl) ?_
    refine sA (v := .bool (decide (((k : Nat) : Int) < ((d.length : Nat) : Int)))) rfl (fun _ henv => rn_bin henv rfl rfl rfl) ?_
    intro a henv
    rw [show (decide (((k : Nat) : Int) < ((d.length : Nat) : Int))) = true from decide_eq_true (by omega)] at henv
    refine wpList_nil ?_
    refine th_n ?_
    refine if_t henv rfl (rfl) ?_
    refine wp_skip ?_
    refine th_n ?_
    refine wp_seq ?_
    refine wp_block ?_
    refine wp_seq ?_
    refine wp_seq ?_
    refine region_seq ?_
    revert a
    refine mA rfl rfl ?_
    refine mA rfl rfl ?_
    refine sA (v := .int .u8 ((d.getD k 0).toNat : Nat)) rfl (fun _ henv => rn_idxS (i := k) henv Tryd.underlying9 rfl rfl (by omega)) ?_
    refine sA (v := .bool (decide ((((d.getD k 0).toNat : Nat) : Int) < (48 : Int)))) rfl (fun _ henv => rn_bin henv rfl rfl rfl) ?_
    intro a henv
    rw [show (decide ((((d.getD k 0).toNat : Nat) : Int) < (48 : Int))) = false from decide_eq_false (by omega)] at henv
    revert a
    refine mA rfl rfl ?_
    refine gA (v := .string ⟨d.toArray⟩) rfl rfl rfl rfl (fun _ henv => rn_move henv rfl) ?_
    refine gA (v := .int .i64 (k : Nat)) rfl rfl rfl rfl (fun _ henv => rn_move henv rfl) ?_
    refine gA (v := .int .u8 ((d.getD k 0).toNat : Nat)) rfl rfl rfl rfl (fun _ henv => rn_idxS (i := k) henv Tryd.underlying9 rfl rfl (by omega)) ?_
    refine gA (v := .bool (decide ((((d.getD k 0).toNat : Nat) : Int) > (57 : Int)))) rfl rfl rfl rfl (fun _ henv => rn_bin henv rfl rfl rfl) ?_
    intro a henv
    rw [show (decide ((((d.getD k 0).toNat : Nat) : Int) > (57 : Int))) = false from decide_eq_false (by omega)] at henv
    revert a
    refine sA (v := .bool false) rfl (fun _ henv => rn_pick henv rfl rfl) ?_
    refine mA rfl rfl ?_
    refine gA (v := .int .i64 (k : Nat)) rfl rfl rfl rfl (fun _ henv => rn_move henv rfl) ?_
    refine gA (v := .int .i64 0) rfl rfl rfl rfl (fun _ henv => rn_move henv rfl) ?_
    refine gA (v := .int .i64 1) rfl rfl rfl rfl (fun _ henv => rn_bin henv rfl rfl rfl) ?_
    refine gA (v := .bool (((k : Nat) : Int) == (1 : Int))) rfl rfl rfl rfl (fun _ henv => rn_bin henv rfl rfl rfl) ?_
    intro a henv
    rw [show (((k : Nat) : Int) == (1 : Int)) = false from beq_eq_false_iff_ne.2 (by omega)] at henv
    revert a
    refine gA (v := .bool false) rfl rfl rfl rfl (fun _ henv => rn_move henv rfl) ?_
    refine kA rfl rfl rfl rfl rfl ?_
    refine kA rfl rfl rfl rfl rfl ?_
    refine kA rfl rfl rfl rfl rfl ?_
    refine kA rfl rfl rfl rfl rfl ?_
    refine gA (v := .bool false) rfl rfl rfl rfl (fun _ henv => rn_pick henv rfl rfl) ?_
    refine sA (v := .bool false) rfl (fun _ henv => rn_pick henv rfl rfl) ?_
    intro a henv
    refine wpList_nil ?_
    refine th_n ?_
    refine if_f henv rfl (rfl) ?_
    refine wp_skip ?_
    refine th_n ?_
    refine region_any (n := 11) (Sk [bk g1 #[.bool (neg 0), .slice none (dl 0) 0] 39] [pfR A1 c1 ((numOf (d.take k) : Nat) : Int)] [10] [bk g3 #[.bool (neg ((numOf (d.take k) : Nat) : Int)), .slice A1 (dl ((numOf (d.take k) : Nat) : Int)) c1] 39]) mixed rfl henv hst ?_
    clear henv hst; intro w43 henv hst
    refine sAny_take (i := 0) [2, 8, 9, 10] (fun w' => w'.heap[g3]? = some (.cells #[.bool (neg ((numOf (d.take k) : Nat) : Int)), .slice A1 (dl ((numOf (d.take k) : Nat) : Int)) c1] 39 (0, 0))) (v := .agg #[.bool (neg ((numOf (d.take k) : Nat) : Int)), .slice A1 (dl ((numOf (d.take k) : Nat) : Int)) c1]) rfl (by kernel_rfl) (fun _ _ _ h => h) (fun _ _ hj hS => (hS.two rfl hj).oat (k := 0) rfl) henv rfl (hst.oat (k := 0) rfl) (fun w' hg => rn_load0 henv ty_anvil_anvilref02_Int rfl hg rfl) ?_
    clear henv a; intro a henv
    refine tM (i := 3) (rg 5 6) rfl (by kernel_rfl) (fun _ _ _ h => h) henv rfl rfl ?_
    clear henv a; intro a henv
    refine tM (i := 4) (rg 5 6) rfl (by kernel_rfl) (fun _ _ _ h => h) henv rfl rfl ?_
    clear henv a; intro a henv
    refine tA (i := 5) (rg 6 5) (v := .int .u8 ((d.getD k 0).toNat : Nat)) rfl (by kernel_rfl) (fun _ _ _ h => h) henv rfl (fun _ => rn_idxS (i := k) henv Tryd.underlying9 rfl rfl (by omega)) ?_
    clear henv a; intro a henv
    refine tA (i := 6) (rg 7 4) (v := .int .u8 (((d.getD k 0).toNat) - 48 : Nat)) rfl (by kernel_rfl) (fun _ _ _ h => h) henv rfl (fun _ => rn_sub henv rfl rfl (by rw [IntWalk.u8_in _ (by omega)]; omega)) ?_
    clear henv a; intro a henv
    refine tA (i := 7) [8, 9, 10] (v := .int .i64 (((d.getD k 0).toNat) - 48 : Nat)) rfl (by kernel_rfl) (fun _ _ _ h => h) henv rfl (fun _ => rn_conv henv rfl Tryd.underlying5 Tryd.underlying2 (IntWalk.i64_in _ (by omega))) ?_
    clear henv a; intro a henv
    refine sAny_one (i := 1) (by kernel_rfl) rfl rfl (op_call henv rfl Tryd.call36 rfl (of_r (n := (10 : Int)) (by omega) (by omega)) ?_)
    rintro e w47 ⟨_, rfl, ⟨A44, c45, rfl, hz46⟩, hb⟩
    refine ⟨_, rfl, ?_⟩
    clear henv a; intro a henv
    replace hst := (hst.call hb).addR hz46 ⟨nou_bk rfl, nou_bk rfl, trivial⟩
    clear hz46
    clear hb
    refine ⟨.inr ⟨hst.kn.pick [1] [1], .inr (hst.kn.pick [0] [])⟩, ?_⟩
    refine sAny_one (i := 2) (by kernel_rfl) rfl rfl (op_call henv rfl Tryd.call52 rfl (mul_r (x := ((numOf (d.take k) : Nat) : Int)) (y := 10) (show RIn _ A1 c1 ((numOf (d.take k) : Nat) : Int) from hst.pat (k := 1) rfl) (show RIn _ A44 c45 10 from hst.pat (k := 0) rfl) (by omega) (by have := dl_small (n := 10) (by decide) (by decide); omega)) ?_)
    rintro e w51 ⟨_, rfl, ⟨A48, c49, rfl, hz50⟩, hb⟩
    refine ⟨_, rfl, ?_⟩
    clear henv a; intro a henv
    replace hst := (hst.call hb).addR hz50 ⟨nou_bk rfl, nou_bk rfl, trivial⟩
    clear hz50
    clear hb
    refine ⟨.inr ⟨hst.kn.pick [1] [2], .inr (hst.kn.pick [0] [])⟩, ?_⟩
    refine sAny_one (i := 8) (by kernel_rfl) rfl rfl (op_call henv rfl Tryd.call36 rfl (of_r (n := (((d.getD k 0).toNat) - 48 : Nat)) (by omega) (by omega)) ?_)
    rintro e w55 ⟨_, rfl, ⟨A52, c53, rfl, hz54⟩, hb⟩
    refine ⟨_, rfl, ?_⟩
    clear henv a; intro a henv
    replace hst := (hst.call hb).addR hz54 ⟨nou_bk rfl, nou_bk rfl, trivial⟩
    clear hz54
    clear hb
    refine ⟨.inr ⟨hst.kn.pick [1] [3], .inr (hst.kn.pick [0] [])⟩, ?_⟩
    refine sAny_one (i := 9) (by kernel_rfl) rfl rfl (op_call henv rfl Tryd.call54 rfl (add_r (x := ((numOf (d.take k) : Nat) : Int) * 10) (y := (((d.getD k 0).toNat) - 48 : Nat)) (show RIn _ A48 c49 (((numOf (d.take k) : Nat) : Int) * 10) from hst.pat (k := 1) rfl) (show RIn _ A52 c53 (((d.getD k 0).toNat) - 48 : Nat) from hst.pat (k := 0) rfl) (by have h1 := dl_mul ((numOf (d.take k) : Nat) : Int) 10; have h2 := dl_small (n := 10) (by decide) (by decide); omega) (by have := dl_small (n := (((d.getD k 0).toNat) - 48 : Nat)) (by omega) (by omega); omega)) ?_)
    rintro e w59 ⟨_, rfl, ⟨A56, c57, rfl, hz58⟩, hb⟩
    refine ⟨_, rfl, ?_⟩
    clear henv a; intro a henv
    replace hst := (hst.call hb).addR hz58 ⟨nou_bk rfl, nou_bk rfl, trivial⟩
    clear hz58
    clear hb
    refine ⟨.inr ⟨hst.kn.pick [1] [4], .inr (hst.kn.pick [0] [])⟩, ?_⟩
    refine sAny_one (i := 10) (by kernel_rfl) rfl rfl (op_store (k := 0) (c' := #[.bool (neg ((((numOf (d.take k) : Nat) : Int) * 10) + (((d.getD k 0).toNat) - 48 : Nat))), .slice A56 (dl ((((numOf (d.take k) : Nat) : Int) * 10) + (((d.getD k 0).toNat) - 48 : Nat))) c57]) henv hst (ty_anvil_anvilref02_Int.size) rfl rfl rfl rfl (by simp) rfl rfl ?_)
    clear henv hst a; intro a w60 henv hst
    refine ⟨.inr ⟨hst.kn.pick [1] [4], .inl rfl⟩, ?_⟩
    refine sAny_done (by kernel_rfl) ?_ _
    refine bl_n (th_n ?_)
    refine region_seq ?_
    revert a
    refine mA rfl rfl ?_
    refine sA (v := .int .i64 (k + 1 : Nat)) rfl (fun _ henv => rn_add henv rfl rfl (by rw [IntWalk.i64_in _ (by omega)]; omega)) ?_
    refine aA rfl rfl ?_
    intro a henv
    refine wpList_nil ?_
    rw [num_step hlt] at hst
    exact th_n ⟨_, (by omega), ⟨k + 1, A56, c57, rfl, henv.sub ⟨rfl, rfl, rfl, rfl, rfl, trivial⟩, hst.pick [0, 1] [0] (by decide), (by omega)⟩⟩
  · refine wp_seq ?_
    refine wp_seq ?_
    refine region_seq ?_
    revert a
    refine mA rfl rfl ?_
    refine mA rfl rfl ?_
    refine sA (v := .int .i64 (d.length : Nat)) rfl (fun _ henv => rn_lenS henv Tryd.underlying9 rfl) ?_
    refine sA (v := .bool (decide (((k : Nat) : Int) < ((d.length : Nat) : Int)))) rfl (fun _ henv => rn_bin henv rfl rfl rfl) ?_
    intro a henv
    rw [show (decide (((k : Nat) : Int) < ((d.length : Nat) : Int))) = true from decide_eq_true (by omega)] at henv
    refine wpList_nil ?_
    refine th_n ?_
    refine if_t henv rfl (rfl) ?_
    refine wp_skip ?_
    refine th_n ?_
    refine wp_seq ?_
    refine wp_block ?_
    refine wp_seq ?_
    refine wp_seq ?_
    refine region_seq ?_
    revert a
    refine mA rfl rfl ?_
    refine mA rfl rfl ?_
    refine sA (v := .int .u8 ((d.getD k 0).toNat : Nat)) rfl (fun _ henv => rn_idxS (i := k) henv Tryd.underlying9 rfl rfl (by omega)) ?_
    refine sA (v := .bool (decide ((((d.getD k 0).toNat : Nat) : Int) < (48 : Int)))) rfl (fun _ henv => rn_bin henv rfl rfl rfl) ?_
    intro a henv
    rw [show (decide ((((d.getD k 0).toNat : Nat) : Int) < (48 : Int))) = true from decide_eq_true (by omega)] at henv
    revert a
    refine mA rfl rfl ?_
    refine kA rfl rfl rfl rfl rfl ?_
    refine kA rfl rfl rfl rfl rfl ?_
    refine kA rfl rfl rfl rfl rfl ?_
    refine kA rfl rfl rfl rfl rfl ?_
    refine sA (v := .bool true) rfl (fun _ henv => rn_pick henv rfl rfl) ?_
    refine mA rfl rfl ?_
    refine kA rfl rfl rfl rfl rfl ?_
    refine kA rfl rfl rfl rfl rfl ?_
    refine kA rfl rfl rfl rfl rfl ?_
    refine kA rfl rfl rfl rfl rfl ?_
    refine kA rfl rfl rfl rfl rfl ?_
    refine kA rfl rfl rfl rfl rfl ?_
    refine kA rfl rfl rfl rfl rfl ?_
    refine kA rfl rfl rfl rfl rfl ?_
    refine kA rfl rfl rfl rfl rfl ?_
    refine kA rfl rfl rfl rfl rfl ?_
    refine sA (v := .bool true) rfl (fun _ henv => rn_pick henv rfl rfl) ?_
    intro a henv
    refine wpList_nil ?_
    refine th_n ?_
    refine if_t henv rfl (rfl) ?_
    refine wp_seq ?_
    refine region_seq ?_
    revert a
    refine sA (v := .agg #[.bool (neg 0), .slice none (dl 0) 0]) rfl (fun _ henv => rn_zref) ?_
    refine mA rfl rfl ?_
    intro a henv
    refine seq_step rfl (op_store (k := 1) (c' := #[.bool (neg 0), .slice none (dl 0) 0]) henv hst (ty_anvil_anvilref02_Int.size) rfl rfl rfl rfl (by simp) rfl rfl ?_)
    clear henv hst a; intro a w61 henv hst
    refine sv (v := .int .i64 (k : Nat)) henv rfl (rn_assign henv rfl) ?_
    clear henv a; intro a henv
    refine wpList_nil ?_
    refine th_n ?_
    refine wp_ret ?_
    refine th_r (bl_r (th_r (th_r (bl_r (th_r ?_)))))
    refine leave henv (res2 Tryd.results80 (RV.cell henv ty_anvil_anvilref02_Int rfl (hst.oat (k := 1) rfl) rfl) (RV.tmp henv rfl)) ?_
    subst hkb
    exact ⟨rfl, hst.below⟩
  · refine wp_seq ?_
    refine wp_seq ?_
    refine region_seq ?_
    revert a
    refine mA rfl rfl ?_
    refine mA rfl rfl ?_
    refine sA (v := .int .i64 (d.length : Nat)) rfl (fun _ henv => rn_lenS henv Tryd.underlying9 rfl) ?_
    refine sA (v := .bool (decide (((k : Nat) : Int) < ((d.length : Nat) : Int)))) rfl (fun _ henv => rn_bin henv rfl rfl rfl) ?_
    intro a henv
    rw [show (decide (((k : Nat) : Int) < ((d.length : Nat) : Int))) = true from decide_eq_true (by omega)] at henv
    refine wpList_nil ?_
    refine th_n ?_
    refine if_t henv rfl (rfl) ?_
    refine wp_skip ?_
    refine th_n ?_
    refine wp_seq ?_
    refine wp_block ?_
    refine wp_seq ?_
    refine wp_seq ?_
    refine region_seq ?_
    revert a
    refine mA rfl rfl ?_
    refine mA rfl rfl ?_
    refine sA (v := .int .u8 ((d.getD k 0).toNat : Nat)) rfl (fun _ henv => rn_idxS (i := k) henv Tryd.underlying9 rfl rfl (by omega)) ?_
    refine sA (v := .bool (decide ((((d.getD k 0).toNat : Nat) : Int) < (48 : Int)))) rfl (fun _ henv => rn_bin henv rfl rfl rfl) ?_
    intro a henv
    rw [show (decide ((((d.getD k 0).toNat : Nat) : Int) < (48 : Int))) = false from decide_eq_false (by omega)] at henv
    revert a
    refine mA rfl rfl ?_
    refine gA (v := .string ⟨d.toArray⟩) rfl rfl rfl rfl (fun _ henv => rn_move henv rfl) ?_
    refine gA (v := .int .i64 (k : Nat)) rfl rfl rfl rfl (fun _ henv => rn_move henv rfl) ?_
    refine gA (v := .int .u8 ((d.getD k 0).toNat : Nat)) rfl rfl rfl rfl (fun _ henv => rn_idxS (i := k) henv Tryd.underlying9 rfl rfl (by omega)) ?_
    refine gA (v := .bool (decide ((((d.getD k 0).toNat : Nat) : Int) > (57 : Int)))) rfl rfl rfl rfl (fun _ henv => rn_bin henv rfl rfl rfl) ?_
    intro a henv
    rw [show (decide ((((d.getD k 0).toNat : Nat) : Int) > (57 : Int))) = true from decide_eq_true (by omega)] at henv
    revert a
    refine sA (v := .bool true) rfl (fun _ henv => rn_pick henv rfl rfl) ?_
    refine mA rfl rfl ?_
    refine kA rfl rfl rfl rfl rfl ?_
    refine kA rfl rfl rfl rfl rfl ?_
    refine kA rfl rfl rfl rfl rfl ?_
    refine kA rfl rfl rfl rfl rfl ?_
    refine kA rfl rfl rfl rfl rfl ?_
    refine kA rfl rfl rfl rfl rfl ?_
    refine kA rfl rfl rfl rfl rfl ?_
    refine kA rfl rfl rfl rfl rfl ?_
    refine kA rfl rfl rfl rfl rfl ?_
    refine kA rfl rfl rfl rfl rfl ?_
    refine sA (v := .bool true) rfl (fun _ henv => rn_pick henv rfl rfl) ?_
    intro a henv
    refine wpList_nil ?_
    refine th_n ?_
    refine if_t henv rfl (rfl) ?_
    refine wp_seq ?_
    refine region_seq ?_
    revert a
    refine sA (v := .agg #[.bool (neg 0), .slice none (dl 0) 0]) rfl (fun _ henv => rn_zref) ?_
    refine mA rfl rfl ?_
    intro a henv
    refine seq_step rfl (op_store (k := 1) (c' := #[.bool (neg 0), .slice none (dl 0) 0]) henv hst (ty_anvil_anvilref02_Int.size) rfl rfl rfl rfl (by simp) rfl rfl ?_)
    clear henv hst a; intro a w62 henv hst
    refine sv (v := .int .i64 (k : Nat)) henv rfl (rn_assign henv rfl) ?_
    clear henv a; intro a henv
    refine wpList_nil ?_
    refine th_n ?_
    refine wp_ret ?_
    refine th_r (bl_r (th_r (th_r (bl_r (th_r ?_)))))
    refine leave henv (res2 Tryd.results80 (RV.cell henv ty_anvil_anvilref02_Int rfl (hst.oat (k := 1) rfl) rfl) (RV.tmp henv rfl)) ?_
    subst hkb
    exact ⟨rfl, hst.below⟩
  · refine wp_seq ?_
    refine wp_seq ?_
    refine region_seq ?_
    revert a
    refine mA rfl rfl ?_
    refine mA rfl rfl ?_
    refine sA (v := .int .i64 (d.length : Nat)) rfl (fun _ henv => rn_lenS henv Tryd.underlying9 rfl) ?_
    refine sA (v := .bool (decide (((k : Nat) : Int) < ((d.length : Nat) : Int)))) rfl (fun _ henv => rn_bin henv rfl rfl rfl) ?_
    intro a henv
    rw [show (decide (((k : Nat) : Int) < ((d.length : Nat) : Int))) = true from decide_eq_true (by omega)] at henv
    refine wpList_nil ?_
    refine th_n ?_
    refine if_t henv rfl (rfl) ?_
    refine wp_skip ?_
    refine th_n ?_
    refine wp_seq ?_
    refine wp_block ?_
    refine wp_seq ?_
    refine wp_seq ?_
    refine region_seq ?_
    revert a
    refine mA rfl rfl ?_
    refine mA rfl rfl ?_
    refine sA (v := .int .u8 ((d.getD k 0).toNat : Nat)) rfl (fun _ henv => rn_idxS (i := k) henv Tryd.underlying9 rfl rfl (by omega)) ?_
    refine sA (v := .bool (decide ((((d.getD k 0).toNat : Nat) : Int) < (48 : Int)))) rfl (fun _ henv => rn_bin henv rfl rfl rfl) ?_
    intro a henv
    rw [show (decide ((((d.getD k 0).toNat : Nat) : Int) < (48 : Int))) = false from decide_eq_false (by omega)] at henv
    revert a
    refine mA rfl rfl ?_
    refine gA (v := .string ⟨d.toArray⟩) rfl rfl rfl rfl (fun _ henv => rn_move henv rfl) ?_
    refine gA (v := .int .i64 (k : Nat)) rfl rfl rfl rfl (fun _ henv => rn_move henv rfl) ?_
    refine gA (v := .int .u8 ((d.getD k 0).toNat : Nat)) rfl rfl rfl rfl (fun _ henv => rn_idxS (i := k) henv Tryd.underlying9 rfl rfl (by omega)) ?_
    refine gA (v := .bool (decide ((((d.getD k 0).toNat : Nat) : Int) > (57 : Int)))) rfl rfl rfl rfl (fun _ henv => rn_bin henv rfl rfl rfl) ?_
    intro a henv
    rw [show (decide ((((d.getD k 0).toNat : Nat) : Int) > (57 : Int))) = false from decide_eq_false (by omega)] at henv
    revert a
    refine sA (v := .bool false) rfl (fun _ henv => rn_pick henv rfl rfl) ?_
    refine mA rfl rfl ?_
    refine gA (v := .int .i64 (k : Nat)) rfl rfl rfl rfl (fun _ henv => rn_move henv rfl) ?_
    refine gA (v := .int .i64 0) rfl rfl rfl rfl (fun _ henv => rn_move henv rfl) ?_
    refine gA (v := .int .i64 1) rfl rfl rfl rfl (fun _ henv => rn_bin henv rfl rfl rfl) ?_
    refine gA (v := .bool (((k : Nat) : Int) == (1 : Int))) rfl rfl rfl rfl (fun _ henv => rn_bin henv rfl rfl rfl) ?_
    intro a henv
    rw [show (((k : Nat) : Int) == (1 : Int)) = true from beq_iff_eq.2 (by omega)] at henv
    revert a
    refine gA (v := .bool true) rfl rfl rfl rfl (fun _ henv => rn_move henv rfl) ?_
    refine gA (v := .string ⟨d.toArray⟩) rfl rfl rfl rfl (fun _ henv => rn_move henv rfl) ?_
    refine gA (v := .int .i64 0) rfl rfl rfl rfl (fun _ henv => rn_move henv rfl) ?_
    refine gA (v := .int .u8 ((d.getD 0 0).toNat : Nat)) rfl rfl rfl rfl (fun _ henv => rn_idxS (i := 0) henv Tryd.underlying9 rfl rfl (by omega)) ?_
    refine gA (v := .bool ((((d.getD 0 0).toNat : Nat) : Int) == (48 : Int))) rfl rfl rfl rfl (fun _ henv => rn_bin henv rfl rfl rfl) ?_
    intro a henv
    rw [show ((((d.getD 0 0).toNat : Nat) : Int) == (48 : Int)) = true from beq_iff_eq.2 (by omega)] at henv
    revert a
    refine gA (v := .bool true) rfl rfl rfl rfl (fun _ henv => rn_pick henv rfl rfl) ?_
    refine sA (v := .bool true) rfl (fun _ henv => rn_pick henv rfl rfl) ?_
    intro a henv
    refine wpList_nil ?_
    refine th_n ?_
    refine if_t henv rfl (rfl) ?_
    refine wp_seq ?_
    refine region_seq ?_
    revert a
    refine sA (v := .agg #[.bool (neg 0), .slice none (dl 0) 0]) rfl (fun _ henv => rn_zref) ?_
    refine mA rfl rfl ?_
    intro a henv
    refine seq_step rfl (op_store (k := 1) (c' := #[.bool (neg 0), .slice none (dl 0) 0]) henv hst (ty_anvil_anvilref02_Int.size) rfl rfl rfl rfl (by simp) rfl rfl ?_)
    clear henv hst a; intro a w63 henv hst
    refine sv (v := .int .i64 (k : Nat)) henv rfl (rn_assign henv rfl) ?_
    clear henv a; intro a henv
    refine wpList_nil ?_
    refine th_n ?_
    refine wp_ret ?_
    refine th_r (bl_r (th_r (th_r (bl_r (th_r ?_)))))
    refine leave henv (res2 Tryd.results80 (RV.cell henv ty_anvil_anvilref02_Int rfl (hst.oat (k := 1) rfl) rfl) (RV.tmp henv rfl)) ?_
    subst hkb
    exact ⟨rfl, hst.below⟩
set_option maxRecDepth 100000 in
set_option maxHeartbeats 4000000 in
theorem rread_ok0 {d : List UInt8} {w0 : World} (h45 : (d.getD 0 0).toNat ≠ 45) (hfb : Ok 0 d) (hl : d.length ≤ 100000) :
    Calls Tryd.prog 80 #[.string ⟨d.toArray⟩] w0 fun e w' => ∃ v, e = .returned (.tuple #[v, .int .i64 (-1)]) ∧ RAt w' v (sg false (numOf d)) ∧ Below w0.heap.size w0 w' := by
  have hdg := digits_of hfb.ok
  have hd0 := ok_first hfb
  obtain ⟨hl0, hd1, hd2, hd3⟩ := hd0
  refine enter Tryd.func80 rfl Tryd.ntmps80 rfl ?_
  intro a henv hst
  refine wp_seq ?_
  refine region_seq ?_
  refine seq_step rfl (op_alloc (c := #[.bool (neg 0), .slice none (dl 0) 0]) henv hst rfl zero_anvil_anvilref02_Int rcells ?_)
  clear henv hst a; intro a w2 g1 henv hst
  refine sv (v := .int .i64 0) henv rfl (rn_assign henv rfl) ?_
  clear henv a; intro a henv
  refine wpList_nil ?_
  refine th_n ?_
  refine wp_seq ?_
  refine region_seq ?_
  refine sv (v := .int .i64 0) henv rfl (rn_assign henv rfl) ?_
  clear henv a; intro a henv
  refine wpList_nil ?_
  refine th_n ?_
  refine wp_seq ?_
  refine wp_seq ?_
  refine region_seq ?_
  revert a
  refine mA rfl rfl ?_
  refine sA (v := .int .i64 (d.length : Nat)) rfl (fun _ henv => rn_lenS henv Tryd.underlying9 rfl) ?_
  refine sA (v := .bool (decide (((d.length : Nat) : Int) > (0 : Int)))) rfl (fun _ henv => rn_bin henv rfl rfl rfl) ?_
  intro a henv
  rw [show (decide (((d.length : Nat) : Int) > (0 : Int))) = true from decide_eq_true (by omega)] at henv
  revert a
  refine mA rfl rfl ?_
  refine gA (v := .string ⟨d.toArray⟩) rfl rfl rfl rfl (fun _ henv => rn_move henv rfl) ?_
  refine gA (v := .int .u8 ((d.getD 0 0).toNat : Nat)) rfl rfl rfl rfl (fun _ henv => rn_idxS (i := 0) henv Tryd.underlying9 rfl rfl (by omega)) ?_
  refine gA (v := .bool ((((d.getD 0 0).toNat : Nat) : Int) == (45 : Int))) rfl rfl rfl rfl (fun _ henv => rn_bin henv rfl rfl rfl) ?_
  intro a henv
  rw [show ((((d.getD 0 0).toNat : Nat) : Int) == (45 : Int)) = false from beq_eq_false_iff_ne.2 (by omega)] at henv
  refine sv (v := .bool false) henv rfl (rn_pick henv rfl rfl) ?_
  clear henv a; intro a henv
  refine wpList_nil ?_
  refine th_n ?_
  refine if_f henv rfl (rfl) ?_
  refine wp_skip ?_
  refine th_n ?_
  refine wp_seq ?_
  refine wp_seq ?_
  refine region_seq ?_
  revert a
  refine mA rfl rfl ?_
  refine mA rfl rfl ?_
  refine sA (v := .int .i64 (d.length : Nat)) rfl (fun _ henv => rn_lenS henv Tryd.underlying9 rfl) ?_
  refine sA (v := .bool (decide ((0 : Int) ≥ ((d.length : Nat) : Int)))) rfl (fun _ henv => rn_bin henv rfl rfl rfl) ?_
  intro a henv
  rw [show (decide ((0 : Int) ≥ ((d.length : Nat) : Int))) = false from decide_eq_false (by omega)] at henv
  revert a
  refine mA rfl rfl ?_
  refine gA (v := .string ⟨d.toArray⟩) rfl rfl rfl rfl (fun _ henv => rn_move henv rfl) ?_
  refine gA (v := .int .i64 0) rfl rfl rfl rfl (fun _ henv => rn_move henv rfl) ?_
  refine gA (v := .int .u8 ((d.getD 0 0).toNat : Nat)) rfl rfl rfl rfl (fun _ henv => rn_idxS (i := 0) henv Tryd.underlying9 rfl rfl (by omega)) ?_
  refine gA (v := .bool (decide ((((d.getD 0 0).toNat : Nat) : Int) < (48 : Int)))) rfl rfl rfl rfl (fun _ henv => rn_bin henv rfl rfl rfl) ?_
  intro a henv
  rw [show (decide ((((d.getD 0 0).toNat : Nat) : Int) < (48 : Int))) = false from decide_eq_false (by omega)] at henv
  revert a
  refine sA (v := .bool false) rfl (fun _ henv => rn_pick henv rfl rfl) ?_
  refine mA rfl rfl ?_
  refine gA (v := .string ⟨d.toArray⟩) rfl rfl rfl rfl (fun _ henv => rn_move henv rfl) ?_
  refine gA (v := .int .i64 0) rfl rfl rfl rfl (fun _ henv => rn_move henv rfl) ?_
  refine gA (v := .int .u8 ((d.getD 0 0).toNat : Nat)) rfl rfl rfl rfl (fun _ henv => rn_idxS (i := 0) henv Tryd.underlying9 rfl rfl (by omega)) ?_
  refine gA (v := .bool (decide ((((d.getD 0 0).toNat : Nat) : Int) > (57 : Int)))) rfl rfl rfl rfl (fun _ henv => rn_bin henv rfl rfl rfl) ?_
  intro a henv
  rw [show (decide ((((d.getD 0 0).toNat : Nat) : Int) > (57 : Int))) = false from decide_eq_false (by omega)] at henv
  revert a
  refine sA (v := .bool false) rfl (fun _ henv => rn_pick henv rfl rfl) ?_
  refine mA rfl rfl ?_
  refine gA (v := .int .i64 0) rfl rfl rfl rfl (fun _ henv => rn_move henv rfl) ?_
  refine gA (v := .bool false) rfl rfl rfl rfl (fun _ henv => rn_bin henv rfl rfl rfl) ?_
  refine gA (v := .bool false) rfl rfl rfl rfl (fun _ henv => rn_move henv rfl) ?_
  refine kA rfl rfl rfl rfl rfl ?_
  refine kA rfl rfl rfl rfl rfl ?_
  refine kA rfl rfl rfl rfl rfl ?_
  refine gA (v := .bool false) rfl rfl rfl rfl (fun _ henv => rn_pick henv rfl rfl) ?_
  refine sA (v := .bool false) rfl (fun _ henv => rn_pick henv rfl rfl) ?_
  intro a henv
  refine wpList_nil ?_
  refine th_n ?_
  refine if_f henv rfl (rfl) ?_
  refine wp_skip ?_
  refine th_n ?_
  refine wp_seq ?_
  refine region_seq ?_
  refine sv (v := .agg #[.bool (neg 0), .slice none (dl 0) 0]) henv rfl (rn_zref) ?_
  clear henv a; intro a henv
  refine seq_step rfl (op_alloc (c := #[.bool (neg 0), .slice none (dl 0) 0]) henv hst rfl zero_anvil_anvilref02_Int rcells ?_)
  clear henv hst a; intro a w4 g3 henv hst
  refine seq_step rfl (op_store (k := 0) (c' := #[.bool (neg 0), .slice none (dl 0) 0]) henv hst (ty_anvil_anvilref02_Int.size) rfl rfl rfl rfl (by simp) rfl rfl ?_)
  clear henv hst a; intro a w5 henv hst
  refine wpList_nil ?_
  refine th_n ?_
  refine wp_seq ?_
  refine wp_seq ?_
  refine region_seq ?_
  revert a
  refine mA rfl rfl ?_
  refine aA rfl rfl ?_
  intro a henv
  refine wpList_nil ?_
  refine th_n ?_
  refine wp_block ?_
  replace hst := hst.addR (rin_none _) ⟨nou_bk rfl, nou_bk rfl, trivial⟩
  refine wp_loop_ghost (fun mz a w => ∃ k : Nat, ∃ A1 : Option Addr, ∃ c1 : Nat, d.length - k = mz ∧ Env 89 a [(0, .string ⟨d.toArray⟩), (2, .pointer (some ⟨g1, 0, none⟩)), (4, .int .i64 0), (5, .pointer (some ⟨g3, 0, none⟩)), (6, .int .i64 (k : Nat))] ∧ St w0 w [bk g3 #[.bool (neg ((numOf (d.take k) : Nat) : Int)), .slice A1 (dl ((numOf (d.take k) : Nat) : Int)) c1] 39, bk g1 #[.bool (neg 0), .slice none (dl 0) 0] 39] [pfR A1 c1 ((numOf (d.take k) : Nat) : Int)] ∧ k ≤ d.length) _ ⟨0, none, 0, rfl, henv.sub ⟨rfl, rfl, rfl, rfl, rfl, trivial⟩, hst.pick [0, 1] [0] (by decide), (Nat.zero_le _)⟩ ?_
  clear henv hst a
  rintro mz a w6 ⟨k, A1, c1, rfl, henv, hst, hk⟩
  have hkl : k ≤ d.length := by omega
  have hdl1 := dl_num (d := d) (k := k) hdg hkl
  rcases ok_split2 hfb k with ⟨hlt⟩ | ⟨hlt, h1, h2, hk0, h3⟩ | ⟨hlt, h1, h2, hk0, h3⟩ | ⟨hlt, h1, h2, hk0⟩
  · refine wp_seq ?_
    refine wp_seq ?_
    refine region_seq ?_
    revert a
    refine mA rfl rfl ?_
    refine mA rfl rfl ?_
    refine sA (v := .int .i64 (d.length : Nat)) rfl (fun _ henv => rn_lenS henv Tryd.underlying9 rfl) ?_
    refine sA (v := .bool (decide (((k : Nat) : Int) < ((d.length : Nat) : Int)))) rfl (fun _ henv => rn_bin henv rfl rfl rfl) ?_
    intro a henv
    rw [show (decide (((k : Nat) : Int) < ((d.length : Nat) : Int))) = false from decide_eq_false (by omega)] at henv
    refine wpList_nil ?_
    refine th_n ?_
    refine if_f henv rfl (rfl) ?_
    refine wp_exit ?_
    refine th_x (th_x (bl_x (th_n ?_)))
    refine wp_seq ?_
    obtain rfl : k = d.length := by omega
    rw [List.take_length] at hst
    refine region_seq ?_
    revert a
    refine mA rfl rfl ?_
    refine sA (v := .bool false) rfl (fun _ henv => rn_bin henv rfl rfl rfl) ?_
    refine sA (v := .pointer (some ⟨g3, 1, none⟩)) rfl (fun _ henv => rn_fieldAddr henv fd_anvil_anvilref02_Int_1 (ty__uint32.size) (by decide) rfl) ?_
    refine sA (v := .slice A1 (dl ((numOf d : Nat) : Int)) c1) rfl (fun _ henv => rn_load1 henv ty__uint32 rfl (hst.oat (k := 0) rfl) rfl) ?_
    intro a henv
    refine seq_step rfl (op_call henv rfl Tryd.call68 rfl (norm_num' (b := false) (N := numOf d) (show U32 _ A1 (dn (numOf d)) c1 (D (numOf d)) from hst.pat (k := 0) rfl)) ?_)
    rintro e w7 ⟨rfl, hz, hb⟩
    refine ⟨_, rfl, ?_⟩
    clear henv a; intro a henv
    replace hst := (hst.call hb).addR hz ⟨nou_bk rfl, nou_bk rfl, trivial⟩
    clear hz
    clear hb
    refine seq_step rfl (op_store (k := 1) (c' := #[.bool (neg (sg false (numOf d))), .slice A1 (dl (sg false (numOf d))) c1]) henv hst (ty_anvil_anvilref02_Int.size) rfl rfl rfl rfl (by simp) rfl rfl ?_)
    clear henv hst a; intro a w8 henv hst
    refine sv (v := .int .i64 (-1)) henv rfl (rn_assign henv rfl) ?_
    clear henv a; intro a henv
    refine wpList_nil ?_
    refine th_n ?_
    refine wp_ret ?_
    refine leave henv (res2 Tryd.results80 (RV.cell henv ty_anvil_anvilref02_Int rfl (hst.oat (k := 1) rfl) rfl) (RV.tmp henv rfl)) ?_
    exact ⟨_, rfl, ⟨A1, c1, rfl, hst.pat (k := 0) rfl⟩, hst.below⟩
  · refine wp_seq ?_
    refine wp_seq ?_
    refine region_seq ?_
    revert a
    refine mA rfl rfl ?_
    refine mA rfl rfl ?_
    refine sA (v := .int .i64 (d.length : Nat)) rfl (fun _ henv => rn_lenS henv Tryd.underlying9 rfl) ?_
    refine sA (v := .bool (decide (((k : Nat) : Int) < ((d.length : Nat) : Int)))) rfl (fun _ henv => rn_bin henv rfl rfl rfl) ?_
    intro a henv
    rw [show (decide (((k : Nat) : Int) < ((d.length : Nat) : Int))) = true from decide_eq_true (by omega)] at henv
    refine wpList_nil ?_
    refine th_n ?_
    refine if_t henv rfl (rfl) ?_
    refine wp_skip ?_
    refine th_n ?_
    refine wp_seq ?_
    refine wp_block ?_
    refine wp_seq ?_
    refine wp_seq ?_
    refine region_seq ?_
    revert a
    refine mA rfl rfl ?_
    refine mA rfl rfl ?_
    refine sA (v := .int .u8 ((d.getD k 0).toNat : Nat)) rfl (fun _ henv => rn_idxS (i := k) henv Tryd.underlying9 rfl rfl (by omega)) ?_
    refine sA (v := .bool (decide ((((d.getD k 0).toNat : Nat) : Int) < (48 : Int)))) rfl (fun _ henv => rn_bin henv rfl rfl rfl) ?_
    intro a henv
    rw [show (decide ((((d.getD k 0).toNat : Nat) : Int) < (48 : Int))) = false from decide_eq_false (by omega)] at henv
    revert a
    refine mA rfl rfl ?_
    refine gA (v := .string ⟨d.toArray⟩) rfl rfl rfl rfl (fun _ henv => rn_move henv rfl) ?_
    refine gA (v := .int .i64 (k : Nat)) rfl rfl rfl rfl (fun _ henv => rn_move henv rfl) ?_
    refine gA (v := .int .u8 ((d.getD k 0).toNat : Nat)) rfl rfl rfl rfl (fun _ henv => rn_idxS (i := k) henv Tryd.underlying9 rfl rfl (by omega)) ?_
    refine gA (v := .bool (decide ((((d.getD k 0).toNat : Nat) : Int) > (57 : Int)))) rfl rfl rfl rfl (fun _ henv => rn_bin henv rfl rfl rfl) ?_
    intro a henv
    rw [show (decide ((((d.getD k 0).toNat : Nat) : Int) > (57 : Int))) = false from decide_eq_false (by omega)] at henv
    revert a
    refine sA (v := .bool false) rfl (fun _ henv => rn_pick henv rfl rfl) ?_
    refine mA rfl rfl ?_
    refine gA (v := .int .i64 (k : Nat)) rfl rfl rfl rfl (fun _ henv => rn_move henv rfl) ?_
    refine gA (v := .int .i64 0) rfl rfl rfl rfl (fun _ henv => rn_move henv rfl) ?_
    refine gA (v := .int .i64 1) rfl rfl rfl rfl (fun _ henv => rn_bin henv rfl rfl rfl) ?_
    refine gA (v := .bool (((k : Nat) : Int) == (1 : Int))) rfl rfl rfl rfl (fun _ henv => rn_bin henv rfl rfl rfl) ?_
    intro a henv
    rw [show (((k : Nat) : Int) == (1 : Int)) = false from beq_eq_false_iff_ne.2 (by omega)] at henv
    revert a
    refine gA (v := .bool false) rfl rfl rfl rfl (fun _ henv => rn_move henv rfl) ?_
    refine kA rfl rfl rfl rfl rfl ?_
    refine kA rfl rfl rfl rfl rfl ?_
    refine kA rfl rfl rfl rfl rfl ?_
    refine kA rfl rfl rfl rfl rfl ?_
    refine gA (v := .bool false) rfl rfl rfl rfl (fun _ henv => rn_pick henv rfl rfl) ?_
    refine sA (v := .bool false) rfl (fun _ henv => rn_pick henv rfl rfl) ?_
    intro a henv
    refine wpList_nil ?_
    refine th_n ?_
    refine if_f henv rfl (rfl) ?_
    refine wp_skip ?_
    refine th_n ?_
    refine region_any (n := 11) (Sk [bk g1 #[.bool (neg 0), .slice none (dl 0) 0] 39] [pfR A1 c1 ((numOf (d.take k) : Nat) : Int)] [10] [bk g3 #[.bool (neg ((numOf (d.take k) : Nat) : Int)), .slice A1 (dl ((numOf (d.take k) : Nat) : Int)) c1] 39]) mixed rfl henv hst ?_
    clear henv hst; intro w9 henv hst
    refine sAny_take (i := 0) [2, 8, 9, 10] (fun w' => w'.heap[g3]? = some (.cells #[.bool (neg ((numOf (d.take k) : Nat) : Int)), .slice A1 (dl ((numOf (d.take k) : Nat) : Int)) c1] 39 (0, 0))) (v := .agg #[.bool (neg ((numOf (d.take k) : Nat) : Int)), .slice A1 (dl ((numOf (d.take k) : Nat) : Int)) c1]) rfl (by kernel_rfl) (fun _ _ _ h => h) (fun _ _ hj hS => (hS.two rfl hj).oat (k := 0) rfl) henv rfl (hst.oat (k := 0) rfl) (fun w' hg => rn_load0 henv ty_anvil_anvilref02_Int rfl hg rfl) ?_
    clear henv a; intro a henv
    refine tM (i := 3) (rg 5 6) rfl (by kernel_rfl) (fun _ _ _ h => h) henv rfl rfl ?_
    clear henv a; intro a henv
    refine tM (i := 4) (rg 5 6) rfl (by kernel_rfl) (fun _ _ _ h => h) henv rfl rfl ?_
    clear henv a; intro a henv
    refine tA (i := 5) (rg 6 5) (v := .int .u8 ((d.getD k 0).toNat : Nat)) rfl (by kernel_rfl) (fun _ _ _ h => h) henv rfl (fun _ => rn_idxS (i := k) henv Tryd.underlying9 rfl rfl (by omega)) ?_
    clear henv a; intro a henv
    refine tA (i := 6) (rg 7 4) (v := .int .u8 (((d.getD k 0).toNat) - 48 : Nat)) rfl (by kernel_rfl) (fun _ _ _ h => h) henv rfl (fun _ => rn_sub henv rfl rfl (by rw [IntWalk.u8_in _ (by omega)]; omega)) ?_
    clear henv a; intro a henv
    refine tA (i := 7) [8, 9, 10] (v := .int .i64 (((d.getD k 0).toNat) - 48 : Nat)) rfl (by kernel_rfl) (fun _ _ _ h => h) henv rfl (fun _ => rn_conv henv rfl Tryd.underlying5 Tryd.underlying2 (IntWalk.i64_in _ (by omega))) ?_
    clear henv a; intro a henv
    refine sAny_one (i := 1) (by kernel_rfl) rfl rfl (op_call henv rfl Tryd.call36 rfl (of_r (n := (10 : Int)) (by omega) (by omega)) ?_)
    rintro e w13 ⟨_, rfl, ⟨A10, c11, rfl, hz12⟩, hb⟩
    refine ⟨_, rfl, ?_⟩
    clear henv a; intro a henv
    replace hst := (hst.call hb).addR hz12 ⟨nou_bk rfl, nou_bk rfl, trivial⟩
    clear hz12
    clear hb
    refine ⟨.inr ⟨hst.kn.pick [1] [1], .inr (hst.kn.pick [0] [])⟩, ?_⟩
    refine sAny_one (i := 2) (by kernel_rfl) rfl rfl (op_call henv rfl Tryd.call52 rfl (mul_r (x := ((numOf (d.take k) : Nat) : Int)) (y := 10) (show RIn _ A1 c1 ((numOf (d.take k) : Nat) : Int) from hst.pat (k := 1) rfl) (show RIn _ A10 c11 10 from hst.pat (k := 0) rfl) (by omega) (by have := dl_small (n := 10) (by decide) (by decide); omega)) ?_)
    rintro e w17 ⟨_, rfl, ⟨A14, c15, rfl, hz16⟩, hb⟩
    refine ⟨_, rfl, ?_⟩
    clear henv a; intro a henv
    replace hst := (hst.call hb).addR hz16 ⟨nou_bk rfl, nou_bk rfl, trivial⟩
    clear hz16
    clear hb
    refine ⟨.inr ⟨hst.kn.pick [1] [2], .inr (hst.kn.pick [0] [])⟩, ?_⟩
    refine sAny_one (i := 8) (by kernel_rfl) rfl rfl (op_call henv rfl Tryd.call36 rfl (of_r (n := (((d.getD k 0).toNat) - 48 : Nat)) (by omega) (by omega)) ?_)
    rintro e w21 ⟨_, rfl, ⟨A18, c19, rfl, hz20⟩, hb⟩
    refine ⟨_, rfl, ?_⟩
    clear henv a; intro a henv
    replace hst := (hst.call hb).addR hz20 ⟨nou_bk rfl, nou_bk rfl, trivial⟩
    clear hz20
    clear hb
    refine ⟨.inr ⟨hst.kn.pick [1] [3], .inr (hst.kn.pick [0] [])⟩, ?_⟩
    refine sAny_one (i := 9) (by kernel_rfl) rfl rfl (op_call henv rfl Tryd.call54 rfl (add_r (x := ((numOf (d.take k) : Nat) : Int) * 10) (y := (((d.getD k 0).toNat) - 48 : Nat)) (show RIn _ A14 c15 (((numOf (d.take k) : Nat) : Int) * 10) from hst.pat (k := 1) rfl) (show RIn _ A18 c19 (((d.getD k 0).toNat) - 48 : Nat) from hst.pat (k := 0) rfl) (by have h1 := dl_mul ((numOf (d.take k) : Nat) : Int) 10; have h2 := dl_small (n := 10) (by decide) (by decide); omega) (by have := dl_small (n := (((d.getD k 0).toNat) - 48 : Nat)) (by omega) (by omega); omega)) ?_)
    rintro e w25 ⟨_, rfl, ⟨A22, c23, rfl, hz24⟩, hb⟩
    refine ⟨_, rfl, ?_⟩
    clear henv a; intro a henv
    replace hst := (hst.call hb).addR hz24 ⟨nou_bk rfl, nou_bk rfl, trivial⟩
    clear hz24
    clear hb
    refine ⟨.inr ⟨hst.kn.pick [1] [4], .inr (hst.kn.pick [0] [])⟩, ?_⟩
    refine sAny_one (i := 10) (by kernel_rfl) rfl rfl (op_store (k := 0) (c' := #[.bool (neg ((((numOf (d.take k) : Nat) : Int) * 10) + (((d.getD k 0).toNat) - 48 : Nat))), .slice A22 (dl ((((numOf (d.take k) : Nat) : Int) * 10) + (((d.getD k 0).toNat) - 48 : Nat))) c23]) henv hst (ty_anvil_anvilref02_Int.size) rfl rfl rfl rfl (by simp) rfl rfl ?_)
    clear henv hst a; intro a w26 henv hst
    refine ⟨.inr ⟨hst.kn.pick [1] [4], .inl rfl⟩, ?_⟩
    refine sAny_done (by kernel_rfl) ?_ _
    refine bl_n (th_n ?_)
    refine region_seq ?_
    revert a
    refine mA rfl rfl ?_
    refine sA (v := .int .i64 (k + 1 : Nat)) rfl (fun _ henv => rn_add henv rfl rfl (by rw [IntWalk.i64_in _ (by omega)]; omega)) ?_
    refine aA rfl rfl ?_
    intro a henv
    refine wpList_nil ?_
    rw [num_step hlt] at hst
    exact th_n ⟨_, (by omega), ⟨k + 1, A22, c23, rfl, henv.sub ⟨rfl, rfl, rfl, rfl, rfl, trivial⟩, hst.pick [0, 1] [0] (by decide), (by omega)⟩⟩
  · refine wp_seq ?_
    refine wp_seq ?_
    refine region_seq ?_
    revert a
    refine mA rfl rfl ?_
    refine mA rfl rfl ?_
    refine sA (v := .int .i64 (d.length : Nat)) rfl (fun _ henv => rn_lenS henv Tryd.underlying9 rfl) ?_
    refine sA (v := .bool (decide (((k : Nat) : Int) < ((d.length : Nat) : Int)))) rfl (fun _ henv => rn_bin henv rfl rfl rfl) ?_
    intro a henv
    rw [show (decide (((k : Nat) : Int) < ((d.length : Nat) : Int))) = true from decide_eq_true (by omega)] at henv
    refine wpList_nil ?_
    refine th_n ?_
    refine if_t henv rfl (rfl) ?_
    refine wp_skip ?_
    refine th_n ?_
    refine wp_seq ?_
    refine wp_block ?_
    refine wp_seq ?_
    refine wp_seq ?_
    refine region_seq ?_
    revert a
    refine mA rfl rfl ?_
    refine mA rfl rfl ?_
    refine sA (v := .int .u8 ((d.getD k 0).toNat : Nat)) rfl (fun _ henv => rn_idxS (i := k) henv Tryd.underlying9 rfl rfl (by omega)) ?_
    refine sA (v := .bool (decide ((((d.getD k 0).toNat : Nat) : Int) < (48 : Int)))) rfl (fun _ henv => rn_bin henv rfl rfl rfl) ?_
    intro a henv
    rw [show (decide ((((d.getD k 0).toNat : Nat) : Int) < (48 : Int))) = false from decide_eq_false (by omega)] at henv
    revert a
    refine mA rfl rfl ?_
    refine gA (v := .string ⟨d.toArray⟩) rfl rfl rfl rfl (fun _ henv => rn_move henv rfl) ?_
    refine gA (v := .int .i64 (k : Nat)) rfl rfl rfl rfl (fun _ henv => rn_move henv rfl) ?_
    refine gA (v := .int .u8 ((d.getD k 0).toNat : Nat)) rfl rfl rfl rfl (fun _ henv => rn_idxS (i := k) henv Tryd.underlying9 rfl rfl (by omega)) ?_
    refine gA (v := .bool (decide ((((d.getD k 0).toNat : Nat) : Int) > (57 : Int)))) rfl rfl rfl rfl (fun _ henv => rn_bin henv rfl rfl rfl) ?_
    intro a henv
    rw [show (decide ((((d.getD k 0).toNat : Nat) : Int) > (57 : Int))) = false from decide_eq_false (by omega)] at henv
    revert a
    refine sA (v := .bool false) rfl (fun _ henv => rn_pick henv rfl rfl) ?_
    refine mA rfl rfl ?_
    refine gA (v := .int .i64 (k : Nat)) rfl rfl rfl rfl (fun _ henv => rn_move henv rfl) ?_
    refine gA (v := .int .i64 0) rfl rfl rfl rfl (fun _ henv => rn_move henv rfl) ?_
    refine gA (v := .int .i64 1) rfl rfl rfl rfl (fun _ henv => rn_bin henv rfl rfl rfl) ?_
    refine gA (v := .bool (((k : Nat) : Int) == (1 : Int))) rfl rfl rfl rfl (fun _ henv => rn_bin henv rfl rfl rfl) ?_
    intro a henv
    rw [show (((k : Nat) : Int) == (1 : Int)) = true from beq_iff_eq.2 (by omega)] at henv
    revert a
    refine gA (v := .bool true) rfl rfl rfl rfl (fun _ henv => rn_move henv rfl) ?_
    refine gA (v := .string ⟨d.toArray⟩) rfl rfl rfl rfl (fun _ henv => rn_move henv rfl) ?_
    refine gA (v := .int .i64 0) rfl rfl rfl rfl (fun _ henv => rn_move henv rfl) ?_
    refine gA (v := .int .u8 ((d.getD 0 0).toNat : Nat)) rfl rfl rfl rfl (fun _ henv => rn_idxS (i := 0) henv Tryd.underlying9 rfl rfl (by omega)) ?_
    refine gA (v := .bool ((((d.getD 0 0).toNat : Nat) : Int) == (48 : Int))) rfl rfl rfl rfl (fun _ henv => rn_bin henv rfl rfl rfl) ?_
    intro a henv
    rw [show ((((d.getD 0 0).toNat : Nat) : Int) == (48 : Int)) = false from beq_eq_false_iff_ne.2 (by omega)] at henv
    revert a
    refine gA (v := .bool false) rfl rfl rfl rfl (fun _ henv => rn_pick henv rfl rfl) ?_
    refine sA (v := .bool false) rfl (fun _ henv => rn_pick henv rfl rfl) ?_
    intro a henv
    refine wpList_nil ?_
    refine th_n ?_
    refine if_f henv rfl (rfl) ?_
    refine wp_skip ?_
    refine th_n ?_
    refine region_any (n := 11) (Sk [bk g1 #[.bool (neg 0), .slice none (dl 0) 0] 39] [pfR A1 c1 ((numOf (d.take k) : Nat) : Int)] [10] [bk g3 #[.bool (neg ((numOf (d.take k) : Nat) : Int)), .slice A1 (dl ((numOf (d.take k) : Nat) : Int)) c1] 39]) mixed rfl henv hst ?_
    clear henv hst; intro w27 henv hst
    refine sAny_take (i := 0) [2, 8, 9, 10] (fun w' => w'.heap[g3]? = some (.cells #[.bool (neg ((numOf (d.take k) : Nat) : Int)), .slice A1 (dl ((numOf (d.take k) : Nat) : Int)) c1] 39 (0, 0))) (v := .agg #[.bool (neg ((numOf (d.take k) : Nat) : Int)), .slice A1 (dl ((numOf (d.take k) : Nat) : Int)) c1]) rfl (by kernel_rfl) (fun _ _ _ h => h) (fun _ _ hj hS => (hS.two rfl hj).oat (k := 0) rfl) henv rfl (hst.oat (k := 0) rfl) (fun w' hg => rn_load0 henv ty_anvil_anvilref02_Int rfl hg rfl) ?_
    clear henv a; intro a henv
    refine tM (i := 3) (rg 5 6) rfl (by kernel_rfl) (fun _ _ _ h => h) henv rfl rfl ?_
    clear henv a; intro a henv
    refine tM (i := 4) (rg 5 6) rfl (by kernel_rfl) (fun _ _ _ h => h) henv rfl rfl ?_
    clear henv a; intro a henv
    refine tA (i := 5) (rg 6 5) (v := .int .u8 ((d.getD k 0).toNat : Nat)) rfl (by kernel_rfl) (fun _ _ _ h => h) henv rfl (fun _ => rn_idxS (i := k) henv Tryd.underlying9 rfl rfl (by omega)) ?_
    clear henv a; intro a henv
    refine tA (i := 6) (rg 7 4) (v := .int .u8 (((d.getD k 0).toNat) - 48 : Nat)) rfl (by kernel_rfl) (fun _ _ _ h => h) henv rfl (fun _ => rn_sub henv rfl rfl (by rw [IntWalk.u8_in _ (by omega)]; omega)) ?_
    clear henv a; intro a henv
    refine tA (i := 7) [8, 9, 10] (v := .int .i64 (((d.getD k 0).toNat) - 48 : Nat)) rfl (by kernel_rfl) (fun _ _ _ h => h) henv rfl (fun _ => rn_conv henv rfl Tryd.underlying5 Tryd.underlying2 (IntWalk.i64_in _ (by omega))) ?_
    clear henv a; intro a henv
    refine sAny_one (i := 1) (by kernel_rfl) rfl rfl (op_call henv rfl Tryd.call36 rfl (of_r (n := (10 : Int)) (by omega) (by omega)) ?_)
    rintro e w31 ⟨_, rfl, ⟨A28, c29, rfl, hz30⟩, hb⟩
    refine ⟨_, rfl, ?_⟩
    clear henv a; intro a henv
    replace hst := (hst.call hb).addR hz30 ⟨nou_bk rfl, nou_bk rfl, trivial⟩
    clear hz30
    clear hb
    refine ⟨.inr ⟨hst.kn.pick [1] [1], .inr (hst.kn.pick [0] [])⟩, ?_⟩
    refine sAny_one (i := 2) (by kernel_rfl) rfl rfl (op_call henv rfl Tryd.call52 rfl (mul_r (x := ((numOf (d.take k) : Nat) : Int)) (y := 10) (show RIn _ A1 c1 ((numOf (d.take k) : Nat) : Int) from hst.pat (k := 1) rfl) (show RIn _ A28 c29 10 from hst.pat (k := 0) rfl) (by omega) (by have := dl_small (n := 10) (by decide) (by decide); omega)) ?_)
    rintro e w35 ⟨_, rfl, ⟨A32, c33, rfl, hz34⟩, hb⟩
    refine ⟨_, rfl, ?_⟩
    clear henv a; intro a henv
    replace hst := (hst.call hb).addR hz34 ⟨nou_bk rfl, nou_bk rfl, trivial⟩
    clear hz34
    clear hb
    refine ⟨.inr ⟨hst.kn.pick [1] [2], .inr (hst.kn.pick [0] [])⟩, ?_⟩
    refine sAny_one (i := 8) (by kernel_rfl) rfl rfl (op_call henv rfl Tryd.call36 rfl (of_r (n := (((d.getD k 0).toNat) - 48 : Nat)) (by omega) (by omega)) ?_)
    rintro e w39 ⟨_, rfl, ⟨A36, c37, rfl, hz38⟩, hb⟩
    refine ⟨_, rfl, ?_⟩
    clear henv a; intro a henv
    replace hst := (hst.call hb).addR hz38 ⟨nou_bk rfl, nou_bk rfl, trivial⟩
    clear hz38
    clear hb
    refine ⟨.inr ⟨hst.kn.pick [1] [3], .inr (hst.kn.pick [0] [])⟩, ?_⟩
    refine sAny_one (i := 9) (by kernel_rfl) rfl rfl (op_call henv rfl Tryd.call54 rfl (add_r (x := ((numOf (d.take k) : Nat) : Int) * 10) (y := (((d.getD k 0).toNat) - 48 : Nat)) (show RIn _ A32 c33 (((numOf (d.take k) : Nat) : Int) * 10) from hst.pat (k := 1) rfl) (show RIn _ A36 c37 (((d.getD k 0).toNat) - 48 : Nat) from hst.pat (k := 0) rfl) (by have h1 := dl_mul ((numOf (d.take k) : Nat) : Int) 10; have h2 := dl_small (n := 10) (by decide) (by decide); omega) (by have := dl_small (n := (((d.getD k 0).toNat) - 48 : Nat)) (by omega) (by omega); omega)) ?_)
    rintro e w43 ⟨_, rfl, ⟨A40, c41, rfl, hz42⟩, hb⟩
    refine ⟨_, rfl, ?_⟩
    clear henv a; intro a henv
    replace hst := (hst.call hb).addR hz42 ⟨nou_bk rfl, nou_bk rfl, trivial⟩
    clear hz42
    clear hb
    refine ⟨.inr ⟨hst.kn.pick [1] [4], .inr (hst.kn.pick [0] [])⟩, ?_⟩
    refine sAny_one (i := 10) (by kernel_rfl) rfl rfl (op_store (k := 0) (c' := #[.bool (neg ((((numOf (d.take k) : Nat) : Int) * 10) + (((d.getD k 0).toNat) - 48 : Nat))), .slice A40 (dl ((((numOf (d.take k) : Nat) : Int) * 10) + (((d.getD k 0).toNat) - 48 : Nat))) c41]) henv hst (ty_anvil_anvilref02_Int.size) rfl rfl rfl rfl (by simp) rfl rfl ?_)
    clear henv hst a; intro a w44 henv hst
    refine ⟨.inr ⟨hst.kn.pick [1] [4], .inl rfl⟩, ?_⟩
    refine sAny_done (by kernel_rfl) ?_ _
    refine bl_n (th_n ?_)
    refine region_seq ?_
    revert a
    refine mA rfl rfl ?_
    refine sA (v := .int .i64 (k + 1 : Nat)) rfl (fun _ henv => rn_add henv rfl rfl (by rw [IntWalk.i64_in _ (by omega)]; omega)) ?_
    refine aA rfl rfl ?_
    intro a henv
    refine wpList_nil ?_
    rw [num_step hlt] at hst
    exact th_n ⟨_, (by omega), ⟨k + 1, A40, c41, rfl, henv.sub ⟨rfl, rfl, rfl, rfl, rfl, trivial⟩, hst.pick [0, 1] [0] (by decide), (by omega)⟩⟩
  · refine wp_seq ?_
    refine wp_seq ?_
    refine region_seq ?_
    revert a
    refine mA rfl rfl ?_
    refine mA rfl rfl ?_
    refine sA (v := .int .i64 (d.length : Nat)) rfl (fun _ henv => rn_lenS henv Tryd.underlying9 rfl) ?_
    refine sA (v := .bool (decide (((k : Nat) : Int) < ((d.length : Nat) : Int)))) rfl (fun _ henv => rn_bin henv rfl rfl rfl) ?_
    intro a henv
    rw [show (decide (((k : Nat) : Int) < ((d.length : Nat) : Int))) = true from decide_eq_true (by omega)] at henv
    refine wpList_nil ?_
    refine th_n ?_
    refine if_t henv rfl (rfl) ?_
    refine wp_skip ?_
    refine th_n ?_
    refine wp_seq ?_
    refine wp_block ?_
    refine wp_seq ?_
    refine wp_seq ?_
    refine region_seq ?_
    revert a
    refine mA rfl rfl ?_
    refine mA rfl rfl ?_
    refine sA (v := .int .u8 ((d.getD k 0).toNat : Nat)) rfl (fun _ henv => rn_idxS (i := k) henv Tryd.underlying9 rfl rfl (by omega)) ?_
    refine sA (v := .bool (decide ((((d.getD k 0).toNat : Nat) : Int) < (48 : Int)))) rfl (fun _ henv => rn_bin henv rfl rfl rfl) ?_
    intro a henv
    rw [show (decide ((((d.getD k 0).toNat : Nat) : Int) < (48 : Int))) = false from decide_eq_false (by omega)] at henv
    revert a
    refine mA rfl rfl ?_
    refine gA (v := .string ⟨d.toArray⟩) rfl rfl rfl rfl (fun _ henv => rn_move henv rfl) ?_
    refine gA (v := .int .i64 (k : Nat)) rfl rfl rfl rfl (fun _ henv => rn_move henv rfl) ?_
    refine gA (v := .int .u8 ((d.getD k 0).toNat : Nat)) rfl rfl rfl rfl (fun _ henv => rn_idxS (i := k) henv Tryd.underlying9 rfl rfl (by omega)) ?_
    refine gA (v := .bool (decide ((((d.getD k 0).toNat : Nat) : Int) > (57 : Int)))) rfl rfl rfl rfl (fun _ henv => rn_bin henv rfl rfl rfl) ?_
    intro a henv
    rw [show (decide ((((d.getD k 0).toNat : Nat) : Int) > (57 : Int))) = false from decide_eq_false (by omega)] at henv
    revert a
    refine sA (v := .bool false) rfl (fun _ henv => rn_pick henv rfl rfl) ?_
    refine mA rfl rfl ?_
    refine gA (v := .int .i64 (k : Nat)) rfl rfl rfl rfl (fun _ henv => rn_move henv rfl) ?_
    refine gA (v := .int .i64 0) rfl rfl rfl rfl (fun _ henv => rn_move henv rfl) ?_
    refine gA (v := .int .i64 1) rfl rfl rfl rfl (fun _ henv => rn_bin henv rfl rfl rfl) ?_
    refine gA (v := .bool (((k : Nat) : Int) == (1 : Int))) rfl rfl rfl rfl (fun _ henv => rn_bin henv rfl rfl rfl) ?_
    intro a henv
    rw [show (((k : Nat) : Int) == (1 : Int)) = false from beq_eq_false_iff_ne.2 (by omega)] at henv
    revert a
    refine gA (v := .bool false) rfl rfl rfl rfl (fun _ henv => rn_move henv rfl) ?_
    refine kA rfl rfl rfl rfl rfl ?_
    refine kA rfl rfl rfl rfl rfl ?_
    refine kA rfl rfl rfl rfl rfl ?_
    refine kA rfl rfl rfl rfl rfl ?_
    refine gA (v := .bool false) rfl rfl rfl rfl (fun _ henv => rn_pick henv rfl rfl) ?_
    refine sA (v := .bool false) rfl (fun _ henv => rn_pick henv rfl rfl) ?_
    intro a henv
    refine wpList_nil ?_
    refine th_n ?_
    refine if_f henv rfl (rfl) ?_
    refine wp_skip ?_
    refine th_n ?_
    refine region_any (n := 11) (Sk [bk g1 #[.bool (neg 0), .slice none (dl 0) 0] 39] [pfR A1 c1 ((numOf (d.take k) : Nat) : Int)] [10] [bk g3 #[.bool (neg ((numOf (d.take k) : Nat) : Int)), .slice A1 (dl ((numOf (d.take k) : Nat) : Int)) c1] 39]) mixed rfl henv hst ?_
    clear henv hst; intro w45 henv hst
    refine sAny_take (i := 0) [2, 8, 9, 10] (fun w' => w'.heap[g3]? = some (.cells #[.bool (neg ((numOf (d.take k) : Nat) : Int)), .slice A1 (dl ((numOf (d.take k) : Nat) : Int)) c1] 39 (0, 0))) (v := .agg #[.bool (neg ((numOf (d.take k) : Nat) : Int)), .slice A1 (dl ((numOf (d.take k) : Nat) : Int)) c1]) rfl (by kernel_rfl) (fun _ _ _ h => h) (fun _ _ hj hS => (hS.two rfl hj).oat (k := 0) rfl) henv rfl (hst.oat (k := 0) rfl) (fun w' hg => rn_load0 henv ty_anvil_anvilref02_Int rfl hg rfl) ?_
    clear henv a; intro a henv
    refine tM (i := 3) (rg 5 6) rfl (by kernel_rfl) (fun _ _ _ h => h) henv rfl rfl ?_
    clear henv a; intro a henv
    refine tM (i := 4) (rg 5 6) rfl (by kernel_rfl) (fun _ _ _ h => h) henv rfl rfl ?_
    clear henv a; intro a henv
    refine tA (i := 5) (rg 6 5) (v := .int .u8 ((d.getD k 0).toNat : Nat)) rfl (by kernel_rfl) (fun _ _ _ h => h) henv rfl (fun _ => rn_idxS (i := k) henv Tryd.underlying9 rfl rfl (by omega)) ?_
    clear henv a; intro a henv
    refine tA (i := 6) (rg 7 4) (v := .int .u8 (((d.getD k 0).toNat) - 48 : Nat)) rfl (by kernel_rfl) (fun _ _ _ h => h) henv rfl (fun _ => rn_sub henv rfl rfl (by rw [IntWalk.u8_in _ (by omega)]; omega)) ?_
    clear henv a; intro a henv
    refine tA (i := 7) [8, 9, 10] (v := .int .i64 (((d.getD k 0).toNat) - 48 : Nat)) rfl (by kernel_rfl) (fun _ _ _ h => h) henv rfl (fun _ => rn_conv henv rfl Tryd.underlying5 Tryd.underlying2 (IntWalk.i64_in _ (by omega))) ?_
    clear henv a; intro a henv
    refine sAny_one (i := 1) (by kernel_rfl) rfl rfl (op_call henv rfl Tryd.call36 rfl (of_r (n := (10 : Int)) (by omega) (by omega)) ?_)
    rintro e w49 ⟨_, rfl, ⟨A46, c47, rfl, hz48⟩, hb⟩
    refine ⟨_, rfl, ?_⟩
    clear henv a; intro a henv
    replace hst := (hst.call hb).addR hz48 ⟨nou_bk rfl, nou_bk rfl, trivial⟩
    clear hz48
    clear hb
    refine ⟨.inr ⟨hst.kn.pick [1] [1], .inr (hst.kn.pick [0] [])⟩, ?_⟩
    refine sAny_one (i := 2) (by kernel_rfl) rfl rfl (op_call henv rfl Tryd.call52 rfl (mul_r (x := ((numOf (d.take k) : Nat) : Int)) (y := 10) (show RIn _ A1 c1 ((numOf (d.take k) : Nat) : Int) from hst.pat (k := 1) rfl) (show RIn _ A46 c47 10 from hst.pat (k := 0) rfl) (by omega) (by have := dl_small (n := 10) (by decide) (by decide); omega)) ?_)
    rintro e w53 ⟨_, rfl, ⟨A50, c51, rfl, hz52⟩, hb⟩
    refine ⟨_, rfl, ?_⟩
    clear henv a; intro a henv
    replace hst := (hst.call hb).addR hz52 ⟨nou_bk rfl, nou_bk rfl, trivial⟩
    clear hz52
    clear hb
    refine ⟨.inr ⟨hst.kn.pick [1] [2], .inr (hst.kn.pick [0] [])⟩, ?_⟩
    refine sAny_one (i := 8) (by kernel_rfl) rfl rfl (op_call henv rfl Tryd.call36 rfl (of_r (n := (((d.getD k 0).toNat) - 48 : Nat)) (by omega) (by omega)) ?_)
    rintro e w57 ⟨_, rfl, ⟨A54, c55, rfl, hz56⟩, hb⟩
    refine ⟨_, rfl, ?_⟩
    clear henv a; intro a henv
    replace hst := (hst.call hb).addR hz56 ⟨nou_bk rfl, nou_bk rfl, trivial⟩
    clear hz56
    clear hb
    refine ⟨.inr ⟨hst.kn.pick [1] [3], .inr (hst.kn.pick [0] [])⟩, ?_⟩
    refine sAny_one (i := 9) (by kernel_rfl) rfl rfl (op_call henv rfl Tryd.call54 rfl (add_r (x := ((numOf (d.take k) : Nat) : Int) * 10) (y := (((d.getD k 0).toNat) - 48 : Nat)) (show RIn _ A50 c51 (((numOf (d.take k) : Nat) : Int) * 10) from hst.pat (k := 1) rfl) (show RIn _ A54 c55 (((d.getD k 0).toNat) - 48 : Nat) from hst.pat (k := 0) rfl) (by have h1 := dl_mul ((numOf (d.take k) : Nat) : Int) 10; have h2 := dl_small (n := 10) (by decide) (by decide); omega) (by have := dl_small (n := (((d.getD k 0).toNat) - 48 : Nat)) (by omega) (by omega); omega)) ?_)
    rintro e w61 ⟨_, rfl, ⟨A58, c59, rfl, hz60⟩, hb⟩
    refine ⟨_, rfl, ?_⟩
    clear henv a; intro a henv
    replace hst := (hst.call hb).addR hz60 ⟨nou_bk rfl, nou_bk rfl, trivial⟩
    clear hz60
    clear hb
    refine ⟨.inr ⟨hst.kn.pick [1] [4], .inr (hst.kn.pick [0] [])⟩, ?_⟩
    refine sAny_one (i := 10) (by kernel_rfl) rfl rfl (op_store (k := 0) (c' := #[.bool (neg ((((numOf (d.take k) : Nat) : Int) * 10) + (((d.getD k 0).toNat) - 48 : Nat))), .slice A58 (dl ((((numOf (d.take k) : Nat) : Int) * 10) + (((d.getD k 0).toNat) - 48 : Nat))) c59]) henv hst (ty_anvil_anvilref02_Int.size) rfl rfl rfl rfl (by simp) rfl rfl ?_)
    clear henv hst a; intro a w62 henv hst
    refine ⟨.inr ⟨hst.kn.pick [1] [4], .inl rfl⟩, ?_⟩
    refine sAny_done (by kernel_rfl) ?_ _
    refine bl_n (th_n ?_)
    refine region_seq ?_
    revert a
    refine mA rfl rfl ?_
    refine sA (v := .int .i64 (k + 1 : Nat)) rfl (fun _ henv => rn_add henv rfl rfl (by rw [IntWalk.i64_in _ (by omega)]; omega)) ?_
    refine aA rfl rfl ?_
    intro a henv
    refine wpList_nil ?_
    rw [num_step hlt] at hst
    exact th_n ⟨_, (by omega), ⟨k + 1, A58, c59, rfl, henv.sub ⟨rfl, rfl, rfl, rfl, rfl, trivial⟩, hst.pick [0, 1] [0] (by decide), (by omega)⟩⟩
set_option maxRecDepth 100000 in
set_option maxHeartbeats 4000000 in
theorem rread_empty1 {d : List UInt8} {w0 : World} (hl0 : d.length = 0) :
    Calls Tryd.prog 80 #[.string ⟨(45 :: d).toArray⟩] w0 fun e w' => e = .returned (.tuple #[.agg #[.bool (neg 0), .slice none (dl 0) 0], .int .i64 1]) ∧ Below w0.heap.size w0 w' := by
  have hlen1 : (45 :: d).length = d.length + 1 := rfl
  refine enter Tryd.func80 rfl Tryd.ntmps80 rfl ?_
  intro a henv hst
  refine wp_seq ?_
  refine region_seq ?_
  refine seq_step rfl (op_alloc (c := #[.bool (neg 0), .slice none (dl 0) 0]) henv hst rfl zero_anvil_anvilref02_Int rcells ?_)
  clear henv hst a; intro a w2 g1 henv hst
  refine sv (v := .int .i64 0) henv rfl (rn_assign henv rfl) ?_
  clear henv a; intro a henv
  refine wpList_nil ?_
  refine th_n ?_
  refine wp_seq ?_
  refine region_seq ?_
  refine sv (v := .int .i64 0) henv rfl (rn_assign henv rfl) ?_
  clear henv a; intro a henv
  refine wpList_nil ?_
  refine th_n ?_
  refine wp_seq ?_
  refine wp_seq ?_
  refine region_seq ?_
  revert a
  refine mA rfl rfl ?_
  refine sA (v := .int .i64 ((45 :: d).length : Nat)) rfl (fun _ henv => rn_lenS henv Tryd.underlying9 rfl) ?_
  intro a henv
  rw [List.length_cons] at henv
  refine sv (v := .bool (decide (((d.length + 1 : Nat) : Int) > (0 : Int)))) henv rfl (rn_bin henv rfl rfl rfl) ?_
  clear henv a; intro a henv
  rw [show (decide (((d.length + 1 : Nat) : Int) > (0 : Int))) = true from decide_eq_true (by omega)] at henv
  revert a
  refine mA rfl rfl ?_
  refine gA (v := .string ⟨(45 :: d).toArray⟩) rfl rfl rfl rfl (fun _ henv => rn_move henv rfl) ?_
  refine gA (v := .int .u8 (((45 :: d).getD 0 0).toNat : Nat)) rfl rfl rfl rfl (fun _ henv => rn_idxS (i := 0) henv Tryd.underlying9 rfl rfl (by omega)) ?_
  intro a henv
  rw [List.getD_cons_zero] at henv
  refine seq_g rfl henv rfl rfl (op_val (v := .bool ((((45 : UInt8).toNat : Nat) : Int) == (45 : Int))) henv rfl (rn_bin henv rfl rfl rfl) ?_)
  clear henv a; intro a henv
  rw [show ((((45 : UInt8).toNat : Nat) : Int) == (45 : Int)) = true from rfl] at henv
  refine sv (v := .bool true) henv rfl (rn_pick henv rfl rfl) ?_
  clear henv a; intro a henv
  refine wpList_nil ?_
  refine th_n ?_
  refine if_t henv rfl (rfl) ?_
  refine region_seq ?_
  refine sv (v := .int .i64 1) henv rfl (rn_assign henv rfl) ?_
  clear henv a; intro a henv
  refine wpList_nil ?_
  refine th_n ?_
  refine wp_seq ?_
  refine wp_seq ?_
  refine region_seq ?_
  revert a
  refine mA rfl rfl ?_
  refine mA rfl rfl ?_
  refine sA (v := .int .i64 ((45 :: d).length : Nat)) rfl (fun _ henv => rn_lenS henv Tryd.underlying9 rfl) ?_
  intro a henv
  rw [List.length_cons] at henv
  refine sv (v := .bool (decide ((1 : Int) ≥ ((d.length + 1 : Nat) : Int)))) henv rfl (rn_bin henv rfl rfl rfl) ?_
  clear henv a; intro a henv
  rw [show (decide ((1 : Int) ≥ ((d.length + 1 : Nat) : Int))) = true from decide_eq_true (by omega)] at henv
  revert a
  refine mA rfl rfl ?_
  refine kA rfl rfl rfl rfl rfl ?_
  refine kA rfl rfl rfl rfl rfl ?_
  refine kA rfl rfl rfl rfl rfl ?_
  refine kA rfl rfl rfl rfl rfl ?_
  refine sA (v := .bool true) rfl (fun _ henv => rn_pick henv rfl rfl) ?_
  refine mA rfl rfl ?_
  refine kA rfl rfl rfl rfl rfl ?_
  refine kA rfl rfl rfl rfl rfl ?_
  refine kA rfl rfl rfl rfl rfl ?_
  refine kA rfl rfl rfl rfl rfl ?_
  refine sA (v := .bool true) rfl (fun _ henv => rn_pick henv rfl rfl) ?_
  refine mA rfl rfl ?_
  refine kA rfl rfl rfl rfl rfl ?_
  refine kA rfl rfl rfl rfl rfl ?_
  refine kA rfl rfl rfl rfl rfl ?_
  refine kA rfl rfl rfl rfl rfl ?_
  refine kA rfl rfl rfl rfl rfl ?_
  refine kA rfl rfl rfl rfl rfl ?_
  refine kA rfl rfl rfl rfl rfl ?_
  refine sA (v := .bool true) rfl (fun _ henv => rn_pick henv rfl rfl) ?_
  intro a henv
  refine wpList_nil ?_
  refine th_n ?_
  refine if_t henv rfl (rfl) ?_
  refine wp_seq ?_
  refine region_seq ?_
  revert a
  refine sA (v := .agg #[.bool (neg 0), .slice none (dl 0) 0]) rfl (fun _ henv => rn_zref) ?_
  refine mA rfl rfl ?_
  intro a henv
  refine seq_step rfl (op_store (k := 0) (c' := #[.bool (neg 0), .slice none (dl 0) 0]) henv hst (ty_anvil_anvilref02_Int.size) rfl rfl rfl rfl (by simp) rfl rfl ?_)
  clear henv hst a; intro a w3 henv hst
  refine sv (v := .int .i64 1) henv rfl (rn_assign henv rfl) ?_
  clear henv a; intro a henv
  refine wpList_nil ?_
  refine th_n ?_
  refine wp_ret ?_
  refine th_r ?_
  refine leave henv (res2 Tryd.results80 (RV.cell henv ty_anvil_anvilref02_Int rfl (hst.oat (k := 0) rfl) rfl) (RV.tmp henv rfl)) ?_
  exact ⟨rfl, hst.below⟩
set_option maxRecDepth 100000 in
set_option maxHeartbeats 4000000 in
theorem rread_lo1 {d : List UInt8} {w0 : World} (hl0 : 0 < d.length) (h1 : (d.getD 0 0).toNat < 48) (hl : d.length ≤ 100000) :
    Calls Tryd.prog 80 #[.string ⟨(45 :: d).toArray⟩] w0 fun e w' => e = .returned (.tuple #[.agg #[.bool (neg 0), .slice none (dl 0) 0], .int .i64 1]) ∧ Below w0.heap.size w0 w' := by
  have hlen1 : (45 :: d).length = d.length + 1 := rfl
  refine enter Tryd.func80 rfl Tryd.ntmps80 rfl ?_
  intro a henv hst
  refine wp_seq ?_
  refine region_seq ?_
  refine seq_step rfl (op_alloc (c := #[.bool (neg 0), .slice none (dl 0) 0]) henv hst rfl zero_anvil_anvilref02_Int rcells ?_)
  clear henv hst a; intro a w2 g1 henv hst
  refine sv (v := .int .i64 0) henv rfl (rn_assign henv rfl) ?_
  clear henv a; intro a henv
  refine wpList_nil ?_
  refine th_n ?_
  refine wp_seq ?_
  refine region_seq ?_
  refine sv (v := .int .i64 0) henv rfl (rn_assign henv rfl) ?_
  clear henv a; intro a henv
  refine wpList_nil ?_
  refine th_n ?_
  refine wp_seq ?_
  refine wp_seq ?_
  refine region_seq ?_
  revert a
  refine mA rfl rfl ?_
  refine sA (v := .int .i64 ((45 :: d).length : Nat)) rfl (fun _ henv => rn_lenS henv Tryd.underlying9 rfl) ?_
  intro a henv
  rw [List.length_cons] at henv
  refine sv (v := .bool (decide (((d.length + 1 : Nat) : Int) > (0 : Int)))) henv rfl (rn_bin henv rfl rfl rfl) ?_
  clear henv a; intro a henv
  rw [show (decide (((d.length + 1 : Nat) : Int) > (0 : Int))) = true from decide_eq_true (by omega)] at henv
  revert a
  refine mA rfl rfl ?_
  refine gA (v := .string ⟨(45 :: d).toArray⟩) rfl rfl rfl rfl (fun _ henv => rn_move henv rfl) ?_
  refine gA (v := .int .u8 (((45 :: d).getD 0 0).toNat : Nat)) rfl rfl rfl rfl (fun _ henv => rn_idxS (i := 0) henv Tryd.underlying9 rfl rfl (by omega)) ?_
  intro a henv
  rw [List.getD_cons_zero] at henv
  refine seq_g rfl henv rfl rfl (op_val (v := .bool ((((45 : UInt8).toNat : Nat) : Int) == (45 : Int))) henv rfl (rn_bin henv rfl rfl rfl) ?_)
  clear henv a; intro a henv
  rw [show ((((45 : UInt8).toNat : Nat) : Int) == (45 : Int)) = true from rfl] at henv
  refine sv (v := .bool true) henv rfl (rn_pick henv rfl rfl) ?_
  clear henv a; intro a henv
  refine wpList_nil ?_
  refine th_n ?_
  refine if_t henv rfl (rfl) ?_
  refine region_seq ?_
  refine sv (v := .int .i64 1) henv rfl (rn_assign henv rfl) ?_
  clear henv a; intro a henv
  refine wpList_nil ?_
  refine th_n ?_
  refine wp_seq ?_
  refine wp_seq ?_
  refine region_seq ?_
  revert a
  refine mA rfl rfl ?_
  refine mA rfl rfl ?_
  refine sA (v := .int .i64 ((45 :: d).length : Nat)) rfl (fun _ henv => rn_lenS henv Tryd.underlying9 rfl) ?_
  intro a henv
  rw [List.length_cons] at henv
  refine sv (v := .bool (decide ((1 : Int) ≥ ((d.length + 1 : Nat) : Int)))) henv rfl (rn_bin henv rfl rfl rfl) ?_
  clear henv a; intro a henv
  rw [show (decide ((1 : Int) ≥ ((d.length + 1 : Nat) : Int))) = false from decide_eq_false (by omega)] at henv
  revert a
  refine mA rfl rfl ?_
  refine gA (v := .string ⟨(45 :: d).toArray⟩) rfl rfl rfl rfl (fun _ henv => rn_move henv rfl) ?_
  refine gA (v := .int .i64 1) rfl rfl rfl rfl (fun _ henv => rn_move henv rfl) ?_
  refine gA (v := .int .u8 (((45 :: d).getD 1 0).toNat : Nat)) rfl rfl rfl rfl (fun _ henv => rn_idxS (i := 1) henv Tryd.underlying9 rfl rfl (by omega)) ?_
  intro a henv
  rw [show (45 :: d).getD 1 0 = d.getD 0 0 from rfl] at henv
  refine seq_g rfl henv rfl rfl (op_val (v := .bool (decide ((((d.getD 0 0).toNat : Nat) : Int) < (48 : Int)))) henv rfl (rn_bin henv rfl rfl rfl) ?_)
  clear henv a; intro a henv
  rw [show (decide ((((d.getD 0 0).toNat : Nat) : Int) < (48 : Int))) = true from decide_eq_true (by omega)] at henv
  revert a
  refine sA (v := .bool true) rfl (fun _ henv => rn_pick henv rfl rfl) ?_
  refine mA rfl rfl ?_
  refine kA rfl rfl rfl rfl rfl ?_
  refine kA rfl rfl rfl rfl rfl ?_
  refine kA rfl rfl rfl rfl rfl ?_
  refine kA rfl rfl rfl rfl rfl ?_
  refine sA (v := .bool true) rfl (fun _ henv => rn_pick henv rfl rfl) ?_
  refine mA rfl rfl ?_
  refine kA rfl rfl rfl rfl rfl ?_
  refine kA rfl rfl rfl rfl rfl ?_
  refine kA rfl rfl rfl rfl rfl ?_
  refine kA rfl rfl rfl rfl rfl ?_
  refine kA rfl rfl rfl rfl rfl ?_
  refine kA rfl rfl rfl rfl rfl ?_
  refine kA rfl rfl rfl rfl rfl ?_
  refine sA (v := .bool true) rfl (fun _ henv => rn_pick henv rfl rfl) ?_
  intro a henv
  refine wpList_nil ?_
  refine th_n ?_
  refine if_t henv rfl (rfl) ?_
  refine wp_seq ?_
  refine region_seq ?_
  revert a
  refine sA (v := .agg #[.bool (neg 0), .slice none (dl 0) 0]) rfl (fun _ henv => rn_zref) ?_
  refine mA rfl rfl ?_
  intro a henv
  refine seq_step rfl (op_store (k := 0) (c' := #[.bool (neg 0), .slice none (dl 0) 0]) henv hst (ty_anvil_anvilref02_Int.size) rfl rfl rfl rfl (by simp) rfl rfl ?_)
  clear henv hst a; intro a w3 henv hst
  refine sv (v := .int .i64 1) henv rfl (rn_assign henv rfl) ?_
  clear henv a; intro a henv
  refine wpList_nil ?_
  refine th_n ?_
  refine wp_ret ?_
  refine th_r ?_
  refine leave henv (res2 Tryd.results80 (RV.cell henv ty_anvil_anvilref02_Int rfl (hst.oat (k := 0) rfl) rfl) (RV.tmp henv rfl)) ?_
  exact ⟨rfl, hst.below⟩
set_option maxRecDepth 100000 in
set_option maxHeartbeats 4000000 in
theorem rread_hi1 {d : List UInt8} {w0 : World} (hl0 : 0 < d.length) (h1 : 57 < (d.getD 0 0).toNat) (hl : d.length ≤ 100000) :
    Calls Tryd.prog 80 #[.string ⟨(45 :: d).toArray⟩] w0 fun e w' => e = .returned (.tuple #[.agg #[.bool (neg 0), .slice none (dl 0) 0], .int .i64 1]) ∧ Below w0.heap.size w0 w' := by
  have hlen1 : (45 :: d).length = d.length + 1 := rfl
  refine enter Tryd.func80 rfl Tryd.ntmps80 rfl ?_
  intro a henv hst
  refine wp_seq ?_
  refine region_seq ?_
  refine seq_step rfl (op_alloc (c := #[.bool (neg 0), .slice none (dl 0) 0]) henv hst rfl zero_anvil_anvilref02_Int rcells ?_)
  clear henv hst a; intro a w2 g1 henv hst
  refine sv (v := .int .i64 0) henv rfl (rn_assign henv rfl) ?_
  clear henv a; intro a henv
  refine wpList_nil ?_
  refine th_n ?_
  refine wp_seq ?_
  refine region_seq ?_
  refine sv (v := .int .i64 0) henv rfl (rn_assign henv rfl) ?_
  clear henv a; intro a henv
  refine wpList_nil ?_
  refine th_n ?_
  refine wp_seq ?_
  refine wp_seq ?_
  refine region_seq ?_
  revert a
  refine mA rfl rfl ?_
  refine sA (v := .int .i64 ((45 :: d).length : Nat)) rfl (fun _ henv => rn_lenS henv Tryd.underlying9 rfl) ?_
  intro a henv
  rw [List.length_cons] at henv
  refine sv (v := .bool (decide (((d.length + 1 : Nat) : Int) > (0 : Int)))) henv rfl (rn_bin henv rfl rfl rfl) ?_
  clear henv a; intro a henv
  rw [show (decide (((d.length + 1 : Nat) : Int) > (0 : Int))) = true from decide_eq_true (by omega)] at henv
  revert a
  refine mA rfl rfl ?_
  refine gA (v := .string ⟨(45 :: d).toArray⟩) rfl rfl rfl rfl (fun _ henv => rn_move henv rfl) ?_
  refine gA (v := .int .u8 (((45 :: d).getD 0 0).toNat : Nat)) rfl rfl rfl rfl (fun _ henv => rn_idxS (i := 0) henv Tryd.underlying9 rfl rfl (by omega)) ?_
  intro a henv
  rw [List.getD_cons_zero] at henv
  refine seq_g rfl henv rfl rfl (op_val (v := .bool ((((45 : UInt8).toNat : Nat) : Int) == (45 : Int))) henv rfl (rn_bin henv rfl rfl rfl) ?_)
  clear henv a; intro a henv
  rw [show ((((45 : UInt8).toNat : Nat) : Int) == (45 : Int)) = true from rfl] at henv
  refine sv (v := .bool true) henv rfl (rn_pick henv rfl rfl) ?_
  clear henv a; intro a henv
  refine wpList_nil ?_
  refine th_n ?_
  refine if_t henv rfl (rfl) ?_
  refine region_seq ?_
  refine sv (v := .int .i64 1) henv rfl (rn_assign henv rfl) ?_
  clear henv a; intro a henv
  refine wpList_nil ?_
  refine th_n ?_
  refine wp_seq ?_
  refine wp_seq ?_
  refine region_seq ?_
  revert a
  refine mA rfl rfl ?_
  refine mA rfl rfl ?_
  refine sA (v := .int .i64 ((45 :: d).length : Nat)) rfl (fun _ henv => rn_lenS henv Tryd.underlying9 rfl) ?_
  intro a henv
  rw [List.length_cons] at henv
  refine sv (v := .bool (decide ((1 : Int) ≥ ((d.length + 1 : Nat) : Int)))) henv rfl (rn_bin henv rfl rfl rfl) ?_
  clear henv a; intro a henv
  rw [show (decide ((1 : Int) ≥ ((d.length + 1 : Nat) : Int))) = false from decide_eq_false (by omega)] at henv
  revert a
  refine mA rfl rfl ?_
  refine gA (v := .string ⟨(45 :: d).toArray⟩) rfl rfl rfl rfl (fun _ henv => rn_move henv rfl) ?_
  refine gA (v := .int .i64 1) rfl rfl rfl rfl (fun _ henv => rn_move henv rfl) ?_
  refine gA (v := .int .u8 (((45 :: d).getD 1 0).toNat : Nat)) rfl rfl rfl rfl (fun _ henv => rn_idxS (i := 1) henv Tryd.underlying9 rfl rfl (by omega)) ?_
  intro a henv
  rw [show (45 :: d).getD 1 0 = d.getD 0 0 from rfl] at henv
  refine seq_g rfl henv rfl rfl (op_val (v := .bool (decide ((((d.getD 0 0).toNat : Nat) : Int) < (48 : Int)))) henv rfl (rn_bin henv rfl rfl rfl) ?_)
  clear henv a; intro a henv
  rw [show (decide ((((d.getD 0 0).toNat : Nat) : Int) < (48 : Int))) = false from decide_eq_false (by omega)] at henv
  revert a
  refine sA (v := .bool false) rfl (fun _ henv => rn_pick henv rfl rfl) ?_
  refine mA rfl rfl ?_
  refine gA (v := .string ⟨(45 :: d).toArray⟩) rfl rfl rfl rfl (fun _ henv => rn_move henv rfl) ?_
  refine gA (v := .int .i64 1) rfl rfl rfl rfl (fun _ henv => rn_move henv rfl) ?_
  refine gA (v := .int .u8 (((45 :: d).getD 1 0).toNat : Nat)) rfl rfl rfl rfl (fun _ henv => rn_idxS (i := 1) henv Tryd.underlying9 rfl rfl (by omega)) ?_
  intro a henv
  rw [show (45 :: d).getD 1 0 = d.getD 0 0 from rfl] at henv
  refine seq_g rfl henv rfl rfl (op_val (v := .bool (decide ((((d.getD 0 0).toNat : Nat) : Int) > (57 : Int)))) henv rfl (rn_bin henv rfl rfl rfl) ?_)
  clear henv a; intro a henv
  rw [show (decide ((((d.getD 0 0).toNat : Nat) : Int) > (57 : Int))) = true from decide_eq_true (by omega)] at henv
  revert a
  refine sA (v := .bool true) rfl (fun _ henv => rn_pick henv rfl rfl) ?_
  refine mA rfl rfl ?_
  refine kA rfl rfl rfl rfl rfl ?_
  refine kA rfl rfl rfl rfl rfl ?_
  refine kA rfl rfl rfl rfl rfl ?_
  refine kA rfl rfl rfl rfl rfl ?_
  refine kA rfl rfl rfl rfl rfl ?_
  refine kA rfl rfl rfl rfl rfl ?_
  refine kA rfl rfl rfl rfl rfl ?_
  refine sA (v := .bool true) rfl (fun _ henv => rn_pick henv rfl rfl) ?_
  intro a henv
  refine wpList_nil ?_
  refine th_n ?_
  refine if_t henv rfl (rfl) ?_
  refine wp_seq ?_
  refine region_seq ?_
  revert a
  refine sA (v := .agg #[.bool (neg 0), .slice none (dl 0) 0]) rfl (fun _ henv => rn_zref) ?_
  refine mA rfl rfl ?_
  intro a henv
  refine seq_step rfl (op_store (k := 0) (c' := #[.bool (neg 0), .slice none (dl 0) 0]) henv hst (ty_anvil_anvilref02_Int.size) rfl rfl rfl rfl (by simp) rfl rfl ?_)
  clear henv hst a; intro a w3 henv hst
  refine sv (v := .int .i64 1) henv rfl (rn_assign henv rfl) ?_
  clear henv a; intro a henv
  refine wpList_nil ?_
  refine th_n ?_
  refine wp_ret ?_
  refine th_r ?_
  refine leave henv (res2 Tryd.results80 (RV.cell henv ty_anvil_anvilref02_Int rfl (hst.oat (k := 0) rfl) rfl) (RV.tmp henv rfl)) ?_
  exact ⟨rfl, hst.below⟩
set_option maxRecDepth 100000 in
set_option maxHeartbeats 4000000 in
theorem rread_z1 {d : List UInt8} {w0 : World} (hl0 : 0 < d.length) (h1 : (d.getD 0 0).toNat = 48) (hl : d.length ≤ 100000) :
    Calls Tryd.prog 80 #[.string ⟨(45 :: d).toArray⟩] w0 fun e w' => e = .returned (.tuple #[.agg #[.bool (neg 0), .slice none (dl 0) 0], .int .i64 1]) ∧ Below w0.heap.size w0 w' := by
  have hlen1 : (45 :: d).length = d.length + 1 := rfl
  refine enter Tryd.func80 rfl Tryd.ntmps80 rfl ?_
  intro a henv hst
  refine wp_seq ?_
  refine region_seq ?_
  refine seq_step rfl (op_alloc (c := #[.bool (neg 0), .slice none (dl 0) 0]) henv hst rfl zero_anvil_anvilref02_Int rcells ?_)
  clear henv hst a; intro a w2 g1 henv hst
  refine sv (v := .int .i64 0) henv rfl (rn_assign henv rfl) ?_
  clear henv a; intro a henv
  refine wpList_nil ?_
  refine th_n ?_
  refine wp_seq ?_
  refine region_seq ?_
  refine sv (v := .int .i64 0) henv rfl (rn_assign henv rfl) ?_
  clear henv a; intro a henv
  refine wpList_nil ?_
  refine th_n ?_
  refine wp_seq ?_
  refine wp_seq ?_
  refine region_seq ?_
  revert a
  refine mA rfl rfl ?_
  refine sA (v := .int .i64 ((45 :: d).length : Nat)) rfl (fun _ henv => rn_lenS henv Tryd.underlying9 rfl) ?_
  intro a henv
  rw [List.length_cons] at henv
  refine sv (v := .bool (decide (((d.length + 1 : Nat) : Int) > (0 : Int)))) henv rfl (rn_bin henv rfl rfl rfl) ?_
  clear henv a; intro a henv
  rw [show (decide (((d.length + 1 : Nat) : Int) > (0 : Int))) = true from decide_eq_true (by omega)] at henv
  revert a
  refine mA rfl rfl ?_
  refine gA (v := .string ⟨(45 :: d).toArray⟩) rfl rfl rfl rfl (fun _ henv => rn_move henv rfl) ?_
  refine gA (v := .int .u8 (((45 :: d).getD 0 0).toNat : Nat)) rfl rfl rfl rfl (fun _ henv => rn_idxS (i := 0) henv Tryd.underlying9 rfl rfl (by omega)) ?_
  intro a henv
  rw [List.getD_cons_zero] at henv
  refine seq_g rfl henv rfl rfl (op_val (v := .bool ((((45 : UInt8).toNat : Nat) : Int) == (45 : Int))) henv rfl (rn_bin henv rfl rfl rfl) ?_)
  clear henv a; intro a henv
  rw [show ((((45 : UInt8).toNat : Nat) : Int) == (45 : Int)) = true from rfl] at henv
  refine sv (v := .bool true) henv rfl (rn_pick henv rfl rfl) ?_
  clear henv a; intro a henv
  refine wpList_nil ?_
  refine th_n ?_
  refine if_t henv rfl (rfl) ?_
  refine region_seq ?_
  refine sv (v := .int .i64 1) henv rfl (rn_assign henv rfl) ?_
  clear henv a; intro a henv
  refine wpList_nil ?_
  refine th_n ?_
  refine wp_seq ?_
  refine wp_seq ?_
  refine region_seq ?_
  revert a
  refine mA rfl rfl ?_
  refine mA rfl rfl ?_
  refine sA (v := .int .i64 ((45 :: d).length : Nat)) rfl (fun _ henv => rn_lenS henv Tryd.underlying9 rfl) ?_
  intro a henv
  rw [List.length_cons] at henv
  refine sv (v := .bool (decide ((1 : Int) ≥ ((d.length + 1 : Nat) : Int)))) henv rfl (rn_bin henv rfl rfl rfl) ?_
  clear henv a; intro a henv
  rw [show (decide ((1 : Int) ≥ ((d.length + 1 : Nat) : Int))) = false from decide_eq_false (by omega)] at henv
  revert a
  refine mA rfl rfl ?_
  refine gA (v := .string ⟨(45 :: d).toArray⟩) rfl rfl rfl rfl (fun _ henv => rn_move henv rfl) ?_
  refine gA (v := .int .i64 1) rfl rfl rfl rfl (fun _ henv => rn_move henv rfl) ?_
  refine gA (v := .int .u8 (((45 :: d).getD 1 0).toNat : Nat)) rfl rfl rfl rfl (fun _ henv => rn_idxS (i := 1) henv Tryd.underlying9 rfl rfl (by omega)) ?_
  intro a henv
  rw [show (45 :: d).getD 1 0 = d.getD 0 0 from rfl] at henv
  refine seq_g rfl henv rfl rfl (op_val (v := .bool (decide ((((d.getD 0 0).toNat : Nat) : Int) < (48 : Int)))) henv rfl (rn_bin henv rfl rfl rfl) ?_)
  clear henv a; intro a henv
  rw [show (decide ((((d.getD 0 0).toNat : Nat) : Int) < (48 : Int))) = false from decide_eq_false (by omega)] at henv
  revert a
  refine sA (v := .bool false) rfl (fun _ henv => rn_pick henv rfl rfl) ?_
  refine mA rfl rfl ?_
  refine gA (v := .string ⟨(45 :: d).toArray⟩) rfl rfl rfl rfl (fun _ henv => rn_move henv rfl) ?_
  refine gA (v := .int .i64 1) rfl rfl rfl rfl (fun _ henv => rn_move henv rfl) ?_
  refine gA (v := .int .u8 (((45 :: d).getD 1 0).toNat : Nat)) rfl rfl rfl rfl (fun _ henv => rn_idxS (i := 1) henv Tryd.underlying9 rfl rfl (by omega)) ?_
  intro a henv
  rw [show (45 :: d).getD 1 0 = d.getD 0 0 from rfl] at henv
  refine seq_g rfl henv rfl rfl (op_val (v := .bool (decide ((((d.getD 0 0).toNat : Nat) : Int) > (57 : Int)))) henv rfl (rn_bin henv rfl rfl rfl) ?_)
  clear henv a; intro a henv
  rw [show (decide ((((d.getD 0 0).toNat : Nat) : Int) > (57 : Int))) = false from decide_eq_false (by omega)] at henv
  revert a
  refine sA (v := .bool false) rfl (fun _ henv => rn_pick henv rfl rfl) ?_
  refine mA rfl rfl ?_
  refine gA (v := .int .i64 1) rfl rfl rfl rfl (fun _ henv => rn_move henv rfl) ?_
  refine gA (v := .bool true) rfl rfl rfl rfl (fun _ henv => rn_bin henv rfl rfl rfl) ?_
  refine gA (v := .bool true) rfl rfl rfl rfl (fun _ henv => rn_move henv rfl) ?_
  refine gA (v := .string ⟨(45 :: d).toArray⟩) rfl rfl rfl rfl (fun _ henv => rn_move henv rfl) ?_
  refine gA (v := .int .u8 (((45 :: d).getD 1 0).toNat : Nat)) rfl rfl rfl rfl (fun _ henv => rn_idxS (i := 1) henv Tryd.underlying9 rfl rfl (by omega)) ?_
  intro a henv
  rw [show (45 :: d).getD 1 0 = d.getD 0 0 from rfl] at henv
  refine seq_g rfl henv rfl rfl (op_val (v := .bool ((((d.getD 0 0).toNat : Nat) : Int) == (48 : Int))) henv rfl (rn_bin henv rfl rfl rfl) ?_)
  clear henv a; intro a henv
  rw [show ((((d.getD 0 0).toNat : Nat) : Int) == (48 : Int)) = true from beq_iff_eq.2 (by omega)] at henv
  revert a
  refine gA (v := .bool true) rfl rfl rfl rfl (fun _ henv => rn_pick henv rfl rfl) ?_
  refine sA (v := .bool true) rfl (fun _ henv => rn_pick henv rfl rfl) ?_
  intro a henv
  refine wpList_nil ?_
  refine th_n ?_
  refine if_t henv rfl (rfl) ?_
  refine wp_seq ?_
  refine region_seq ?_
  revert a
  refine sA (v := .agg #[.bool (neg 0), .slice none (dl 0) 0]) rfl (fun _ henv => rn_zref) ?_
  refine mA rfl rfl ?_
  intro a henv
  refine seq_step rfl (op_store (k := 0) (c' := #[.bool (neg 0), .slice none (dl 0) 0]) henv hst (ty_anvil_anvilref02_Int.size) rfl rfl rfl rfl (by simp) rfl rfl ?_)
  clear henv hst a; intro a w3 henv hst
  refine sv (v := .int .i64 1) henv rfl (rn_assign henv rfl) ?_
  clear henv a; intro a henv
  refine wpList_nil ?_
  refine th_n ?_
  refine wp_ret ?_
  refine th_r ?_
  refine leave henv (res2 Tryd.results80 (RV.cell henv ty_anvil_anvilref02_Int rfl (hst.oat (k := 0) rfl) rfl) (RV.tmp henv rfl)) ?_
  exact ⟨rfl, hst.below⟩
set_option maxRecDepth 100000 in
set_option maxHeartbeats 4000000 in
theorem rread_bad1 {d : List UInt8} {b : Nat} {w0 : World} (hfb : Fb 1 d b) (hb0 : 0 < b) (hl : d.length ≤ 100000) :
    Calls Tryd.prog 80 #[.string ⟨(45 :: d).toArray⟩] w0 fun e w' => e = .returned (.tuple #[.agg #[.bool (neg 0), .slice none (dl 0) 0], .int .i64 (b + 1 : Nat)]) ∧ Below w0.heap.size w0 w' := by
  have hlen1 : (45 :: d).length = d.length + 1 := rfl
  have hd0 := fb_first hfb hb0
  obtain ⟨hl0, hd1, hd2, hd3⟩ := hd0
  refine enter Tryd.func80 rfl Tryd.ntmps80 rfl ?_
  intro a henv hst
  refine wp_seq ?_
  refine region_seq ?_
  refine seq_step rfl (op_alloc (c := #[.bool (neg 0), .slice none (dl 0) 0]) henv hst rfl zero_anvil_anvilref02_Int rcells ?_)
  clear henv hst a; intro a w2 g1 henv hst
  refine sv (v := .int .i64 0) henv rfl (rn_assign henv rfl) ?_
  clear henv a; intro a henv
  refine wpList_nil ?_
  refine th_n ?_
  refine wp_seq ?_
  refine region_seq ?_
  refine sv (v := .int .i64 0) henv rfl (rn_assign henv rfl) ?_
  clear henv a; intro a henv
  refine wpList_nil ?_
  refine th_n ?_
  refine wp_seq ?_
  refine wp_seq ?_
  refine region_seq ?_
  revert a
  refine mA rfl rfl ?_
  refine sA (v := .int .i64 ((45 :: d).length : Nat)) rfl (fun _ henv => rn_lenS henv Tryd.underlying9 rfl) ?_
  intro a henv
  rw [List.length_cons] at henv
  refine sv (v := .bool (decide (((d.length + 1 : Nat) : Int) > (0 : Int)))) henv rfl (rn_bin henv rfl rfl rfl) ?_
  clear henv a; intro a henv
  rw [show (decide (((d.length + 1 : Nat) : Int) > (0 : Int))) = true from decide_eq_true (by omega)] at henv
  revert a
  refine mA rfl rfl ?_
  refine gA (v := .string ⟨(45 :: d).toArray⟩) rfl rfl rfl rfl (fun _ henv => rn_move henv rfl) ?_
  refine gA (v := .int .u8 (((45 :: d).getD 0 0).toNat : Nat)) rfl rfl rfl rfl (fun _ henv => rn_idxS (i := 0) henv Tryd.underlying9 rfl rfl (by omega)) ?_
  intro a henv
  rw [List.getD_cons_zero] at henv
  refine seq_g rfl henv rfl rfl (op_val (v := .bool ((((45 : UInt8).toNat : Nat) : Int) == (45 : Int))) henv rfl (rn_bin henv rfl rfl rfl) ?_)
  clear henv a; intro a henv
  rw [show ((((45 : UInt8).toNat : Nat) : Int) == (45 : Int)) = true from rfl] at henv
  refine sv (v := .bool true) henv rfl (rn_pick henv rfl rfl) ?_
  clear henv a; intro a henv
  refine wpList_nil ?_
  refine th_n ?_
  refine if_t henv rfl (rfl) ?_
  refine region_seq ?_
  refine sv (v := .int .i64 1) henv rfl (rn_assign henv rfl) ?_
  clear henv a; intro a henv
  refine wpList_nil ?_
  refine th_n ?_
  refine wp_seq ?_
  refine wp_seq ?_
  refine region_seq ?_
  revert a
  refine mA rfl rfl ?_
  refine mA rfl rfl ?_
  refine sA (v := .int .i64 ((45 :: d).length : Nat)) rfl (fun _ henv => rn_lenS henv Tryd.underlying9 rfl) ?_
  intro a henv
  rw [List.length_cons] at henv
  refine sv (v := .bool (decide ((1 : Int) ≥ ((d.length + 1 : Nat) : Int)))) henv rfl (rn_bin henv rfl rfl rfl) ?_
  clear henv a; intro a henv
  rw [show (decide ((1 : Int) ≥ ((d.length + 1 : Nat) : Int))) = false from decide_eq_false (by omega)] at henv
  revert a
  refine mA rfl rfl ?_
  refine gA (v := .string ⟨(45 :: d).toArray⟩) rfl rfl rfl rfl (fun _ henv => rn_move henv rfl) ?_
  refine gA (v := .int .i64 1) rfl rfl rfl rfl (fun _ henv => rn_move henv rfl) ?_
  refine gA (v := .int .u8 (((45 :: d).getD 1 0).toNat : Nat)) rfl rfl rfl rfl (fun _ henv => rn_idxS (i := 1) henv Tryd.underlying9 rfl rfl (by omega)) ?_
  intro a henv
  rw [show (45 :: d).getD 1 0 = d.getD 0 0 from rfl] at henv
  refine seq_g rfl henv rfl rfl (op_val (v := .bool (decide ((((d.getD 0 0).toNat : Nat) : Int) < (48 : Int)))) henv rfl (rn_bin henv rfl rfl rfl) ?_)
  clear henv a; intro a henv
  rw [show (decide ((((d.getD 0 0).toNat : Nat) : Int) < (48 : Int))) = false from decide_eq_false (by omega)] at henv
  revert a
  refine sA (v := .bool false) rfl (fun _ henv => rn_pick henv rfl rfl) ?_
  refine mA rfl rfl ?_
  refine gA (v := .string ⟨(45 :: d).toArray⟩) rfl rfl rfl rfl (fun _ henv => rn_move henv rfl) ?_
  refine gA (v := .int .i64 1) rfl rfl rfl rfl (fun _ henv => rn_move henv rfl) ?_
  refine gA (v := .int .u8 (((45 :: d).getD 1 0).toNat : Nat)) rfl rfl rfl rfl (fun _ henv => rn_idxS (i := 1) henv Tryd.underlying9 rfl rfl (by omega)) ?_
  intro a henv
  rw [show (45 :: d).getD 1 0 = d.getD 0 0 from rfl] at henv
  refine seq_g rfl henv rfl rfl (op_val (v := .bool (decide ((((d.getD 0 0).toNat : Nat) : Int) > (57 : Int)))) henv rfl (rn_bin henv rfl rfl rfl) ?_)
  clear henv a; intro a henv
  rw [show (decide ((((d.getD 0 0).toNat : Nat) : Int) > (57 : Int))) = false from decide_eq_false (by omega)] at henv
  revert a
  refine sA (v := .bool false) rfl (fun _ henv => rn_pick henv rfl rfl) ?_
  refine mA rfl rfl ?_
  refine gA (v := .int .i64 1) rfl rfl rfl rfl (fun _ henv => rn_move henv rfl) ?_
  refine gA (v := .bool true) rfl rfl rfl rfl (fun _ henv => rn_bin henv rfl rfl rfl) ?_
  refine gA (v := .bool true) rfl rfl rfl rfl (fun _ henv => rn_move henv rfl) ?_
  refine gA (v := .string ⟨(45 :: d).toArray⟩) rfl rfl rfl rfl (fun _ henv => rn_move henv rfl) ?_
  refine gA (v := .int .u8 (((45 :: d).getD 1 0).toNat : Nat)) rfl rfl rfl rfl (fun _ henv => rn_idxS (i := 1) henv Tryd.underlying9 rfl rfl (by omega)) ?_
  intro a henv
  rw [show (45 :: d).getD 1 0 = d.getD 0 0 from rfl] at henv
  refine seq_g rfl henv rfl rfl (op_val (v := .bool ((((d.getD 0 0).toNat : Nat) : Int) == (48 : Int))) henv rfl (rn_bin henv rfl rfl rfl) ?_)
  clear henv a; intro a henv
  rw [show ((((d.getD 0 0).toNat : Nat) : Int) == (48 : Int)) = false from beq_eq_false_iff_ne.2 (by omega)] at henv
  revert a
  refine gA (v := .bool false) rfl rfl rfl rfl (fun _ henv => rn_pick henv rfl rfl) ?_
  refine sA (v := .bool false) rfl (fun _ henv => rn_pick henv rfl rfl) ?_
  intro a henv
  refine wpList_nil ?_
  refine th_n ?_
  refine if_f henv rfl (rfl) ?_
  refine wp_skip ?_
  refine th_n ?_
  refine wp_seq ?_
  refine region_seq ?_
  refine sv (v := .agg #[.bool (neg 0), .slice none (dl 0) 0]) henv rfl (rn_zref) ?_
  clear henv a; intro a henv
  refine seq_step rfl (op_alloc (c := #[.bool (neg 0), .slice none (dl 0) 0]) henv hst rfl zero_anvil_anvilref02_Int rcells ?_)
  clear henv hst a; intro a w4 g3 henv hst
  refine seq_step rfl (op_store (k := 0) (c' := #[.bool (neg 0), .slice none (dl 0) 0]) henv hst (ty_anvil_anvilref02_Int.size) rfl rfl rfl rfl (by simp) rfl rfl ?_)
  clear henv hst a; intro a w5 henv hst
  refine wpList_nil ?_
  refine th_n ?_
  refine wp_seq ?_
  refine wp_seq ?_
  refine region_seq ?_
  revert a
  refine mA rfl rfl ?_
  refine aA rfl rfl ?_
  intro a henv
  refine wpList_nil ?_
  refine th_n ?_
  refine wp_block ?_
  replace hst := hst.addR (rin_none _) ⟨nou_bk rfl, nou_bk rfl, trivial⟩
  refine wp_loop_ghost (fun mz a w => ∃ k : Nat, ∃ A1 : Option Addr, ∃ c1 : Nat, d.length - k = mz ∧ Env 89 a [(0, .string ⟨(45 :: d).toArray⟩), (2, .pointer (some ⟨g1, 0, none⟩)), (4, .int .i64 1), (5, .pointer (some ⟨g3, 0, none⟩)), (6, .int .i64 (k + 1 : Nat))] ∧ St w0 w [bk g3 #[.bool (neg ((numOf (d.take k) : Nat) : Int)), .slice A1 (dl ((numOf (d.take k) : Nat) : Int)) c1] 39, bk g1 #[.bool (neg 0), .slice none (dl 0) 0] 39] [pfR A1 c1 ((numOf (d.take k) : Nat) : Int)] ∧ k ≤ b) _ ⟨0, none, 0, rfl, henv.sub ⟨rfl, rfl, rfl, rfl, rfl, trivial⟩, hst.pick [0, 1] [0] (by decide), (Nat.zero_le _)⟩ ?_
  clear henv hst a
  rintro mz a w6 ⟨k, A1, c1, rfl, henv, hst, hk⟩
  have hkl : k ≤ d.length := by have := fb_le hfb; omega
  have hdl1 := dl_num2 hfb hk
  rcases bad_split3 hfb hk hb0 with ⟨hlt, h1, h2, hk0, h3, hkb⟩ | ⟨hlt, h1, h2, hk0, h3, hkb⟩ | ⟨hlt, h1, h2, hk0, hkb⟩ | ⟨hkb, hlt, h1, hk0⟩ | ⟨hkb, hlt, h1, hk0⟩ | ⟨hkb, hlt, h1, h2, hk0, h3⟩
  · refine wp_seq ?_
    refine wp_seq ?_
    refine region_seq ?_
    revert a
    refine mA rfl rfl ?_
    refine mA rfl rfl ?_
    refine sA (v := .int .i64 ((45 :: d).length : Nat)) rfl (fun _ henv => rn_lenS henv Tryd.underlying9 rfl) ?_
    intro a henv
    rw [List.length_cons] at henv
    refine sv (v := .bool (decide (((k + 1 : Nat) : Int) < ((d.length + 1 : Nat) : Int)))) henv rfl (rn_bin henv rfl rfl rfl) ?_
    clear henv a; intro a henv
    rw [show (decide (((k + 1 : Nat) : Int) < ((d.length + 1 : Nat) : Int))) = true from decide_eq_true (by omega)] at henv
    refine wpList_nil ?_
    refine th_n ?_
    refine if_t henv rfl (rfl) ?_
    refine wp_skip ?_
    refine th_n ?_
    refine wp_seq ?_
    refine wp_block ?_
    refine wp_seq ?_
    refine wp_seq ?_
    refine region_seq ?_
    revert a
    refine mA rfl rfl ?_
    refine mA rfl rfl ?_
    refine sA (v := .int .u8 (((45 :: d).getD (k + 1) 0).toNat : Nat)) rfl (fun _ henv => rn_idxS (i := k + 1) henv Tryd.underlying9 rfl rfl (by omega)) ?_
    intro a henv
    rw [List.getD_cons_succ] at henv
    refine sv (v := .bool (decide ((((d.getD k 0).toNat : Nat) : Int) < (48 : Int)))) henv rfl (rn_bin henv rfl rfl rfl) ?_
    clear henv a; intro a henv
    rw [show (decide ((((d.getD k 0).toNat : Nat) : Int) < (48 : Int))) = false from decide_eq_false (by omega)] at henv
    revert a
    refine mA rfl rfl ?_
    refine gA (v := .string ⟨(45 :: d).toArray⟩) rfl rfl rfl rfl (fun _ henv => rn_move henv rfl) ?_
    refine gA (v := .int .i64 (k + 1 : Nat)) rfl rfl rfl rfl (fun _ henv => rn_move henv rfl) ?_
    refine gA (v := .int .u8 (((45 :: d).getD (k + 1) 0).toNat : Nat)) rfl rfl rfl rfl (fun _ henv => rn_idxS (i := k + 1) henv Tryd.underlying9 rfl rfl (by omega)) ?_
    intro a henv
    rw [List.getD_cons_succ] at henv
    refine seq_g rfl henv rfl rfl (op_val (v := .bool (decide ((((d.getD k 0).toNat : Nat) : Int) > (57 : Int)))) henv rfl (rn_bin henv rfl rfl rfl) ?_)
    clear henv a; intro a henv
    rw [show (decide ((((d.getD k 0).toNat : Nat) : Int) > (57 : Int))) = false from decide_eq_false (by omega)] at henv
    revert a
    refine sA (v := .bool false) rfl (fun _ henv => rn_pick henv rfl rfl) ?_
    refine mA rfl rfl ?_
    refine gA (v := .int .i64 (k + 1 : Nat)) rfl rfl rfl rfl (fun _ henv => rn_move henv rfl) ?_
    refine gA (v := .int .i64 1) rfl rfl rfl rfl (fun _ henv => rn_move henv rfl) ?_
    refine gA (v := .int .i64 2) rfl rfl rfl rfl (fun _ henv => rn_bin henv rfl rfl rfl) ?_
    refine gA (v := .bool (((k + 1 : Nat) : Int) == (2 : Int))) rfl rfl rfl rfl (fun _ henv => rn_bin henv rfl rfl rfl) ?_
    intro a henv
    rw [show (((k + 1 : Nat) : Int) == (2 : Int)) = false from beq_eq_false_iff_ne.2 (by omega)] at henv
    revert a
    refine gA (v := .bool false) rfl rfl rfl rfl (fun _ henv => rn_move henv rfl) ?_
    refine kA rfl rfl rfl rfl rfl ?_
    refine kA rfl rfl rfl rfl rfl ?_
    refine kA rfl rfl rfl rfl rfl ?_
    refine kA rfl rfl rfl rfl rfl ?_
    refine gA (v := .bool false) rfl rfl rfl rfl (fun _ henv => rn_pick henv rfl rfl) ?_
    refine sA (v := .bool false) rfl (fun _ henv => rn_pick henv rfl rfl) ?_
    intro a henv
    refine wpList_nil ?_
    refine th_n ?_
    refine if_f henv rfl (rfl) ?_
    refine wp_skip ?_
    refine th_n ?_
    refine region_any (n := 11) (Sk [bk g1 #[.bool (neg 0), .slice none (dl 0) 0] 39] [pfR A1 c1 ((numOf (d.take k) : Nat) : Int)] [10] [bk g3 #[.bool (neg ((numOf (d.take k) : Nat) : Int)), .slice A1 (dl ((numOf (d.take k) : Nat) : Int)) c1] 39]) mixed rfl henv hst ?_
    clear henv hst; intro w7 henv hst
    refine sAny_take (i := 0) [2, 8, 9, 10] (fun w' => w'.heap[g3]? = some (.cells #[.bool (neg ((numOf (d.take k) : Nat) : Int)), .slice A1 (dl ((numOf (d.take k) : Nat) : Int)) c1] 39 (0, 0))) (v := .agg #[.bool (neg ((numOf (d.take k) : Nat) : Int)), .slice A1 (dl ((numOf (d.take k) : Nat) : Int)) c1]) rfl (by kernel_rfl) (fun _ _ _ h => h) (fun _ _ hj hS => (hS.two rfl hj).oat (k := 0) rfl) henv rfl (hst.oat (k := 0) rfl) (fun w' hg => rn_load0 henv ty_anvil_anvilref02_Int rfl hg rfl) ?_
    clear henv a; intro a henv
    refine tM (i := 3) (rg 5 6) rfl (by kernel_rfl) (fun _ _ _ h => h) henv rfl rfl ?_
    clear henv a; intro a henv
    refine tM (i := 4) (rg 5 6) rfl (by kernel_rfl) (fun _ _ _ h => h) henv rfl rfl ?_
    clear henv a; intro a henv
    refine tA (i := 5) (rg 6 5) (v := .int .u8 (((45 :: d).getD (k + 1) 0).toNat : Nat)) rfl (by kernel_rfl) (fun _ _ _ h => h) henv rfl (fun _ => rn_idxS (i := k + 1) henv Tryd.underlying9 rfl rfl (by omega)) ?_
    clear henv a; intro a henv
    rw [List.getD_cons_succ] at henv
    refine tA (i := 6) (rg 7 4) (v := .int .u8 (((d.getD k 0).toNat) - 48 : Nat)) rfl (by kernel_rfl) (fun _ _ _ h => h) henv rfl (fun _ => rn_sub henv rfl rfl (by rw [IntWalk.u8_in _ (by omega)]; omega)) ?_
    clear henv a; intro a henv
    refine tA (i := 7) [8, 9, 10] (v := .int .i64 (((d.getD k 0).toNat) - 48 : Nat)) rfl (by kernel_rfl) (fun _ _ _ h => h) henv rfl (fun _ => rn_conv henv rfl Tryd.underlying5 Tryd.underlying2 (IntWalk.i64_in _ (by omega))) ?_
    clear henv a; intro a henv
    refine sAny_one (i := 1) (by kernel_rfl) rfl rfl (op_call henv rfl Tryd.call36 rfl (of_r (n := (10 : Int)) (by omega) (by omega)) ?_)
    rintro e w11 ⟨_, rfl, ⟨A8, c9, rfl, hz10⟩, hb⟩
    refine ⟨_, rfl, ?_⟩
    clear henv a; intro a henv
    replace hst := (hst.call hb).addR hz10 ⟨nou_bk rfl, nou_bk rfl, trivial⟩
    clear hz10
    clear hb
    refine ⟨.inr ⟨hst.kn.pick [1] [1], .inr (hst.kn.pick [0] [])⟩, ?_⟩
    refine sAny_one (i := 2) (by kernel_rfl) rfl rfl (op_call henv rfl Tryd.call52 rfl (mul_r (x := ((numOf (d.take k) : Nat) : Int)) (y := 10) (show RIn _ A1 c1 ((numOf (d.take k) : Nat) : Int) from hst.pat (k := 1) rfl) (show RIn _ A8 c9 10 from hst.pat (k := 0) rfl) (by omega) (by have := dl_small (n := 10) (by decide) (by decide); omega)) ?_)
    rintro e w15 ⟨_, rfl, ⟨A12, c13, rfl, hz14⟩, hb⟩
    refine ⟨_, rfl, ?_⟩
    clear henv a; intro a henv
    replace hst := (hst.call hb).addR hz14 ⟨nou_bk rfl, nou_bk rfl, trivial⟩
    clear hz14
    clear hb
    refine ⟨.inr ⟨hst.kn.pick [1] [2], .inr (hst.kn.pick [0] [])⟩, ?_⟩
    refine sAny_one (i := 8) (by kernel_rfl) rfl rfl (op_call henv rfl Tryd.call36 rfl (of_r (n := (((d.getD k 0).toNat) - 48 : Nat)) (by omega) (by omega)) ?_)
    rintro e w19 ⟨_, rfl, ⟨A16, c17, rfl, hz18⟩, hb⟩
    refine ⟨_, rfl, ?_⟩
    clear henv a; intro a henv
    replace hst := (hst.call hb).addR hz18 ⟨nou_bk rfl, nou_bk rfl, trivial⟩
    clear hz18
    clear hb
    refine ⟨.inr ⟨hst.kn.pick [1] [3], .inr (hst.kn.pick [0] [])⟩, ?_⟩
    refine sAny_one (i := 9) (by kernel_rfl) rfl rfl (op_call henv rfl Tryd.call54 rfl (add_r (x := ((numOf (d.take k) : Nat) : Int) * 10) (y := (((d.getD k 0).toNat) - 48 : Nat)) (show RIn _ A12 c13 (((numOf (d.take k) : Nat) : Int) * 10) from hst.pat (k := 1) rfl) (show RIn _ A16 c17 (((d.getD k 0).toNat) - 48 : Nat) from hst.pat (k := 0) rfl) (by have h1 := dl_mul ((numOf (d.take k) : Nat) : Int) 10; have h2 := dl_small (n := 10) (by decide) (by decide); omega) (by have := dl_small (n := (((d.getD k 0).toNat) - 48 : Nat)) (by omega) (by omega); omega)) ?_)
    rintro e w23 ⟨_, rfl, ⟨A20, c21, rfl, hz22⟩, hb⟩
    refine ⟨_, rfl, ?_⟩
    clear henv a; intro a henv
    replace hst := (hst.call hb).addR hz22 ⟨nou_bk rfl, nou_bk rfl, trivial⟩
    clear hz22
    clear hb
    refine ⟨.inr ⟨hst.kn.pick [1] [4], .inr (hst.kn.pick [0] [])⟩, ?_⟩
    refine sAny_one (i := 10) (by kernel_rfl) rfl rfl (op_store (k := 0) (c' := #[.bool (neg ((((numOf (d.take k) : Nat) : Int) * 10) + (((d.getD k 0).toNat) - 48 : Nat))), .slice A20 (dl ((((numOf (d.take k) : Nat) : Int) * 10) + (((d.getD k 0).toNat) - 48 : Nat))) c21]) henv hst (ty_anvil_anvilref02_Int.size) rfl rfl rfl rfl (by simp) rfl rfl ?_)
    clear henv hst a; intro a w24 henv hst
    refine ⟨.inr ⟨hst.kn.pick [1] [4], .inl rfl⟩, ?_⟩
    refine sAny_done (by kernel_rfl) ?_ _
    refine bl_n (th_n ?_)
    refine region_seq ?_
    revert a
    refine mA rfl rfl ?_
    refine sA (v := .int .i64 ((k + 1) + 1 : Nat)) rfl (fun _ henv => rn_add henv rfl rfl (by rw [IntWalk.i64_in _ (by omega)]; omega)) ?_
    refine aA rfl rfl ?_
    intro a henv
    refine wpList_nil ?_
    rw [num_step hlt] at hst
    exact th_n ⟨_, (by omega), ⟨k + 1, A20, c21, rfl, henv.sub ⟨rfl, rfl, rfl, rfl, rfl, trivial⟩, hst.pick [0, 1] [0] (by decide), (by omega)⟩⟩
  · refine wp_seq ?_
    refine wp_seq ?_
    refine region_seq ?_
    revert a
    refine mA rfl rfl ?_
    refine mA rfl rfl ?_
    refine sA (v := .int .i64 ((45 :: d).length : Nat)) rfl (fun _ henv => rn_lenS henv Tryd.underlying9 rfl) ?_
    intro a henv
    rw [List.length_cons] at henv
    refine sv (v := .bool (decide (((k + 1 : Nat) : Int) < ((d.length + 1 : Nat) : Int)))) henv rfl (rn_bin henv rfl rfl rfl) ?_
    clear henv a; intro a henv
    rw [show (decide (((k + 1 : Nat) : Int) < ((d.length + 1 : Nat) : Int))) = true from decide_eq_true (by omega)] at henv
    refine wpList_nil ?_
    refine th_n ?_
    refine if_t henv rfl (rfl) ?_
    refine wp_skip ?_
    refine th_n ?_
    refine wp_seq ?_
    refine wp_block ?_
    refine wp_seq ?_
    refine wp_seq ?_
    refine region_seq ?_
    revert a
    refine mA rfl rfl ?_
    refine mA rfl rfl ?_
    refine sA (v := .int .u8 (((45 :: d).getD (k + 1) 0).toNat : Nat)) rfl (fun _ henv => rn_idxS (i := k + 1) henv Tryd.underlying9 rfl rfl (by omega)) ?_
    intro a henv
    rw [List.getD_cons_succ] at henv
    refine sv (v := .bool (decide ((((d.getD k 0).toNat : Nat) : Int) < (48 : Int)))) henv rfl (rn_bin henv rfl rfl rfl) ?_
    clear henv a; intro a henv
    rw [show (decide ((((d.getD k 0).toNat : Nat) : Int) < (48 : Int))) = false from decide_eq_false (by omega)] at henv
    revert a
    refine mA rfl rfl ?_
    refine gA (v := .string ⟨(45 :: d).toArray⟩) rfl rfl rfl rfl (fun _ henv => rn_move henv rfl) ?_
    refine gA (v := .int .i64 (k + 1 : Nat)) rfl rfl rfl rfl (fun _ henv => rn_move henv rfl) ?_
    refine gA (v := .int .u8 (((45 :: d).getD (k + 1) 0).toNat : Nat)) rfl rfl rfl rfl (fun _ henv => rn_idxS (i := k + 1) henv Tryd.underlying9 rfl rfl (by omega)) ?_
    intro a henv
    rw [List.getD_cons_succ] at henv
    refine seq_g rfl henv rfl rfl (op_val (v := .bool (decide ((((d.getD k 0).toNat : Nat) : Int) > (57 : Int)))) henv rfl (rn_bin henv rfl rfl rfl) ?_)
    clear henv a; intro a henv
    rw [show (decide ((((d.getD k 0).toNat : Nat) : Int) > (57 : Int))) = false from decide_eq_false (by omega)] at henv
    revert a
    refine sA (v := .bool false) rfl (fun _ henv => rn_pick henv rfl rfl) ?_
    refine mA rfl rfl ?_
    refine gA (v := .int .i64 (k + 1 : Nat)) rfl rfl rfl rfl (fun _ henv => rn_move henv rfl) ?_
    refine gA (v := .int .i64 1) rfl rfl rfl rfl (fun _ henv => rn_move henv rfl) ?_
    refine gA (v := .int .i64 2) rfl rfl rfl rfl (fun _ henv => rn_bin henv rfl rfl rfl) ?_
    refine gA (v := .bool (((k + 1 : Nat) : Int) == (2 : Int))) rfl rfl rfl rfl (fun _ henv => rn_bin henv rfl rfl rfl) ?_
    intro a henv
    rw [show (((k + 1 : Nat) : Int) == (2 : Int)) = true from beq_iff_eq.2 (by omega)] at henv
    revert a
    refine gA (v := .bool true) rfl rfl rfl rfl (fun _ henv => rn_move henv rfl) ?_
    refine gA (v := .string ⟨(45 :: d).toArray⟩) rfl rfl rfl rfl (fun _ henv => rn_move henv rfl) ?_
    refine gA (v := .int .i64 1) rfl rfl rfl rfl (fun _ henv => rn_move henv rfl) ?_
    refine gA (v := .int .u8 (((45 :: d).getD 1 0).toNat : Nat)) rfl rfl rfl rfl (fun _ henv => rn_idxS (i := 1) henv Tryd.underlying9 rfl rfl (by omega)) ?_
    intro a henv
    rw [show (45 :: d).getD 1 0 = d.getD 0 0 from rfl] at henv
    refine seq_g rfl henv rfl rfl (op_val (v := .bool ((((d.getD 0 0).toNat : Nat) : Int) == (48 : Int))) henv rfl (rn_bin henv rfl rfl rfl) ?_)
    clear henv a; intro a henv
    rw [show ((((d.getD 0 0).toNat : Nat) : Int) == (48 : Int)) = false from beq_eq_false_iff_ne.2 (by omega)] at henv
    revert a
    refine gA (v := .bool false) rfl rfl rfl rfl (fun _ henv => rn_pick henv rfl rfl) ?_
    refine sA (v := .bool false) rfl (fun _ henv => rn_pick henv rfl rfl) ?_
    intro a henv
    refine wpList_nil ?_
    refine th_n ?_
    refine if_f henv rfl (rfl) ?_
    refine wp_skip ?_
    refine th_n ?_
    refine region_any (n := 11) (Sk [bk g1 #[.bool (neg 0), .slice none (dl 0) 0] 39] [pfR A1 c1 ((numOf (d.take k) : Nat) : Int)] [10] [bk g3 #[.bool (neg ((numOf (d.take k) : Nat) : Int)), .slice A1 (dl ((numOf (d.take k) : Nat) : Int)) c1] 39]) mixed rfl henv hst ?_
    clear henv hst; intro w25 henv hst
    refine sAny_take (i := 0) [2, 8, 9, 10] (fun w' => w'.heap[g3]? = some (.cells #[.bool (neg ((numOf (d.take k) : Nat) : Int)), .slice A1 (dl ((numOf (d.take k) : Nat) : Int)) c1] 39 (0, 0))) (v := .agg #[.bool (neg ((numOf (d.take k) : Nat) : Int)), .slice A1 (dl ((numOf (d.take k) : Nat) : Int)) c1]) rfl (by kernel_rfl) (fun _ _ _ h => h) (fun _ _ hj hS => (hS.two rfl hj).oat (k := 0) rfl) henv rfl (hst.oat (k := 0) rfl) (fun w' hg => rn_load0 henv ty_anvil_anvilref02_Int rfl hg rfl) ?_
    clear henv a; intro a henv
    refine tM (i := 3) (rg 5 6) rfl (by kernel_rfl) (fun _ _ _ h => h) henv rfl rfl ?_
    clear henv a; intro a henv
    refine tM (i := 4) (rg 5 6) rfl (by kernel_rfl) (fun _ _ _ h => h) henv rfl rfl ?_
    clear henv a; intro a henv
    refine tA (i := 5) (rg 6 5) (v := .int .u8 (((45 :: d).getD (k + 1) 0).toNat : Nat)) rfl (by kernel_rfl) (fun _ _ _ h => h) henv rfl (fun _ => rn_idxS (i := k + 1) henv Tryd.underlying9 rfl rfl (by omega)) ?_
    clear henv a; intro a henv
    rw [List.getD_cons_succ] at henv
    refine tA (i := 6) (rg 7 4) (v := .int .u8 (((d.getD k 0).toNat) - 48 : Nat)) rfl (by kernel_rfl) (fun _ _ _ h => h) henv rfl (fun _ => rn_sub henv rfl rfl (by rw [IntWalk.u8_in _ (by omega)]; omega)) ?_
    clear henv a; intro a henv
    refine tA (i := 7) [8, 9, 10] (v := .int .i64 (((d.getD k 0).toNat) - 48 : Nat)) rfl (by kernel_rfl) (fun _ _ _ h => h) henv rfl (fun _ => rn_conv henv rfl Tryd.underlying5 Tryd.underlying2 (IntWalk.i64_in _ (by omega))) ?_
    clear henv a; intro a henv
    refine sAny_one (i := 1) (by kernel_rfl) rfl rfl (op_call henv rfl Tryd.call36 rfl (of_r (n := (10 : Int)) (by omega) (by omega)) ?_)
    rintro e w29 ⟨_, rfl, ⟨A26, c27, rfl, hz28⟩, hb⟩
    refine ⟨_, rfl, ?_⟩
    clear henv a; intro a henv
    replace hst := (hst.call hb).addR hz28 ⟨nou_bk rfl, nou_bk rfl, trivial⟩
    clear hz28
    clear hb
    refine ⟨.inr ⟨hst.kn.pick [1] [1], .inr (hst.kn.pick [0] [])⟩, ?_⟩
    refine sAny_one (i := 2) (by kernel_rfl) rfl rfl (op_call henv rfl Tryd.call52 rfl (mul_r (x := ((numOf (d.take k) : Nat) : Int)) (y := 10) (show RIn _ A1 c1 ((numOf (d.take k) : Nat) : Int) from hst.pat (k := 1) rfl) (show RIn _ A26 c27 10 from hst.pat (k := 0) rfl) (by omega) (by have := dl_small (n := 10) (by decide) (by decide); omega)) ?_)
    rintro e w33 ⟨_, rfl, ⟨A30, c31, rfl, hz32⟩, hb⟩
    refine ⟨_, rfl, ?_⟩
    clear henv a; intro a henv
    replace hst := (hst.call hb).addR hz32 ⟨nou_bk rfl, nou_bk rfl, trivial⟩
    clear hz32
    clear hb
    refine ⟨.inr ⟨hst.kn.pick [1] [2], .inr (hst.kn.pick [0] [])⟩, ?_⟩
    refine sAny_one (i := 8) (by kernel_rfl) rfl rfl (op_call henv rfl Tryd.call36 rfl (of_r (n := (((d.getD k 0).toNat) - 48 : Nat)) (by omega) (by omega)) ?_)
    rintro e w37 ⟨_, rfl, ⟨A34, c35, rfl, hz36⟩, hb⟩
    refine ⟨_, rfl, ?_⟩
    clear henv a; intro a henv
    replace hst := (hst.call hb).addR hz36 ⟨nou_bk rfl, nou_bk rfl, trivial⟩
    clear hz36
    clear hb
    refine ⟨.inr ⟨hst.kn.pick [1] [3], .inr (hst.kn.pick [0] [])⟩, ?_⟩
    refine sAny_one (i := 9) (by kernel_rfl) rfl rfl (op_call henv rfl Tryd.call54 rfl (add_r (x := ((numOf (d.take k) : Nat) : Int) * 10) (y := (((d.getD k 0).toNat) - 48 : Nat)) (show RIn _ A30 c31 (((numOf (d.take k) : Nat) : Int) * 10) from hst.pat (k := 1) rfl) (show RIn _ A34 c35 (((d.getD k 0).toNat) - 48 : Nat) from hst.pat (k := 0) rfl) (by have h1 := dl_mul ((numOf (d.take k) : Nat) : Int) 10; have h2 := dl_small (n := 10) (by decide) (by decide); omega) (by have := dl_small (n := (((d.getD k 0).toNat) - 48 : Nat)) (by omega) (by omega); omega)) ?_)
    rintro e w41 ⟨_, rfl, ⟨A38, c39, rfl, hz40⟩, hb⟩
    refine ⟨_, rfl, ?_⟩
    clear henv a; intro a henv
    replace hst := (hst.call hb).addR hz40 ⟨nou_bk rfl, nou_bk rfl, trivial⟩
    clear hz40
    clear hb
    refine ⟨.inr ⟨hst.kn.pick [1] [4], .inr (hst.kn.pick [0] [])⟩, ?_⟩
    refine sAny_one (i := 10) (by kernel_rfl) rfl rfl (op_store (k := 0) (c' := #[.bool (neg ((((numOf (d.take k) : Nat) : Int) * 10) + (((d.getD k 0).toNat) - 48 : Nat))), .slice A38 (dl ((((numOf (d.take k) : Nat) : Int) * 10) + (((d.getD k 0).toNat) - 48 : Nat))) c39]) henv hst (ty_anvil_anvilref02_Int.size) rfl rfl rfl rfl (by simp) rfl rfl ?_)
    clear henv hst a; intro a w42 henv hst
    refine ⟨.inr ⟨hst.kn.pick [1] [4], .inl rfl⟩, ?_⟩
    refine sAny_done (by kernel_rfl) ?_ _
    refine bl_n (th_n ?_)
    refine region_seq ?_
    revert a
    refine mA rfl rfl ?_
    refine sA (v := .int .i64 ((k + 1) + 1 : Nat)) rfl (fun _ henv => rn_add henv rfl rfl (by rw [IntWalk.i64_in _ (by omega)]; omega)) ?_
    refine aA rfl rfl ?_
    intro a henv
    refine wpList_nil ?_
    rw [num_step hlt] at hst
    exact th_n ⟨_, (by omega), ⟨k + 1, A38, c39, rfl, henv.sub ⟨rfl, rfl, rfl, rfl, rfl, trivial⟩, hst.pick [0, 1] [0] (by decide), (by omega)⟩⟩
  · refine wp_seq ?_
    refine wp_seq ?_
    refine region_seq ?_
    revert a
    refine mA rfl rfl ?_
    refine mA rfl rfl ?_
    refine sA (v := .int .i64 ((45 :: d).length : Nat)) rfl (fun _ henv => rn_lenS henv Tryd.underlying9 rfl) ?_
    intro a henv
    rw [List.length_cons] at henv
    refine sv (v := .bool (decide (((k + 1 : Nat) : Int) < ((d.length + 1 : Nat) : Int)))) henv rfl (rn_bin henv rfl rfl rfl) ?_
    clear henv a; intro a henv
    rw [show (decide (((k + 1 : Nat) : Int) < ((d.length + 1 : Nat) : Int))) = true from decide_eq_true (by omega)] at henv
    refine wpList_nil ?_
    refine th_n ?_
    refine if_t henv rfl (rfl) ?_
    refine wp_skip ?_
    refine th_n ?_
    refine wp_seq ?_
    refine wp_block ?_
    refine wp_seq ?_
    refine wp_seq ?_
    refine region_seq ?_
    revert a
    refine mA rfl rfl ?_
    refine mA rfl rfl ?_
    refine sA (v := .int .u8 (((45 :: d).getD (k + 1) 0).toNat : Nat)) rfl (fun _ henv => rn_idxS (i := k + 1) henv Tryd.underlying9 rfl rfl (by omega)) ?_
    intro a henv
    rw [List.getD_cons_succ] at henv
    refine sv (v := .bool (decide ((((d.getD k 0).toNat : Nat) : Int) < (48 : Int)))) henv rfl (rn_bin henv rfl rfl rfl) ?_
    clear henv a; intro a henv
    rw [show (decide ((((d.getD k 0).toNat : Nat) : Int) < (48 : Int))) = false from decide_eq_false (by omega)] at henv
    revert a
    refine mA rfl rfl ?_
    refine gA (v := .string ⟨(45 :: d).toArray⟩) rfl rfl rfl rfl (fun _ henv => rn_move henv rfl) ?_
    refine gA (v := .int .i64 (k + 1 : Nat)) rfl rfl rfl rfl (fun _ henv => rn_move henv rfl) ?_
    refine gA (v := .int .u8 (((45 :: d).getD (k + 1) 0).toNat : Nat)) rfl rfl rfl rfl (fun _ henv => rn_idxS (i := k + 1) henv Tryd.underlying9 rfl rfl (by omega)) ?_
    intro a henv
    rw [List.getD_cons_succ] at henv
    refine seq_g rfl henv rfl rfl (op_val (v := .bool (decide ((((d.getD k 0).toNat : Nat) : Int) > (57 : Int)))) henv rfl (rn_bin henv rfl rfl rfl) ?_)
    clear henv a; intro a henv
    rw [show (decide ((((d.getD k 0).toNat : Nat) : Int) > (57 : Int))) = false from decide_eq_false (by omega)] at henv
    revert a
    refine sA (v := .bool false) rfl (fun _ henv => rn_pick henv rfl rfl) ?_
    refine mA rfl rfl ?_
    refine gA (v := .int .i64 (k + 1 : Nat)) rfl rfl rfl rfl (fun _ henv => rn_move henv rfl) ?_
    refine gA (v := .int .i64 1) rfl rfl rfl rfl (fun _ henv => rn_move henv rfl) ?_
    refine gA (v := .int .i64 2) rfl rfl rfl rfl (fun _ henv => rn_bin henv rfl rfl rfl) ?_
    refine gA (v := .bool (((k + 1 : Nat) : Int) == (2 : Int))) rfl rfl rfl rfl (fun _ henv => rn_bin henv rfl rfl rfl) ?_
    intro a henv
    rw [show (((k + 1 : Nat) : Int) == (2 : Int)) = false from beq_eq_false_iff_ne.2 (by omega)] at henv
    revert a
    refine gA (v := .bool false) rfl rfl rfl rfl (fun _ henv => rn_move henv rfl) ?_
    refine kA rfl rfl rfl rfl rfl ?_
    refine kA rfl rfl rfl rfl rfl ?_
    refine kA rfl rfl rfl rfl rfl ?_
    refine kA rfl rfl rfl rfl rfl ?_
    refine gA (v := .bool false) rfl rfl rfl rfl (fun _ henv => rn_pick henv rfl rfl) ?_
    refine sA (v := .bool false) rfl (fun _ henv => rn_pick henv rfl rfl) ?_
    intro a henv
    refine wpList_nil ?_
    refine th_n ?_
    refine if_f henv rfl (rfl) ?_
    refine wp_skip ?_
    refine th_n ?_
    refine region_any (n := 11) (Sk [bk g1 #[.bool (neg 0), .slice none (dl 0) 0] 39] [pfR A1 c1 ((numOf (d.take k) : Nat) : Int)] [10] [bk g3 #[.bool (neg ((numOf (d.take k) : Nat) : Int)), .slice A1 (dl ((numOf (d.take k) : Nat) : Int)) c1] 39]) mixed rfl henv hst ?_
    clear henv hst; intro w43 henv hst
    refine sAny_take (i := 0) [2, 8, 9, 10] (fun w' => w'.heap[g3]? = some (.cells #[.bool (neg ((numOf (d.take k) : Nat) : Int)), .slice A1 (dl ((numOf (d.take k) : Nat) : Int)) c1] 39 (0, 0))) (v := .agg #[.bool (neg ((numOf (d.take k) : Nat) : Int)), .slice A1 (dl ((numOf (d.take k) : Nat) : Int)) c1]) rfl (by kernel_rfl) (fun _ _ _ h => h) (fun _ _ hj hS => (hS.two rfl hj).oat (k := 0) rfl) henv rfl (hst.oat (k := 0) rfl) (fun w' hg => rn_load0 henv ty_anvil_anvilref02_Int rfl hg rfl) ?_
    clear henv a; intro a henv
    refine tM (i := 3) (rg 5 6) rfl (by kernel_rfl) (fun _ _ _ h => h) henv rfl rfl ?_
    clear henv a; intro a henv
    refine tM (i := 4) (rg 5 6) rfl (by kernel_rfl) (fun _ _ _ h => h) henv rfl rfl ?_
    clear henv a; intro a henv
    refine tA (i := 5) (rg 6 5) (v := .int .u8 (((45 :: d).getD (k + 1) 0).toNat : Nat)) rfl (by kernel_rfl) (fun _ _ _ h => h) henv rfl (fun _ => rn_idxS (i := k + 1) henv Tryd.underlying9 rfl rfl (by omega)) ?_
    clear henv a; intro a henv
    rw [List.getD_cons_succ] at henv
    refine tA (i := 6) (rg 7 4) (v := .int .u8 (((d.getD k 0).toNat) - 48 : Nat)) rfl (by kernel_rfl) (fun _ _ _ h => h) henv rfl (fun _ => rn_sub henv rfl rfl (by rw [IntWalk.u8_in _ (by omega)]; omega)) ?_
    clear henv a; intro a henv
    refine tA (i := 7) [8, 9, 10] (v := .int .i64 (((d.getD k 0).toNat) - 48 : Nat)) rfl (by kernel_rfl) (fun _ _ _ h => h) henv rfl (fun _ => rn_conv henv rfl Tryd.underlying5 Tryd.underlying2 (IntWalk.i64_in _ (by omega))) ?_
    clear henv a; intro a henv
    refine sAny_one (i := 1) (by kernel_rfl) rfl rfl (op_call henv rfl Tryd.call36 rfl (of_r (n := (10 : Int)) (by omega) (by omega)) ?_)
    rintro e w47 ⟨_, rfl, ⟨A44, c45, rfl, hz46⟩, hb⟩
    refine ⟨_, rfl, ?_⟩
    clear henv a; intro a henv
    replace hst := (hst.call hb).addR hz46 ⟨nou_bk rfl, nou_bk rfl, trivial⟩
    clear hz46
    clear hb
    refine ⟨.inr ⟨hst.kn.pick [1] [1], .inr (hst.kn.pick [0] [])⟩, ?_⟩
    refine sAny_one (i := 2) (by kernel_rfl) rfl rfl (op_call henv rfl Tryd.call52 rfl (mul_r (x := ((numOf (d.take k) : Nat) : Int)) (y := 10) (show RIn _ A1 c1 ((numOf (d.take k) : Nat) : Int) from hst.pat (k := 1) rfl) (show RIn _ A44 c45 10 from hst.pat (k := 0) rfl) (by omega) (by have := dl_small (n := 10) (by decide) (by decide); omega)) ?_)
    rintro e w51 ⟨_, rfl, ⟨A48, c49, rfl, hz50⟩, hb⟩
    refine ⟨_, rfl, ?_⟩
    clear henv a; intro a henv
    replace hst := (hst.call hb).addR hz50 ⟨nou_bk rfl, nou_bk rfl, trivial⟩
    clear hz50
    clear hb
    refine ⟨.inr ⟨hst.kn.pick [1] [2], .inr (hst.kn.pick [0] [])⟩, ?_⟩
    refine sAny_one (i := 8) (by kernel_rfl) rfl rfl (op_call henv rfl Tryd.call36 rfl (of_r (n := (((d.getD k 0).toNat) - 48 : Nat)) (by omega) (by omega)) ?_)
    rintro e w55 ⟨_, rfl, ⟨A52, c53, rfl, hz54⟩, hb⟩
    refine ⟨_, rfl, ?_⟩
    clear henv a; intro a henv
    replace hst := (hst.call hb).addR hz54 ⟨nou_bk rfl, nou_bk rfl, trivial⟩
    clear hz54
    clear hb
    refine ⟨.inr ⟨hst.kn.pick [1] [3], .inr (hst.kn.pick [0] [])⟩, ?_⟩
    refine sAny_one (i := 9) (by kernel_rfl) rfl rfl (op_call henv rfl Tryd.call54 rfl (add_r (x := ((numOf (d.take k) : Nat) : Int) * 10) (y := (((d.getD k 0).toNat) - 48 : Nat)) (show RIn _ A48 c49 (((numOf (d.take k) : Nat) : Int) * 10) from hst.pat (k := 1) rfl) (show RIn _ A52 c53 (((d.getD k 0).toNat) - 48 : Nat) from hst.pat (k := 0) rfl) (by have h1 := dl_mul ((numOf (d.take k) : Nat) : Int) 10; have h2 := dl_small (n := 10) (by decide) (by decide); omega) (by have := dl_small (n := (((d.getD k 0).toNat) - 48 : Nat)) (by omega) (by omega); omega)) ?_)
    rintro e w59 ⟨_, rfl, ⟨A56, c57, rfl, hz58⟩, hb⟩
    refine ⟨_, rfl, ?_⟩
    clear henv a; intro a henv
    replace hst := (hst.call hb).addR hz58 ⟨nou_bk rfl, nou_bk rfl, trivial⟩
    clear hz58
    clear hb
    refine ⟨.inr ⟨hst.kn.pick [1] [4], .inr (hst.kn.pick [0] [])⟩, ?_⟩
    refine sAny_one (i := 10) (by kernel_rfl) rfl rfl (op_store (k := 0) (c' := #[.bool (neg ((((numOf (d.take k) : Nat) : Int) * 10) + (((d.getD k 0).toNat) - 48 : Nat))), .slice A56 (dl ((((numOf (d.take k) : Nat) : Int) * 10) + (((d.getD k 0).toNat) - 48 : Nat))) c57]) henv hst (ty_anvil_anvilref02_Int.size) rfl rfl rfl rfl (by simp) rfl rfl ?_)
    clear henv hst a; intro a w60 henv hst
    refine ⟨.inr ⟨hst.kn.pick [1] [4], .inl rfl⟩, ?_⟩
    refine sAny_done (by kernel_rfl) ?_ _
    refine bl_n (th_n ?_)
    refine region_seq ?_
    revert a
    refine mA rfl rfl ?_
    refine sA (v := .int .i64 ((k + 1) + 1 : Nat)) rfl (fun _ henv => rn_add henv rfl rfl (by rw [IntWalk.i64_in _ (by omega)]; omega)) ?_
    refine aA rfl rfl ?_
    intro a henv
    refine wpList_nil ?_
    rw [num_step hlt] at hst
    exact th_n ⟨_, (by omega), ⟨k + 1, A56, c57, rfl, henv.sub ⟨rfl, rfl, rfl, rfl, rfl, trivial⟩, hst.pick [0, 1] [0] (by decide), (by omega)⟩⟩
  · refine wp_seq ?_
    refine wp_seq ?_
    refine region_seq ?_
    revert a
    refine mA rfl rfl ?_
    refine mA rfl rfl ?_
    refine sA (v := .int .i64 ((45 :: d).length : Nat)) rfl (fun _ henv => rn_lenS henv Tryd.underlying9 rfl) ?_
    intro a henv
    rw [List.length_cons] at henv
    refine sv (v := .bool (decide (((k + 1 : Nat) : Int) < ((d.length + 1 : Nat) : Int)))) henv rfl (rn_bin henv rfl rfl rfl) ?_
    clear henv a; intro a henv
    rw [show (decide (((k + 1 : Nat) : Int) < ((d.length + 1 : Nat) : Int))) = true from decide_eq_true (by omega)] at henv
    refine wpList_nil ?_
    refine th_n ?_
    refine if_t henv rfl (rfl) ?_
    refine wp_skip ?_
    refine th_n ?_
    refine wp_seq ?_
    refine wp_block ?_
    refine wp_seq ?_
    refine wp_seq ?_
    refine region_seq ?_
    revert a
    refine mA rfl rfl ?_
    refine mA rfl rfl ?_
    refine sA (v := .int .u8 (((45 :: d).getD (k + 1) 0).toNat : Nat)) rfl (fun _ henv => rn_idxS (i := k + 1) henv Tryd.underlying9 rfl rfl (by omega)) ?_
    intro a henv
    rw [List.getD_cons_succ] at henv
    refine sv (v := .bool (decide ((((d.getD k 0).toNat : Nat) : Int) < (48 : Int)))) henv rfl (rn_bin henv rfl rfl rfl) ?_
    clear henv a; intro a henv
    rw [show (decide ((((d.getD k 0).toNat : Nat) : Int) < (48 : Int))) = true from decide_eq_true (by omega)] at henv
    revert a
    refine mA rfl rfl ?_
    refine kA rfl rfl rfl rfl rfl ?_
    refine kA rfl rfl rfl rfl rfl ?_
    refine kA rfl rfl rfl rfl rfl ?_
    refine kA rfl rfl rfl rfl rfl ?_
    refine sA (v := .bool true) rfl (fun _ henv => rn_pick henv rfl rfl) ?_
    refine mA rfl rfl ?_
    refine kA rfl rfl rfl rfl rfl ?_
    refine kA rfl rfl rfl rfl rfl ?_
    refine kA rfl rfl rfl rfl rfl ?_
    refine kA rfl rfl rfl rfl rfl ?_
    refine kA rfl rfl rfl rfl rfl ?_
    refine kA rfl rfl rfl rfl rfl ?_
    refine kA rfl rfl rfl rfl rfl ?_
    refine kA rfl rfl rfl rfl rfl ?_
    refine kA rfl rfl rfl rfl rfl ?_
    refine kA rfl rfl rfl rfl rfl ?_
    refine sA (v := .bool true) rfl (fun _ henv => rn_pick henv rfl rfl) ?_
    intro a henv
    refine wpList_nil ?_
    refine th_n ?_
    refine if_t henv rfl (rfl) ?_
    refine wp_seq ?_
    refine region_seq ?_
    revert a
    refine sA (v := .agg #[.bool (neg 0), .slice none (dl 0) 0]) rfl (fun _ henv => rn_zref) ?_
    refine mA rfl rfl ?_
    intro a henv
    refine seq_step rfl (op_store (k := 1) (c' := #[.bool (neg 0), .slice none (dl 0) 0]) henv hst (ty_anvil_anvilref02_Int.size) rfl rfl rfl rfl (by simp) rfl rfl ?_)
    clear henv hst a; intro a w61 henv hst
    refine sv (v := .int .i64 (k + 1 : Nat)) henv rfl (rn_assign henv rfl) ?_
    clear henv a; intro a henv
    refine wpList_nil ?_
    refine th_n ?_
    refine wp_ret ?_
    refine th_r (bl_r (th_r (th_r (bl_r (th_r ?_)))))
    refine leave henv (res2 Tryd.results80 (RV.cell henv ty_anvil_anvilref02_Int rfl (hst.oat (k := 1) rfl) rfl) (RV.tmp henv rfl)) ?_
    subst hkb
    exact ⟨rfl, hst.below⟩
  · refine wp_seq ?_
    refine wp_seq ?_
    refine region_seq ?_
    revert a
    refine mA rfl rfl ?_
    refine mA rfl rfl ?_
    refine sA (v := .int .i64 ((45 :: d).length : Nat)) rfl (fun _ henv => rn_lenS henv Tryd.underlying9 rfl) ?_
    intro a henv
    rw [List.length_cons] at henv
    refine sv (v := .bool (decide (((k + 1 : Nat) : Int) < ((d.length + 1 : Nat) : Int)))) henv rfl (rn_bin henv rfl rfl rfl) ?_
    clear henv a; intro a henv
    rw [show (decide (((k + 1 : Nat) : Int) < ((d.length + 1 : Nat) : Int))) = true from decide_eq_true (by omega)] at henv
    refine wpList_nil ?_
    refine th_n ?_
    refine if_t henv rfl (rfl) ?_
    refine wp_skip ?_
    refine th_n ?_
    refine wp_seq ?_
    refine wp_block ?_
    refine wp_seq ?_
    refine wp_seq ?_
    refine region_seq ?_
    revert a
    refine mA rfl rfl ?_
    refine mA rfl rfl ?_
    refine sA (v := .int .u8 (((45 :: d).getD (k + 1) 0).toNat : Nat)) rfl (fun _ henv => rn_idxS (i := k + 1) henv Tryd.underlying9 rfl rfl (by omega)) ?_
    intro a henv
    rw [List.getD_cons_succ] at henv
    refine sv (v := .bool (decide ((((d.getD k 0).toNat : Nat) : Int) < (48 : Int)))) henv rfl (rn_bin henv rfl rfl rfl) ?_
    clear henv a; intro a henv
    rw [show (decide ((((d.getD k 0).toNat : Nat) : Int) < (48 : Int))) = false from decide_eq_false (by omega)] at henv
    revert a
    refine mA rfl rfl ?_
    refine gA (v := .string ⟨(45 :: d).toArray⟩) rfl rfl rfl rfl (fun _ henv => rn_move henv rfl) ?_
    refine gA (v := .int .i64 (k + 1 : Nat)) rfl rfl rfl rfl (fun _ henv => rn_move henv rfl) ?_
    refine gA (v := .int .u8 (((45 :: d).getD (k + 1) 0).toNat : Nat)) rfl rfl rfl rfl (fun _ henv => rn_idxS (i := k + 1) henv Tryd.underlying9 rfl rfl (by omega)) ?_
    intro a henv
    rw [List.getD_cons_succ] at henv
    refine seq_g rfl henv rfl rfl (op_val (v := .bool (decide ((((d.getD k 0).toNat : Nat) : Int) > (57 : Int)))) henv rfl (rn_bin henv rfl rfl rfl) ?_)
    clear henv a; intro a henv
    rw [show (decide ((((d.getD k 0).toNat : Nat) : Int) > (57 : Int))) = true from decide_eq_true (by omega)] at henv
    revert a
    refine sA (v := .bool true) rfl (fun _ henv => rn_pick henv rfl rfl) ?_
    refine mA rfl rfl ?_
    refine kA rfl rfl rfl rfl rfl ?_
    refine kA rfl rfl rfl rfl rfl ?_
    refine kA rfl rfl rfl rfl rfl ?_
    refine kA rfl rfl rfl rfl rfl ?_
    refine kA rfl rfl rfl rfl rfl ?_
    refine kA rfl rfl rfl rfl rfl ?_
    refine kA rfl rfl rfl rfl rfl ?_
    refine kA rfl rfl rfl rfl rfl ?_
    refine kA rfl rfl rfl rfl rfl ?_
    refine kA rfl rfl rfl rfl rfl ?_
    refine sA (v := .bool true) rfl (fun _ henv => rn_pick henv rfl rfl) ?_
    intro a henv
    refine wpList_nil ?_
    refine th_n ?_
    refine if_t henv rfl (rfl) ?_
    refine wp_seq ?_
    refine region_seq ?_
    revert a
    refine sA (v := .agg #[.bool (neg 0), .slice none (dl 0) 0]) rfl (fun _ henv => rn_zref) ?_
    refine mA rfl rfl ?_
    intro a henv
    refine seq_step rfl (op_store (k := 1) (c' := #[.bool (neg 0), .slice none (dl 0) 0]) henv hst (ty_anvil_anvilref02_Int.size) rfl rfl rfl rfl (by simp) rfl rfl ?_)
    clear henv hst a; intro a w62 henv hst
    refine sv (v := .int .i64 (k + 1 : Nat)) henv rfl (rn_assign henv rfl) ?_
    clear henv a; intro a henv
    refine wpList_nil ?_
    refine th_n ?_
    refine wp_ret ?_
    refine th_r (bl_r (th_r (th_r (bl_r (th_r ?_)))))
    refine leave henv (res2 Tryd.results80 (RV.cell henv ty_anvil_anvilref02_Int rfl (hst.oat (k := 1) rfl) rfl) (RV.tmp henv rfl)) ?_
    subst hkb
    exact ⟨rfl, hst.below⟩
  · refine wp_seq ?_
    refine wp_seq ?_
    refine region_seq ?_
    revert a
    refine mA rfl rfl ?_
    refine mA rfl rfl ?_
    refine sA (v := .int .i64 ((45 :: d).length : Nat)) rfl (fun _ henv => rn_lenS henv Tryd.underlying9 rfl) ?_
    intro a henv
    rw [List.length_cons] at henv
    refine sv (v := .bool (decide (((k + 1 : Nat) : Int) < ((d.length + 1 : Nat) : Int)))) henv rfl (rn_bin henv rfl rfl rfl) ?_
    clear henv a; intro a henv
    rw [show (decide (((k + 1 : Nat) : Int) < ((d.length + 1 : Nat) : Int))) = true from decide_eq_true (by omega)] at henv
    refine wpList_nil ?_
    refine th_n ?_
    refine if_t henv rfl (rfl) ?_
    refine wp_skip ?_
    refine th_n ?_
    refine wp_seq ?_
    refine wp_block ?_
    refine wp_seq ?_
    refine wp_seq ?_
    refine region_seq ?_
    revert a
    refine mA rfl rfl ?_
    refine mA rfl rfl ?_
    refine sA (v := .int .u8 (((45 :: d).getD (k + 1) 0).toNat : Nat)) rfl (fun _ henv => rn_idxS (i := k + 1) henv Tryd.underlying9 rfl rfl (by omega)) ?_
    intro a henv
    rw [List.getD_cons_succ] at henv
    refine sv (v := .bool (decide ((((d.getD k 0).toNat : Nat) : Int) < (48 : Int)))) henv rfl (rn_bin henv rfl rfl rfl) ?_
    clear henv a; intro a henv
    rw [show (decide ((((d.getD k 0).toNat : Nat) : Int) < (48 : Int))) = false from decide_eq_false (by omega)] at henv
    revert a
    refine mA rfl rfl ?_
    refine gA (v := .string ⟨(45 :: d).toArray⟩) rfl rfl rfl rfl (fun _ henv => rn_move henv rfl) ?_
    refine gA (v := .int .i64 (k + 1 : Nat)) rfl rfl rfl rfl (fun _ henv => rn_move henv rfl) ?_
    refine gA (v := .int .u8 (((45 :: d).getD (k + 1) 0).toNat : Nat)) rfl rfl rfl rfl (fun _ henv => rn_idxS (i := k + 1) henv Tryd.underlying9 rfl rfl (by omega)) ?_
    intro a henv
    rw [List.getD_cons_succ] at henv
    refine seq_g rfl henv rfl rfl (op_val (v := .bool (decide ((((d.getD k 0).toNat : Nat) : Int) > (57 : Int)))) henv rfl (rn_bin henv rfl rfl rfl) ?_)
    clear henv a; intro a henv
    rw [show (decide ((((d.getD k 0).toNat : Nat) : Int) > (57 : Int))) = false from decide_eq_false (by omega)] at henv
    revert a
    refine sA (v := .bool false) rfl (fun _ henv => rn_pick henv rfl rfl) ?_
    refine mA rfl rfl ?_
    refine gA (v := .int .i64 (k + 1 : Nat)) rfl rfl rfl rfl (fun _ henv => rn_move henv rfl) ?_
    refine gA (v := .int .i64 1) rfl rfl rfl rfl (fun _ henv => rn_move henv rfl) ?_
    refine gA (v := .int .i64 2) rfl rfl rfl rfl (fun _ henv => rn_bin henv rfl rfl rfl) ?_
    refine gA (v := .bool (((k + 1 : Nat) : Int) == (2 : Int))) rfl rfl rfl rfl (fun _ henv => rn_bin henv rfl rfl rfl) ?_
    intro a henv
    rw [show (((k + 1 : Nat) : Int) == (2 : Int)) = true from beq_iff_eq.2 (by omega)] at henv
    revert a
    refine gA (v := .bool true) rfl rfl rfl rfl (fun _ henv => rn_move henv rfl) ?_
    refine gA (v := .string ⟨(45 :: d).toArray⟩) rfl rfl rfl rfl (fun _ henv => rn_move henv rfl) ?_
    refine gA (v := .int .i64 1) rfl rfl rfl rfl (fun _ henv => rn_move henv rfl) ?_
    refine gA (v := .int .u8 (((45 :: d).getD 1 0).toNat : Nat)) rfl rfl rfl rfl (fun _ henv => rn_idxS (i := 1) henv Tryd.underlying9 rfl rfl (by omega)) ?_
    intro a henv
    rw [show (45 :: d).getD 1 0 = d.getD 0 0 from rfl] at henv
    refine seq_g rfl henv rfl rfl (op_val (v := .bool ((((d.getD 0 0).toNat : Nat) : Int) == (48 : Int))) henv rfl (rn_bin henv rfl rfl rfl) ?_)
    clear henv a; intro a henv
    rw [show ((((d.getD 0 0).toNat : Nat) : Int) == (48 : Int)) = true from beq_iff_eq.2 (by omega)] at henv
    revert a
    refine gA (v := .bool true) rfl rfl rfl rfl (fun _ henv => rn_pick henv rfl rfl) ?_
    refine sA (v := .bool true) rfl (fun _ henv => rn_pick henv rfl rfl) ?_
    intro a henv
    refine wpList_nil ?_
    refine th_n ?_
    refine if_t henv rfl (rfl) ?_
    refine wp_seq ?_
    refine region_seq ?_
    revert a
    refine sA (v := .agg #[.bool (neg 0), .slice none (dl 0) 0]) rfl (fun _ henv => rn_zref) ?_
    refine mA rfl rfl ?_
    intro a henv
    refine seq_step rfl (op_store (k := 1) (c' := #[.bool (neg 0), .slice none (dl 0) 0]) henv hst (ty_anvil_anvilref02_Int.size) rfl rfl rfl rfl (by simp) rfl rfl ?_)
    clear henv hst a; intro a w63 henv hst
    refine sv (v := .int .i64 (k + 1 : Nat)) henv rfl (rn_assign henv rfl) ?_
    clear henv a; intro a henv
    refine wpList_nil ?_
    refine th_n ?_
    refine wp_ret ?_
    refine th_r (bl_r (th_r (th_r (bl_r (th_r ?_)))))
    refine leave henv (res2 Tryd.results80 (RV.cell henv ty_anvil_anvilref02_Int rfl (hst.oat (k := 1) rfl) rfl) (RV.tmp henv rfl)) ?_
    subst hkb
    exact ⟨rfl, hst.below⟩
set_option maxRecDepth 100000 in
set_option maxHeartbeats 4000000 in
theorem rread_ok1 {d : List UInt8} {w0 : World} (hfb : Ok 1 d) (hl : d.length ≤ 100000) :
    Calls Tryd.prog 80 #[.string ⟨(45 :: d).toArray⟩] w0 fun e w' => ∃ v, e = .returned (.tuple #[v, .int .i64 (-1)]) ∧ RAt w' v (sg true (numOf d)) ∧ Below w0.heap.size w0 w' := by
  have hlen1 : (45 :: d).length = d.length + 1 := rfl
  have hdg := digits_of hfb.ok
  have hd0 := ok_first hfb
  obtain ⟨hl0, hd1, hd2, hd3⟩ := hd0
  refine enter Tryd.func80 rfl Tryd.ntmps80 rfl ?_
  intro a henv hst
  refine wp_seq ?_
  refine region_seq ?_
  refine seq_step rfl (op_alloc (c := #[.bool (neg 0), .slice none (dl 0) 0]) henv hst rfl zero_anvil_anvilref02_Int rcells ?_)
  clear henv hst a; intro a w2 g1 henv hst
  refine sv (v := .int .i64 0) henv rfl (rn_assign henv rfl) ?_
  clear henv a; intro a henv
  refine wpList_nil ?_
  refine th_n ?_
  refine wp_seq ?_
  refine region_seq ?_
  refine sv (v := .int .i64 0) henv rfl (rn_assign henv rfl) ?_
  clear henv a; intro a henv
  refine wpList_nil ?_
  refine th_n ?_
  refine wp_seq ?_
  refine wp_seq ?_
  refine region_seq ?_
  revert a
  refine mA rfl rfl ?_
  refine sA (v := .int .i64 ((45 :: d).length : Nat)) rfl (fun _ henv => rn_lenS henv Tryd.underlying9 rfl) ?_
  intro a henv
  rw [List.length_cons] at henv
  refine sv (v := .bool (decide (((d.length + 1 : Nat) : Int) > (0 : Int)))) henv rfl (rn_bin henv rfl rfl rfl) ?_
  clear henv a; intro a henv
  rw [show (decide (((d.length + 1 : Nat) : Int) > (0 : Int))) = true from decide_eq_true (by omega)] at henv
  revert a
  refine mA rfl rfl ?_
  refine gA (v := .string ⟨(45 :: d).toArray⟩) rfl rfl rfl rfl (fun _ henv => rn_move henv rfl) ?_
  refine gA (v := .int .u8 (((45 :: d).getD 0 0).toNat : Nat)) rfl rfl rfl rfl (fun _ henv => rn_idxS (i := 0) henv Tryd.underlying9 rfl rfl (by omega)) ?_
  intro a henv
  rw [List.getD_cons_zero] at henv
  refine seq_g rfl henv rfl rfl (op_val (v := .bool ((((45 : UInt8).toNat : Nat) : Int) == (45 : Int))) henv rfl (rn_bin henv rfl rfl rfl) ?_)
  clear henv a; intro a henv
  rw [show ((((45 : UInt8).toNat : Nat) : Int) == (45 : Int)) = true from rfl] at henv
  refine sv (v := .bool true) henv rfl (rn_pick henv rfl rfl) ?_
  clear henv a; intro a henv
  refine wpList_nil ?_
  refine th_n ?_
  refine if_t henv rfl (rfl) ?_
  refine region_seq ?_
  refine sv (v := .int .i64 1) henv rfl (rn_assign henv rfl) ?_
  clear henv a; intro a henv
  refine wpList_nil ?_
  refine th_n ?_
  refine wp_seq ?_
  refine wp_seq ?_
  refine region_seq ?_
  revert a
  refine mA rfl rfl ?_
  refine mA rfl rfl ?_
  refine sA (v := .int .i64 ((45 :: d).length : Nat)) rfl (fun _ henv => rn_lenS henv Tryd.underlying9 rfl) ?_
  intro a henv
  rw [List.length_cons] at henv
  refine sv (v := .bool (decide ((1 : Int) ≥ ((d.length + 1 : Nat) : Int)))) henv rfl (rn_bin henv rfl rfl rfl) ?_
  clear henv a; intro a henv
  rw [show (decide ((1 : Int) ≥ ((d.length + 1 : Nat) : Int))) = false from decide_eq_false (by omega)] at henv
  revert a
  refine mA rfl rfl ?_
  refine gA (v := .string ⟨(45 :: d).toArray⟩) rfl rfl rfl rfl (fun _ henv => rn_move henv rfl) ?_
  refine gA (v := .int .i64 1) rfl rfl rfl rfl (fun _ henv => rn_move henv rfl) ?_
  refine gA (v := .int .u8 (((45 :: d).getD 1 0).toNat : Nat)) rfl rfl rfl rfl (fun _ henv => rn_idxS (i := 1) henv Tryd.underlying9 rfl rfl (by omega)) ?_
  intro a henv
  rw [show (45 :: d).getD 1 0 = d.getD 0 0 from rfl] at henv
  refine seq_g rfl henv rfl rfl (op_val (v := .bool (decide ((((d.getD 0 0).toNat : Nat) : Int) < (48 : Int)))) henv rfl (rn_bin henv rfl rfl rfl) ?_)
  clear henv a; intro a henv
  rw [show (decide ((((d.getD 0 0).toNat : Nat) : Int) < (48 : Int))) = false from decide_eq_false (by omega)] at henv
  revert a
  refine sA (v := .bool false) rfl (fun _ henv => rn_pick henv rfl rfl) ?_
  refine mA rfl rfl ?_
  refine gA (v := .string ⟨(45 :: d).toArray⟩) rfl rfl rfl rfl (fun _ henv => rn_move henv rfl) ?_
  refine gA (v := .int .i64 1) rfl rfl rfl rfl (fun _ henv => rn_move henv rfl) ?_
  refine gA (v := .int .u8 (((45 :: d).getD 1 0).toNat : Nat)) rfl rfl rfl rfl (fun _ henv => rn_idxS (i := 1) henv Tryd.underlying9 rfl rfl (by omega)) ?_
  intro a henv
  rw [show (45 :: d).getD 1 0 = d.getD 0 0 from rfl] at henv
  refine seq_g rfl henv rfl rfl (op_val (v := .bool (decide ((((d.getD 0 0).toNat : Nat) : Int) > (57 : Int)))) henv rfl (rn_bin henv rfl rfl rfl) ?_)
  clear henv a; intro a henv
  rw [show (decide ((((d.getD 0 0).toNat : Nat) : Int) > (57 : Int))) = false from decide_eq_false (by omega)] at henv
  revert a
  refine sA (v := .bool false) rfl (fun _ henv => rn_pick henv rfl rfl) ?_
  refine mA rfl rfl ?_
  refine gA (v := .int .i64 1) rfl rfl rfl rfl (fun _ henv => rn_move henv rfl) ?_
  refine gA (v := .bool true) rfl rfl rfl rfl (fun _ henv => rn_bin henv rfl rfl rfl) ?_
  refine gA (v := .bool true) rfl rfl rfl rfl (fun _ henv => rn_move henv rfl) ?_
  refine gA (v := .string ⟨(45 :: d).toArray⟩) rfl rfl rfl rfl (fun _ henv => rn_move henv rfl) ?_
  refine gA (v := .int .u8 (((45 :: d).getD 1 0).toNat : Nat)) rfl rfl rfl rfl (fun _ henv => rn_idxS (i := 1) henv Tryd.underlying9 rfl rfl (by omega)) ?_
  intro a henv
  rw [show (45 :: d).getD 1 0 = d.getD 0 0 from rfl] at henv
  refine seq_g rfl henv rfl rfl (op_val (v := .bool ((((d.getD 0 0).toNat : Nat) : Int) == (48 : Int))) henv rfl (rn_bin henv rfl rfl rfl) ?_)
  clear henv a; intro a henv
  rw [show ((((d.getD 0 0).toNat : Nat) : Int) == (48 : Int)) = false from beq_eq_false_iff_ne.2 (by omega)] at henv
  revert a
  refine gA (v := .bool false) rfl rfl rfl rfl (fun _ henv => rn_pick henv rfl rfl) ?_
  refine sA (v := .bool false) rfl (fun _ henv => rn_pick henv rfl rfl) ?_
  intro a henv
  refine wpList_nil ?_
  refine th_n ?_
  refine if_f henv rfl (rfl) ?_
  refine wp_skip ?_
  refine th_n ?_
  refine wp_seq ?_
  refine region_seq ?_
  refine sv (v := .agg #[.bool (neg 0), .slice none (dl 0) 0]) henv rfl (rn_zref) ?_
  clear henv a; intro a henv
  refine seq_step rfl (op_alloc (c := #[.bool (neg 0), .slice none (dl 0) 0]) henv hst rfl zero_anvil_anvilref02_Int rcells ?_)
  clear henv hst a; intro a w4 g3 henv hst
  refine seq_step rfl (op_store (k := 0) (c' := #[.bool (neg 0), .slice none (dl 0) 0]) henv hst (ty_anvil_anvilref02_Int.size) rfl rfl rfl rfl (by simp) rfl rfl ?_)
  clear henv hst a; intro a w5 henv hst
  refine wpList_nil ?_
  refine th_n ?_
  refine wp_seq ?_
  refine wp_seq ?_
  refine region_seq ?_
  revert a
  refine mA rfl rfl ?_
  refine aA rfl rfl ?_
  intro a henv
  refine wpList_nil ?_
  refine th_n ?_
  refine wp_block ?_
  replace hst := hst.addR (rin_none _) ⟨nou_bk rfl, nou_bk rfl, trivial⟩
  refine wp_loop_ghost (fun mz a w => ∃ k : Nat, ∃ A1 : Option Addr, ∃ c1 : Nat, d.length - k = mz ∧ Env 89 a [(0, .string ⟨(45 :: d).toArray⟩), (2, .pointer (some ⟨g1, 0, none⟩)), (4, .int .i64 1), (5, .pointer (some ⟨g3, 0, none⟩)), (6, .int .i64 (k + 1 : Nat))] ∧ St w0 w [bk g3 #[.bool (neg ((numOf (d.take k) : Nat) : Int)), .slice A1 (dl ((numOf (d.take k) : Nat) : Int)) c1] 39, bk g1 #[.bool (neg 0), .slice none (dl 0) 0] 39] [pfR A1 c1 ((numOf (d.take k) : Nat) : Int)] ∧ k ≤ d.length) _ ⟨0, none, 0, rfl, henv.sub ⟨rfl, rfl, rfl, rfl, rfl, trivial⟩, hst.pick [0, 1] [0] (by decide), (Nat.zero_le _)⟩ ?_
  clear henv hst a
  rintro mz a w6 ⟨k, A1, c1, rfl, henv, hst, hk⟩
  have hkl : k ≤ d.length := by omega
  have hdl1 := dl_num (d := d) (k := k) hdg hkl
  rcases ok_split2 hfb k with ⟨hlt⟩ | ⟨hlt, h1, h2, hk0, h3⟩ | ⟨hlt, h1, h2, hk0, h3⟩ | ⟨hlt, h1, h2, hk0⟩
  · refine wp_seq ?_
    refine wp_seq ?_
    refine region_seq ?_
    revert a
    refine mA rfl rfl ?_
    refine mA rfl rfl ?_
    refine sA (v := .int .i64 ((45 :: d).length : Nat)) rfl (fun _ henv => rn_lenS henv Tryd.underlying9 rfl) ?_
    intro a henv
    rw [List.length_cons] at henv
    refine sv (v := .bool (decide (((k + 1 : Nat) : Int) < ((d.length + 1 : Nat) : Int)))) henv rfl (rn_bin henv rfl rfl rfl) ?_
    clear henv a; intro a henv
    rw [show (decide (((k + 1 : Nat) : Int) < ((d.length + 1 : Nat) : Int))) = false from decide_eq_false (by omega)] at henv
    refine wpList_nil ?_
    refine th_n ?_
    refine if_f henv rfl (rfl) ?_
    refine wp_exit ?_
    refine th_x (th_x (bl_x (th_n ?_)))
    refine wp_seq ?_
    obtain rfl : k = d.length := by omega
    rw [List.take_length] at hst
    refine region_seq ?_
    revert a
    refine mA rfl rfl ?_
    refine sA (v := .bool true) rfl (fun _ henv => rn_bin henv rfl rfl rfl) ?_
    refine sA (v := .pointer (some ⟨g3, 1, none⟩)) rfl (fun _ henv => rn_fieldAddr henv fd_anvil_anvilref02_Int_1 (ty__uint32.size) (by decide) rfl) ?_
    refine sA (v := .slice A1 (dl ((numOf d : Nat) : Int)) c1) rfl (fun _ henv => rn_load1 henv ty__uint32 rfl (hst.oat (k := 0) rfl) rfl) ?_
    intro a henv
    refine seq_step rfl (op_call henv rfl Tryd.call68 rfl (norm_num' (b := true) (N := numOf d) (show U32 _ A1 (dn (numOf d)) c1 (D (numOf d)) from hst.pat (k := 0) rfl)) ?_)
    rintro e w7 ⟨rfl, hz, hb⟩
    refine ⟨_, rfl, ?_⟩
    clear henv a; intro a henv
    replace hst := (hst.call hb).addR hz ⟨nou_bk rfl, nou_bk rfl, trivial⟩
    clear hz
    clear hb
    refine seq_step rfl (op_store (k := 1) (c' := #[.bool (neg (sg true (numOf d))), .slice A1 (dl (sg true (numOf d))) c1]) henv hst (ty_anvil_anvilref02_Int.size) rfl rfl rfl rfl (by simp) rfl rfl ?_)
    clear henv hst a; intro a w8 henv hst
    refine sv (v := .int .i64 (-1)) henv rfl (rn_assign henv rfl) ?_
    clear henv a; intro a henv
    refine wpList_nil ?_
    refine th_n ?_
    refine wp_ret ?_
    refine leave henv (res2 Tryd.results80 (RV.cell henv ty_anvil_anvilref02_Int rfl (hst.oat (k := 1) rfl) rfl) (RV.tmp henv rfl)) ?_
    exact ⟨_, rfl, ⟨A1, c1, rfl, hst.pat (k := 0) rfl⟩, hst.below⟩
  · refine wp_seq ?_
    refine wp_seq ?_
    refine region_seq ?_
    revert a
    refine mA rfl rfl ?_
    refine mA rfl rfl ?_
    refine sA (v := .int .i64 ((45 :: d).length : Nat)) rfl (fun _ henv => rn_lenS henv Tryd.underlying9 rfl) ?_
    intro a henv
    rw [List.length_cons] at henv
    refine sv (v := .bool (decide (((k + 1 : Nat) : Int) < ((d.length + 1 : Nat) : Int)))) henv rfl (rn_bin henv rfl rfl rfl) ?_
    clear henv a; intro a henv
    rw [show (decide (((k + 1 : Nat) : Int) < ((d.length + 1 : Nat) : Int))) = true from decide_eq_true (by omega)] at henv
    refine wpList_nil ?_
    refine th_n ?_
    refine if_t henv rfl (rfl) ?_
    refine wp_skip ?_
    refine th_n ?_
    refine wp_seq ?_
    refine wp_block ?_
    refine wp_seq ?_
    refine wp_seq ?_
    refine region_seq ?_
    revert a
    refine mA rfl rfl ?_
    refine mA rfl rfl ?_
    refine sA (v := .int .u8 (((45 :: d).getD (k + 1) 0).toNat : Nat)) rfl (fun _ henv => rn_idxS (i := k + 1) henv Tryd.underlying9 rfl rfl (by omega)) ?_
    intro a henv
    rw [List.getD_cons_succ] at henv
    refine sv (v := .bool (decide ((((d.getD k 0).toNat : Nat) : Int) < (48 : Int)))) henv rfl (rn_bin henv rfl rfl rfl) ?_
    clear henv a; intro a henv
    rw [show (decide ((((d.getD k 0).toNat : Nat) : Int) < (48 : Int))) = false from decide_eq_false (by omega)] at henv
    revert a
    refine mA rfl rfl ?_
    refine gA (v := .string ⟨(45 :: d).toArray⟩) rfl rfl rfl rfl (fun _ henv => rn_move henv rfl) ?_
    refine gA (v := .int .i64 (k + 1 : Nat)) rfl rfl rfl rfl (fun _ henv => rn_move henv rfl) ?_
    refine gA (v := .int .u8 (((45 :: d).getD (k + 1) 0).toNat : Nat)) rfl rfl rfl rfl (fun _ henv => rn_idxS (i := k + 1) henv Tryd.underlying9 rfl rfl (by omega)) ?_
    intro a henv
    rw [List.getD_cons_succ] at henv
    refine seq_g rfl henv rfl rfl (op_val (v := .bool (decide ((((d.getD k 0).toNat : Nat) : Int) > (57 : Int)))) henv rfl (rn_bin henv rfl rfl rfl) ?_)
    clear henv a; intro a henv
    rw [show (decide ((((d.getD k 0).toNat : Nat) : Int) > (57 : Int))) = false from decide_eq_false (by omega)] at henv
    revert a
    refine sA (v := .bool false) rfl (fun _ henv => rn_pick henv rfl rfl) ?_
    refine mA rfl rfl ?_
    refine gA (v := .int .i64 (k + 1 : Nat)) rfl rfl rfl rfl (fun _ henv => rn_move henv rfl) ?_
    refine gA (v := .int .i64 1) rfl rfl rfl rfl (fun _ henv => rn_move henv rfl) ?_
    refine gA (v := .int .i64 2) rfl rfl rfl rfl (fun _ henv => rn_bin henv rfl rfl rfl) ?_
    refine gA (v := .bool (((k + 1 : Nat) : Int) == (2 : Int))) rfl rfl rfl rfl (fun _ henv => rn_bin henv rfl rfl rfl) ?_
    intro a henv
    rw [show (((k + 1 : Nat) : Int) == (2 : Int)) = false from beq_eq_false_iff_ne.2 (by omega)] at henv
    revert a
    refine gA (v := .bool false) rfl rfl rfl rfl (fun _ henv => rn_move henv rfl) ?_
    refine kA rfl rfl rfl rfl rfl ?_
    refine kA rfl rfl rfl rfl rfl ?_
    refine kA rfl rfl rfl rfl rfl ?_
    refine kA rfl rfl rfl rfl rfl ?_
    refine gA (v := .bool false) rfl rfl rfl rfl (fun _ henv => rn_pick henv rfl rfl) ?_
    refine sA (v := .bool false) rfl (fun _ henv => rn_pick henv rfl rfl) ?_
    intro a henv
    refine wpList_nil ?_
    refine th_n ?_
    refine if_f henv rfl (rfl) ?_
    refine wp_skip ?_
    refine th_n ?_
    refine region_any (n := 11) (Sk [bk g1 #[.bool (neg 0), .slice none (dl 0) 0] 39] [pfR A1 c1 ((numOf (d.take k) : Nat) : Int)] [10] [bk g3 #[.bool (neg ((numOf (d.take k) : Nat) : Int)), .slice A1 (dl ((numOf (d.take k) : Nat) : Int)) c1] 39]) mixed rfl henv hst ?_
    clear henv hst; intro w9 henv hst
    refine sAny_take (i := 0) [2, 8, 9, 10] (fun w' => w'.heap[g3]? = some (.cells #[.bool (neg ((numOf (d.take k) : Nat) : Int)), .slice A1 (dl ((numOf (d.take k) : Nat) : Int)) c1] 39 (0, 0))) (v := .agg #[.bool (neg ((numOf (d.take k) : Nat) : Int)), .slice A1 (dl ((numOf (d.take k) : Nat) : Int)) c1]) rfl (by kernel_rfl) (fun _ _ _ h => h) (fun _ _ hj hS => (hS.two rfl hj).oat (k := 0) rfl) henv rfl (hst.oat (k := 0) rfl) (fun w' hg => rn_load0 henv ty_anvil_anvilref02_Int rfl hg rfl) ?_
    clear henv a; intro a henv
    refine tM (i := 3) (rg 5 6) rfl (by kernel_rfl) (fun _ _ _ h => h) henv rfl rfl ?_
    clear henv a; intro a henv
    refine tM (i := 4) (rg 5 6) rfl (by kernel_rfl) (fun _ _ _ h => h) henv rfl rfl ?_
    clear henv a; intro a henv
    refine tA (i := 5) (rg 6 5) (v := .int .u8 (((45 :: d).getD (k + 1) 0).toNat : Nat)) rfl (by kernel_rfl) (fun _ _ _ h => h) henv rfl (fun _ => rn_idxS (i := k + 1) henv Tryd.underlying9 rfl rfl (by omega)) ?_
    clear henv a; intro a henv
    rw [List.getD_cons_succ] at henv
    refine tA (i := 6) (rg 7 4) (v := .int .u8 (((d.getD k 0).toNat) - 48 : Nat)) rfl (by kernel_rfl) (fun _ _ _ h => h) henv rfl (fun _ => rn_sub henv rfl rfl (by rw [IntWalk.u8_in _ (by omega)]; omega)) ?_
    clear henv a; intro a henv
    refine tA (i := 7) [8, 9, 10] (v := .int .i64 (((d.getD k 0).toNat) - 48 : Nat)) rfl (by kernel_rfl) (fun _ _ _ h => h) henv rfl (fun _ => rn_conv henv rfl Tryd.underlying5 Tryd.underlying2 (IntWalk.i64_in _ (by omega))) ?_
    clear henv a; intro a henv
    refine sAny_one (i := 1) (by kernel_rfl) rfl rfl (op_call henv rfl Tryd.call36 rfl (of_r (n := (10 : Int)) (by omega) (by omega)) ?_)
    rintro e w13 ⟨_, rfl, ⟨A10, c11, rfl, hz12⟩, hb⟩
    refine ⟨_, rfl, ?_⟩
    clear henv a; intro a henv
    replace hst := (hst.call hb).addR hz12 ⟨nou_bk rfl, nou_bk rfl, trivial⟩
    clear hz12
    clear hb
    refine ⟨.inr ⟨hst.kn.pick [1] [1], .inr (hst.kn.pick [0] [])⟩, ?_⟩
    refine sAny_one (i := 2) (by kernel_rfl) rfl rfl (op_call henv rfl Tryd.call52 rfl (mul_r (x := ((numOf (d.take k) : Nat) : Int)) (y := 10) (show RIn _ A1 c1 ((numOf (d.take k) : Nat) : Int) from hst.pat (k := 1) rfl) (show RIn _ A10 c11 10 from hst.pat (k := 0) rfl) (by omega) (by have := dl_small (n := 10) (by decide) (by decide); omega)) ?_)
    rintro e w17 ⟨_, rfl, ⟨A14, c15, rfl, hz16⟩, hb⟩
    refine ⟨_, rfl, ?_⟩
    clear henv a; intro a henv
    replace hst := (hst.call hb).addR hz16 ⟨nou_bk rfl, nou_bk rfl, trivial⟩
    clear hz16
    clear hb
    refine ⟨.inr ⟨hst.kn.pick [1] [2], .inr (hst.kn.pick [0] [])⟩, ?_⟩
    refine sAny_one (i := 8) (by kernel_rfl) rfl rfl (op_call henv rfl Tryd.call36 rfl (of_r (n := (((d.getD k 0).toNat) - 48 : Nat)) (by omega) (by omega)) ?_)
    rintro e w21 ⟨_, rfl, ⟨A18, c19, rfl, hz20⟩, hb⟩
    refine ⟨_, rfl, ?_⟩
    clear henv a; intro a henv
    replace hst := (hst.call hb).addR hz20 ⟨nou_bk rfl, nou_bk rfl, trivial⟩
    clear hz20
    clear hb
    refine ⟨.inr ⟨hst.kn.pick [1] [3], .inr (hst.kn.pick [0] [])⟩, ?_⟩
    refine sAny_one (i := 9) (by kernel_rfl) rfl rfl (op_call henv rfl Tryd.call54 rfl (add_r (x := ((numOf (d.take k) : Nat) : Int) * 10) (y := (((d.getD k 0).toNat) - 48 : Nat)) (show RIn _ A14 c15 (((numOf (d.take k) : Nat) : Int) * 10) from hst.pat (k := 1) rfl) (show RIn _ A18 c19 (((d.getD k 0).toNat) - 48 : Nat) from hst.pat (k := 0) rfl) (by have h1 := dl_mul ((numOf (d.take k) : Nat) : Int) 10; have h2 := dl_small (n := 10) (by decide) (by decide); omega) (by have := dl_small (n := (((d.getD k 0).toNat) - 48 : Nat)) (by omega) (by omega); omega)) ?_)
    rintro e w25 ⟨_, rfl, ⟨A22, c23, rfl, hz24⟩, hb⟩
    refine ⟨_, rfl, ?_⟩
    clear henv a; intro a henv
    replace hst := (hst.call hb).addR hz24 ⟨nou_bk rfl, nou_bk rfl, trivial⟩
    clear hz24
    clear hb
    refine ⟨.inr ⟨hst.kn.pick [1] [4], .inr (hst.kn.pick [0] [])⟩, ?_⟩
    refine sAny_one (i := 10) (by kernel_rfl) rfl rfl (op_store (k := 0) (c' := #[.bool (neg ((((numOf (d.take k) : Nat) : Int) * 10) + (((d.getD k 0).toNat) - 48 : Nat))), .slice A22 (dl ((((numOf (d.take k) : Nat) : Int) * 10) + (((d.getD k 0).toNat) - 48 : Nat))) c23]) henv hst (ty_anvil_anvilref02_Int.size) rfl rfl rfl rfl (by simp) rfl rfl ?_)
    clear henv hst a; intro a w26 henv hst
    refine ⟨.inr ⟨hst.kn.pick [1] [4], .inl rfl⟩, ?_⟩
    refine sAny_done (by kernel_rfl) ?_ _
    refine bl_n (th_n ?_)
    refine region_seq ?_
    revert a
    refine mA rfl rfl ?_
    refine sA (v := .int .i64 ((k + 1) + 1 : Nat)) rfl (fun _ henv => rn_add henv rfl rfl (by rw [IntWalk.i64_in _ (by omega)]; omega)) ?_
    refine aA rfl rfl ?_
    intro a henv
    refine wpList_nil ?_
    rw [num_step hlt] at hst
    exact th_n ⟨_, (by omega), ⟨k + 1, A22, c23, rfl, henv.sub ⟨rfl, rfl, rfl, rfl, rfl, trivial⟩, hst.pick [0, 1] [0] (by decide), (by omega)⟩⟩
  · refine wp_seq ?_
    refine wp_seq ?_
    refine region_seq ?_
    revert a
    refine mA rfl rfl ?_
    refine mA rfl rfl ?_
    refine sA (v := .int .i64 ((45 :: d).length : Nat)) rfl (fun _ henv => rn_lenS henv Tryd.underlying9 rfl) ?_
    intro a henv
    rw [List.length_cons] at henv
    refine sv (v := .bool (decide (((k + 1 : Nat) : Int) < ((d.length + 1 : Nat) : Int)))) henv rfl (rn_bin henv rfl rfl rfl) ?_
    clear henv a; intro a henv
    rw [show (decide (((k + 1 : Nat) : Int) < ((d.length + 1 : Nat) : Int))) = true from decide_eq_true (by omega)] at henv
    refine wpList_nil ?_
    refine th_n ?_
    refine if_t henv rfl (rfl) ?_
    refine wp_skip ?_
    refine th_n ?_
    refine wp_seq ?_
    refine wp_block ?_
    refine wp_seq ?_
    refine wp_seq ?_
    refine region_seq ?_
    revert a
    refine mA rfl rfl ?_
    refine mA rfl rfl ?_
    refine sA (v := .int .u8 (((45 :: d).getD (k + 1) 0).toNat : Nat)) rfl (fun _ henv => rn_idxS (i := k + 1) henv Tryd.underlying9 rfl rfl (by omega)) ?_
    intro a henv
    rw [List.getD_cons_succ] at henv
    refine sv (v := .bool (decide ((((d.getD k 0).toNat : Nat) : Int) < (48 : Int)))) henv rfl (rn_bin henv rfl rfl rfl) ?_
    clear henv a; intro a henv
    rw [show (decide ((((d.getD k 0).toNat : Nat) : Int) < (48 : Int))) = false from decide_eq_false (by omega)] at henv
    revert a
    refine mA rfl rfl ?_
    refine gA (v := .string ⟨(45 :: d).toArray⟩) rfl rfl rfl rfl (fun _ henv => rn_move henv rfl) ?_
    refine gA (v := .int .i64 (k + 1 : Nat)) rfl rfl rfl rfl (fun _ henv => rn_move henv rfl) ?_
    refine gA (v := .int .u8 (((45 :: d).getD (k + 1) 0).toNat : Nat)) rfl rfl rfl rfl (fun _ henv => rn_idxS (i := k + 1) henv Tryd.underlying9 rfl rfl (by omega)) ?_
    intro a henv
    rw [List.getD_cons_succ] at henv
    refine seq_g rfl henv rfl rfl (op_val (v := .bool (decide ((((d.getD k 0).toNat : Nat) : Int) > (57 : Int)))) henv rfl (rn_bin henv rfl rfl rfl) ?_)
    clear henv a; intro a henv
    rw [show (decide ((((d.getD k 0).toNat : Nat) : Int) > (57 : Int))) = false from decide_eq_false (by omega)] at henv
    revert a
    refine sA (v := .bool false) rfl (fun _ henv => rn_pick henv rfl rfl) ?_
    refine mA rfl rfl ?_
    refine gA (v := .int .i64 (k + 1 : Nat)) rfl rfl rfl rfl (fun _ henv => rn_move henv rfl) ?_
    refine gA (v := .int .i64 1) rfl rfl rfl rfl (fun _ henv => rn_move henv rfl) ?_
    refine gA (v := .int .i64 2) rfl rfl rfl rfl (fun _ henv => rn_bin henv rfl rfl rfl) ?_
    refine gA (v := .bool (((k + 1 : Nat) : Int) == (2 : Int))) rfl rfl rfl rfl (fun _ henv => rn_bin henv rfl rfl rfl) ?_
    intro a henv
    rw [show (((k + 1 : Nat) : Int) == (2 : Int)) = true from beq_iff_eq.2 (by omega)] at henv
    revert a
    refine gA (v := .bool true) rfl rfl rfl rfl (fun _ henv => rn_move henv rfl) ?_
    refine gA (v := .string ⟨(45 :: d).toArray⟩) rfl rfl rfl rfl (fun _ henv => rn_move henv rfl) ?_
    refine gA (v := .int .i64 1) rfl rfl rfl rfl (fun _ henv => rn_move henv rfl) ?_
    refine gA (v := .int .u8 (((45 :: d).getD 1 0).toNat : Nat)) rfl rfl rfl rfl (fun _ henv => rn_idxS (i := 1) henv Tryd.underlying9 rfl rfl (by omega)) ?_
    intro a henv
    rw [show (45 :: d).getD 1 0 = d.getD 0 0 from rfl] at henv
    refine seq_g rfl henv rfl rfl (op_val (v := .bool ((((d.getD 0 0).toNat : Nat) : Int) == (48 : Int))) henv rfl (rn_bin henv rfl rfl rfl) ?_)
    clear henv a; intro a henv
    rw [show ((((d.getD 0 0).toNat : Nat) : Int) == (48 : Int)) = false from beq_eq_false_iff_ne.2 (by omega)] at henv
    revert a
    refine gA (v := .bool false) rfl rfl rfl rfl (fun _ henv => rn_pick henv rfl rfl) ?_
    refine sA (v := .bool false) rfl (fun _ henv => rn_pick henv rfl rfl) ?_
    intro a henv
    refine wpList_nil ?_
    refine th_n ?_
    refine if_f henv rfl (rfl) ?_
    refine wp_skip ?_
    refine th_n ?_
    refine region_any (n := 11) (Sk [bk g1 #[.bool (neg 0), .slice none (dl 0) 0] 39] [pfR A1 c1 ((numOf (d.take k) : Nat) : Int)] [10] [bk g3 #[.bool (neg ((numOf (d.take k) : Nat) : Int)), .slice A1 (dl ((numOf (d.take k) : Nat) : Int)) c1] 39]) mixed rfl henv hst ?_
    clear henv hst; intro w27 henv hst
    refine sAny_take (i := 0) [2, 8, 9, 10] (fun w' => w'.heap[g3]? = some (.cells #[.bool (neg ((numOf (d.take k) : Nat) : Int)), .slice A1 (dl ((numOf (d.take k) : Nat) : Int)) c1] 39 (0, 0))) (v := .agg #[.bool (neg ((numOf (d.take k) : Nat) : Int)), .slice A1 (dl ((numOf (d.take k) : Nat) : Int)) c1]) rfl (by kernel_rfl) (fun _ _ _ h => h) (fun _ _ hj hS => (hS.two rfl hj).oat (k := 0) rfl) henv rfl (hst.oat (k := 0) rfl) (fun w' hg => rn_load0 henv ty_anvil_anvilref02_Int rfl hg rfl) ?_
    clear henv a; intro a henv
    refine tM (i := 3) (rg 5 6) rfl (by kernel_rfl) (fun _ _ _ h => h) henv rfl rfl ?_
    clear henv a; intro a henv
    refine tM (i := 4) (rg 5 6) rfl (by kernel_rfl) (fun _ _ _ h => h) henv rfl rfl ?_
    clear henv a; intro a henv
    refine tA (i := 5) (rg 6 5) (v := .int .u8 (((45 :: d).getD (k + 1) 0).toNat : Nat)) rfl (by kernel_rfl) (fun _ _ _ h => h) henv rfl (fun _ => rn_idxS (i := k + 1) henv Tryd.underlying9 rfl rfl (by omega)) ?_
    clear henv a; intro a henv
    rw [List.getD_cons_succ] at henv
    refine tA (i := 6) (rg 7 4) (v := .int .u8 (((d.getD k 0).toNat) - 48 : Nat)) rfl (by kernel_rfl) (fun _ _ _ h => h) henv rfl (fun _ => rn_sub henv rfl rfl (by rw [IntWalk.u8_in _ (by omega)]; omega)) ?_
    clear henv a; intro a henv
    refine tA (i := 7) [8, 9, 10] (v := .int .i64 (((d.getD k 0).toNat) - 48 : Nat)) rfl (by kernel_rfl) (fun _ _ _ h => h) henv rfl (fun _ => rn_conv henv rfl Tryd.underlying5 Tryd.underlying2 (IntWalk.i64_in _ (by omega))) ?_
    clear henv a; intro a henv
    refine sAny_one (i := 1) (by kernel_rfl) rfl rfl (op_call henv rfl Tryd.call36 rfl (of_r (n := (10 : Int)) (by omega) (by omega)) ?_)
    rintro e w31 ⟨_, rfl, ⟨A28, c29, rfl, hz30⟩, hb⟩
    refine ⟨_, rfl, ?_⟩
    clear henv a; intro a henv
    replace hst := (hst.call hb).addR hz30 ⟨nou_bk rfl, nou_bk rfl, trivial⟩
    clear hz30
    clear hb
    refine ⟨.inr ⟨hst.kn.pick [1] [1], .inr (hst.kn.pick [0] [])⟩, ?_⟩
    refine sAny_one (i := 2) (by kernel_rfl) rfl rfl (op_call henv rfl Tryd.call52 rfl (mul_r (x := ((numOf (d.take k) : Nat) : Int)) (y := 10) (show RIn _ A1 c1 ((numOf (d.take k) : Nat) : Int) from hst.pat (k := 1) rfl) (show RIn _ A28 c29 10 from hst.pat (k := 0) rfl) (by omega) (by have := dl_small (n := 10) (by decide) (by decide); omega)) ?_)
    rintro e w35 ⟨_, rfl, ⟨A32, c33, rfl, hz34⟩, hb⟩
    refine ⟨_, rfl, ?_⟩
    clear henv a; intro a henv
    replace hst := (hst.call hb).addR hz34 ⟨nou_bk rfl, nou_bk rfl, trivial⟩
    clear hz34
    clear hb
    refine ⟨.inr ⟨hst.kn.pick [1] [2], .inr (hst.kn.pick [0] [])⟩, ?_⟩
    refine sAny_one (i := 8) (by kernel_rfl) rfl rfl (op_call henv rfl Tryd.call36 rfl (of_r (n := (((d.getD k 0).toNat) - 48 : Nat)) (by omega) (by omega)) ?_)
    rintro e w39 ⟨_, rfl, ⟨A36, c37, rfl, hz38⟩, hb⟩
    refine ⟨_, rfl, ?_⟩
    clear henv a; intro a henv
    replace hst := (hst.call hb).addR hz38 ⟨nou_bk rfl, nou_bk rfl, trivial⟩
    clear hz38
    clear hb
    refine ⟨.inr ⟨hst.kn.pick [1] [3], .inr (hst.kn.pick [0] [])⟩, ?_⟩
    refine sAny_one (i := 9) (by kernel_rfl) rfl rfl (op_call henv rfl Tryd.call54 rfl (add_r (x := ((numOf (d.take k) : Nat) : Int) * 10) (y := (((d.getD k 0).toNat) - 48 : Nat)) (show RIn _ A32 c33 (((numOf (d.take k) : Nat) : Int) * 10) from hst.pat (k := 1) rfl) (show RIn _ A36 c37 (((d.getD k 0).toNat) - 48 : Nat) from hst.pat (k := 0) rfl) (by have h1 := dl_mul ((numOf (d.take k) : Nat) : Int) 10; have h2 := dl_small (n := 10) (by decide) (by decide); omega) (by have := dl_small (n := (((d.getD k 0).toNat) - 48 : Nat)) (by omega) (by omega); omega)) ?_)
    rintro e w43 ⟨_, rfl, ⟨A40, c41, rfl, hz42⟩, hb⟩
    refine ⟨_, rfl, ?_⟩
    clear henv a; intro a henv
    replace hst := (hst.call hb).addR hz42 ⟨nou_bk rfl, nou_bk rfl, trivial⟩
    clear hz42
    clear hb
    refine ⟨.inr ⟨hst.kn.pick [1] [4], .inr (hst.kn.pick [0] [])⟩, ?_⟩
    refine sAny_one (i := 10) (by kernel_rfl) rfl rfl (op_store (k := 0) (c' := #[.bool (neg ((((numOf (d.take k) : Nat) : Int) * 10) + (((d.getD k 0).toNat) - 48 : Nat))), .slice A40 (dl ((((numOf (d.take k) : Nat) : Int) * 10) + (((d.getD k 0).toNat) - 48 : Nat))) c41]) henv hst (ty_anvil_anvilref02_Int.size) rfl rfl rfl rfl (by simp) rfl rfl ?_)
    clear henv hst a; intro a w44 henv hst
    refine ⟨.inr ⟨hst.kn.pick [1] [4], .inl rfl⟩, ?_⟩
    refine sAny_done (by kernel_rfl) ?_ _
    refine bl_n (th_n ?_)
    refine region_seq ?_
    revert a
    refine mA rfl rfl ?_
    refine sA (v := .int .i64 ((k + 1) + 1 : Nat)) rfl (fun _ henv => rn_add henv rfl rfl (by rw [IntWalk.i64_in _ (by omega)]; omega)) ?_
    refine aA rfl rfl ?_
    intro a henv
    refine wpList_nil ?_
    rw [num_step hlt] at hst
    exact th_n ⟨_, (by omega), ⟨k + 1, A40, c41, rfl, henv.sub ⟨rfl, rfl, rfl, rfl, rfl, trivial⟩, hst.pick [0, 1] [0] (by decide), (by omega)⟩⟩
  · refine wp_seq ?_
    refine wp_seq ?_
    refine region_seq ?_
    revert a
    refine mA rfl rfl ?_
    refine mA rfl rfl ?_
    refine sA (v := .int .i64 ((45 :: d).length : Nat)) rfl (fun _ henv => rn_lenS henv Tryd.underlying9 rfl) ?_
    intro a henv
    rw [List.length_cons] at henv
    refine sv (v := .bool (decide (((k + 1 : Nat) : Int) < ((d.length + 1 : Nat) : Int)))) henv rfl (rn_bin henv rfl rfl rfl) ?_
    clear henv a; intro a henv
    rw [show (decide (((k + 1 : Nat) : Int) < ((d.length + 1 : Nat) : Int))) = true from decide_eq_true (by omega)] at henv
    refine wpList_nil ?_
    refine th_n ?_
    refine if_t henv rfl (rfl) ?_
    refine wp_skip ?_
    refine th_n ?_
    refine wp_seq ?_
    refine wp_block ?_
    refine wp_seq ?_
    refine wp_seq ?_
    refine region_seq ?_
    revert a
    refine mA rfl rfl ?_
    refine mA rfl rfl ?_
    refine sA (v := .int .u8 (((45 :: d).getD (k + 1) 0).toNat : Nat)) rfl (fun _ henv => rn_idxS (i := k + 1) henv Tryd.underlying9 rfl rfl (by omega)) ?_
    intro a henv
    rw [List.getD_cons_succ] at henv
    refine sv (v := .bool (decide ((((d.getD k 0).toNat : Nat) : Int) < (48 : Int)))) henv rfl (rn_bin henv rfl rfl rfl) ?_
    clear henv a; intro a henv
    rw [show (decide ((((d.getD k 0).toNat : Nat) : Int) < (48 : Int))) = false from decide_eq_false (by omega)] at henv
    revert a
    refine mA rfl rfl ?_
    refine gA (v := .string ⟨(45 :: d).toArray⟩) rfl rfl rfl rfl (fun _ henv => rn_move henv rfl) ?_
    refine gA (v := .int .i64 (k + 1 : Nat)) rfl rfl rfl rfl (fun _ henv => rn_move henv rfl) ?_
    refine gA (v := .int .u8 (((45 :: d).getD (k + 1) 0).toNat : Nat)) rfl rfl rfl rfl (fun _ henv => rn_idxS (i := k + 1) henv Tryd.underlying9 rfl rfl (by omega)) ?_
    intro a henv
    rw [List.getD_cons_succ] at henv
    refine seq_g rfl henv rfl rfl (op_val (v := .bool (decide ((((d.getD k 0).toNat : Nat) : Int) > (57 : Int)))) henv rfl (rn_bin henv rfl rfl rfl) ?_)
    clear henv a; intro a henv
    rw [show (decide ((((d.getD k 0).toNat : Nat) : Int) > (57 : Int))) = false from decide_eq_false (by omega)] at henv
    revert a
    refine sA (v := .bool false) rfl (fun _ henv => rn_pick henv rfl rfl) ?_
    refine mA rfl rfl ?_
    refine gA (v := .int .i64 (k + 1 : Nat)) rfl rfl rfl rfl (fun _ henv => rn_move henv rfl) ?_
    refine gA (v := .int .i64 1) rfl rfl rfl rfl (fun _ henv => rn_move henv rfl) ?_
    refine gA (v := .int .i64 2) rfl rfl rfl rfl (fun _ henv => rn_bin henv rfl rfl rfl) ?_
    refine gA (v := .bool (((k + 1 : Nat) : Int) == (2 : Int))) rfl rfl rfl rfl (fun _ henv => rn_bin henv rfl rfl rfl) ?_
    intro a henv
    rw [show (((k + 1 : Nat) : Int) == (2 : Int)) = false from beq_eq_false_iff_ne.2 (by omega)] at henv
    revert a
    refine gA (v := .bool false) rfl rfl rfl rfl (fun _ henv => rn_move henv rfl) ?_
    refine kA rfl rfl rfl rfl rfl ?_
    refine kA rfl rfl rfl rfl rfl ?_
    refine kA rfl rfl rfl rfl rfl ?_
    refine kA rfl rfl rfl rfl rfl ?_
    refine gA (v := .bool false) rfl rfl rfl rfl (fun _ henv => rn_pick henv rfl rfl) ?_
    refine sA (v := .bool false) rfl (fun _ henv => rn_pick henv rfl rfl) ?_
    intro a henv
    refine wpList_nil ?_
    refine th_n ?_
    refine if_f henv rfl (rfl) ?_
    refine wp_skip ?_
    refine th_n ?_
    refine region_any (n := 11) (Sk [bk g1 #[.bool (neg 0), .slice none (dl 0) 0] 39] [pfR A1 c1 ((numOf (d.take k) : Nat) : Int)] [10] [bk g3 #[.bool (neg ((numOf (d.take k) : Nat) : Int)), .slice A1 (dl ((numOf (d.take k) : Nat) : Int)) c1] 39]) mixed rfl henv hst ?_
    clear henv hst; intro w45 henv hst
    refine sAny_take (i := 0) [2, 8, 9, 10] (fun w' => w'.heap[g3]? = some (.cells #[.bool (neg ((numOf (d.take k) : Nat) : Int)), .slice A1 (dl ((numOf (d.take k) : Nat) : Int)) c1] 39 (0, 0))) (v := .agg #[.bool (neg ((numOf (d.take k) : Nat) : Int)), .slice A1 (dl ((numOf (d.take k) : Nat) : Int)) c1]) rfl (by kernel_rfl) (fun _ _ _ h => h) (fun _ _ hj hS => (hS.two rfl hj).oat (k := 0) rfl) henv rfl (hst.oat (k := 0) rfl) (fun w' hg => rn_load0 henv ty_anvil_anvilref02_Int rfl hg rfl) ?_
    clear henv a; intro a henv
    refine tM (i := 3) (rg 5 6) rfl (by kernel_rfl) (fun _ _ _ h => h) henv rfl rfl ?_
    clear henv a; intro a henv
    refine tM (i := 4) (rg 5 6) rfl (by kernel_rfl) (fun _ _ _ h => h) henv rfl rfl ?_
    clear henv a; intro a henv
    refine tA (i := 5) (rg 6 5) (v := .int .u8 (((45 :: d).getD (k + 1) 0).toNat : Nat)) rfl (by kernel_rfl) (fun _ _ _ h => h) henv rfl (fun _ => rn_idxS (i := k + 1) henv Tryd.underlying9 rfl rfl (by omega)) ?_
    clear henv a; intro a henv
    rw [List.getD_cons_succ] at henv
    refine tA (i := 6) (rg 7 4) (v := .int .u8 (((d.getD k 0).toNat) - 48 : Nat)) rfl (by kernel_rfl) (fun _ _ _ h => h) henv rfl (fun _ => rn_sub henv rfl rfl (by rw [IntWalk.u8_in _ (by omega)]; omega)) ?_
    clear henv a; intro a henv
    refine tA (i := 7) [8, 9, 10] (v := .int .i64 (((d.getD k 0).toNat) - 48 : Nat)) rfl (by kernel_rfl) (fun _ _ _ h => h) henv rfl (fun _ => rn_conv henv rfl Tryd.underlying5 Tryd.underlying2 (IntWalk.i64_in _ (by omega))) ?_
    clear henv a; intro a henv
    refine sAny_one (i := 1) (by kernel_rfl) rfl rfl (op_call henv rfl Tryd.call36 rfl (of_r (n := (10 : Int)) (by omega) (by omega)) ?_)
    rintro e w49 ⟨_, rfl, ⟨A46, c47, rfl, hz48⟩, hb⟩
    refine ⟨_, rfl, ?_⟩
    clear henv a; intro a henv
    replace hst := (hst.call hb).addR hz48 ⟨nou_bk rfl, nou_bk rfl, trivial⟩
    clear hz48
    clear hb
    refine ⟨.inr ⟨hst.kn.pick [1] [1], .inr (hst.kn.pick [0] [])⟩, ?_⟩
    refine sAny_one (i := 2) (by kernel_rfl) rfl rfl (op_call henv rfl Tryd.call52 rfl (mul_r (x := ((numOf (d.take k) : Nat) : Int)) (y := 10) (show RIn _ A1 c1 ((numOf (d.take k) : Nat) : Int) from hst.pat (k := 1) rfl) (show RIn _ A46 c47 10 from hst.pat (k := 0) rfl) (by omega) (by have := dl_small (n := 10) (by decide) (by decide); omega)) ?_)
    rintro e w53 ⟨_, rfl, ⟨A50, c51, rfl, hz52⟩, hb⟩
    refine ⟨_, rfl, ?_⟩
    clear henv a; intro a henv
    replace hst := (hst.call hb).addR hz52 ⟨nou_bk rfl, nou_bk rfl, trivial⟩
    clear hz52
    clear hb
    refine ⟨.inr ⟨hst.kn.pick [1] [2], .inr (hst.kn.pick [0] [])⟩, ?_⟩
    refine sAny_one (i := 8) (by kernel_rfl) rfl rfl (op_call henv rfl Tryd.call36 rfl (of_r (n := (((d.getD k 0).toNat) - 48 : Nat)) (by omega) (by omega)) ?_)
    rintro e w57 ⟨_, rfl, ⟨A54, c55, rfl, hz56⟩, hb⟩
    refine ⟨_, rfl, ?_⟩
    clear henv a; intro a henv
    replace hst := (hst.call hb).addR hz56 ⟨nou_bk rfl, nou_bk rfl, trivial⟩
    clear hz56
    clear hb
    refine ⟨.inr ⟨hst.kn.pick [1] [3], .inr (hst.kn.pick [0] [])⟩, ?_⟩
    refine sAny_one (i := 9) (by kernel_rfl) rfl rfl (op_call henv rfl Tryd.call54 rfl (add_r (x := ((numOf (d.take k) : Nat) : Int) * 10) (y := (((d.getD k 0).toNat) - 48 : Nat)) (show RIn _ A50 c51 (((numOf (d.take k) : Nat) : Int) * 10) from hst.pat (k := 1) rfl) (show RIn _ A54 c55 (((d.getD k 0).toNat) - 48 : Nat) from hst.pat (k := 0) rfl) (by have h1 := dl_mul ((numOf (d.take k) : Nat) : Int) 10; have h2 := dl_small (n := 10) (by decide) (by decide); omega) (by have := dl_small (n := (((d.getD k 0).toNat) - 48 : Nat)) (by omega) (by omega); omega)) ?_)
    rintro e w61 ⟨_, rfl, ⟨A58, c59, rfl, hz60⟩, hb⟩
    refine ⟨_, rfl, ?_⟩
    clear henv a; intro a henv
    replace hst := (hst.call hb).addR hz60 ⟨nou_bk rfl, nou_bk rfl, trivial⟩
    clear hz60
    clear hb
    refine ⟨.inr ⟨hst.kn.pick [1] [4], .inr (hst.kn.pick [0] [])⟩, ?_⟩
    refine sAny_one (i := 10) (by kernel_rfl) rfl rfl (op_store (k := 0) (c' := #[.bool (neg ((((numOf (d.take k) : Nat) : Int) * 10) + (((d.getD k 0).toNat) - 48 : Nat))), .slice A58 (dl ((((numOf (d.take k) : Nat) : Int) * 10) + (((d.getD k 0).toNat) - 48 : Nat))) c59]) henv hst (ty_anvil_anvilref02_Int.size) rfl rfl rfl rfl (by simp) rfl rfl ?_)
    clear henv hst a; intro a w62 henv hst
    refine ⟨.inr ⟨hst.kn.pick [1] [4], .inl rfl⟩, ?_⟩
    refine sAny_done (by kernel_rfl) ?_ _
    refine bl_n (th_n ?_)
    refine region_seq ?_
    revert a
    refine mA rfl rfl ?_
    refine sA (v := .int .i64 ((k + 1) + 1 : Nat)) rfl (fun _ henv => rn_add henv rfl rfl (by rw [IntWalk.i64_in _ (by omega)]; omega)) ?_
    refine aA rfl rfl ?_
    intro a henv
    refine wpList_nil ?_
    rw [num_step hlt] at hst
    exact th_n ⟨_, (by omega), ⟨k + 1, A58, c59, rfl, henv.sub ⟨rfl, rfl, rfl, rfl, rfl, trivial⟩, hst.pick [0, 1] [0] (by decide), (by omega)⟩⟩
end Go.Proofs.YtghaenkacjgdnaaDoor.W

/- IntegerTexts, IntegerReads: the laws' walks. Printed by pv/gen_ilaw.py. No condition. -/
namespace Go.Proofs.YtghaenkacjgdnaaDoor.W
open Go.RowKit Anv Go.Lib
theorem sign_cases (t : List UInt8) : (t.getD 0 0).toNat ≠ 45 ∨ ∃ d, t = 45 :: d := by
  cases t with
  | nil => exact .inl (by decide)
  | cons c d =>
    by_cases h : c.toNat = 45
    · exact .inr ⟨d, by rw [UInt8.toNat_inj.1 (h.trans (show (45 : Nat) = (45 : UInt8).toNat from rfl))]⟩
    · exact .inl h
theorem iread_fb0 {d : List UInt8} {b : Nat} {w0 : World} (h45 : (d.getD 0 0).toNat ≠ 45) (hl : d.length + 0 ≤ 65536) (hfb : Fb 0 d b) :
    Calls Tryd.prog 99 #[.string ⟨d.toArray⟩] w0 fun e w' => e = .returned (.tuple #[.agg #[.bool (neg 0), .slice none (zl 0) 0], .agg #[.int .i64 6, .int .i64 (b : Nat)]]) ∧ Below w0.heap.size w0 w' := by
  by_cases hd : d = []
  · have hb : b = 0 := by rcases hfb.1 with h | h; rw [hd] at h; simp at h; exact h.1
    subst hb
    exact iread_empty hd
  · exact iread_bad0 h45 hl hd hfb
theorem iread_fb1 {d : List UInt8} {b : Nat} {w0 : World} (hl : d.length + 1 ≤ 65536) (hfb : Fb 1 d b) :
    Calls Tryd.prog 99 #[.string ⟨(45 :: d).toArray⟩] w0 fun e w' => e = .returned (.tuple #[.agg #[.bool (neg 0), .slice none (zl 0) 0], .agg #[.int .i64 6, .int .i64 (b + 1 : Nat)]]) ∧ Below w0.heap.size w0 w' :=
  iread_bad1 hl hfb
theorem rread_fb0 {d : List UInt8} {b : Nat} {w0 : World} (h45 : (d.getD 0 0).toNat ≠ 45) (hl : d.length ≤ 100000) (hfb : Fb 0 d b) :
    Calls Tryd.prog 80 #[.string ⟨d.toArray⟩] w0 fun e w' => e = .returned (.tuple #[.agg #[.bool (neg 0), .slice none (dl 0) 0], .int .i64 (b : Nat)]) ∧ Below w0.heap.size w0 w' := by
  rcases Nat.eq_zero_or_pos b with rfl | hb
  · rcases hfb.1 with ⟨h1, h2⟩ | ⟨_, h2⟩
    · unfold BadD at h2
      rcases (show (d.getD 0 0).toNat < 48 ∨ 57 < (d.getD 0 0).toNat by omega) with h3 | h3
      · exact rread_lo0 h45 h1 h3 hl
      · exact rread_hi0 h45 h1 h3 hl
    · exact rread_empty0 h2
  · exact rread_bad0 h45 hfb hb hl
theorem rread_fb1 {d : List UInt8} {b : Nat} {w0 : World} (hl : d.length ≤ 100000) (hfb : Fb 1 d b) :
    Calls Tryd.prog 80 #[.string ⟨(45 :: d).toArray⟩] w0 fun e w' => e = .returned (.tuple #[.agg #[.bool (neg 0), .slice none (dl 0) 0], .int .i64 (b + 1 : Nat)]) ∧ Below w0.heap.size w0 w' := by
  rcases Nat.eq_zero_or_pos b with rfl | hb
  · rcases hfb.1 with ⟨h1, h2⟩ | ⟨_, h2⟩
    · unfold BadD at h2
      rcases (show (d.getD 0 0).toNat < 48 ∨ 57 < (d.getD 0 0).toNat ∨ (d.getD 0 0).toNat = 48 by omega) with h3 | h3 | h3
      · exact rread_lo1 h1 h3 hl
      · exact rread_hi1 h1 h3 hl
      · exact rread_z1 h1 h3 hl
    · exact rread_empty1 h2
  · exact rread_bad1 hfb hb hl
theorem ok_textN (N f : Nat) (h : f = 1 → 0 < N) : Ok f (textN N) := by
  refine ⟨List.length_pos_iff.2 (textN_ne N), fun q hq hb => ?_⟩
  have h1 := textN_ok N q hq
  unfold BadAt at h1
  unfold BadD at hb
  have h2 : ¬ (q = 0 ∧ f = 1 ∧ ((textN N).getD 0 0).toNat = 48) := fun ⟨_, h3, h4⟩ => textN_head (h h3) h4
  omega
theorem neg_sg {b : Bool} {N : Nat} (h : b = true → 0 < N) : neg (sg b N) = b := by
  rw [sg_neg]
  cases b
  · rfl
  · simp [h rfl]
theorem textZ_sg {b : Bool} {N : Nat} (h : b = true → 0 < N) : textZ (sg b N) = (if b then [45] else []) ++ textN N := by
  unfold textZ
  rw [neg_sg h, sg_abs]
theorem textZ_cases (z : Int) : (neg z = true ∧ 0 < z.natAbs ∧ textZ z = 45 :: textN z.natAbs ∧ sg true z.natAbs = z) ∨ (neg z = false ∧ textZ z = textN z.natAbs ∧ sg false z.natAbs = z) := by
  have hs := sg_self z
  unfold textZ
  cases h : neg z with
  | true =>
    refine .inl ⟨rfl, ?_, rfl, by rw [← h]; exact hs⟩
    unfold neg at h
    have := of_decide_eq_true h
    omega
  | false => exact .inr ⟨rfl, rfl, by rw [← h]; exact hs⟩
theorem pos_num {d : List UInt8} (h : Ok 1 d) : 0 < numOf d := by
  rcases Nat.eq_zero_or_pos (numOf d) with h0 | h0
  · have h1 := textN_numOf _ d rfl h.ne h.ok
    rw [h0, textN_zero] at h1
    have h2 := (ok_first h).2.2.2 rfl
    rw [← h1] at h2
    exact absurd rfl h2
  · exact h0
theorem textZ_back0 {d : List UInt8} (h : Ok 0 d) : textZ (sg false (numOf d)) = d := by
  rw [textZ_sg (fun e => by cases e)]
  exact textN_numOf _ d rfl h.ne h.ok
theorem textZ_back1 {d : List UInt8} (h : Ok 1 d) : textZ (sg true (numOf d)) = 45 :: d := by
  rw [textZ_sg (fun _ => pos_num h), textN_numOf _ d rfl h.ne h.ok]
  rfl
theorem zl_num0 {d : List UInt8} (h : ∀ c ∈ d, 48 ≤ c.toNat ∧ c.toNat ≤ 57) : zl (sg false (numOf d)) ≤ d.length + 1 := by
  rw [sg_zl]
  have h1 := numOf_lt (l := d) fun c hc => (h c hc).2
  refine nl_le_of_lt (Nat.lt_of_lt_of_le h1 ?_)
  exact Nat.le_trans (Nat.pow_le_pow_left (show 10 ≤ 4294967296 by decide) _) (Nat.pow_le_pow_right (by decide) (by omega))
theorem zl_num1 {d : List UInt8} (h : ∀ c ∈ d, 48 ≤ c.toNat ∧ c.toNat ≤ 57) : zl (sg true (numOf d)) ≤ d.length + 1 := by
  have := zl_num0 h
  rw [sg_zl] at this ⊢
  exact this
end Go.Proofs.YtghaenkacjgdnaaDoor.W
