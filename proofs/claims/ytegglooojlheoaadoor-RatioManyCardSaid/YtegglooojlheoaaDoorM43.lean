/- The reference's reading of a number. Printed by pv/gen_iread.py. No condition. -/
import Derived.Test.YtegglooojlheoaaDoorM42
import Derived.Test.YtegglooojlheoaaDoorM15

set_option maxRecDepth 100000
set_option maxHeartbeats 4000000
namespace Go.Proofs.YtegglooojlheoaaDoor.W
open Go.RowKit Anv Go.Lib
theorem fb_le {f b : Nat} {d : List UInt8} (h : Fb f d b) : b ≤ d.length := by rcases h.1 with h1 | h1 <;> omega
theorem fb_first {f b : Nat} {d : List UInt8} (h : Fb f d b) (hb : 0 < b) : 0 < d.length ∧ 48 ≤ (d.getD 0 0).toNat ∧ (d.getD 0 0).toNat ≤ 57 ∧ (f = 1 → (d.getD 0 0).toNat ≠ 48) := by
 obtain ⟨h1, h2, _, h4⟩ := not_bad (h.2 0 hb)
 have := fb_le h
 exact ⟨by omega, h1, h2, h4 rfl⟩
theorem ok_first {f : Nat} {d : List UInt8} (h : Ok f d) : 0 < d.length ∧ 48 ≤ (d.getD 0 0).toNat ∧ (d.getD 0 0).toNat ≤ 57 ∧ (f = 1 → (d.getD 0 0).toNat ≠ 48) := by
 obtain ⟨h1, h2, _, h4⟩ := not_bad (h.2 0 h.1)
 exact ⟨h.1, h1, h2, h4 rfl⟩
theorem bad_split3 {f b k : Nat} {d : List UInt8} (h : Fb f d b) (hk : k ≤ b) (hb0 : 0 < b) :
  (k < d.length ∧ 48 ≤ (d.getD k 0).toNat ∧ (d.getD k 0).toNat ≤ 57 ∧ k = 0 ∧ (f = 1 → (d.getD 0 0).toNat ≠ 48) ∧ k < b) ∨
  (k < d.length ∧ 48 ≤ (d.getD k 0).toNat ∧ (d.getD k 0).toNat ≤ 57 ∧ k = 1 ∧ (d.getD 0 0).toNat ≠ 48 ∧ k < b) ∨
  (k < d.length ∧ 48 ≤ (d.getD k 0).toNat ∧ (d.getD k 0).toNat ≤ 57 ∧ 1 < k ∧ k < b) ∨
  (k = b ∧ k < d.length ∧ (d.getD k 0).toNat < 48 ∧ 0 < k) ∨ (k = b ∧ k < d.length ∧ 57 < (d.getD k 0).toNat ∧ 0 < k) ∨
  (k = b ∧ k < d.length ∧ 48 ≤ (d.getD k 0).toNat ∧ (d.getD k 0).toNat ≤ 57 ∧ k = 1 ∧ (d.getD 0 0).toNat = 48) := by
 rcases bad_split2 h hk with h | h | h | h | h | h | h | h | h | h
 ·exact .inl h
 ·exact .inr (.inl h)
 ·exact .inr (.inr (.inl h))
 ·omega
 ·omega
 ·exact .inr (.inr (.inr (.inl h)))
 ·omega
 ·exact .inr (.inr (.inr (.inr (.inl h))))
 ·exact .inr (.inr (.inr (.inr (.inr h))))
 ·omega
theorem dl_num {d : List UInt8} {k : Nat} (h : ∀ c ∈ d, 48 ≤ c.toNat ∧ c.toNat ≤ 57) (_hk : k ≤ d.length) : dl ((numOf (d.take k) : Nat) : Int) ≤ d.length + 1 := by
 have h1 := numOf_lt (l := d.take k) fun c hc => (h c (List.mem_of_mem_take hc)).2
 have h2 : (d.take k).length ≤ d.length := List.length_take_le' _ _
 unfold dl
 rw [Int.natAbs_natCast]
 refine dn_le_of_lt (Nat.lt_of_lt_of_le h1 ?_)
 exact Nat.le_trans (Nat.pow_le_pow_left (show 10 ≤ 65536 by decide) _) (Nat.pow_le_pow_right (by decide) (by omega))
theorem dl_num2 {f b k : Nat} {d : List UInt8} (h : Fb f d b) (hk : k ≤ b) : dl ((numOf (d.take k) : Nat) : Int) ≤ d.length + 1 := by
 have hdg : ∀ c ∈ d.take k, 48 ≤ c.toNat ∧ c.toNat ≤ 57 := by
  intro c hc
  obtain ⟨i, hi, rfl⟩ := List.getElem_of_mem hc
  have hi' : i < k ∧ i < d.length := by rw [List.length_take] at hi; omega
  have h1 := not_bad (h.2 i (by omega))
  have e : (d.take k)[i] = d.getD i 0 := by simp [List.getD, hi'.2]
  rw [e]
  exact ⟨h1.1, h1.2.1⟩
 have h2 := dl_num (d := d.take k) (k := (d.take k).length) hdg (Nat.le_refl _)
 rw [List.take_length] at h2
 have h3 : (d.take k).length ≤ d.length := List.length_take_le' _ _
 omega
theorem num_step {d : List UInt8} {k : Nat} (h : k < d.length) : ((numOf (d.take k) : Nat) : Int) * 10 + (((d.getD k 0).toNat - 48 : Nat) : Int) = ((numOf (d.take (k + 1)) : Nat) : Int) := by
 rw [numOf_take_succ h, Int.natCast_add, Int.natCast_mul]
 rfl
theorem rread_empty0 {d : List UInt8} {w0 : World} (hl0 : d.length = 0) :
  Calls Tryd.prog 115 #[.string ⟨d.toArray⟩] w0 fun e w' => e = .returned (.tuple #[.agg #[.bool (neg 0), .slice none (dl 0) 0], .int .i64 0]) ∧ Below w0.heap.size w0 w' := by
 refine enter Tryd.func115 rfl Tryd.ntmps115 rfl ?_
 intro a η σ
 refine wp_seq (region_seq ?_)
 refine seq_step rfl (op_alloc (c := #[.bool (neg 0), .slice none (dl 0) 0]) η σ rfl zero_anvil_anvilref02_Int rcells ?_)
 clear η σ a; intro a w2 g1 η σ
 refine sv (v := .int .i64 0) η rfl (rn_assign η rfl) ?_
 clear η a; intro a η
 refine wpList_nil (th_n (wp_seq (region_seq ?_)))
 refine sv (v := .int .i64 0) η rfl (rn_assign η rfl) ?_
 clear η a; intro a η
 refine wpList_nil (th_n (wp_seq (wp_seq (region_seq ?_))))
 revert a
 refine mA rfl rfl ?_
 refine sA (v := .int .i64 (d.length : Nat)) rfl (fun _ η => rn_lenS η Tryd.underlying9 rfl) ?_
 refine sA (v := .bool (decide (((d.length : Nat) : Int) > (0 : Int)))) rfl (fun _ η => rn_bin η rfl rfl rfl) ?_
 intro a η
 rw [show (decide (((d.length : Nat) : Int) > (0 : Int))) = false from decide_eq_false (by omega)] at η
 revert a
 refine mA rfl rfl ?_
 refine kA rfl rfl rfl rfl rfl ?_
 refine kA rfl rfl rfl rfl rfl ?_
 refine kA rfl rfl rfl rfl rfl ?_
 refine sA (v := .bool false) rfl (fun _ η => rn_pick η rfl rfl) ?_
 intro a η
 refine wpList_nil (th_n ?_)
 refine if_f η rfl (rfl) ?_
 refine wp_skip (th_n (wp_seq (wp_seq (region_seq ?_))))
 revert a
 refine mA rfl rfl ?_
 refine mA rfl rfl ?_
 refine sA (v := .int .i64 (d.length : Nat)) rfl (fun _ η => rn_lenS η Tryd.underlying9 rfl) ?_
 refine sA (v := .bool (decide ((0 : Int) ≥ ((d.length : Nat) : Int)))) rfl (fun _ η => rn_bin η rfl rfl rfl) ?_
 intro a η
 rw [show (decide ((0 : Int) ≥ ((d.length : Nat) : Int))) = true from decide_eq_true (by omega)] at η
 revert a
 refine mA rfl rfl ?_
 refine kA rfl rfl rfl rfl rfl ?_
 refine kA rfl rfl rfl rfl rfl ?_
 refine kA rfl rfl rfl rfl rfl ?_
 refine kA rfl rfl rfl rfl rfl ?_
 refine sA (v := .bool true) rfl (fun _ η => rn_pick η rfl rfl) ?_
 refine mA rfl rfl ?_
 refine kA rfl rfl rfl rfl rfl ?_
 refine kA rfl rfl rfl rfl rfl ?_
 refine kA rfl rfl rfl rfl rfl ?_
 refine kA rfl rfl rfl rfl rfl ?_
 refine sA (v := .bool true) rfl (fun _ η => rn_pick η rfl rfl) ?_
 refine mA rfl rfl ?_
 refine kA rfl rfl rfl rfl rfl ?_
 refine kA rfl rfl rfl rfl rfl ?_
 refine kA rfl rfl rfl rfl rfl ?_
 refine kA rfl rfl rfl rfl rfl ?_
 refine kA rfl rfl rfl rfl rfl ?_
 refine kA rfl rfl rfl rfl rfl ?_
 refine kA rfl rfl rfl rfl rfl ?_
 refine sA (v := .bool true) rfl (fun _ η => rn_pick η rfl rfl) ?_
 intro a η
 refine wpList_nil (th_n ?_)
 refine if_t η rfl (rfl) ?_
 refine wp_seq (region_seq ?_)
 revert a
 refine sA (v := .agg #[.bool (neg 0), .slice none (dl 0) 0]) rfl (fun _ η => rn_zref) ?_
 refine mA rfl rfl ?_
 intro a η
 refine seq_step rfl (op_store (k := 0) (c' := #[.bool (neg 0), .slice none (dl 0) 0]) η σ (ty_anvil_anvilref02_Int.size) rfl rfl rfl rfl (by simp) rfl rfl ?_)
 clear η σ a; intro a w3 η σ
 refine sv (v := .int .i64 0) η rfl (rn_assign η rfl) ?_
 clear η a; intro a η
 refine wpList_nil (th_n (wp_ret (th_r ?_)))
 refine leave η (res2 Tryd.results115 (RV.cell η ty_anvil_anvilref02_Int rfl (σ.oat (k := 0) rfl) rfl) (RV.tmp η rfl)) ?_
 exact ⟨rfl, σ.below⟩
theorem rread_lo0 {d : List UInt8} {w0 : World} (h45 : (d.getD 0 0).toNat ≠ 45) (hl0 : 0 < d.length) (h1 : (d.getD 0 0).toNat < 48) (hl : d.length ≤ 100000) :
  Calls Tryd.prog 115 #[.string ⟨d.toArray⟩] w0 fun e w' => e = .returned (.tuple #[.agg #[.bool (neg 0), .slice none (dl 0) 0], .int .i64 0]) ∧ Below w0.heap.size w0 w' := by
 refine enter Tryd.func115 rfl Tryd.ntmps115 rfl ?_
 intro a η σ
 refine wp_seq (region_seq ?_)
 refine seq_step rfl (op_alloc (c := #[.bool (neg 0), .slice none (dl 0) 0]) η σ rfl zero_anvil_anvilref02_Int rcells ?_)
 clear η σ a; intro a w2 g1 η σ
 refine sv (v := .int .i64 0) η rfl (rn_assign η rfl) ?_
 clear η a; intro a η
 refine wpList_nil (th_n (wp_seq (region_seq ?_)))
 refine sv (v := .int .i64 0) η rfl (rn_assign η rfl) ?_
 clear η a; intro a η
 refine wpList_nil (th_n (wp_seq (wp_seq (region_seq ?_))))
 revert a
 refine mA rfl rfl ?_
 refine sA (v := .int .i64 (d.length : Nat)) rfl (fun _ η => rn_lenS η Tryd.underlying9 rfl) ?_
 refine sA (v := .bool (decide (((d.length : Nat) : Int) > (0 : Int)))) rfl (fun _ η => rn_bin η rfl rfl rfl) ?_
 intro a η
 rw [show (decide (((d.length : Nat) : Int) > (0 : Int))) = true from decide_eq_true (by omega)] at η
 revert a
 refine mA rfl rfl ?_
 refine gA (v := .string ⟨d.toArray⟩) rfl rfl rfl rfl (fun _ η => rn_move η rfl) ?_
 refine gA (v := .int .u8 ((d.getD 0 0).toNat : Nat)) rfl rfl rfl rfl (fun _ η => rn_idxS (i := 0) η Tryd.underlying9 rfl rfl (by omega)) ?_
 refine gA (v := .bool ((((d.getD 0 0).toNat : Nat) : Int) == (45 : Int))) rfl rfl rfl rfl (fun _ η => rn_bin η rfl rfl rfl) ?_
 intro a η
 rw [show ((((d.getD 0 0).toNat : Nat) : Int) == (45 : Int)) = false from beq_eq_false_iff_ne.2 (by omega)] at η
 refine sv (v := .bool false) η rfl (rn_pick η rfl rfl) ?_
 clear η a; intro a η
 refine wpList_nil (th_n ?_)
 refine if_f η rfl (rfl) ?_
 refine wp_skip (th_n (wp_seq (wp_seq (region_seq ?_))))
 revert a
 refine mA rfl rfl ?_
 refine mA rfl rfl ?_
 refine sA (v := .int .i64 (d.length : Nat)) rfl (fun _ η => rn_lenS η Tryd.underlying9 rfl) ?_
 refine sA (v := .bool (decide ((0 : Int) ≥ ((d.length : Nat) : Int)))) rfl (fun _ η => rn_bin η rfl rfl rfl) ?_
 intro a η
 rw [show (decide ((0 : Int) ≥ ((d.length : Nat) : Int))) = false from decide_eq_false (by omega)] at η
 revert a
 refine mA rfl rfl ?_
 refine gA (v := .string ⟨d.toArray⟩) rfl rfl rfl rfl (fun _ η => rn_move η rfl) ?_
 refine gA (v := .int .i64 0) rfl rfl rfl rfl (fun _ η => rn_move η rfl) ?_
 refine gA (v := .int .u8 ((d.getD 0 0).toNat : Nat)) rfl rfl rfl rfl (fun _ η => rn_idxS (i := 0) η Tryd.underlying9 rfl rfl (by omega)) ?_
 refine gA (v := .bool (decide ((((d.getD 0 0).toNat : Nat) : Int) < (48 : Int)))) rfl rfl rfl rfl (fun _ η => rn_bin η rfl rfl rfl) ?_
 intro a η
 rw [show (decide ((((d.getD 0 0).toNat : Nat) : Int) < (48 : Int))) = true from decide_eq_true (by omega)] at η
 revert a
 refine sA (v := .bool true) rfl (fun _ η => rn_pick η rfl rfl) ?_
 refine mA rfl rfl ?_
 refine kA rfl rfl rfl rfl rfl ?_
 refine kA rfl rfl rfl rfl rfl ?_
 refine kA rfl rfl rfl rfl rfl ?_
 refine kA rfl rfl rfl rfl rfl ?_
 refine sA (v := .bool true) rfl (fun _ η => rn_pick η rfl rfl) ?_
 refine mA rfl rfl ?_
 refine kA rfl rfl rfl rfl rfl ?_
 refine kA rfl rfl rfl rfl rfl ?_
 refine kA rfl rfl rfl rfl rfl ?_
 refine kA rfl rfl rfl rfl rfl ?_
 refine kA rfl rfl rfl rfl rfl ?_
 refine kA rfl rfl rfl rfl rfl ?_
 refine kA rfl rfl rfl rfl rfl ?_
 refine sA (v := .bool true) rfl (fun _ η => rn_pick η rfl rfl) ?_
 intro a η
 refine wpList_nil (th_n ?_)
 refine if_t η rfl (rfl) ?_
 refine wp_seq (region_seq ?_)
 revert a
 refine sA (v := .agg #[.bool (neg 0), .slice none (dl 0) 0]) rfl (fun _ η => rn_zref) ?_
 refine mA rfl rfl ?_
 intro a η
 refine seq_step rfl (op_store (k := 0) (c' := #[.bool (neg 0), .slice none (dl 0) 0]) η σ (ty_anvil_anvilref02_Int.size) rfl rfl rfl rfl (by simp) rfl rfl ?_)
 clear η σ a; intro a w3 η σ
 refine sv (v := .int .i64 0) η rfl (rn_assign η rfl) ?_
 clear η a; intro a η
 refine wpList_nil (th_n (wp_ret (th_r ?_)))
 refine leave η (res2 Tryd.results115 (RV.cell η ty_anvil_anvilref02_Int rfl (σ.oat (k := 0) rfl) rfl) (RV.tmp η rfl)) ?_
 exact ⟨rfl, σ.below⟩
theorem rread_hi0 {d : List UInt8} {w0 : World} (h45 : (d.getD 0 0).toNat ≠ 45) (hl0 : 0 < d.length) (h1 : 57 < (d.getD 0 0).toNat) (hl : d.length ≤ 100000) :
  Calls Tryd.prog 115 #[.string ⟨d.toArray⟩] w0 fun e w' => e = .returned (.tuple #[.agg #[.bool (neg 0), .slice none (dl 0) 0], .int .i64 0]) ∧ Below w0.heap.size w0 w' := by
 refine enter Tryd.func115 rfl Tryd.ntmps115 rfl ?_
 intro a η σ
 refine wp_seq (region_seq ?_)
 refine seq_step rfl (op_alloc (c := #[.bool (neg 0), .slice none (dl 0) 0]) η σ rfl zero_anvil_anvilref02_Int rcells ?_)
 clear η σ a; intro a w2 g1 η σ
 refine sv (v := .int .i64 0) η rfl (rn_assign η rfl) ?_
 clear η a; intro a η
 refine wpList_nil (th_n (wp_seq (region_seq ?_)))
 refine sv (v := .int .i64 0) η rfl (rn_assign η rfl) ?_
 clear η a; intro a η
 refine wpList_nil (th_n (wp_seq (wp_seq (region_seq ?_))))
 revert a
 refine mA rfl rfl ?_
 refine sA (v := .int .i64 (d.length : Nat)) rfl (fun _ η => rn_lenS η Tryd.underlying9 rfl) ?_
 refine sA (v := .bool (decide (((d.length : Nat) : Int) > (0 : Int)))) rfl (fun _ η => rn_bin η rfl rfl rfl) ?_
 intro a η
 rw [show (decide (((d.length : Nat) : Int) > (0 : Int))) = true from decide_eq_true (by omega)] at η
 revert a
 refine mA rfl rfl ?_
 refine gA (v := .string ⟨d.toArray⟩) rfl rfl rfl rfl (fun _ η => rn_move η rfl) ?_
 refine gA (v := .int .u8 ((d.getD 0 0).toNat : Nat)) rfl rfl rfl rfl (fun _ η => rn_idxS (i := 0) η Tryd.underlying9 rfl rfl (by omega)) ?_
 refine gA (v := .bool ((((d.getD 0 0).toNat : Nat) : Int) == (45 : Int))) rfl rfl rfl rfl (fun _ η => rn_bin η rfl rfl rfl) ?_
 intro a η
 rw [show ((((d.getD 0 0).toNat : Nat) : Int) == (45 : Int)) = false from beq_eq_false_iff_ne.2 (by omega)] at η
 refine sv (v := .bool false) η rfl (rn_pick η rfl rfl) ?_
 clear η a; intro a η
 refine wpList_nil (th_n ?_)
 refine if_f η rfl (rfl) ?_
 refine wp_skip (th_n (wp_seq (wp_seq (region_seq ?_))))
 revert a
 refine mA rfl rfl ?_
 refine mA rfl rfl ?_
 refine sA (v := .int .i64 (d.length : Nat)) rfl (fun _ η => rn_lenS η Tryd.underlying9 rfl) ?_
 refine sA (v := .bool (decide ((0 : Int) ≥ ((d.length : Nat) : Int)))) rfl (fun _ η => rn_bin η rfl rfl rfl) ?_
 intro a η
 rw [show (decide ((0 : Int) ≥ ((d.length : Nat) : Int))) = false from decide_eq_false (by omega)] at η
 revert a
 refine mA rfl rfl ?_
 refine gA (v := .string ⟨d.toArray⟩) rfl rfl rfl rfl (fun _ η => rn_move η rfl) ?_
 refine gA (v := .int .i64 0) rfl rfl rfl rfl (fun _ η => rn_move η rfl) ?_
 refine gA (v := .int .u8 ((d.getD 0 0).toNat : Nat)) rfl rfl rfl rfl (fun _ η => rn_idxS (i := 0) η Tryd.underlying9 rfl rfl (by omega)) ?_
 refine gA (v := .bool (decide ((((d.getD 0 0).toNat : Nat) : Int) < (48 : Int)))) rfl rfl rfl rfl (fun _ η => rn_bin η rfl rfl rfl) ?_
 intro a η
 rw [show (decide ((((d.getD 0 0).toNat : Nat) : Int) < (48 : Int))) = false from decide_eq_false (by omega)] at η
 revert a
 refine sA (v := .bool false) rfl (fun _ η => rn_pick η rfl rfl) ?_
 refine mA rfl rfl ?_
 refine gA (v := .string ⟨d.toArray⟩) rfl rfl rfl rfl (fun _ η => rn_move η rfl) ?_
 refine gA (v := .int .i64 0) rfl rfl rfl rfl (fun _ η => rn_move η rfl) ?_
 refine gA (v := .int .u8 ((d.getD 0 0).toNat : Nat)) rfl rfl rfl rfl (fun _ η => rn_idxS (i := 0) η Tryd.underlying9 rfl rfl (by omega)) ?_
 refine gA (v := .bool (decide ((((d.getD 0 0).toNat : Nat) : Int) > (57 : Int)))) rfl rfl rfl rfl (fun _ η => rn_bin η rfl rfl rfl) ?_
 intro a η
 rw [show (decide ((((d.getD 0 0).toNat : Nat) : Int) > (57 : Int))) = true from decide_eq_true (by omega)] at η
 revert a
 refine sA (v := .bool true) rfl (fun _ η => rn_pick η rfl rfl) ?_
 refine mA rfl rfl ?_
 refine kA rfl rfl rfl rfl rfl ?_
 refine kA rfl rfl rfl rfl rfl ?_
 refine kA rfl rfl rfl rfl rfl ?_
 refine kA rfl rfl rfl rfl rfl ?_
 refine kA rfl rfl rfl rfl rfl ?_
 refine kA rfl rfl rfl rfl rfl ?_
 refine kA rfl rfl rfl rfl rfl ?_
 refine sA (v := .bool true) rfl (fun _ η => rn_pick η rfl rfl) ?_
 intro a η
 refine wpList_nil (th_n ?_)
 refine if_t η rfl (rfl) ?_
 refine wp_seq (region_seq ?_)
 revert a
 refine sA (v := .agg #[.bool (neg 0), .slice none (dl 0) 0]) rfl (fun _ η => rn_zref) ?_
 refine mA rfl rfl ?_
 intro a η
 refine seq_step rfl (op_store (k := 0) (c' := #[.bool (neg 0), .slice none (dl 0) 0]) η σ (ty_anvil_anvilref02_Int.size) rfl rfl rfl rfl (by simp) rfl rfl ?_)
 clear η σ a; intro a w3 η σ
 refine sv (v := .int .i64 0) η rfl (rn_assign η rfl) ?_
 clear η a; intro a η
 refine wpList_nil (th_n (wp_ret (th_r ?_)))
 refine leave η (res2 Tryd.results115 (RV.cell η ty_anvil_anvilref02_Int rfl (σ.oat (k := 0) rfl) rfl) (RV.tmp η rfl)) ?_
 exact ⟨rfl, σ.below⟩
theorem rread_bad0 {d : List UInt8} {b : Nat} {w0 : World} (h45 : (d.getD 0 0).toNat ≠ 45) (hfb : Fb 0 d b) (hb0 : 0 < b) (hl : d.length ≤ 100000) :
  Calls Tryd.prog 115 #[.string ⟨d.toArray⟩] w0 fun e w' => e = .returned (.tuple #[.agg #[.bool (neg 0), .slice none (dl 0) 0], .int .i64 (b : Nat)]) ∧ Below w0.heap.size w0 w' := by
 have hd0 := fb_first hfb hb0
 obtain ⟨hl0, hd1, hd2, hd3⟩ := hd0
 refine enter Tryd.func115 rfl Tryd.ntmps115 rfl ?_
 intro a η σ
 refine wp_seq (region_seq ?_)
 refine seq_step rfl (op_alloc (c := #[.bool (neg 0), .slice none (dl 0) 0]) η σ rfl zero_anvil_anvilref02_Int rcells ?_)
 clear η σ a; intro a w2 g1 η σ
 refine sv (v := .int .i64 0) η rfl (rn_assign η rfl) ?_
 clear η a; intro a η
 refine wpList_nil (th_n (wp_seq (region_seq ?_)))
 refine sv (v := .int .i64 0) η rfl (rn_assign η rfl) ?_
 clear η a; intro a η
 refine wpList_nil (th_n (wp_seq (wp_seq (region_seq ?_))))
 revert a
 refine mA rfl rfl ?_
 refine sA (v := .int .i64 (d.length : Nat)) rfl (fun _ η => rn_lenS η Tryd.underlying9 rfl) ?_
 refine sA (v := .bool (decide (((d.length : Nat) : Int) > (0 : Int)))) rfl (fun _ η => rn_bin η rfl rfl rfl) ?_
 intro a η
 rw [show (decide (((d.length : Nat) : Int) > (0 : Int))) = true from decide_eq_true (by omega)] at η
 revert a
 refine mA rfl rfl ?_
 refine gA (v := .string ⟨d.toArray⟩) rfl rfl rfl rfl (fun _ η => rn_move η rfl) ?_
 refine gA (v := .int .u8 ((d.getD 0 0).toNat : Nat)) rfl rfl rfl rfl (fun _ η => rn_idxS (i := 0) η Tryd.underlying9 rfl rfl (by omega)) ?_
 refine gA (v := .bool ((((d.getD 0 0).toNat : Nat) : Int) == (45 : Int))) rfl rfl rfl rfl (fun _ η => rn_bin η rfl rfl rfl) ?_
 intro a η
 rw [show ((((d.getD 0 0).toNat : Nat) : Int) == (45 : Int)) = false from beq_eq_false_iff_ne.2 (by omega)] at η
 refine sv (v := .bool false) η rfl (rn_pick η rfl rfl) ?_
 clear η a; intro a η
 refine wpList_nil (th_n ?_)
 refine if_f η rfl (rfl) ?_
 refine wp_skip (th_n (wp_seq (wp_seq (region_seq ?_))))
 revert a
 refine mA rfl rfl ?_
 refine mA rfl rfl ?_
 refine sA (v := .int .i64 (d.length : Nat)) rfl (fun _ η => rn_lenS η Tryd.underlying9 rfl) ?_
 refine sA (v := .bool (decide ((0 : Int) ≥ ((d.length : Nat) : Int)))) rfl (fun _ η => rn_bin η rfl rfl rfl) ?_
 intro a η
 rw [show (decide ((0 : Int) ≥ ((d.length : Nat) : Int))) = false from decide_eq_false (by omega)] at η
 revert a
 refine mA rfl rfl ?_
 refine gA (v := .string ⟨d.toArray⟩) rfl rfl rfl rfl (fun _ η => rn_move η rfl) ?_
 refine gA (v := .int .i64 0) rfl rfl rfl rfl (fun _ η => rn_move η rfl) ?_
 refine gA (v := .int .u8 ((d.getD 0 0).toNat : Nat)) rfl rfl rfl rfl (fun _ η => rn_idxS (i := 0) η Tryd.underlying9 rfl rfl (by omega)) ?_
 refine gA (v := .bool (decide ((((d.getD 0 0).toNat : Nat) : Int) < (48 : Int)))) rfl rfl rfl rfl (fun _ η => rn_bin η rfl rfl rfl) ?_
 intro a η
 rw [show (decide ((((d.getD 0 0).toNat : Nat) : Int) < (48 : Int))) = false from decide_eq_false (by omega)] at η
 revert a
 refine sA (v := .bool false) rfl (fun _ η => rn_pick η rfl rfl) ?_
 refine mA rfl rfl ?_
 refine gA (v := .string ⟨d.toArray⟩) rfl rfl rfl rfl (fun _ η => rn_move η rfl) ?_
 refine gA (v := .int .i64 0) rfl rfl rfl rfl (fun _ η => rn_move η rfl) ?_
 refine gA (v := .int .u8 ((d.getD 0 0).toNat : Nat)) rfl rfl rfl rfl (fun _ η => rn_idxS (i := 0) η Tryd.underlying9 rfl rfl (by omega)) ?_
 refine gA (v := .bool (decide ((((d.getD 0 0).toNat : Nat) : Int) > (57 : Int)))) rfl rfl rfl rfl (fun _ η => rn_bin η rfl rfl rfl) ?_
 intro a η
 rw [show (decide ((((d.getD 0 0).toNat : Nat) : Int) > (57 : Int))) = false from decide_eq_false (by omega)] at η
 revert a
 refine sA (v := .bool false) rfl (fun _ η => rn_pick η rfl rfl) ?_
 refine mA rfl rfl ?_
 refine gA (v := .int .i64 0) rfl rfl rfl rfl (fun _ η => rn_move η rfl) ?_
 refine gA (v := .bool false) rfl rfl rfl rfl (fun _ η => rn_bin η rfl rfl rfl) ?_
 refine gA (v := .bool false) rfl rfl rfl rfl (fun _ η => rn_move η rfl) ?_
 refine kA rfl rfl rfl rfl rfl ?_
 refine kA rfl rfl rfl rfl rfl ?_
 refine kA rfl rfl rfl rfl rfl ?_
 refine gA (v := .bool false) rfl rfl rfl rfl (fun _ η => rn_pick η rfl rfl) ?_
 refine sA (v := .bool false) rfl (fun _ η => rn_pick η rfl rfl) ?_
 intro a η
 refine wpList_nil (th_n ?_)
 refine if_f η rfl (rfl) ?_
 refine wp_skip (th_n (wp_seq (region_seq ?_)))
 refine sv (v := .agg #[.bool (neg 0), .slice none (dl 0) 0]) η rfl (rn_zref) ?_
 clear η a; intro a η
 refine seq_step rfl (op_alloc (c := #[.bool (neg 0), .slice none (dl 0) 0]) η σ rfl zero_anvil_anvilref02_Int rcells ?_)
 clear η σ a; intro a w4 g3 η σ
 refine seq_step rfl (op_store (k := 0) (c' := #[.bool (neg 0), .slice none (dl 0) 0]) η σ (ty_anvil_anvilref02_Int.size) rfl rfl rfl rfl (by simp) rfl rfl ?_)
 clear η σ a; intro a w5 η σ
 refine wpList_nil (th_n (wp_seq (wp_seq (region_seq ?_))))
 revert a
 refine mA rfl rfl ?_
 refine aA rfl rfl ?_
 intro a η
 refine wpList_nil (th_n (wp_block ?_))
 replace σ := σ.addR (rin_none _) ⟨nou_bk rfl, nou_bk rfl, trivial⟩
 refine wp_loop_ghost (fun mz a w => ∃ (k : Nat) (A1 : Option Addr) (c1 : Nat), d.length - k = mz ∧ Env 89 a [(0, .string ⟨d.toArray⟩), (2, .pointer (some ⟨g1, 0, none⟩)), (4, .int .i64 0), (5, .pointer (some ⟨g3, 0, none⟩)), (6, .int .i64 (k : Nat))] ∧ St w0 w [bk g3 #[.bool (neg ((numOf (d.take k) : Nat) : Int)), .slice A1 (dl ((numOf (d.take k) : Nat) : Int)) c1] 39, bk g1 #[.bool (neg 0), .slice none (dl 0) 0] 39] [pfR A1 c1 ((numOf (d.take k) : Nat) : Int)] ∧ k ≤ b) _ ⟨0, none, 0, rfl, η.sub ⟨rfl, rfl, rfl, rfl, rfl, trivial⟩, σ.pick [0, 1] [0] (by decide), (Nat.zero_le _)⟩ ?_
 clear η σ a
 rintro mz a w6 ⟨k, A1, c1, rfl, η, σ, hk⟩
 have hkl : k ≤ d.length := by have := fb_le hfb; omega
 have hdl1 := dl_num2 hfb hk
 rcases bad_split3 hfb hk hb0 with ⟨hlt, h1, h2, hk0, h3, hkb⟩ | ⟨hlt, h1, h2, hk0, h3, hkb⟩ | ⟨hlt, h1, h2, hk0, hkb⟩ | ⟨hkb, hlt, h1, hk0⟩ | ⟨hkb, hlt, h1, hk0⟩ | ⟨hkb, hlt, h1, h2, hk0, h3⟩
 ·refine wp_seq (wp_seq (region_seq ?_))
  revert a
  refine mA rfl rfl ?_
  refine mA rfl rfl ?_
  refine sA (v := .int .i64 (d.length : Nat)) rfl (fun _ η => rn_lenS η Tryd.underlying9 rfl) ?_
  refine sA (v := .bool (decide (((k : Nat) : Int) < ((d.length : Nat) : Int)))) rfl (fun _ η => rn_bin η rfl rfl rfl) ?_
  intro a η
  rw [show (decide (((k : Nat) : Int) < ((d.length : Nat) : Int))) = true from decide_eq_true (by omega)] at η
  refine wpList_nil (th_n ?_)
  refine if_t η rfl (rfl) ?_
  refine wp_skip (th_n (wp_seq (wp_block (wp_seq (wp_seq (region_seq ?_))))))
  revert a
  refine mA rfl rfl ?_
  refine mA rfl rfl ?_
  refine sA (v := .int .u8 ((d.getD k 0).toNat : Nat)) rfl (fun _ η => rn_idxS (i := k) η Tryd.underlying9 rfl rfl (by omega)) ?_
  refine sA (v := .bool (decide ((((d.getD k 0).toNat : Nat) : Int) < (48 : Int)))) rfl (fun _ η => rn_bin η rfl rfl rfl) ?_
  intro a η
  rw [show (decide ((((d.getD k 0).toNat : Nat) : Int) < (48 : Int))) = false from decide_eq_false (by omega)] at η
  revert a
  refine mA rfl rfl ?_
  refine gA (v := .string ⟨d.toArray⟩) rfl rfl rfl rfl (fun _ η => rn_move η rfl) ?_
  refine gA (v := .int .i64 (k : Nat)) rfl rfl rfl rfl (fun _ η => rn_move η rfl) ?_
  refine gA (v := .int .u8 ((d.getD k 0).toNat : Nat)) rfl rfl rfl rfl (fun _ η => rn_idxS (i := k) η Tryd.underlying9 rfl rfl (by omega)) ?_
  refine gA (v := .bool (decide ((((d.getD k 0).toNat : Nat) : Int) > (57 : Int)))) rfl rfl rfl rfl (fun _ η => rn_bin η rfl rfl rfl) ?_
  intro a η
  rw [show (decide ((((d.getD k 0).toNat : Nat) : Int) > (57 : Int))) = false from decide_eq_false (by omega)] at η
  revert a
  refine sA (v := .bool false) rfl (fun _ η => rn_pick η rfl rfl) ?_
  refine mA rfl rfl ?_
  refine gA (v := .int .i64 (k : Nat)) rfl rfl rfl rfl (fun _ η => rn_move η rfl) ?_
  refine gA (v := .int .i64 0) rfl rfl rfl rfl (fun _ η => rn_move η rfl) ?_
  refine gA (v := .int .i64 1) rfl rfl rfl rfl (fun _ η => rn_bin η rfl rfl rfl) ?_
  refine gA (v := .bool (((k : Nat) : Int) == (1 : Int))) rfl rfl rfl rfl (fun _ η => rn_bin η rfl rfl rfl) ?_
  intro a η
  rw [show (((k : Nat) : Int) == (1 : Int)) = false from beq_eq_false_iff_ne.2 (by omega)] at η
  revert a
  refine gA (v := .bool false) rfl rfl rfl rfl (fun _ η => rn_move η rfl) ?_
  refine kA rfl rfl rfl rfl rfl ?_
  refine kA rfl rfl rfl rfl rfl ?_
  refine kA rfl rfl rfl rfl rfl ?_
  refine kA rfl rfl rfl rfl rfl ?_
  refine gA (v := .bool false) rfl rfl rfl rfl (fun _ η => rn_pick η rfl rfl) ?_
  refine sA (v := .bool false) rfl (fun _ η => rn_pick η rfl rfl) ?_
  intro a η
  refine wpList_nil (th_n ?_)
  refine if_f η rfl (rfl) ?_
  refine wp_skip (th_n ?_)
  refine region_any (n := 11) (Sk [bk g1 #[.bool (neg 0), .slice none (dl 0) 0] 39] [pfR A1 c1 ((numOf (d.take k) : Nat) : Int)] [10] [bk g3 #[.bool (neg ((numOf (d.take k) : Nat) : Int)), .slice A1 (dl ((numOf (d.take k) : Nat) : Int)) c1] 39]) mixed rfl η σ ?_
  clear η σ; intro w7 η σ
  refine sAny_take (i := 0) [2, 8, 9, 10] (fun w' => w'.heap[g3]? = some (.cells #[.bool (neg ((numOf (d.take k) : Nat) : Int)), .slice A1 (dl ((numOf (d.take k) : Nat) : Int)) c1] 39 (0, 0))) (v := .agg #[.bool (neg ((numOf (d.take k) : Nat) : Int)), .slice A1 (dl ((numOf (d.take k) : Nat) : Int)) c1]) rfl (by kernel_rfl) (fun _ _ _ h => h) (fun _ _ hj hS => (hS.two rfl hj).oat (k := 0) rfl) η rfl (σ.oat (k := 0) rfl) (fun w' hg => rn_load0 η ty_anvil_anvilref02_Int rfl hg rfl) ?_
  clear η a; intro a η
  refine tM (i := 3) (rg 5 6) rfl (by kernel_rfl) (fun _ _ _ h => h) η rfl rfl ?_
  clear η a; intro a η
  refine tM (i := 4) (rg 5 6) rfl (by kernel_rfl) (fun _ _ _ h => h) η rfl rfl ?_
  clear η a; intro a η
  refine tA (i := 5) (rg 6 5) (v := .int .u8 ((d.getD k 0).toNat : Nat)) rfl (by kernel_rfl) (fun _ _ _ h => h) η rfl (fun _ => rn_idxS (i := k) η Tryd.underlying9 rfl rfl (by omega)) ?_
  clear η a; intro a η
  refine tA (i := 6) (rg 7 4) (v := .int .u8 (((d.getD k 0).toNat) - 48 : Nat)) rfl (by kernel_rfl) (fun _ _ _ h => h) η rfl (fun _ => rn_sub η rfl rfl (by rw [IntWalk.u8_in _ (by omega)]; omega)) ?_
  clear η a; intro a η
  refine tA (i := 7) [8, 9, 10] (v := .int .i64 (((d.getD k 0).toNat) - 48 : Nat)) rfl (by kernel_rfl) (fun _ _ _ h => h) η rfl (fun _ => rn_conv η rfl Tryd.underlying5 Tryd.underlying2 (IntWalk.i64_in _ (by omega))) ?_
  clear η a; intro a η
  refine sAny_one (i := 1) (by kernel_rfl) rfl rfl (op_call η rfl Tryd.call29 rfl (of_r (n := (10 : Int)) (by omega) (by omega)) ?_)
  rintro e w11 ⟨_, rfl, ⟨A8, c9, rfl, hz10⟩, hb⟩
  refine ⟨_, rfl, ?_⟩
  clear η a; intro a η
  replace σ := (σ.call hb).addR hz10 ⟨nou_bk rfl, nou_bk rfl, trivial⟩
  clear hz10
  clear hb
  refine ⟨.inr ⟨σ.kn.pick [1] [1], .inr (σ.kn.pick [0] [])⟩, ?_⟩
  refine sAny_one (i := 2) (by kernel_rfl) rfl rfl (op_call η rfl Tryd.call105 rfl (mul_r (x := ((numOf (d.take k) : Nat) : Int)) (y := 10) (show RIn _ A1 c1 ((numOf (d.take k) : Nat) : Int) from σ.pat (k := 1) rfl) (show RIn _ A8 c9 10 from σ.pat (k := 0) rfl) (by omega) (by have := dl_small (n := 10) (by decide) (by decide); omega)) ?_)
  rintro e w15 ⟨_, rfl, ⟨A12, c13, rfl, hz14⟩, hb⟩
  refine ⟨_, rfl, ?_⟩
  clear η a; intro a η
  replace σ := (σ.call hb).addR hz14 ⟨nou_bk rfl, nou_bk rfl, trivial⟩
  clear hz14
  clear hb
  refine ⟨.inr ⟨σ.kn.pick [1] [2], .inr (σ.kn.pick [0] [])⟩, ?_⟩
  refine sAny_one (i := 8) (by kernel_rfl) rfl rfl (op_call η rfl Tryd.call29 rfl (of_r (n := (((d.getD k 0).toNat) - 48 : Nat)) (by omega) (by omega)) ?_)
  rintro e w19 ⟨_, rfl, ⟨A16, c17, rfl, hz18⟩, hb⟩
  refine ⟨_, rfl, ?_⟩
  clear η a; intro a η
  replace σ := (σ.call hb).addR hz18 ⟨nou_bk rfl, nou_bk rfl, trivial⟩
  clear hz18
  clear hb
  refine ⟨.inr ⟨σ.kn.pick [1] [3], .inr (σ.kn.pick [0] [])⟩, ?_⟩
  refine sAny_one (i := 9) (by kernel_rfl) rfl rfl (op_call η rfl Tryd.call104 rfl (add_r (x := ((numOf (d.take k) : Nat) : Int) * 10) (y := (((d.getD k 0).toNat) - 48 : Nat)) (show RIn _ A12 c13 (((numOf (d.take k) : Nat) : Int) * 10) from σ.pat (k := 1) rfl) (show RIn _ A16 c17 (((d.getD k 0).toNat) - 48 : Nat) from σ.pat (k := 0) rfl) (by have h1 := dl_mul ((numOf (d.take k) : Nat) : Int) 10; have h2 := dl_small (n := 10) (by decide) (by decide); omega) (by have := dl_small (n := (((d.getD k 0).toNat) - 48 : Nat)) (by omega) (by omega); omega)) ?_)
  rintro e w23 ⟨_, rfl, ⟨A20, c21, rfl, hz22⟩, hb⟩
  refine ⟨_, rfl, ?_⟩
  clear η a; intro a η
  replace σ := (σ.call hb).addR hz22 ⟨nou_bk rfl, nou_bk rfl, trivial⟩
  clear hz22
  clear hb
  refine ⟨.inr ⟨σ.kn.pick [1] [4], .inr (σ.kn.pick [0] [])⟩, ?_⟩
  refine sAny_one (i := 10) (by kernel_rfl) rfl rfl (op_store (k := 0) (c' := #[.bool (neg ((((numOf (d.take k) : Nat) : Int) * 10) + (((d.getD k 0).toNat) - 48 : Nat))), .slice A20 (dl ((((numOf (d.take k) : Nat) : Int) * 10) + (((d.getD k 0).toNat) - 48 : Nat))) c21]) η σ (ty_anvil_anvilref02_Int.size) rfl rfl rfl rfl (by simp) rfl rfl ?_)
  clear η σ a; intro a w24 η σ
  refine ⟨.inr ⟨σ.kn.pick [1] [4], .inl rfl⟩, ?_⟩
  refine sAny_done (by kernel_rfl) ?_ _
  refine bl_n (th_n (region_seq ?_))
  revert a
  refine mA rfl rfl ?_
  refine sA (v := .int .i64 (k + 1 : Nat)) rfl (fun _ η => rn_add η rfl rfl (by rw [IntWalk.i64_in _ (by omega)]; omega)) ?_
  refine aA rfl rfl ?_
  intro a η
  refine wpList_nil ?_
  rw [num_step hlt] at σ
  exact th_n ⟨_, (by omega), ⟨k + 1, A20, c21, rfl, η.sub ⟨rfl, rfl, rfl, rfl, rfl, trivial⟩, σ.pick [0, 1] [0] (by decide), (by omega)⟩⟩
 ·refine wp_seq (wp_seq (region_seq ?_))
  revert a
  refine mA rfl rfl ?_
  refine mA rfl rfl ?_
  refine sA (v := .int .i64 (d.length : Nat)) rfl (fun _ η => rn_lenS η Tryd.underlying9 rfl) ?_
  refine sA (v := .bool (decide (((k : Nat) : Int) < ((d.length : Nat) : Int)))) rfl (fun _ η => rn_bin η rfl rfl rfl) ?_
  intro a η
  rw [show (decide (((k : Nat) : Int) < ((d.length : Nat) : Int))) = true from decide_eq_true (by omega)] at η
  refine wpList_nil (th_n ?_)
  refine if_t η rfl (rfl) ?_
  refine wp_skip (th_n (wp_seq (wp_block (wp_seq (wp_seq (region_seq ?_))))))
  revert a
  refine mA rfl rfl ?_
  refine mA rfl rfl ?_
  refine sA (v := .int .u8 ((d.getD k 0).toNat : Nat)) rfl (fun _ η => rn_idxS (i := k) η Tryd.underlying9 rfl rfl (by omega)) ?_
  refine sA (v := .bool (decide ((((d.getD k 0).toNat : Nat) : Int) < (48 : Int)))) rfl (fun _ η => rn_bin η rfl rfl rfl) ?_
  intro a η
  rw [show (decide ((((d.getD k 0).toNat : Nat) : Int) < (48 : Int))) = false from decide_eq_false (by omega)] at η
  revert a
  refine mA rfl rfl ?_
  refine gA (v := .string ⟨d.toArray⟩) rfl rfl rfl rfl (fun _ η => rn_move η rfl) ?_
  refine gA (v := .int .i64 (k : Nat)) rfl rfl rfl rfl (fun _ η => rn_move η rfl) ?_
  refine gA (v := .int .u8 ((d.getD k 0).toNat : Nat)) rfl rfl rfl rfl (fun _ η => rn_idxS (i := k) η Tryd.underlying9 rfl rfl (by omega)) ?_
  refine gA (v := .bool (decide ((((d.getD k 0).toNat : Nat) : Int) > (57 : Int)))) rfl rfl rfl rfl (fun _ η => rn_bin η rfl rfl rfl) ?_
  intro a η
  rw [show (decide ((((d.getD k 0).toNat : Nat) : Int) > (57 : Int))) = false from decide_eq_false (by omega)] at η
  revert a
  refine sA (v := .bool false) rfl (fun _ η => rn_pick η rfl rfl) ?_
  refine mA rfl rfl ?_
  refine gA (v := .int .i64 (k : Nat)) rfl rfl rfl rfl (fun _ η => rn_move η rfl) ?_
  refine gA (v := .int .i64 0) rfl rfl rfl rfl (fun _ η => rn_move η rfl) ?_
  refine gA (v := .int .i64 1) rfl rfl rfl rfl (fun _ η => rn_bin η rfl rfl rfl) ?_
  refine gA (v := .bool (((k : Nat) : Int) == (1 : Int))) rfl rfl rfl rfl (fun _ η => rn_bin η rfl rfl rfl) ?_
  intro a η
  rw [show (((k : Nat) : Int) == (1 : Int)) = true from beq_iff_eq.2 (by omega)] at η
  revert a
  refine gA (v := .bool true) rfl rfl rfl rfl (fun _ η => rn_move η rfl) ?_
  refine gA (v := .string ⟨d.toArray⟩) rfl rfl rfl rfl (fun _ η => rn_move η rfl) ?_
  refine gA (v := .int .i64 0) rfl rfl rfl rfl (fun _ η => rn_move η rfl) ?_
  refine gA (v := .int .u8 ((d.getD 0 0).toNat : Nat)) rfl rfl rfl rfl (fun _ η => rn_idxS (i := 0) η Tryd.underlying9 rfl rfl (by omega)) ?_
  refine gA (v := .bool ((((d.getD 0 0).toNat : Nat) : Int) == (48 : Int))) rfl rfl rfl rfl (fun _ η => rn_bin η rfl rfl rfl) ?_
  intro a η
  rw [show ((((d.getD 0 0).toNat : Nat) : Int) == (48 : Int)) = false from beq_eq_false_iff_ne.2 (by omega)] at η
  revert a
  refine gA (v := .bool false) rfl rfl rfl rfl (fun _ η => rn_pick η rfl rfl) ?_
  refine sA (v := .bool false) rfl (fun _ η => rn_pick η rfl rfl) ?_
  intro a η
  refine wpList_nil (th_n ?_)
  refine if_f η rfl (rfl) ?_
  refine wp_skip (th_n ?_)
  refine region_any (n := 11) (Sk [bk g1 #[.bool (neg 0), .slice none (dl 0) 0] 39] [pfR A1 c1 ((numOf (d.take k) : Nat) : Int)] [10] [bk g3 #[.bool (neg ((numOf (d.take k) : Nat) : Int)), .slice A1 (dl ((numOf (d.take k) : Nat) : Int)) c1] 39]) mixed rfl η σ ?_
  clear η σ; intro w25 η σ
  refine sAny_take (i := 0) [2, 8, 9, 10] (fun w' => w'.heap[g3]? = some (.cells #[.bool (neg ((numOf (d.take k) : Nat) : Int)), .slice A1 (dl ((numOf (d.take k) : Nat) : Int)) c1] 39 (0, 0))) (v := .agg #[.bool (neg ((numOf (d.take k) : Nat) : Int)), .slice A1 (dl ((numOf (d.take k) : Nat) : Int)) c1]) rfl (by kernel_rfl) (fun _ _ _ h => h) (fun _ _ hj hS => (hS.two rfl hj).oat (k := 0) rfl) η rfl (σ.oat (k := 0) rfl) (fun w' hg => rn_load0 η ty_anvil_anvilref02_Int rfl hg rfl) ?_
  clear η a; intro a η
  refine tM (i := 3) (rg 5 6) rfl (by kernel_rfl) (fun _ _ _ h => h) η rfl rfl ?_
  clear η a; intro a η
  refine tM (i := 4) (rg 5 6) rfl (by kernel_rfl) (fun _ _ _ h => h) η rfl rfl ?_
  clear η a; intro a η
  refine tA (i := 5) (rg 6 5) (v := .int .u8 ((d.getD k 0).toNat : Nat)) rfl (by kernel_rfl) (fun _ _ _ h => h) η rfl (fun _ => rn_idxS (i := k) η Tryd.underlying9 rfl rfl (by omega)) ?_
  clear η a; intro a η
  refine tA (i := 6) (rg 7 4) (v := .int .u8 (((d.getD k 0).toNat) - 48 : Nat)) rfl (by kernel_rfl) (fun _ _ _ h => h) η rfl (fun _ => rn_sub η rfl rfl (by rw [IntWalk.u8_in _ (by omega)]; omega)) ?_
  clear η a; intro a η
  refine tA (i := 7) [8, 9, 10] (v := .int .i64 (((d.getD k 0).toNat) - 48 : Nat)) rfl (by kernel_rfl) (fun _ _ _ h => h) η rfl (fun _ => rn_conv η rfl Tryd.underlying5 Tryd.underlying2 (IntWalk.i64_in _ (by omega))) ?_
  clear η a; intro a η
  refine sAny_one (i := 1) (by kernel_rfl) rfl rfl (op_call η rfl Tryd.call29 rfl (of_r (n := (10 : Int)) (by omega) (by omega)) ?_)
  rintro e w29 ⟨_, rfl, ⟨A26, c27, rfl, hz28⟩, hb⟩
  refine ⟨_, rfl, ?_⟩
  clear η a; intro a η
  replace σ := (σ.call hb).addR hz28 ⟨nou_bk rfl, nou_bk rfl, trivial⟩
  clear hz28
  clear hb
  refine ⟨.inr ⟨σ.kn.pick [1] [1], .inr (σ.kn.pick [0] [])⟩, ?_⟩
  refine sAny_one (i := 2) (by kernel_rfl) rfl rfl (op_call η rfl Tryd.call105 rfl (mul_r (x := ((numOf (d.take k) : Nat) : Int)) (y := 10) (show RIn _ A1 c1 ((numOf (d.take k) : Nat) : Int) from σ.pat (k := 1) rfl) (show RIn _ A26 c27 10 from σ.pat (k := 0) rfl) (by omega) (by have := dl_small (n := 10) (by decide) (by decide); omega)) ?_)
  rintro e w33 ⟨_, rfl, ⟨A30, c31, rfl, hz32⟩, hb⟩
  refine ⟨_, rfl, ?_⟩
  clear η a; intro a η
  replace σ := (σ.call hb).addR hz32 ⟨nou_bk rfl, nou_bk rfl, trivial⟩
  clear hz32
  clear hb
  refine ⟨.inr ⟨σ.kn.pick [1] [2], .inr (σ.kn.pick [0] [])⟩, ?_⟩
  refine sAny_one (i := 8) (by kernel_rfl) rfl rfl (op_call η rfl Tryd.call29 rfl (of_r (n := (((d.getD k 0).toNat) - 48 : Nat)) (by omega) (by omega)) ?_)
  rintro e w37 ⟨_, rfl, ⟨A34, c35, rfl, hz36⟩, hb⟩
  refine ⟨_, rfl, ?_⟩
  clear η a; intro a η
  replace σ := (σ.call hb).addR hz36 ⟨nou_bk rfl, nou_bk rfl, trivial⟩
  clear hz36
  clear hb
  refine ⟨.inr ⟨σ.kn.pick [1] [3], .inr (σ.kn.pick [0] [])⟩, ?_⟩
  refine sAny_one (i := 9) (by kernel_rfl) rfl rfl (op_call η rfl Tryd.call104 rfl (add_r (x := ((numOf (d.take k) : Nat) : Int) * 10) (y := (((d.getD k 0).toNat) - 48 : Nat)) (show RIn _ A30 c31 (((numOf (d.take k) : Nat) : Int) * 10) from σ.pat (k := 1) rfl) (show RIn _ A34 c35 (((d.getD k 0).toNat) - 48 : Nat) from σ.pat (k := 0) rfl) (by have h1 := dl_mul ((numOf (d.take k) : Nat) : Int) 10; have h2 := dl_small (n := 10) (by decide) (by decide); omega) (by have := dl_small (n := (((d.getD k 0).toNat) - 48 : Nat)) (by omega) (by omega); omega)) ?_)
  rintro e w41 ⟨_, rfl, ⟨A38, c39, rfl, hz40⟩, hb⟩
  refine ⟨_, rfl, ?_⟩
  clear η a; intro a η
  replace σ := (σ.call hb).addR hz40 ⟨nou_bk rfl, nou_bk rfl, trivial⟩
  clear hz40
  clear hb
  refine ⟨.inr ⟨σ.kn.pick [1] [4], .inr (σ.kn.pick [0] [])⟩, ?_⟩
  refine sAny_one (i := 10) (by kernel_rfl) rfl rfl (op_store (k := 0) (c' := #[.bool (neg ((((numOf (d.take k) : Nat) : Int) * 10) + (((d.getD k 0).toNat) - 48 : Nat))), .slice A38 (dl ((((numOf (d.take k) : Nat) : Int) * 10) + (((d.getD k 0).toNat) - 48 : Nat))) c39]) η σ (ty_anvil_anvilref02_Int.size) rfl rfl rfl rfl (by simp) rfl rfl ?_)
  clear η σ a; intro a w42 η σ
  refine ⟨.inr ⟨σ.kn.pick [1] [4], .inl rfl⟩, ?_⟩
  refine sAny_done (by kernel_rfl) ?_ _
  refine bl_n (th_n (region_seq ?_))
  revert a
  refine mA rfl rfl ?_
  refine sA (v := .int .i64 (k + 1 : Nat)) rfl (fun _ η => rn_add η rfl rfl (by rw [IntWalk.i64_in _ (by omega)]; omega)) ?_
  refine aA rfl rfl ?_
  intro a η
  refine wpList_nil ?_
  rw [num_step hlt] at σ
  exact th_n ⟨_, (by omega), ⟨k + 1, A38, c39, rfl, η.sub ⟨rfl, rfl, rfl, rfl, rfl, trivial⟩, σ.pick [0, 1] [0] (by decide), (by omega)⟩⟩
 ·refine wp_seq (wp_seq (region_seq ?_))
  revert a
  refine mA rfl rfl ?_
  refine mA rfl rfl ?_
  refine sA (v := .int .i64 (d.length : Nat)) rfl (fun _ η => rn_lenS η Tryd.underlying9 rfl) ?_
  refine sA (v := .bool (decide (((k : Nat) : Int) < ((d.length : Nat) : Int)))) rfl (fun _ η => rn_bin η rfl rfl rfl) ?_
  intro a η
  rw [show (decide (((k : Nat) : Int) < ((d.length : Nat) : Int))) = true from decide_eq_true (by omega)] at η
  refine wpList_nil (th_n ?_)
  refine if_t η rfl (rfl) ?_
  refine wp_skip (th_n (wp_seq (wp_block (wp_seq (wp_seq (region_seq ?_))))))
  revert a
  refine mA rfl rfl ?_
  refine mA rfl rfl ?_
  refine sA (v := .int .u8 ((d.getD k 0).toNat : Nat)) rfl (fun _ η => rn_idxS (i := k) η Tryd.underlying9 rfl rfl (by omega)) ?_
  refine sA (v := .bool (decide ((((d.getD k 0).toNat : Nat) : Int) < (48 : Int)))) rfl (fun _ η => rn_bin η rfl rfl rfl) ?_
  intro a η
  rw [show (decide ((((d.getD k 0).toNat : Nat) : Int) < (48 : Int))) = false from decide_eq_false (by omega)] at η
  revert a
  refine mA rfl rfl ?_
  refine gA (v := .string ⟨d.toArray⟩) rfl rfl rfl rfl (fun _ η => rn_move η rfl) ?_
  refine gA (v := .int .i64 (k : Nat)) rfl rfl rfl rfl (fun _ η => rn_move η rfl) ?_
  refine gA (v := .int .u8 ((d.getD k 0).toNat : Nat)) rfl rfl rfl rfl (fun _ η => rn_idxS (i := k) η Tryd.underlying9 rfl rfl (by omega)) ?_
  refine gA (v := .bool (decide ((((d.getD k 0).toNat : Nat) : Int) > (57 : Int)))) rfl rfl rfl rfl (fun _ η => rn_bin η rfl rfl rfl) ?_
  intro a η
  rw [show (decide ((((d.getD k 0).toNat : Nat) : Int) > (57 : Int))) = false from decide_eq_false (by omega)] at η
  revert a
  refine sA (v := .bool false) rfl (fun _ η => rn_pick η rfl rfl) ?_
  refine mA rfl rfl ?_
  refine gA (v := .int .i64 (k : Nat)) rfl rfl rfl rfl (fun _ η => rn_move η rfl) ?_
  refine gA (v := .int .i64 0) rfl rfl rfl rfl (fun _ η => rn_move η rfl) ?_
  refine gA (v := .int .i64 1) rfl rfl rfl rfl (fun _ η => rn_bin η rfl rfl rfl) ?_
  refine gA (v := .bool (((k : Nat) : Int) == (1 : Int))) rfl rfl rfl rfl (fun _ η => rn_bin η rfl rfl rfl) ?_
  intro a η
  rw [show (((k : Nat) : Int) == (1 : Int)) = false from beq_eq_false_iff_ne.2 (by omega)] at η
  revert a
  refine gA (v := .bool false) rfl rfl rfl rfl (fun _ η => rn_move η rfl) ?_
  refine kA rfl rfl rfl rfl rfl ?_
  refine kA rfl rfl rfl rfl rfl ?_
  refine kA rfl rfl rfl rfl rfl ?_
  refine kA rfl rfl rfl rfl rfl ?_
  refine gA (v := .bool false) rfl rfl rfl rfl (fun _ η => rn_pick η rfl rfl) ?_
  refine sA (v := .bool false) rfl (fun _ η => rn_pick η rfl rfl) ?_
  intro a η
  refine wpList_nil (th_n ?_)
  refine if_f η rfl (rfl) ?_
  refine wp_skip (th_n ?_)
  refine region_any (n := 11) (Sk [bk g1 #[.bool (neg 0), .slice none (dl 0) 0] 39] [pfR A1 c1 ((numOf (d.take k) : Nat) : Int)] [10] [bk g3 #[.bool (neg ((numOf (d.take k) : Nat) : Int)), .slice A1 (dl ((numOf (d.take k) : Nat) : Int)) c1] 39]) mixed rfl η σ ?_
  clear η σ; intro w43 η σ
  refine sAny_take (i := 0) [2, 8, 9, 10] (fun w' => w'.heap[g3]? = some (.cells #[.bool (neg ((numOf (d.take k) : Nat) : Int)), .slice A1 (dl ((numOf (d.take k) : Nat) : Int)) c1] 39 (0, 0))) (v := .agg #[.bool (neg ((numOf (d.take k) : Nat) : Int)), .slice A1 (dl ((numOf (d.take k) : Nat) : Int)) c1]) rfl (by kernel_rfl) (fun _ _ _ h => h) (fun _ _ hj hS => (hS.two rfl hj).oat (k := 0) rfl) η rfl (σ.oat (k := 0) rfl) (fun w' hg => rn_load0 η ty_anvil_anvilref02_Int rfl hg rfl) ?_
  clear η a; intro a η
  refine tM (i := 3) (rg 5 6) rfl (by kernel_rfl) (fun _ _ _ h => h) η rfl rfl ?_
  clear η a; intro a η
  refine tM (i := 4) (rg 5 6) rfl (by kernel_rfl) (fun _ _ _ h => h) η rfl rfl ?_
  clear η a; intro a η
  refine tA (i := 5) (rg 6 5) (v := .int .u8 ((d.getD k 0).toNat : Nat)) rfl (by kernel_rfl) (fun _ _ _ h => h) η rfl (fun _ => rn_idxS (i := k) η Tryd.underlying9 rfl rfl (by omega)) ?_
  clear η a; intro a η
  refine tA (i := 6) (rg 7 4) (v := .int .u8 (((d.getD k 0).toNat) - 48 : Nat)) rfl (by kernel_rfl) (fun _ _ _ h => h) η rfl (fun _ => rn_sub η rfl rfl (by rw [IntWalk.u8_in _ (by omega)]; omega)) ?_
  clear η a; intro a η
  refine tA (i := 7) [8, 9, 10] (v := .int .i64 (((d.getD k 0).toNat) - 48 : Nat)) rfl (by kernel_rfl) (fun _ _ _ h => h) η rfl (fun _ => rn_conv η rfl Tryd.underlying5 Tryd.underlying2 (IntWalk.i64_in _ (by omega))) ?_
  clear η a; intro a η
  refine sAny_one (i := 1) (by kernel_rfl) rfl rfl (op_call η rfl Tryd.call29 rfl (of_r (n := (10 : Int)) (by omega) (by omega)) ?_)
  rintro e w47 ⟨_, rfl, ⟨A44, c45, rfl, hz46⟩, hb⟩
  refine ⟨_, rfl, ?_⟩
  clear η a; intro a η
  replace σ := (σ.call hb).addR hz46 ⟨nou_bk rfl, nou_bk rfl, trivial⟩
  clear hz46
  clear hb
  refine ⟨.inr ⟨σ.kn.pick [1] [1], .inr (σ.kn.pick [0] [])⟩, ?_⟩
  refine sAny_one (i := 2) (by kernel_rfl) rfl rfl (op_call η rfl Tryd.call105 rfl (mul_r (x := ((numOf (d.take k) : Nat) : Int)) (y := 10) (show RIn _ A1 c1 ((numOf (d.take k) : Nat) : Int) from σ.pat (k := 1) rfl) (show RIn _ A44 c45 10 from σ.pat (k := 0) rfl) (by omega) (by have := dl_small (n := 10) (by decide) (by decide); omega)) ?_)
  rintro e w51 ⟨_, rfl, ⟨A48, c49, rfl, hz50⟩, hb⟩
  refine ⟨_, rfl, ?_⟩
  clear η a; intro a η
  replace σ := (σ.call hb).addR hz50 ⟨nou_bk rfl, nou_bk rfl, trivial⟩
  clear hz50
  clear hb
  refine ⟨.inr ⟨σ.kn.pick [1] [2], .inr (σ.kn.pick [0] [])⟩, ?_⟩
  refine sAny_one (i := 8) (by kernel_rfl) rfl rfl (op_call η rfl Tryd.call29 rfl (of_r (n := (((d.getD k 0).toNat) - 48 : Nat)) (by omega) (by omega)) ?_)
  rintro e w55 ⟨_, rfl, ⟨A52, c53, rfl, hz54⟩, hb⟩
  refine ⟨_, rfl, ?_⟩
  clear η a; intro a η
  replace σ := (σ.call hb).addR hz54 ⟨nou_bk rfl, nou_bk rfl, trivial⟩
  clear hz54
  clear hb
  refine ⟨.inr ⟨σ.kn.pick [1] [3], .inr (σ.kn.pick [0] [])⟩, ?_⟩
  refine sAny_one (i := 9) (by kernel_rfl) rfl rfl (op_call η rfl Tryd.call104 rfl (add_r (x := ((numOf (d.take k) : Nat) : Int) * 10) (y := (((d.getD k 0).toNat) - 48 : Nat)) (show RIn _ A48 c49 (((numOf (d.take k) : Nat) : Int) * 10) from σ.pat (k := 1) rfl) (show RIn _ A52 c53 (((d.getD k 0).toNat) - 48 : Nat) from σ.pat (k := 0) rfl) (by have h1 := dl_mul ((numOf (d.take k) : Nat) : Int) 10; have h2 := dl_small (n := 10) (by decide) (by decide); omega) (by have := dl_small (n := (((d.getD k 0).toNat) - 48 : Nat)) (by omega) (by omega); omega)) ?_)
  rintro e w59 ⟨_, rfl, ⟨A56, c57, rfl, hz58⟩, hb⟩
  refine ⟨_, rfl, ?_⟩
  clear η a; intro a η
  replace σ := (σ.call hb).addR hz58 ⟨nou_bk rfl, nou_bk rfl, trivial⟩
  clear hz58
  clear hb
  refine ⟨.inr ⟨σ.kn.pick [1] [4], .inr (σ.kn.pick [0] [])⟩, ?_⟩
  refine sAny_one (i := 10) (by kernel_rfl) rfl rfl (op_store (k := 0) (c' := #[.bool (neg ((((numOf (d.take k) : Nat) : Int) * 10) + (((d.getD k 0).toNat) - 48 : Nat))), .slice A56 (dl ((((numOf (d.take k) : Nat) : Int) * 10) + (((d.getD k 0).toNat) - 48 : Nat))) c57]) η σ (ty_anvil_anvilref02_Int.size) rfl rfl rfl rfl (by simp) rfl rfl ?_)
  clear η σ a; intro a w60 η σ
  refine ⟨.inr ⟨σ.kn.pick [1] [4], .inl rfl⟩, ?_⟩
  refine sAny_done (by kernel_rfl) ?_ _
  refine bl_n (th_n (region_seq ?_))
  revert a
  refine mA rfl rfl ?_
  refine sA (v := .int .i64 (k + 1 : Nat)) rfl (fun _ η => rn_add η rfl rfl (by rw [IntWalk.i64_in _ (by omega)]; omega)) ?_
  refine aA rfl rfl ?_
  intro a η
  refine wpList_nil ?_
  rw [num_step hlt] at σ
  exact th_n ⟨_, (by omega), ⟨k + 1, A56, c57, rfl, η.sub ⟨rfl, rfl, rfl, rfl, rfl, trivial⟩, σ.pick [0, 1] [0] (by decide), (by omega)⟩⟩
 ·refine wp_seq (wp_seq (region_seq ?_))
  revert a
  refine mA rfl rfl ?_
  refine mA rfl rfl ?_
  refine sA (v := .int .i64 (d.length : Nat)) rfl (fun _ η => rn_lenS η Tryd.underlying9 rfl) ?_
  refine sA (v := .bool (decide (((k : Nat) : Int) < ((d.length : Nat) : Int)))) rfl (fun _ η => rn_bin η rfl rfl rfl) ?_
  intro a η
  rw [show (decide (((k : Nat) : Int) < ((d.length : Nat) : Int))) = true from decide_eq_true (by omega)] at η
  refine wpList_nil (th_n ?_)
  refine if_t η rfl (rfl) ?_
  refine wp_skip (th_n (wp_seq (wp_block (wp_seq (wp_seq (region_seq ?_))))))
  revert a
  refine mA rfl rfl ?_
  refine mA rfl rfl ?_
  refine sA (v := .int .u8 ((d.getD k 0).toNat : Nat)) rfl (fun _ η => rn_idxS (i := k) η Tryd.underlying9 rfl rfl (by omega)) ?_
  refine sA (v := .bool (decide ((((d.getD k 0).toNat : Nat) : Int) < (48 : Int)))) rfl (fun _ η => rn_bin η rfl rfl rfl) ?_
  intro a η
  rw [show (decide ((((d.getD k 0).toNat : Nat) : Int) < (48 : Int))) = true from decide_eq_true (by omega)] at η
  revert a
  refine mA rfl rfl ?_
  refine kA rfl rfl rfl rfl rfl ?_
  refine kA rfl rfl rfl rfl rfl ?_
  refine kA rfl rfl rfl rfl rfl ?_
  refine kA rfl rfl rfl rfl rfl ?_
  refine sA (v := .bool true) rfl (fun _ η => rn_pick η rfl rfl) ?_
  refine mA rfl rfl ?_
  refine kA rfl rfl rfl rfl rfl ?_
  refine kA rfl rfl rfl rfl rfl ?_
  refine kA rfl rfl rfl rfl rfl ?_
  refine kA rfl rfl rfl rfl rfl ?_
  refine kA rfl rfl rfl rfl rfl ?_
  refine kA rfl rfl rfl rfl rfl ?_
  refine kA rfl rfl rfl rfl rfl ?_
  refine kA rfl rfl rfl rfl rfl ?_
  refine kA rfl rfl rfl rfl rfl ?_
  refine kA rfl rfl rfl rfl rfl ?_
  refine sA (v := .bool true) rfl (fun _ η => rn_pick η rfl rfl) ?_
  intro a η
  refine wpList_nil (th_n ?_)
  refine if_t η rfl (rfl) ?_
  refine wp_seq (region_seq ?_)
  revert a
  refine sA (v := .agg #[.bool (neg 0), .slice none (dl 0) 0]) rfl (fun _ η => rn_zref) ?_
  refine mA rfl rfl ?_
  intro a η
  refine seq_step rfl (op_store (k := 1) (c' := #[.bool (neg 0), .slice none (dl 0) 0]) η σ (ty_anvil_anvilref02_Int.size) rfl rfl rfl rfl (by simp) rfl rfl ?_)
  clear η σ a; intro a w61 η σ
  refine sv (v := .int .i64 (k : Nat)) η rfl (rn_assign η rfl) ?_
  clear η a; intro a η
  refine wpList_nil (th_n (wp_ret (th_r (bl_r (th_r (th_r (bl_r (th_r ?_))))))))
  refine leave η (res2 Tryd.results115 (RV.cell η ty_anvil_anvilref02_Int rfl (σ.oat (k := 1) rfl) rfl) (RV.tmp η rfl)) ?_
  subst hkb
  exact ⟨rfl, σ.below⟩
 ·refine wp_seq (wp_seq (region_seq ?_))
  revert a
  refine mA rfl rfl ?_
  refine mA rfl rfl ?_
  refine sA (v := .int .i64 (d.length : Nat)) rfl (fun _ η => rn_lenS η Tryd.underlying9 rfl) ?_
  refine sA (v := .bool (decide (((k : Nat) : Int) < ((d.length : Nat) : Int)))) rfl (fun _ η => rn_bin η rfl rfl rfl) ?_
  intro a η
  rw [show (decide (((k : Nat) : Int) < ((d.length : Nat) : Int))) = true from decide_eq_true (by omega)] at η
  refine wpList_nil (th_n ?_)
  refine if_t η rfl (rfl) ?_
  refine wp_skip (th_n (wp_seq (wp_block (wp_seq (wp_seq (region_seq ?_))))))
  revert a
  refine mA rfl rfl ?_
  refine mA rfl rfl ?_
  refine sA (v := .int .u8 ((d.getD k 0).toNat : Nat)) rfl (fun _ η => rn_idxS (i := k) η Tryd.underlying9 rfl rfl (by omega)) ?_
  refine sA (v := .bool (decide ((((d.getD k 0).toNat : Nat) : Int) < (48 : Int)))) rfl (fun _ η => rn_bin η rfl rfl rfl) ?_
  intro a η
  rw [show (decide ((((d.getD k 0).toNat : Nat) : Int) < (48 : Int))) = false from decide_eq_false (by omega)] at η
  revert a
  refine mA rfl rfl ?_
  refine gA (v := .string ⟨d.toArray⟩) rfl rfl rfl rfl (fun _ η => rn_move η rfl) ?_
  refine gA (v := .int .i64 (k : Nat)) rfl rfl rfl rfl (fun _ η => rn_move η rfl) ?_
  refine gA (v := .int .u8 ((d.getD k 0).toNat : Nat)) rfl rfl rfl rfl (fun _ η => rn_idxS (i := k) η Tryd.underlying9 rfl rfl (by omega)) ?_
  refine gA (v := .bool (decide ((((d.getD k 0).toNat : Nat) : Int) > (57 : Int)))) rfl rfl rfl rfl (fun _ η => rn_bin η rfl rfl rfl) ?_
  intro a η
  rw [show (decide ((((d.getD k 0).toNat : Nat) : Int) > (57 : Int))) = true from decide_eq_true (by omega)] at η
  revert a
  refine sA (v := .bool true) rfl (fun _ η => rn_pick η rfl rfl) ?_
  refine mA rfl rfl ?_
  refine kA rfl rfl rfl rfl rfl ?_
  refine kA rfl rfl rfl rfl rfl ?_
  refine kA rfl rfl rfl rfl rfl ?_
  refine kA rfl rfl rfl rfl rfl ?_
  refine kA rfl rfl rfl rfl rfl ?_
  refine kA rfl rfl rfl rfl rfl ?_
  refine kA rfl rfl rfl rfl rfl ?_
  refine kA rfl rfl rfl rfl rfl ?_
  refine kA rfl rfl rfl rfl rfl ?_
  refine kA rfl rfl rfl rfl rfl ?_
  refine sA (v := .bool true) rfl (fun _ η => rn_pick η rfl rfl) ?_
  intro a η
  refine wpList_nil (th_n ?_)
  refine if_t η rfl (rfl) ?_
  refine wp_seq (region_seq ?_)
  revert a
  refine sA (v := .agg #[.bool (neg 0), .slice none (dl 0) 0]) rfl (fun _ η => rn_zref) ?_
  refine mA rfl rfl ?_
  intro a η
  refine seq_step rfl (op_store (k := 1) (c' := #[.bool (neg 0), .slice none (dl 0) 0]) η σ (ty_anvil_anvilref02_Int.size) rfl rfl rfl rfl (by simp) rfl rfl ?_)
  clear η σ a; intro a w62 η σ
  refine sv (v := .int .i64 (k : Nat)) η rfl (rn_assign η rfl) ?_
  clear η a; intro a η
  refine wpList_nil (th_n (wp_ret (th_r (bl_r (th_r (th_r (bl_r (th_r ?_))))))))
  refine leave η (res2 Tryd.results115 (RV.cell η ty_anvil_anvilref02_Int rfl (σ.oat (k := 1) rfl) rfl) (RV.tmp η rfl)) ?_
  subst hkb
  exact ⟨rfl, σ.below⟩
 ·refine wp_seq (wp_seq (region_seq ?_))
  revert a
  refine mA rfl rfl ?_
  refine mA rfl rfl ?_
  refine sA (v := .int .i64 (d.length : Nat)) rfl (fun _ η => rn_lenS η Tryd.underlying9 rfl) ?_
  refine sA (v := .bool (decide (((k : Nat) : Int) < ((d.length : Nat) : Int)))) rfl (fun _ η => rn_bin η rfl rfl rfl) ?_
  intro a η
  rw [show (decide (((k : Nat) : Int) < ((d.length : Nat) : Int))) = true from decide_eq_true (by omega)] at η
  refine wpList_nil (th_n ?_)
  refine if_t η rfl (rfl) ?_
  refine wp_skip (th_n (wp_seq (wp_block (wp_seq (wp_seq (region_seq ?_))))))
  revert a
  refine mA rfl rfl ?_
  refine mA rfl rfl ?_
  refine sA (v := .int .u8 ((d.getD k 0).toNat : Nat)) rfl (fun _ η => rn_idxS (i := k) η Tryd.underlying9 rfl rfl (by omega)) ?_
  refine sA (v := .bool (decide ((((d.getD k 0).toNat : Nat) : Int) < (48 : Int)))) rfl (fun _ η => rn_bin η rfl rfl rfl) ?_
  intro a η
  rw [show (decide ((((d.getD k 0).toNat : Nat) : Int) < (48 : Int))) = false from decide_eq_false (by omega)] at η
  revert a
  refine mA rfl rfl ?_
  refine gA (v := .string ⟨d.toArray⟩) rfl rfl rfl rfl (fun _ η => rn_move η rfl) ?_
  refine gA (v := .int .i64 (k : Nat)) rfl rfl rfl rfl (fun _ η => rn_move η rfl) ?_
  refine gA (v := .int .u8 ((d.getD k 0).toNat : Nat)) rfl rfl rfl rfl (fun _ η => rn_idxS (i := k) η Tryd.underlying9 rfl rfl (by omega)) ?_
  refine gA (v := .bool (decide ((((d.getD k 0).toNat : Nat) : Int) > (57 : Int)))) rfl rfl rfl rfl (fun _ η => rn_bin η rfl rfl rfl) ?_
  intro a η
  rw [show (decide ((((d.getD k 0).toNat : Nat) : Int) > (57 : Int))) = false from decide_eq_false (by omega)] at η
  revert a
  refine sA (v := .bool false) rfl (fun _ η => rn_pick η rfl rfl) ?_
  refine mA rfl rfl ?_
  refine gA (v := .int .i64 (k : Nat)) rfl rfl rfl rfl (fun _ η => rn_move η rfl) ?_
  refine gA (v := .int .i64 0) rfl rfl rfl rfl (fun _ η => rn_move η rfl) ?_
  refine gA (v := .int .i64 1) rfl rfl rfl rfl (fun _ η => rn_bin η rfl rfl rfl) ?_
  refine gA (v := .bool (((k : Nat) : Int) == (1 : Int))) rfl rfl rfl rfl (fun _ η => rn_bin η rfl rfl rfl) ?_
  intro a η
  rw [show (((k : Nat) : Int) == (1 : Int)) = true from beq_iff_eq.2 (by omega)] at η
  revert a
  refine gA (v := .bool true) rfl rfl rfl rfl (fun _ η => rn_move η rfl) ?_
  refine gA (v := .string ⟨d.toArray⟩) rfl rfl rfl rfl (fun _ η => rn_move η rfl) ?_
  refine gA (v := .int .i64 0) rfl rfl rfl rfl (fun _ η => rn_move η rfl) ?_
  refine gA (v := .int .u8 ((d.getD 0 0).toNat : Nat)) rfl rfl rfl rfl (fun _ η => rn_idxS (i := 0) η Tryd.underlying9 rfl rfl (by omega)) ?_
  refine gA (v := .bool ((((d.getD 0 0).toNat : Nat) : Int) == (48 : Int))) rfl rfl rfl rfl (fun _ η => rn_bin η rfl rfl rfl) ?_
  intro a η
  rw [show ((((d.getD 0 0).toNat : Nat) : Int) == (48 : Int)) = true from beq_iff_eq.2 (by omega)] at η
  revert a
  refine gA (v := .bool true) rfl rfl rfl rfl (fun _ η => rn_pick η rfl rfl) ?_
  refine sA (v := .bool true) rfl (fun _ η => rn_pick η rfl rfl) ?_
  intro a η
  refine wpList_nil (th_n ?_)
  refine if_t η rfl (rfl) ?_
  refine wp_seq (region_seq ?_)
  revert a
  refine sA (v := .agg #[.bool (neg 0), .slice none (dl 0) 0]) rfl (fun _ η => rn_zref) ?_
  refine mA rfl rfl ?_
  intro a η
  refine seq_step rfl (op_store (k := 1) (c' := #[.bool (neg 0), .slice none (dl 0) 0]) η σ (ty_anvil_anvilref02_Int.size) rfl rfl rfl rfl (by simp) rfl rfl ?_)
  clear η σ a; intro a w63 η σ
  refine sv (v := .int .i64 (k : Nat)) η rfl (rn_assign η rfl) ?_
  clear η a; intro a η
  refine wpList_nil (th_n (wp_ret (th_r (bl_r (th_r (th_r (bl_r (th_r ?_))))))))
  refine leave η (res2 Tryd.results115 (RV.cell η ty_anvil_anvilref02_Int rfl (σ.oat (k := 1) rfl) rfl) (RV.tmp η rfl)) ?_
  subst hkb
  exact ⟨rfl, σ.below⟩
theorem rread_ok0 {d : List UInt8} {w0 : World} (h45 : (d.getD 0 0).toNat ≠ 45) (hfb : Ok 0 d) (hl : d.length ≤ 100000) :
  Calls Tryd.prog 115 #[.string ⟨d.toArray⟩] w0 fun e w' => ∃ v, e = .returned (.tuple #[v, .int .i64 (-1)]) ∧ RAt w' v (sg false (numOf d)) ∧ Below w0.heap.size w0 w' := by
 have hdg := digits_of hfb.ok
 have hd0 := ok_first hfb
 obtain ⟨hl0, hd1, hd2, hd3⟩ := hd0
 refine enter Tryd.func115 rfl Tryd.ntmps115 rfl ?_
 intro a η σ
 refine wp_seq (region_seq ?_)
 refine seq_step rfl (op_alloc (c := #[.bool (neg 0), .slice none (dl 0) 0]) η σ rfl zero_anvil_anvilref02_Int rcells ?_)
 clear η σ a; intro a w2 g1 η σ
 refine sv (v := .int .i64 0) η rfl (rn_assign η rfl) ?_
 clear η a; intro a η
 refine wpList_nil (th_n (wp_seq (region_seq ?_)))
 refine sv (v := .int .i64 0) η rfl (rn_assign η rfl) ?_
 clear η a; intro a η
 refine wpList_nil (th_n (wp_seq (wp_seq (region_seq ?_))))
 revert a
 refine mA rfl rfl ?_
 refine sA (v := .int .i64 (d.length : Nat)) rfl (fun _ η => rn_lenS η Tryd.underlying9 rfl) ?_
 refine sA (v := .bool (decide (((d.length : Nat) : Int) > (0 : Int)))) rfl (fun _ η => rn_bin η rfl rfl rfl) ?_
 intro a η
 rw [show (decide (((d.length : Nat) : Int) > (0 : Int))) = true from decide_eq_true (by omega)] at η
 revert a
 refine mA rfl rfl ?_
 refine gA (v := .string ⟨d.toArray⟩) rfl rfl rfl rfl (fun _ η => rn_move η rfl) ?_
 refine gA (v := .int .u8 ((d.getD 0 0).toNat : Nat)) rfl rfl rfl rfl (fun _ η => rn_idxS (i := 0) η Tryd.underlying9 rfl rfl (by omega)) ?_
 refine gA (v := .bool ((((d.getD 0 0).toNat : Nat) : Int) == (45 : Int))) rfl rfl rfl rfl (fun _ η => rn_bin η rfl rfl rfl) ?_
 intro a η
 rw [show ((((d.getD 0 0).toNat : Nat) : Int) == (45 : Int)) = false from beq_eq_false_iff_ne.2 (by omega)] at η
 refine sv (v := .bool false) η rfl (rn_pick η rfl rfl) ?_
 clear η a; intro a η
 refine wpList_nil (th_n ?_)
 refine if_f η rfl (rfl) ?_
 refine wp_skip (th_n (wp_seq (wp_seq (region_seq ?_))))
 revert a
 refine mA rfl rfl ?_
 refine mA rfl rfl ?_
 refine sA (v := .int .i64 (d.length : Nat)) rfl (fun _ η => rn_lenS η Tryd.underlying9 rfl) ?_
 refine sA (v := .bool (decide ((0 : Int) ≥ ((d.length : Nat) : Int)))) rfl (fun _ η => rn_bin η rfl rfl rfl) ?_
 intro a η
 rw [show (decide ((0 : Int) ≥ ((d.length : Nat) : Int))) = false from decide_eq_false (by omega)] at η
 revert a
 refine mA rfl rfl ?_
 refine gA (v := .string ⟨d.toArray⟩) rfl rfl rfl rfl (fun _ η => rn_move η rfl) ?_
 refine gA (v := .int .i64 0) rfl rfl rfl rfl (fun _ η => rn_move η rfl) ?_
 refine gA (v := .int .u8 ((d.getD 0 0).toNat : Nat)) rfl rfl rfl rfl (fun _ η => rn_idxS (i := 0) η Tryd.underlying9 rfl rfl (by omega)) ?_
 refine gA (v := .bool (decide ((((d.getD 0 0).toNat : Nat) : Int) < (48 : Int)))) rfl rfl rfl rfl (fun _ η => rn_bin η rfl rfl rfl) ?_
 intro a η
 rw [show (decide ((((d.getD 0 0).toNat : Nat) : Int) < (48 : Int))) = false from decide_eq_false (by omega)] at η
 revert a
 refine sA (v := .bool false) rfl (fun _ η => rn_pick η rfl rfl) ?_
 refine mA rfl rfl ?_
 refine gA (v := .string ⟨d.toArray⟩) rfl rfl rfl rfl (fun _ η => rn_move η rfl) ?_
 refine gA (v := .int .i64 0) rfl rfl rfl rfl (fun _ η => rn_move η rfl) ?_
 refine gA (v := .int .u8 ((d.getD 0 0).toNat : Nat)) rfl rfl rfl rfl (fun _ η => rn_idxS (i := 0) η Tryd.underlying9 rfl rfl (by omega)) ?_
 refine gA (v := .bool (decide ((((d.getD 0 0).toNat : Nat) : Int) > (57 : Int)))) rfl rfl rfl rfl (fun _ η => rn_bin η rfl rfl rfl) ?_
 intro a η
 rw [show (decide ((((d.getD 0 0).toNat : Nat) : Int) > (57 : Int))) = false from decide_eq_false (by omega)] at η
 revert a
 refine sA (v := .bool false) rfl (fun _ η => rn_pick η rfl rfl) ?_
 refine mA rfl rfl ?_
 refine gA (v := .int .i64 0) rfl rfl rfl rfl (fun _ η => rn_move η rfl) ?_
 refine gA (v := .bool false) rfl rfl rfl rfl (fun _ η => rn_bin η rfl rfl rfl) ?_
 refine gA (v := .bool false) rfl rfl rfl rfl (fun _ η => rn_move η rfl) ?_
 refine kA rfl rfl rfl rfl rfl ?_
 refine kA rfl rfl rfl rfl rfl ?_
 refine kA rfl rfl rfl rfl rfl ?_
 refine gA (v := .bool false) rfl rfl rfl rfl (fun _ η => rn_pick η rfl rfl) ?_
 refine sA (v := .bool false) rfl (fun _ η => rn_pick η rfl rfl) ?_
 intro a η
 refine wpList_nil (th_n ?_)
 refine if_f η rfl (rfl) ?_
 refine wp_skip (th_n (wp_seq (region_seq ?_)))
 refine sv (v := .agg #[.bool (neg 0), .slice none (dl 0) 0]) η rfl (rn_zref) ?_
 clear η a; intro a η
 refine seq_step rfl (op_alloc (c := #[.bool (neg 0), .slice none (dl 0) 0]) η σ rfl zero_anvil_anvilref02_Int rcells ?_)
 clear η σ a; intro a w4 g3 η σ
 refine seq_step rfl (op_store (k := 0) (c' := #[.bool (neg 0), .slice none (dl 0) 0]) η σ (ty_anvil_anvilref02_Int.size) rfl rfl rfl rfl (by simp) rfl rfl ?_)
 clear η σ a; intro a w5 η σ
 refine wpList_nil (th_n (wp_seq (wp_seq (region_seq ?_))))
 revert a
 refine mA rfl rfl ?_
 refine aA rfl rfl ?_
 intro a η
 refine wpList_nil (th_n (wp_block ?_))
 replace σ := σ.addR (rin_none _) ⟨nou_bk rfl, nou_bk rfl, trivial⟩
 refine wp_loop_ghost (fun mz a w => ∃ (k : Nat) (A1 : Option Addr) (c1 : Nat), d.length - k = mz ∧ Env 89 a [(0, .string ⟨d.toArray⟩), (2, .pointer (some ⟨g1, 0, none⟩)), (4, .int .i64 0), (5, .pointer (some ⟨g3, 0, none⟩)), (6, .int .i64 (k : Nat))] ∧ St w0 w [bk g3 #[.bool (neg ((numOf (d.take k) : Nat) : Int)), .slice A1 (dl ((numOf (d.take k) : Nat) : Int)) c1] 39, bk g1 #[.bool (neg 0), .slice none (dl 0) 0] 39] [pfR A1 c1 ((numOf (d.take k) : Nat) : Int)] ∧ k ≤ d.length) _ ⟨0, none, 0, rfl, η.sub ⟨rfl, rfl, rfl, rfl, rfl, trivial⟩, σ.pick [0, 1] [0] (by decide), (Nat.zero_le _)⟩ ?_
 clear η σ a
 rintro mz a w6 ⟨k, A1, c1, rfl, η, σ, hk⟩
 have hkl : k ≤ d.length := by omega
 have hdl1 := dl_num (d := d) (k := k) hdg hkl
 rcases ok_split2 hfb k with ⟨hlt⟩ | ⟨hlt, h1, h2, hk0, h3⟩ | ⟨hlt, h1, h2, hk0, h3⟩ | ⟨hlt, h1, h2, hk0⟩
 ·refine wp_seq (wp_seq (region_seq ?_))
  revert a
  refine mA rfl rfl ?_
  refine mA rfl rfl ?_
  refine sA (v := .int .i64 (d.length : Nat)) rfl (fun _ η => rn_lenS η Tryd.underlying9 rfl) ?_
  refine sA (v := .bool (decide (((k : Nat) : Int) < ((d.length : Nat) : Int)))) rfl (fun _ η => rn_bin η rfl rfl rfl) ?_
  intro a η
  rw [show (decide (((k : Nat) : Int) < ((d.length : Nat) : Int))) = false from decide_eq_false (by omega)] at η
  refine wpList_nil (th_n ?_)
  refine if_f η rfl (rfl) ?_
  refine wp_exit (th_x (th_x (bl_x (th_n (wp_seq ?_)))))
  obtain rfl : k = d.length := by omega
  rw [List.take_length] at σ
  refine region_seq ?_
  revert a
  refine mA rfl rfl ?_
  refine sA (v := .bool false) rfl (fun _ η => rn_bin η rfl rfl rfl) ?_
  refine sA (v := .pointer (some ⟨g3, 1, none⟩)) rfl (fun _ η => rn_fieldAddr η fd_anvil_anvilref02_Int_1 (ty__uint32.size) (by decide) rfl) ?_
  refine sA (v := .slice A1 (dl ((numOf d : Nat) : Int)) c1) rfl (fun _ η => rn_load1 η ty__uint32 rfl (σ.oat (k := 0) rfl) rfl) ?_
  intro a η
  refine seq_step rfl (op_call η rfl Tryd.call97 rfl (norm_num' (b := false) (N := numOf d) (show U32 _ A1 (dn (numOf d)) c1 (D (numOf d)) from σ.pat (k := 0) rfl)) ?_)
  rintro e w7 ⟨rfl, hz, hb⟩
  refine ⟨_, rfl, ?_⟩
  clear η a; intro a η
  replace σ := (σ.call hb).addR hz ⟨nou_bk rfl, nou_bk rfl, trivial⟩
  clear hz
  clear hb
  refine seq_step rfl (op_store (k := 1) (c' := #[.bool (neg (sg false (numOf d))), .slice A1 (dl (sg false (numOf d))) c1]) η σ (ty_anvil_anvilref02_Int.size) rfl rfl rfl rfl (by simp) rfl rfl ?_)
  clear η σ a; intro a w8 η σ
  refine sv (v := .int .i64 (-1)) η rfl (rn_assign η rfl) ?_
  clear η a; intro a η
  refine wpList_nil (th_n (wp_ret ?_))
  refine leave η (res2 Tryd.results115 (RV.cell η ty_anvil_anvilref02_Int rfl (σ.oat (k := 1) rfl) rfl) (RV.tmp η rfl)) ?_
  exact ⟨_, rfl, ⟨A1, c1, rfl, σ.pat (k := 0) rfl⟩, σ.below⟩
 ·refine wp_seq (wp_seq (region_seq ?_))
  revert a
  refine mA rfl rfl ?_
  refine mA rfl rfl ?_
  refine sA (v := .int .i64 (d.length : Nat)) rfl (fun _ η => rn_lenS η Tryd.underlying9 rfl) ?_
  refine sA (v := .bool (decide (((k : Nat) : Int) < ((d.length : Nat) : Int)))) rfl (fun _ η => rn_bin η rfl rfl rfl) ?_
  intro a η
  rw [show (decide (((k : Nat) : Int) < ((d.length : Nat) : Int))) = true from decide_eq_true (by omega)] at η
  refine wpList_nil (th_n ?_)
  refine if_t η rfl (rfl) ?_
  refine wp_skip (th_n (wp_seq (wp_block (wp_seq (wp_seq (region_seq ?_))))))
  revert a
  refine mA rfl rfl ?_
  refine mA rfl rfl ?_
  refine sA (v := .int .u8 ((d.getD k 0).toNat : Nat)) rfl (fun _ η => rn_idxS (i := k) η Tryd.underlying9 rfl rfl (by omega)) ?_
  refine sA (v := .bool (decide ((((d.getD k 0).toNat : Nat) : Int) < (48 : Int)))) rfl (fun _ η => rn_bin η rfl rfl rfl) ?_
  intro a η
  rw [show (decide ((((d.getD k 0).toNat : Nat) : Int) < (48 : Int))) = false from decide_eq_false (by omega)] at η
  revert a
  refine mA rfl rfl ?_
  refine gA (v := .string ⟨d.toArray⟩) rfl rfl rfl rfl (fun _ η => rn_move η rfl) ?_
  refine gA (v := .int .i64 (k : Nat)) rfl rfl rfl rfl (fun _ η => rn_move η rfl) ?_
  refine gA (v := .int .u8 ((d.getD k 0).toNat : Nat)) rfl rfl rfl rfl (fun _ η => rn_idxS (i := k) η Tryd.underlying9 rfl rfl (by omega)) ?_
  refine gA (v := .bool (decide ((((d.getD k 0).toNat : Nat) : Int) > (57 : Int)))) rfl rfl rfl rfl (fun _ η => rn_bin η rfl rfl rfl) ?_
  intro a η
  rw [show (decide ((((d.getD k 0).toNat : Nat) : Int) > (57 : Int))) = false from decide_eq_false (by omega)] at η
  revert a
  refine sA (v := .bool false) rfl (fun _ η => rn_pick η rfl rfl) ?_
  refine mA rfl rfl ?_
  refine gA (v := .int .i64 (k : Nat)) rfl rfl rfl rfl (fun _ η => rn_move η rfl) ?_
  refine gA (v := .int .i64 0) rfl rfl rfl rfl (fun _ η => rn_move η rfl) ?_
  refine gA (v := .int .i64 1) rfl rfl rfl rfl (fun _ η => rn_bin η rfl rfl rfl) ?_
  refine gA (v := .bool (((k : Nat) : Int) == (1 : Int))) rfl rfl rfl rfl (fun _ η => rn_bin η rfl rfl rfl) ?_
  intro a η
  rw [show (((k : Nat) : Int) == (1 : Int)) = false from beq_eq_false_iff_ne.2 (by omega)] at η
  revert a
  refine gA (v := .bool false) rfl rfl rfl rfl (fun _ η => rn_move η rfl) ?_
  refine kA rfl rfl rfl rfl rfl ?_
  refine kA rfl rfl rfl rfl rfl ?_
  refine kA rfl rfl rfl rfl rfl ?_
  refine kA rfl rfl rfl rfl rfl ?_
  refine gA (v := .bool false) rfl rfl rfl rfl (fun _ η => rn_pick η rfl rfl) ?_
  refine sA (v := .bool false) rfl (fun _ η => rn_pick η rfl rfl) ?_
  intro a η
  refine wpList_nil (th_n ?_)
  refine if_f η rfl (rfl) ?_
  refine wp_skip (th_n ?_)
  refine region_any (n := 11) (Sk [bk g1 #[.bool (neg 0), .slice none (dl 0) 0] 39] [pfR A1 c1 ((numOf (d.take k) : Nat) : Int)] [10] [bk g3 #[.bool (neg ((numOf (d.take k) : Nat) : Int)), .slice A1 (dl ((numOf (d.take k) : Nat) : Int)) c1] 39]) mixed rfl η σ ?_
  clear η σ; intro w9 η σ
  refine sAny_take (i := 0) [2, 8, 9, 10] (fun w' => w'.heap[g3]? = some (.cells #[.bool (neg ((numOf (d.take k) : Nat) : Int)), .slice A1 (dl ((numOf (d.take k) : Nat) : Int)) c1] 39 (0, 0))) (v := .agg #[.bool (neg ((numOf (d.take k) : Nat) : Int)), .slice A1 (dl ((numOf (d.take k) : Nat) : Int)) c1]) rfl (by kernel_rfl) (fun _ _ _ h => h) (fun _ _ hj hS => (hS.two rfl hj).oat (k := 0) rfl) η rfl (σ.oat (k := 0) rfl) (fun w' hg => rn_load0 η ty_anvil_anvilref02_Int rfl hg rfl) ?_
  clear η a; intro a η
  refine tM (i := 3) (rg 5 6) rfl (by kernel_rfl) (fun _ _ _ h => h) η rfl rfl ?_
  clear η a; intro a η
  refine tM (i := 4) (rg 5 6) rfl (by kernel_rfl) (fun _ _ _ h => h) η rfl rfl ?_
  clear η a; intro a η
  refine tA (i := 5) (rg 6 5) (v := .int .u8 ((d.getD k 0).toNat : Nat)) rfl (by kernel_rfl) (fun _ _ _ h => h) η rfl (fun _ => rn_idxS (i := k) η Tryd.underlying9 rfl rfl (by omega)) ?_
  clear η a; intro a η
  refine tA (i := 6) (rg 7 4) (v := .int .u8 (((d.getD k 0).toNat) - 48 : Nat)) rfl (by kernel_rfl) (fun _ _ _ h => h) η rfl (fun _ => rn_sub η rfl rfl (by rw [IntWalk.u8_in _ (by omega)]; omega)) ?_
  clear η a; intro a η
  refine tA (i := 7) [8, 9, 10] (v := .int .i64 (((d.getD k 0).toNat) - 48 : Nat)) rfl (by kernel_rfl) (fun _ _ _ h => h) η rfl (fun _ => rn_conv η rfl Tryd.underlying5 Tryd.underlying2 (IntWalk.i64_in _ (by omega))) ?_
  clear η a; intro a η
  refine sAny_one (i := 1) (by kernel_rfl) rfl rfl (op_call η rfl Tryd.call29 rfl (of_r (n := (10 : Int)) (by omega) (by omega)) ?_)
  rintro e w13 ⟨_, rfl, ⟨A10, c11, rfl, hz12⟩, hb⟩
  refine ⟨_, rfl, ?_⟩
  clear η a; intro a η
  replace σ := (σ.call hb).addR hz12 ⟨nou_bk rfl, nou_bk rfl, trivial⟩
  clear hz12
  clear hb
  refine ⟨.inr ⟨σ.kn.pick [1] [1], .inr (σ.kn.pick [0] [])⟩, ?_⟩
  refine sAny_one (i := 2) (by kernel_rfl) rfl rfl (op_call η rfl Tryd.call105 rfl (mul_r (x := ((numOf (d.take k) : Nat) : Int)) (y := 10) (show RIn _ A1 c1 ((numOf (d.take k) : Nat) : Int) from σ.pat (k := 1) rfl) (show RIn _ A10 c11 10 from σ.pat (k := 0) rfl) (by omega) (by have := dl_small (n := 10) (by decide) (by decide); omega)) ?_)
  rintro e w17 ⟨_, rfl, ⟨A14, c15, rfl, hz16⟩, hb⟩
  refine ⟨_, rfl, ?_⟩
  clear η a; intro a η
  replace σ := (σ.call hb).addR hz16 ⟨nou_bk rfl, nou_bk rfl, trivial⟩
  clear hz16
  clear hb
  refine ⟨.inr ⟨σ.kn.pick [1] [2], .inr (σ.kn.pick [0] [])⟩, ?_⟩
  refine sAny_one (i := 8) (by kernel_rfl) rfl rfl (op_call η rfl Tryd.call29 rfl (of_r (n := (((d.getD k 0).toNat) - 48 : Nat)) (by omega) (by omega)) ?_)
  rintro e w21 ⟨_, rfl, ⟨A18, c19, rfl, hz20⟩, hb⟩
  refine ⟨_, rfl, ?_⟩
  clear η a; intro a η
  replace σ := (σ.call hb).addR hz20 ⟨nou_bk rfl, nou_bk rfl, trivial⟩
  clear hz20
  clear hb
  refine ⟨.inr ⟨σ.kn.pick [1] [3], .inr (σ.kn.pick [0] [])⟩, ?_⟩
  refine sAny_one (i := 9) (by kernel_rfl) rfl rfl (op_call η rfl Tryd.call104 rfl (add_r (x := ((numOf (d.take k) : Nat) : Int) * 10) (y := (((d.getD k 0).toNat) - 48 : Nat)) (show RIn _ A14 c15 (((numOf (d.take k) : Nat) : Int) * 10) from σ.pat (k := 1) rfl) (show RIn _ A18 c19 (((d.getD k 0).toNat) - 48 : Nat) from σ.pat (k := 0) rfl) (by have h1 := dl_mul ((numOf (d.take k) : Nat) : Int) 10; have h2 := dl_small (n := 10) (by decide) (by decide); omega) (by have := dl_small (n := (((d.getD k 0).toNat) - 48 : Nat)) (by omega) (by omega); omega)) ?_)
  rintro e w25 ⟨_, rfl, ⟨A22, c23, rfl, hz24⟩, hb⟩
  refine ⟨_, rfl, ?_⟩
  clear η a; intro a η
  replace σ := (σ.call hb).addR hz24 ⟨nou_bk rfl, nou_bk rfl, trivial⟩
  clear hz24
  clear hb
  refine ⟨.inr ⟨σ.kn.pick [1] [4], .inr (σ.kn.pick [0] [])⟩, ?_⟩
  refine sAny_one (i := 10) (by kernel_rfl) rfl rfl (op_store (k := 0) (c' := #[.bool (neg ((((numOf (d.take k) : Nat) : Int) * 10) + (((d.getD k 0).toNat) - 48 : Nat))), .slice A22 (dl ((((numOf (d.take k) : Nat) : Int) * 10) + (((d.getD k 0).toNat) - 48 : Nat))) c23]) η σ (ty_anvil_anvilref02_Int.size) rfl rfl rfl rfl (by simp) rfl rfl ?_)
  clear η σ a; intro a w26 η σ
  refine ⟨.inr ⟨σ.kn.pick [1] [4], .inl rfl⟩, ?_⟩
  refine sAny_done (by kernel_rfl) ?_ _
  refine bl_n (th_n (region_seq ?_))
  revert a
  refine mA rfl rfl ?_
  refine sA (v := .int .i64 (k + 1 : Nat)) rfl (fun _ η => rn_add η rfl rfl (by rw [IntWalk.i64_in _ (by omega)]; omega)) ?_
  refine aA rfl rfl ?_
  intro a η
  refine wpList_nil ?_
  rw [num_step hlt] at σ
  exact th_n ⟨_, (by omega), ⟨k + 1, A22, c23, rfl, η.sub ⟨rfl, rfl, rfl, rfl, rfl, trivial⟩, σ.pick [0, 1] [0] (by decide), (by omega)⟩⟩
 ·refine wp_seq (wp_seq (region_seq ?_))
  revert a
  refine mA rfl rfl ?_
  refine mA rfl rfl ?_
  refine sA (v := .int .i64 (d.length : Nat)) rfl (fun _ η => rn_lenS η Tryd.underlying9 rfl) ?_
  refine sA (v := .bool (decide (((k : Nat) : Int) < ((d.length : Nat) : Int)))) rfl (fun _ η => rn_bin η rfl rfl rfl) ?_
  intro a η
  rw [show (decide (((k : Nat) : Int) < ((d.length : Nat) : Int))) = true from decide_eq_true (by omega)] at η
  refine wpList_nil (th_n ?_)
  refine if_t η rfl (rfl) ?_
  refine wp_skip (th_n (wp_seq (wp_block (wp_seq (wp_seq (region_seq ?_))))))
  revert a
  refine mA rfl rfl ?_
  refine mA rfl rfl ?_
  refine sA (v := .int .u8 ((d.getD k 0).toNat : Nat)) rfl (fun _ η => rn_idxS (i := k) η Tryd.underlying9 rfl rfl (by omega)) ?_
  refine sA (v := .bool (decide ((((d.getD k 0).toNat : Nat) : Int) < (48 : Int)))) rfl (fun _ η => rn_bin η rfl rfl rfl) ?_
  intro a η
  rw [show (decide ((((d.getD k 0).toNat : Nat) : Int) < (48 : Int))) = false from decide_eq_false (by omega)] at η
  revert a
  refine mA rfl rfl ?_
  refine gA (v := .string ⟨d.toArray⟩) rfl rfl rfl rfl (fun _ η => rn_move η rfl) ?_
  refine gA (v := .int .i64 (k : Nat)) rfl rfl rfl rfl (fun _ η => rn_move η rfl) ?_
  refine gA (v := .int .u8 ((d.getD k 0).toNat : Nat)) rfl rfl rfl rfl (fun _ η => rn_idxS (i := k) η Tryd.underlying9 rfl rfl (by omega)) ?_
  refine gA (v := .bool (decide ((((d.getD k 0).toNat : Nat) : Int) > (57 : Int)))) rfl rfl rfl rfl (fun _ η => rn_bin η rfl rfl rfl) ?_
  intro a η
  rw [show (decide ((((d.getD k 0).toNat : Nat) : Int) > (57 : Int))) = false from decide_eq_false (by omega)] at η
  revert a
  refine sA (v := .bool false) rfl (fun _ η => rn_pick η rfl rfl) ?_
  refine mA rfl rfl ?_
  refine gA (v := .int .i64 (k : Nat)) rfl rfl rfl rfl (fun _ η => rn_move η rfl) ?_
  refine gA (v := .int .i64 0) rfl rfl rfl rfl (fun _ η => rn_move η rfl) ?_
  refine gA (v := .int .i64 1) rfl rfl rfl rfl (fun _ η => rn_bin η rfl rfl rfl) ?_
  refine gA (v := .bool (((k : Nat) : Int) == (1 : Int))) rfl rfl rfl rfl (fun _ η => rn_bin η rfl rfl rfl) ?_
  intro a η
  rw [show (((k : Nat) : Int) == (1 : Int)) = true from beq_iff_eq.2 (by omega)] at η
  revert a
  refine gA (v := .bool true) rfl rfl rfl rfl (fun _ η => rn_move η rfl) ?_
  refine gA (v := .string ⟨d.toArray⟩) rfl rfl rfl rfl (fun _ η => rn_move η rfl) ?_
  refine gA (v := .int .i64 0) rfl rfl rfl rfl (fun _ η => rn_move η rfl) ?_
  refine gA (v := .int .u8 ((d.getD 0 0).toNat : Nat)) rfl rfl rfl rfl (fun _ η => rn_idxS (i := 0) η Tryd.underlying9 rfl rfl (by omega)) ?_
  refine gA (v := .bool ((((d.getD 0 0).toNat : Nat) : Int) == (48 : Int))) rfl rfl rfl rfl (fun _ η => rn_bin η rfl rfl rfl) ?_
  intro a η
  rw [show ((((d.getD 0 0).toNat : Nat) : Int) == (48 : Int)) = false from beq_eq_false_iff_ne.2 (by omega)] at η
  revert a
  refine gA (v := .bool false) rfl rfl rfl rfl (fun _ η => rn_pick η rfl rfl) ?_
  refine sA (v := .bool false) rfl (fun _ η => rn_pick η rfl rfl) ?_
  intro a η
  refine wpList_nil (th_n ?_)
  refine if_f η rfl (rfl) ?_
  refine wp_skip (th_n ?_)
  refine region_any (n := 11) (Sk [bk g1 #[.bool (neg 0), .slice none (dl 0) 0] 39] [pfR A1 c1 ((numOf (d.take k) : Nat) : Int)] [10] [bk g3 #[.bool (neg ((numOf (d.take k) : Nat) : Int)), .slice A1 (dl ((numOf (d.take k) : Nat) : Int)) c1] 39]) mixed rfl η σ ?_
  clear η σ; intro w27 η σ
  refine sAny_take (i := 0) [2, 8, 9, 10] (fun w' => w'.heap[g3]? = some (.cells #[.bool (neg ((numOf (d.take k) : Nat) : Int)), .slice A1 (dl ((numOf (d.take k) : Nat) : Int)) c1] 39 (0, 0))) (v := .agg #[.bool (neg ((numOf (d.take k) : Nat) : Int)), .slice A1 (dl ((numOf (d.take k) : Nat) : Int)) c1]) rfl (by kernel_rfl) (fun _ _ _ h => h) (fun _ _ hj hS => (hS.two rfl hj).oat (k := 0) rfl) η rfl (σ.oat (k := 0) rfl) (fun w' hg => rn_load0 η ty_anvil_anvilref02_Int rfl hg rfl) ?_
  clear η a; intro a η
  refine tM (i := 3) (rg 5 6) rfl (by kernel_rfl) (fun _ _ _ h => h) η rfl rfl ?_
  clear η a; intro a η
  refine tM (i := 4) (rg 5 6) rfl (by kernel_rfl) (fun _ _ _ h => h) η rfl rfl ?_
  clear η a; intro a η
  refine tA (i := 5) (rg 6 5) (v := .int .u8 ((d.getD k 0).toNat : Nat)) rfl (by kernel_rfl) (fun _ _ _ h => h) η rfl (fun _ => rn_idxS (i := k) η Tryd.underlying9 rfl rfl (by omega)) ?_
  clear η a; intro a η
  refine tA (i := 6) (rg 7 4) (v := .int .u8 (((d.getD k 0).toNat) - 48 : Nat)) rfl (by kernel_rfl) (fun _ _ _ h => h) η rfl (fun _ => rn_sub η rfl rfl (by rw [IntWalk.u8_in _ (by omega)]; omega)) ?_
  clear η a; intro a η
  refine tA (i := 7) [8, 9, 10] (v := .int .i64 (((d.getD k 0).toNat) - 48 : Nat)) rfl (by kernel_rfl) (fun _ _ _ h => h) η rfl (fun _ => rn_conv η rfl Tryd.underlying5 Tryd.underlying2 (IntWalk.i64_in _ (by omega))) ?_
  clear η a; intro a η
  refine sAny_one (i := 1) (by kernel_rfl) rfl rfl (op_call η rfl Tryd.call29 rfl (of_r (n := (10 : Int)) (by omega) (by omega)) ?_)
  rintro e w31 ⟨_, rfl, ⟨A28, c29, rfl, hz30⟩, hb⟩
  refine ⟨_, rfl, ?_⟩
  clear η a; intro a η
  replace σ := (σ.call hb).addR hz30 ⟨nou_bk rfl, nou_bk rfl, trivial⟩
  clear hz30
  clear hb
  refine ⟨.inr ⟨σ.kn.pick [1] [1], .inr (σ.kn.pick [0] [])⟩, ?_⟩
  refine sAny_one (i := 2) (by kernel_rfl) rfl rfl (op_call η rfl Tryd.call105 rfl (mul_r (x := ((numOf (d.take k) : Nat) : Int)) (y := 10) (show RIn _ A1 c1 ((numOf (d.take k) : Nat) : Int) from σ.pat (k := 1) rfl) (show RIn _ A28 c29 10 from σ.pat (k := 0) rfl) (by omega) (by have := dl_small (n := 10) (by decide) (by decide); omega)) ?_)
  rintro e w35 ⟨_, rfl, ⟨A32, c33, rfl, hz34⟩, hb⟩
  refine ⟨_, rfl, ?_⟩
  clear η a; intro a η
  replace σ := (σ.call hb).addR hz34 ⟨nou_bk rfl, nou_bk rfl, trivial⟩
  clear hz34
  clear hb
  refine ⟨.inr ⟨σ.kn.pick [1] [2], .inr (σ.kn.pick [0] [])⟩, ?_⟩
  refine sAny_one (i := 8) (by kernel_rfl) rfl rfl (op_call η rfl Tryd.call29 rfl (of_r (n := (((d.getD k 0).toNat) - 48 : Nat)) (by omega) (by omega)) ?_)
  rintro e w39 ⟨_, rfl, ⟨A36, c37, rfl, hz38⟩, hb⟩
  refine ⟨_, rfl, ?_⟩
  clear η a; intro a η
  replace σ := (σ.call hb).addR hz38 ⟨nou_bk rfl, nou_bk rfl, trivial⟩
  clear hz38
  clear hb
  refine ⟨.inr ⟨σ.kn.pick [1] [3], .inr (σ.kn.pick [0] [])⟩, ?_⟩
  refine sAny_one (i := 9) (by kernel_rfl) rfl rfl (op_call η rfl Tryd.call104 rfl (add_r (x := ((numOf (d.take k) : Nat) : Int) * 10) (y := (((d.getD k 0).toNat) - 48 : Nat)) (show RIn _ A32 c33 (((numOf (d.take k) : Nat) : Int) * 10) from σ.pat (k := 1) rfl) (show RIn _ A36 c37 (((d.getD k 0).toNat) - 48 : Nat) from σ.pat (k := 0) rfl) (by have h1 := dl_mul ((numOf (d.take k) : Nat) : Int) 10; have h2 := dl_small (n := 10) (by decide) (by decide); omega) (by have := dl_small (n := (((d.getD k 0).toNat) - 48 : Nat)) (by omega) (by omega); omega)) ?_)
  rintro e w43 ⟨_, rfl, ⟨A40, c41, rfl, hz42⟩, hb⟩
  refine ⟨_, rfl, ?_⟩
  clear η a; intro a η
  replace σ := (σ.call hb).addR hz42 ⟨nou_bk rfl, nou_bk rfl, trivial⟩
  clear hz42
  clear hb
  refine ⟨.inr ⟨σ.kn.pick [1] [4], .inr (σ.kn.pick [0] [])⟩, ?_⟩
  refine sAny_one (i := 10) (by kernel_rfl) rfl rfl (op_store (k := 0) (c' := #[.bool (neg ((((numOf (d.take k) : Nat) : Int) * 10) + (((d.getD k 0).toNat) - 48 : Nat))), .slice A40 (dl ((((numOf (d.take k) : Nat) : Int) * 10) + (((d.getD k 0).toNat) - 48 : Nat))) c41]) η σ (ty_anvil_anvilref02_Int.size) rfl rfl rfl rfl (by simp) rfl rfl ?_)
  clear η σ a; intro a w44 η σ
  refine ⟨.inr ⟨σ.kn.pick [1] [4], .inl rfl⟩, ?_⟩
  refine sAny_done (by kernel_rfl) ?_ _
  refine bl_n (th_n (region_seq ?_))
  revert a
  refine mA rfl rfl ?_
  refine sA (v := .int .i64 (k + 1 : Nat)) rfl (fun _ η => rn_add η rfl rfl (by rw [IntWalk.i64_in _ (by omega)]; omega)) ?_
  refine aA rfl rfl ?_
  intro a η
  refine wpList_nil ?_
  rw [num_step hlt] at σ
  exact th_n ⟨_, (by omega), ⟨k + 1, A40, c41, rfl, η.sub ⟨rfl, rfl, rfl, rfl, rfl, trivial⟩, σ.pick [0, 1] [0] (by decide), (by omega)⟩⟩
 ·refine wp_seq (wp_seq (region_seq ?_))
  revert a
  refine mA rfl rfl ?_
  refine mA rfl rfl ?_
  refine sA (v := .int .i64 (d.length : Nat)) rfl (fun _ η => rn_lenS η Tryd.underlying9 rfl) ?_
  refine sA (v := .bool (decide (((k : Nat) : Int) < ((d.length : Nat) : Int)))) rfl (fun _ η => rn_bin η rfl rfl rfl) ?_
  intro a η
  rw [show (decide (((k : Nat) : Int) < ((d.length : Nat) : Int))) = true from decide_eq_true (by omega)] at η
  refine wpList_nil (th_n ?_)
  refine if_t η rfl (rfl) ?_
  refine wp_skip (th_n (wp_seq (wp_block (wp_seq (wp_seq (region_seq ?_))))))
  revert a
  refine mA rfl rfl ?_
  refine mA rfl rfl ?_
  refine sA (v := .int .u8 ((d.getD k 0).toNat : Nat)) rfl (fun _ η => rn_idxS (i := k) η Tryd.underlying9 rfl rfl (by omega)) ?_
  refine sA (v := .bool (decide ((((d.getD k 0).toNat : Nat) : Int) < (48 : Int)))) rfl (fun _ η => rn_bin η rfl rfl rfl) ?_
  intro a η
  rw [show (decide ((((d.getD k 0).toNat : Nat) : Int) < (48 : Int))) = false from decide_eq_false (by omega)] at η
  revert a
  refine mA rfl rfl ?_
  refine gA (v := .string ⟨d.toArray⟩) rfl rfl rfl rfl (fun _ η => rn_move η rfl) ?_
  refine gA (v := .int .i64 (k : Nat)) rfl rfl rfl rfl (fun _ η => rn_move η rfl) ?_
  refine gA (v := .int .u8 ((d.getD k 0).toNat : Nat)) rfl rfl rfl rfl (fun _ η => rn_idxS (i := k) η Tryd.underlying9 rfl rfl (by omega)) ?_
  refine gA (v := .bool (decide ((((d.getD k 0).toNat : Nat) : Int) > (57 : Int)))) rfl rfl rfl rfl (fun _ η => rn_bin η rfl rfl rfl) ?_
  intro a η
  rw [show (decide ((((d.getD k 0).toNat : Nat) : Int) > (57 : Int))) = false from decide_eq_false (by omega)] at η
  revert a
  refine sA (v := .bool false) rfl (fun _ η => rn_pick η rfl rfl) ?_
  refine mA rfl rfl ?_
  refine gA (v := .int .i64 (k : Nat)) rfl rfl rfl rfl (fun _ η => rn_move η rfl) ?_
  refine gA (v := .int .i64 0) rfl rfl rfl rfl (fun _ η => rn_move η rfl) ?_
  refine gA (v := .int .i64 1) rfl rfl rfl rfl (fun _ η => rn_bin η rfl rfl rfl) ?_
  refine gA (v := .bool (((k : Nat) : Int) == (1 : Int))) rfl rfl rfl rfl (fun _ η => rn_bin η rfl rfl rfl) ?_
  intro a η
  rw [show (((k : Nat) : Int) == (1 : Int)) = false from beq_eq_false_iff_ne.2 (by omega)] at η
  revert a
  refine gA (v := .bool false) rfl rfl rfl rfl (fun _ η => rn_move η rfl) ?_
  refine kA rfl rfl rfl rfl rfl ?_
  refine kA rfl rfl rfl rfl rfl ?_
  refine kA rfl rfl rfl rfl rfl ?_
  refine kA rfl rfl rfl rfl rfl ?_
  refine gA (v := .bool false) rfl rfl rfl rfl (fun _ η => rn_pick η rfl rfl) ?_
  refine sA (v := .bool false) rfl (fun _ η => rn_pick η rfl rfl) ?_
  intro a η
  refine wpList_nil (th_n ?_)
  refine if_f η rfl (rfl) ?_
  refine wp_skip (th_n ?_)
  refine region_any (n := 11) (Sk [bk g1 #[.bool (neg 0), .slice none (dl 0) 0] 39] [pfR A1 c1 ((numOf (d.take k) : Nat) : Int)] [10] [bk g3 #[.bool (neg ((numOf (d.take k) : Nat) : Int)), .slice A1 (dl ((numOf (d.take k) : Nat) : Int)) c1] 39]) mixed rfl η σ ?_
  clear η σ; intro w45 η σ
  refine sAny_take (i := 0) [2, 8, 9, 10] (fun w' => w'.heap[g3]? = some (.cells #[.bool (neg ((numOf (d.take k) : Nat) : Int)), .slice A1 (dl ((numOf (d.take k) : Nat) : Int)) c1] 39 (0, 0))) (v := .agg #[.bool (neg ((numOf (d.take k) : Nat) : Int)), .slice A1 (dl ((numOf (d.take k) : Nat) : Int)) c1]) rfl (by kernel_rfl) (fun _ _ _ h => h) (fun _ _ hj hS => (hS.two rfl hj).oat (k := 0) rfl) η rfl (σ.oat (k := 0) rfl) (fun w' hg => rn_load0 η ty_anvil_anvilref02_Int rfl hg rfl) ?_
  clear η a; intro a η
  refine tM (i := 3) (rg 5 6) rfl (by kernel_rfl) (fun _ _ _ h => h) η rfl rfl ?_
  clear η a; intro a η
  refine tM (i := 4) (rg 5 6) rfl (by kernel_rfl) (fun _ _ _ h => h) η rfl rfl ?_
  clear η a; intro a η
  refine tA (i := 5) (rg 6 5) (v := .int .u8 ((d.getD k 0).toNat : Nat)) rfl (by kernel_rfl) (fun _ _ _ h => h) η rfl (fun _ => rn_idxS (i := k) η Tryd.underlying9 rfl rfl (by omega)) ?_
  clear η a; intro a η
  refine tA (i := 6) (rg 7 4) (v := .int .u8 (((d.getD k 0).toNat) - 48 : Nat)) rfl (by kernel_rfl) (fun _ _ _ h => h) η rfl (fun _ => rn_sub η rfl rfl (by rw [IntWalk.u8_in _ (by omega)]; omega)) ?_
  clear η a; intro a η
  refine tA (i := 7) [8, 9, 10] (v := .int .i64 (((d.getD k 0).toNat) - 48 : Nat)) rfl (by kernel_rfl) (fun _ _ _ h => h) η rfl (fun _ => rn_conv η rfl Tryd.underlying5 Tryd.underlying2 (IntWalk.i64_in _ (by omega))) ?_
  clear η a; intro a η
  refine sAny_one (i := 1) (by kernel_rfl) rfl rfl (op_call η rfl Tryd.call29 rfl (of_r (n := (10 : Int)) (by omega) (by omega)) ?_)
  rintro e w49 ⟨_, rfl, ⟨A46, c47, rfl, hz48⟩, hb⟩
  refine ⟨_, rfl, ?_⟩
  clear η a; intro a η
  replace σ := (σ.call hb).addR hz48 ⟨nou_bk rfl, nou_bk rfl, trivial⟩
  clear hz48
  clear hb
  refine ⟨.inr ⟨σ.kn.pick [1] [1], .inr (σ.kn.pick [0] [])⟩, ?_⟩
  refine sAny_one (i := 2) (by kernel_rfl) rfl rfl (op_call η rfl Tryd.call105 rfl (mul_r (x := ((numOf (d.take k) : Nat) : Int)) (y := 10) (show RIn _ A1 c1 ((numOf (d.take k) : Nat) : Int) from σ.pat (k := 1) rfl) (show RIn _ A46 c47 10 from σ.pat (k := 0) rfl) (by omega) (by have := dl_small (n := 10) (by decide) (by decide); omega)) ?_)
  rintro e w53 ⟨_, rfl, ⟨A50, c51, rfl, hz52⟩, hb⟩
  refine ⟨_, rfl, ?_⟩
  clear η a; intro a η
  replace σ := (σ.call hb).addR hz52 ⟨nou_bk rfl, nou_bk rfl, trivial⟩
  clear hz52
  clear hb
  refine ⟨.inr ⟨σ.kn.pick [1] [2], .inr (σ.kn.pick [0] [])⟩, ?_⟩
  refine sAny_one (i := 8) (by kernel_rfl) rfl rfl (op_call η rfl Tryd.call29 rfl (of_r (n := (((d.getD k 0).toNat) - 48 : Nat)) (by omega) (by omega)) ?_)
  rintro e w57 ⟨_, rfl, ⟨A54, c55, rfl, hz56⟩, hb⟩
  refine ⟨_, rfl, ?_⟩
  clear η a; intro a η
  replace σ := (σ.call hb).addR hz56 ⟨nou_bk rfl, nou_bk rfl, trivial⟩
  clear hz56
  clear hb
  refine ⟨.inr ⟨σ.kn.pick [1] [3], .inr (σ.kn.pick [0] [])⟩, ?_⟩
  refine sAny_one (i := 9) (by kernel_rfl) rfl rfl (op_call η rfl Tryd.call104 rfl (add_r (x := ((numOf (d.take k) : Nat) : Int) * 10) (y := (((d.getD k 0).toNat) - 48 : Nat)) (show RIn _ A50 c51 (((numOf (d.take k) : Nat) : Int) * 10) from σ.pat (k := 1) rfl) (show RIn _ A54 c55 (((d.getD k 0).toNat) - 48 : Nat) from σ.pat (k := 0) rfl) (by have h1 := dl_mul ((numOf (d.take k) : Nat) : Int) 10; have h2 := dl_small (n := 10) (by decide) (by decide); omega) (by have := dl_small (n := (((d.getD k 0).toNat) - 48 : Nat)) (by omega) (by omega); omega)) ?_)
  rintro e w61 ⟨_, rfl, ⟨A58, c59, rfl, hz60⟩, hb⟩
  refine ⟨_, rfl, ?_⟩
  clear η a; intro a η
  replace σ := (σ.call hb).addR hz60 ⟨nou_bk rfl, nou_bk rfl, trivial⟩
  clear hz60
  clear hb
  refine ⟨.inr ⟨σ.kn.pick [1] [4], .inr (σ.kn.pick [0] [])⟩, ?_⟩
  refine sAny_one (i := 10) (by kernel_rfl) rfl rfl (op_store (k := 0) (c' := #[.bool (neg ((((numOf (d.take k) : Nat) : Int) * 10) + (((d.getD k 0).toNat) - 48 : Nat))), .slice A58 (dl ((((numOf (d.take k) : Nat) : Int) * 10) + (((d.getD k 0).toNat) - 48 : Nat))) c59]) η σ (ty_anvil_anvilref02_Int.size) rfl rfl rfl rfl (by simp) rfl rfl ?_)
  clear η σ a; intro a w62 η σ
  refine ⟨.inr ⟨σ.kn.pick [1] [4], .inl rfl⟩, ?_⟩
  refine sAny_done (by kernel_rfl) ?_ _
  refine bl_n (th_n (region_seq ?_))
  revert a
  refine mA rfl rfl ?_
  refine sA (v := .int .i64 (k + 1 : Nat)) rfl (fun _ η => rn_add η rfl rfl (by rw [IntWalk.i64_in _ (by omega)]; omega)) ?_
  refine aA rfl rfl ?_
  intro a η
  refine wpList_nil ?_
  rw [num_step hlt] at σ
  exact th_n ⟨_, (by omega), ⟨k + 1, A58, c59, rfl, η.sub ⟨rfl, rfl, rfl, rfl, rfl, trivial⟩, σ.pick [0, 1] [0] (by decide), (by omega)⟩⟩
theorem rread_empty1 {d : List UInt8} {w0 : World} (hl0 : d.length = 0) :
  Calls Tryd.prog 115 #[.string ⟨(45 :: d).toArray⟩] w0 fun e w' => e = .returned (.tuple #[.agg #[.bool (neg 0), .slice none (dl 0) 0], .int .i64 1]) ∧ Below w0.heap.size w0 w' := by
 have hlen1 : (45 :: d).length = d.length + 1 := rfl
 refine enter Tryd.func115 rfl Tryd.ntmps115 rfl ?_
 intro a η σ
 refine wp_seq (region_seq ?_)
 refine seq_step rfl (op_alloc (c := #[.bool (neg 0), .slice none (dl 0) 0]) η σ rfl zero_anvil_anvilref02_Int rcells ?_)
 clear η σ a; intro a w2 g1 η σ
 refine sv (v := .int .i64 0) η rfl (rn_assign η rfl) ?_
 clear η a; intro a η
 refine wpList_nil (th_n (wp_seq (region_seq ?_)))
 refine sv (v := .int .i64 0) η rfl (rn_assign η rfl) ?_
 clear η a; intro a η
 refine wpList_nil (th_n (wp_seq (wp_seq (region_seq ?_))))
 revert a
 refine mA rfl rfl ?_
 refine sA (v := .int .i64 ((45 :: d).length : Nat)) rfl (fun _ η => rn_lenS η Tryd.underlying9 rfl) ?_
 intro a η
 rw [List.length_cons] at η
 refine sv (v := .bool (decide (((d.length + 1 : Nat) : Int) > (0 : Int)))) η rfl (rn_bin η rfl rfl rfl) ?_
 clear η a; intro a η
 rw [show (decide (((d.length + 1 : Nat) : Int) > (0 : Int))) = true from decide_eq_true (by omega)] at η
 revert a
 refine mA rfl rfl ?_
 refine gA (v := .string ⟨(45 :: d).toArray⟩) rfl rfl rfl rfl (fun _ η => rn_move η rfl) ?_
 refine gA (v := .int .u8 (((45 :: d).getD 0 0).toNat : Nat)) rfl rfl rfl rfl (fun _ η => rn_idxS (i := 0) η Tryd.underlying9 rfl rfl (by omega)) ?_
 intro a η
 rw [List.getD_cons_zero] at η
 refine seq_g rfl η rfl rfl (op_val (v := .bool ((((45 : UInt8).toNat : Nat) : Int) == (45 : Int))) η rfl (rn_bin η rfl rfl rfl) ?_)
 clear η a; intro a η
 rw [show ((((45 : UInt8).toNat : Nat) : Int) == (45 : Int)) = true from rfl] at η
 refine sv (v := .bool true) η rfl (rn_pick η rfl rfl) ?_
 clear η a; intro a η
 refine wpList_nil (th_n ?_)
 refine if_t η rfl (rfl) ?_
 refine region_seq ?_
 refine sv (v := .int .i64 1) η rfl (rn_assign η rfl) ?_
 clear η a; intro a η
 refine wpList_nil (th_n (wp_seq (wp_seq (region_seq ?_))))
 revert a
 refine mA rfl rfl ?_
 refine mA rfl rfl ?_
 refine sA (v := .int .i64 ((45 :: d).length : Nat)) rfl (fun _ η => rn_lenS η Tryd.underlying9 rfl) ?_
 intro a η
 rw [List.length_cons] at η
 refine sv (v := .bool (decide ((1 : Int) ≥ ((d.length + 1 : Nat) : Int)))) η rfl (rn_bin η rfl rfl rfl) ?_
 clear η a; intro a η
 rw [show (decide ((1 : Int) ≥ ((d.length + 1 : Nat) : Int))) = true from decide_eq_true (by omega)] at η
 revert a
 refine mA rfl rfl ?_
 refine kA rfl rfl rfl rfl rfl ?_
 refine kA rfl rfl rfl rfl rfl ?_
 refine kA rfl rfl rfl rfl rfl ?_
 refine kA rfl rfl rfl rfl rfl ?_
 refine sA (v := .bool true) rfl (fun _ η => rn_pick η rfl rfl) ?_
 refine mA rfl rfl ?_
 refine kA rfl rfl rfl rfl rfl ?_
 refine kA rfl rfl rfl rfl rfl ?_
 refine kA rfl rfl rfl rfl rfl ?_
 refine kA rfl rfl rfl rfl rfl ?_
 refine sA (v := .bool true) rfl (fun _ η => rn_pick η rfl rfl) ?_
 refine mA rfl rfl ?_
 refine kA rfl rfl rfl rfl rfl ?_
 refine kA rfl rfl rfl rfl rfl ?_
 refine kA rfl rfl rfl rfl rfl ?_
 refine kA rfl rfl rfl rfl rfl ?_
 refine kA rfl rfl rfl rfl rfl ?_
 refine kA rfl rfl rfl rfl rfl ?_
 refine kA rfl rfl rfl rfl rfl ?_
 refine sA (v := .bool true) rfl (fun _ η => rn_pick η rfl rfl) ?_
 intro a η
 refine wpList_nil (th_n ?_)
 refine if_t η rfl (rfl) ?_
 refine wp_seq (region_seq ?_)
 revert a
 refine sA (v := .agg #[.bool (neg 0), .slice none (dl 0) 0]) rfl (fun _ η => rn_zref) ?_
 refine mA rfl rfl ?_
 intro a η
 refine seq_step rfl (op_store (k := 0) (c' := #[.bool (neg 0), .slice none (dl 0) 0]) η σ (ty_anvil_anvilref02_Int.size) rfl rfl rfl rfl (by simp) rfl rfl ?_)
 clear η σ a; intro a w3 η σ
 refine sv (v := .int .i64 1) η rfl (rn_assign η rfl) ?_
 clear η a; intro a η
 refine wpList_nil (th_n (wp_ret (th_r ?_)))
 refine leave η (res2 Tryd.results115 (RV.cell η ty_anvil_anvilref02_Int rfl (σ.oat (k := 0) rfl) rfl) (RV.tmp η rfl)) ?_
 exact ⟨rfl, σ.below⟩
theorem rread_lo1 {d : List UInt8} {w0 : World} (hl0 : 0 < d.length) (h1 : (d.getD 0 0).toNat < 48) (hl : d.length ≤ 100000) :
  Calls Tryd.prog 115 #[.string ⟨(45 :: d).toArray⟩] w0 fun e w' => e = .returned (.tuple #[.agg #[.bool (neg 0), .slice none (dl 0) 0], .int .i64 1]) ∧ Below w0.heap.size w0 w' := by
 have hlen1 : (45 :: d).length = d.length + 1 := rfl
 refine enter Tryd.func115 rfl Tryd.ntmps115 rfl ?_
 intro a η σ
 refine wp_seq (region_seq ?_)
 refine seq_step rfl (op_alloc (c := #[.bool (neg 0), .slice none (dl 0) 0]) η σ rfl zero_anvil_anvilref02_Int rcells ?_)
 clear η σ a; intro a w2 g1 η σ
 refine sv (v := .int .i64 0) η rfl (rn_assign η rfl) ?_
 clear η a; intro a η
 refine wpList_nil (th_n (wp_seq (region_seq ?_)))
 refine sv (v := .int .i64 0) η rfl (rn_assign η rfl) ?_
 clear η a; intro a η
 refine wpList_nil (th_n (wp_seq (wp_seq (region_seq ?_))))
 revert a
 refine mA rfl rfl ?_
 refine sA (v := .int .i64 ((45 :: d).length : Nat)) rfl (fun _ η => rn_lenS η Tryd.underlying9 rfl) ?_
 intro a η
 rw [List.length_cons] at η
 refine sv (v := .bool (decide (((d.length + 1 : Nat) : Int) > (0 : Int)))) η rfl (rn_bin η rfl rfl rfl) ?_
 clear η a; intro a η
 rw [show (decide (((d.length + 1 : Nat) : Int) > (0 : Int))) = true from decide_eq_true (by omega)] at η
 revert a
 refine mA rfl rfl ?_
 refine gA (v := .string ⟨(45 :: d).toArray⟩) rfl rfl rfl rfl (fun _ η => rn_move η rfl) ?_
 refine gA (v := .int .u8 (((45 :: d).getD 0 0).toNat : Nat)) rfl rfl rfl rfl (fun _ η => rn_idxS (i := 0) η Tryd.underlying9 rfl rfl (by omega)) ?_
 intro a η
 rw [List.getD_cons_zero] at η
 refine seq_g rfl η rfl rfl (op_val (v := .bool ((((45 : UInt8).toNat : Nat) : Int) == (45 : Int))) η rfl (rn_bin η rfl rfl rfl) ?_)
 clear η a; intro a η
 rw [show ((((45 : UInt8).toNat : Nat) : Int) == (45 : Int)) = true from rfl] at η
 refine sv (v := .bool true) η rfl (rn_pick η rfl rfl) ?_
 clear η a; intro a η
 refine wpList_nil (th_n ?_)
 refine if_t η rfl (rfl) ?_
 refine region_seq ?_
 refine sv (v := .int .i64 1) η rfl (rn_assign η rfl) ?_
 clear η a; intro a η
 refine wpList_nil (th_n (wp_seq (wp_seq (region_seq ?_))))
 revert a
 refine mA rfl rfl ?_
 refine mA rfl rfl ?_
 refine sA (v := .int .i64 ((45 :: d).length : Nat)) rfl (fun _ η => rn_lenS η Tryd.underlying9 rfl) ?_
 intro a η
 rw [List.length_cons] at η
 refine sv (v := .bool (decide ((1 : Int) ≥ ((d.length + 1 : Nat) : Int)))) η rfl (rn_bin η rfl rfl rfl) ?_
 clear η a; intro a η
 rw [show (decide ((1 : Int) ≥ ((d.length + 1 : Nat) : Int))) = false from decide_eq_false (by omega)] at η
 revert a
 refine mA rfl rfl ?_
 refine gA (v := .string ⟨(45 :: d).toArray⟩) rfl rfl rfl rfl (fun _ η => rn_move η rfl) ?_
 refine gA (v := .int .i64 1) rfl rfl rfl rfl (fun _ η => rn_move η rfl) ?_
 refine gA (v := .int .u8 (((45 :: d).getD 1 0).toNat : Nat)) rfl rfl rfl rfl (fun _ η => rn_idxS (i := 1) η Tryd.underlying9 rfl rfl (by omega)) ?_
 intro a η
 rw [show (45 :: d).getD 1 0 = d.getD 0 0 from rfl] at η
 refine seq_g rfl η rfl rfl (op_val (v := .bool (decide ((((d.getD 0 0).toNat : Nat) : Int) < (48 : Int)))) η rfl (rn_bin η rfl rfl rfl) ?_)
 clear η a; intro a η
 rw [show (decide ((((d.getD 0 0).toNat : Nat) : Int) < (48 : Int))) = true from decide_eq_true (by omega)] at η
 revert a
 refine sA (v := .bool true) rfl (fun _ η => rn_pick η rfl rfl) ?_
 refine mA rfl rfl ?_
 refine kA rfl rfl rfl rfl rfl ?_
 refine kA rfl rfl rfl rfl rfl ?_
 refine kA rfl rfl rfl rfl rfl ?_
 refine kA rfl rfl rfl rfl rfl ?_
 refine sA (v := .bool true) rfl (fun _ η => rn_pick η rfl rfl) ?_
 refine mA rfl rfl ?_
 refine kA rfl rfl rfl rfl rfl ?_
 refine kA rfl rfl rfl rfl rfl ?_
 refine kA rfl rfl rfl rfl rfl ?_
 refine kA rfl rfl rfl rfl rfl ?_
 refine kA rfl rfl rfl rfl rfl ?_
 refine kA rfl rfl rfl rfl rfl ?_
 refine kA rfl rfl rfl rfl rfl ?_
 refine sA (v := .bool true) rfl (fun _ η => rn_pick η rfl rfl) ?_
 intro a η
 refine wpList_nil (th_n ?_)
 refine if_t η rfl (rfl) ?_
 refine wp_seq (region_seq ?_)
 revert a
 refine sA (v := .agg #[.bool (neg 0), .slice none (dl 0) 0]) rfl (fun _ η => rn_zref) ?_
 refine mA rfl rfl ?_
 intro a η
 refine seq_step rfl (op_store (k := 0) (c' := #[.bool (neg 0), .slice none (dl 0) 0]) η σ (ty_anvil_anvilref02_Int.size) rfl rfl rfl rfl (by simp) rfl rfl ?_)
 clear η σ a; intro a w3 η σ
 refine sv (v := .int .i64 1) η rfl (rn_assign η rfl) ?_
 clear η a; intro a η
 refine wpList_nil (th_n (wp_ret (th_r ?_)))
 refine leave η (res2 Tryd.results115 (RV.cell η ty_anvil_anvilref02_Int rfl (σ.oat (k := 0) rfl) rfl) (RV.tmp η rfl)) ?_
 exact ⟨rfl, σ.below⟩
theorem rread_hi1 {d : List UInt8} {w0 : World} (hl0 : 0 < d.length) (h1 : 57 < (d.getD 0 0).toNat) (hl : d.length ≤ 100000) :
  Calls Tryd.prog 115 #[.string ⟨(45 :: d).toArray⟩] w0 fun e w' => e = .returned (.tuple #[.agg #[.bool (neg 0), .slice none (dl 0) 0], .int .i64 1]) ∧ Below w0.heap.size w0 w' := by
 have hlen1 : (45 :: d).length = d.length + 1 := rfl
 refine enter Tryd.func115 rfl Tryd.ntmps115 rfl ?_
 intro a η σ
 refine wp_seq (region_seq ?_)
 refine seq_step rfl (op_alloc (c := #[.bool (neg 0), .slice none (dl 0) 0]) η σ rfl zero_anvil_anvilref02_Int rcells ?_)
 clear η σ a; intro a w2 g1 η σ
 refine sv (v := .int .i64 0) η rfl (rn_assign η rfl) ?_
 clear η a; intro a η
 refine wpList_nil (th_n (wp_seq (region_seq ?_)))
 refine sv (v := .int .i64 0) η rfl (rn_assign η rfl) ?_
 clear η a; intro a η
 refine wpList_nil (th_n (wp_seq (wp_seq (region_seq ?_))))
 revert a
 refine mA rfl rfl ?_
 refine sA (v := .int .i64 ((45 :: d).length : Nat)) rfl (fun _ η => rn_lenS η Tryd.underlying9 rfl) ?_
 intro a η
 rw [List.length_cons] at η
 refine sv (v := .bool (decide (((d.length + 1 : Nat) : Int) > (0 : Int)))) η rfl (rn_bin η rfl rfl rfl) ?_
 clear η a; intro a η
 rw [show (decide (((d.length + 1 : Nat) : Int) > (0 : Int))) = true from decide_eq_true (by omega)] at η
 revert a
 refine mA rfl rfl ?_
 refine gA (v := .string ⟨(45 :: d).toArray⟩) rfl rfl rfl rfl (fun _ η => rn_move η rfl) ?_
 refine gA (v := .int .u8 (((45 :: d).getD 0 0).toNat : Nat)) rfl rfl rfl rfl (fun _ η => rn_idxS (i := 0) η Tryd.underlying9 rfl rfl (by omega)) ?_
 intro a η
 rw [List.getD_cons_zero] at η
 refine seq_g rfl η rfl rfl (op_val (v := .bool ((((45 : UInt8).toNat : Nat) : Int) == (45 : Int))) η rfl (rn_bin η rfl rfl rfl) ?_)
 clear η a; intro a η
 rw [show ((((45 : UInt8).toNat : Nat) : Int) == (45 : Int)) = true from rfl] at η
 refine sv (v := .bool true) η rfl (rn_pick η rfl rfl) ?_
 clear η a; intro a η
 refine wpList_nil (th_n ?_)
 refine if_t η rfl (rfl) ?_
 refine region_seq ?_
 refine sv (v := .int .i64 1) η rfl (rn_assign η rfl) ?_
 clear η a; intro a η
 refine wpList_nil (th_n (wp_seq (wp_seq (region_seq ?_))))
 revert a
 refine mA rfl rfl ?_
 refine mA rfl rfl ?_
 refine sA (v := .int .i64 ((45 :: d).length : Nat)) rfl (fun _ η => rn_lenS η Tryd.underlying9 rfl) ?_
 intro a η
 rw [List.length_cons] at η
 refine sv (v := .bool (decide ((1 : Int) ≥ ((d.length + 1 : Nat) : Int)))) η rfl (rn_bin η rfl rfl rfl) ?_
 clear η a; intro a η
 rw [show (decide ((1 : Int) ≥ ((d.length + 1 : Nat) : Int))) = false from decide_eq_false (by omega)] at η
 revert a
 refine mA rfl rfl ?_
 refine gA (v := .string ⟨(45 :: d).toArray⟩) rfl rfl rfl rfl (fun _ η => rn_move η rfl) ?_
 refine gA (v := .int .i64 1) rfl rfl rfl rfl (fun _ η => rn_move η rfl) ?_
 refine gA (v := .int .u8 (((45 :: d).getD 1 0).toNat : Nat)) rfl rfl rfl rfl (fun _ η => rn_idxS (i := 1) η Tryd.underlying9 rfl rfl (by omega)) ?_
 intro a η
 rw [show (45 :: d).getD 1 0 = d.getD 0 0 from rfl] at η
 refine seq_g rfl η rfl rfl (op_val (v := .bool (decide ((((d.getD 0 0).toNat : Nat) : Int) < (48 : Int)))) η rfl (rn_bin η rfl rfl rfl) ?_)
 clear η a; intro a η
 rw [show (decide ((((d.getD 0 0).toNat : Nat) : Int) < (48 : Int))) = false from decide_eq_false (by omega)] at η
 revert a
 refine sA (v := .bool false) rfl (fun _ η => rn_pick η rfl rfl) ?_
 refine mA rfl rfl ?_
 refine gA (v := .string ⟨(45 :: d).toArray⟩) rfl rfl rfl rfl (fun _ η => rn_move η rfl) ?_
 refine gA (v := .int .i64 1) rfl rfl rfl rfl (fun _ η => rn_move η rfl) ?_
 refine gA (v := .int .u8 (((45 :: d).getD 1 0).toNat : Nat)) rfl rfl rfl rfl (fun _ η => rn_idxS (i := 1) η Tryd.underlying9 rfl rfl (by omega)) ?_
 intro a η
 rw [show (45 :: d).getD 1 0 = d.getD 0 0 from rfl] at η
 refine seq_g rfl η rfl rfl (op_val (v := .bool (decide ((((d.getD 0 0).toNat : Nat) : Int) > (57 : Int)))) η rfl (rn_bin η rfl rfl rfl) ?_)
 clear η a; intro a η
 rw [show (decide ((((d.getD 0 0).toNat : Nat) : Int) > (57 : Int))) = true from decide_eq_true (by omega)] at η
 revert a
 refine sA (v := .bool true) rfl (fun _ η => rn_pick η rfl rfl) ?_
 refine mA rfl rfl ?_
 refine kA rfl rfl rfl rfl rfl ?_
 refine kA rfl rfl rfl rfl rfl ?_
 refine kA rfl rfl rfl rfl rfl ?_
 refine kA rfl rfl rfl rfl rfl ?_
 refine kA rfl rfl rfl rfl rfl ?_
 refine kA rfl rfl rfl rfl rfl ?_
 refine kA rfl rfl rfl rfl rfl ?_
 refine sA (v := .bool true) rfl (fun _ η => rn_pick η rfl rfl) ?_
 intro a η
 refine wpList_nil (th_n ?_)
 refine if_t η rfl (rfl) ?_
 refine wp_seq (region_seq ?_)
 revert a
 refine sA (v := .agg #[.bool (neg 0), .slice none (dl 0) 0]) rfl (fun _ η => rn_zref) ?_
 refine mA rfl rfl ?_
 intro a η
 refine seq_step rfl (op_store (k := 0) (c' := #[.bool (neg 0), .slice none (dl 0) 0]) η σ (ty_anvil_anvilref02_Int.size) rfl rfl rfl rfl (by simp) rfl rfl ?_)
 clear η σ a; intro a w3 η σ
 refine sv (v := .int .i64 1) η rfl (rn_assign η rfl) ?_
 clear η a; intro a η
 refine wpList_nil (th_n (wp_ret (th_r ?_)))
 refine leave η (res2 Tryd.results115 (RV.cell η ty_anvil_anvilref02_Int rfl (σ.oat (k := 0) rfl) rfl) (RV.tmp η rfl)) ?_
 exact ⟨rfl, σ.below⟩
theorem rread_z1 {d : List UInt8} {w0 : World} (hl0 : 0 < d.length) (h1 : (d.getD 0 0).toNat = 48) (hl : d.length ≤ 100000) :
  Calls Tryd.prog 115 #[.string ⟨(45 :: d).toArray⟩] w0 fun e w' => e = .returned (.tuple #[.agg #[.bool (neg 0), .slice none (dl 0) 0], .int .i64 1]) ∧ Below w0.heap.size w0 w' := by
 have hlen1 : (45 :: d).length = d.length + 1 := rfl
 refine enter Tryd.func115 rfl Tryd.ntmps115 rfl ?_
 intro a η σ
 refine wp_seq (region_seq ?_)
 refine seq_step rfl (op_alloc (c := #[.bool (neg 0), .slice none (dl 0) 0]) η σ rfl zero_anvil_anvilref02_Int rcells ?_)
 clear η σ a; intro a w2 g1 η σ
 refine sv (v := .int .i64 0) η rfl (rn_assign η rfl) ?_
 clear η a; intro a η
 refine wpList_nil (th_n (wp_seq (region_seq ?_)))
 refine sv (v := .int .i64 0) η rfl (rn_assign η rfl) ?_
 clear η a; intro a η
 refine wpList_nil (th_n (wp_seq (wp_seq (region_seq ?_))))
 revert a
 refine mA rfl rfl ?_
 refine sA (v := .int .i64 ((45 :: d).length : Nat)) rfl (fun _ η => rn_lenS η Tryd.underlying9 rfl) ?_
 intro a η
 rw [List.length_cons] at η
 refine sv (v := .bool (decide (((d.length + 1 : Nat) : Int) > (0 : Int)))) η rfl (rn_bin η rfl rfl rfl) ?_
 clear η a; intro a η
 rw [show (decide (((d.length + 1 : Nat) : Int) > (0 : Int))) = true from decide_eq_true (by omega)] at η
 revert a
 refine mA rfl rfl ?_
 refine gA (v := .string ⟨(45 :: d).toArray⟩) rfl rfl rfl rfl (fun _ η => rn_move η rfl) ?_
 refine gA (v := .int .u8 (((45 :: d).getD 0 0).toNat : Nat)) rfl rfl rfl rfl (fun _ η => rn_idxS (i := 0) η Tryd.underlying9 rfl rfl (by omega)) ?_
 intro a η
 rw [List.getD_cons_zero] at η
 refine seq_g rfl η rfl rfl (op_val (v := .bool ((((45 : UInt8).toNat : Nat) : Int) == (45 : Int))) η rfl (rn_bin η rfl rfl rfl) ?_)
 clear η a; intro a η
 rw [show ((((45 : UInt8).toNat : Nat) : Int) == (45 : Int)) = true from rfl] at η
 refine sv (v := .bool true) η rfl (rn_pick η rfl rfl) ?_
 clear η a; intro a η
 refine wpList_nil (th_n ?_)
 refine if_t η rfl (rfl) ?_
 refine region_seq ?_
 refine sv (v := .int .i64 1) η rfl (rn_assign η rfl) ?_
 clear η a; intro a η
 refine wpList_nil (th_n (wp_seq (wp_seq (region_seq ?_))))
 revert a
 refine mA rfl rfl ?_
 refine mA rfl rfl ?_
 refine sA (v := .int .i64 ((45 :: d).length : Nat)) rfl (fun _ η => rn_lenS η Tryd.underlying9 rfl) ?_
 intro a η
 rw [List.length_cons] at η
 refine sv (v := .bool (decide ((1 : Int) ≥ ((d.length + 1 : Nat) : Int)))) η rfl (rn_bin η rfl rfl rfl) ?_
 clear η a; intro a η
 rw [show (decide ((1 : Int) ≥ ((d.length + 1 : Nat) : Int))) = false from decide_eq_false (by omega)] at η
 revert a
 refine mA rfl rfl ?_
 refine gA (v := .string ⟨(45 :: d).toArray⟩) rfl rfl rfl rfl (fun _ η => rn_move η rfl) ?_
 refine gA (v := .int .i64 1) rfl rfl rfl rfl (fun _ η => rn_move η rfl) ?_
 refine gA (v := .int .u8 (((45 :: d).getD 1 0).toNat : Nat)) rfl rfl rfl rfl (fun _ η => rn_idxS (i := 1) η Tryd.underlying9 rfl rfl (by omega)) ?_
 intro a η
 rw [show (45 :: d).getD 1 0 = d.getD 0 0 from rfl] at η
 refine seq_g rfl η rfl rfl (op_val (v := .bool (decide ((((d.getD 0 0).toNat : Nat) : Int) < (48 : Int)))) η rfl (rn_bin η rfl rfl rfl) ?_)
 clear η a; intro a η
 rw [show (decide ((((d.getD 0 0).toNat : Nat) : Int) < (48 : Int))) = false from decide_eq_false (by omega)] at η
 revert a
 refine sA (v := .bool false) rfl (fun _ η => rn_pick η rfl rfl) ?_
 refine mA rfl rfl ?_
 refine gA (v := .string ⟨(45 :: d).toArray⟩) rfl rfl rfl rfl (fun _ η => rn_move η rfl) ?_
 refine gA (v := .int .i64 1) rfl rfl rfl rfl (fun _ η => rn_move η rfl) ?_
 refine gA (v := .int .u8 (((45 :: d).getD 1 0).toNat : Nat)) rfl rfl rfl rfl (fun _ η => rn_idxS (i := 1) η Tryd.underlying9 rfl rfl (by omega)) ?_
 intro a η
 rw [show (45 :: d).getD 1 0 = d.getD 0 0 from rfl] at η
 refine seq_g rfl η rfl rfl (op_val (v := .bool (decide ((((d.getD 0 0).toNat : Nat) : Int) > (57 : Int)))) η rfl (rn_bin η rfl rfl rfl) ?_)
 clear η a; intro a η
 rw [show (decide ((((d.getD 0 0).toNat : Nat) : Int) > (57 : Int))) = false from decide_eq_false (by omega)] at η
 revert a
 refine sA (v := .bool false) rfl (fun _ η => rn_pick η rfl rfl) ?_
 refine mA rfl rfl ?_
 refine gA (v := .int .i64 1) rfl rfl rfl rfl (fun _ η => rn_move η rfl) ?_
 refine gA (v := .bool true) rfl rfl rfl rfl (fun _ η => rn_bin η rfl rfl rfl) ?_
 refine gA (v := .bool true) rfl rfl rfl rfl (fun _ η => rn_move η rfl) ?_
 refine gA (v := .string ⟨(45 :: d).toArray⟩) rfl rfl rfl rfl (fun _ η => rn_move η rfl) ?_
 refine gA (v := .int .u8 (((45 :: d).getD 1 0).toNat : Nat)) rfl rfl rfl rfl (fun _ η => rn_idxS (i := 1) η Tryd.underlying9 rfl rfl (by omega)) ?_
 intro a η
 rw [show (45 :: d).getD 1 0 = d.getD 0 0 from rfl] at η
 refine seq_g rfl η rfl rfl (op_val (v := .bool ((((d.getD 0 0).toNat : Nat) : Int) == (48 : Int))) η rfl (rn_bin η rfl rfl rfl) ?_)
 clear η a; intro a η
 rw [show ((((d.getD 0 0).toNat : Nat) : Int) == (48 : Int)) = true from beq_iff_eq.2 (by omega)] at η
 revert a
 refine gA (v := .bool true) rfl rfl rfl rfl (fun _ η => rn_pick η rfl rfl) ?_
 refine sA (v := .bool true) rfl (fun _ η => rn_pick η rfl rfl) ?_
 intro a η
 refine wpList_nil (th_n ?_)
 refine if_t η rfl (rfl) ?_
 refine wp_seq (region_seq ?_)
 revert a
 refine sA (v := .agg #[.bool (neg 0), .slice none (dl 0) 0]) rfl (fun _ η => rn_zref) ?_
 refine mA rfl rfl ?_
 intro a η
 refine seq_step rfl (op_store (k := 0) (c' := #[.bool (neg 0), .slice none (dl 0) 0]) η σ (ty_anvil_anvilref02_Int.size) rfl rfl rfl rfl (by simp) rfl rfl ?_)
 clear η σ a; intro a w3 η σ
 refine sv (v := .int .i64 1) η rfl (rn_assign η rfl) ?_
 clear η a; intro a η
 refine wpList_nil (th_n (wp_ret (th_r ?_)))
 refine leave η (res2 Tryd.results115 (RV.cell η ty_anvil_anvilref02_Int rfl (σ.oat (k := 0) rfl) rfl) (RV.tmp η rfl)) ?_
 exact ⟨rfl, σ.below⟩
theorem rread_bad1 {d : List UInt8} {b : Nat} {w0 : World} (hfb : Fb 1 d b) (hb0 : 0 < b) (hl : d.length ≤ 100000) :
  Calls Tryd.prog 115 #[.string ⟨(45 :: d).toArray⟩] w0 fun e w' => e = .returned (.tuple #[.agg #[.bool (neg 0), .slice none (dl 0) 0], .int .i64 (b + 1 : Nat)]) ∧ Below w0.heap.size w0 w' := by
 have hlen1 : (45 :: d).length = d.length + 1 := rfl
 have hd0 := fb_first hfb hb0
 obtain ⟨hl0, hd1, hd2, hd3⟩ := hd0
 refine enter Tryd.func115 rfl Tryd.ntmps115 rfl ?_
 intro a η σ
 refine wp_seq (region_seq ?_)
 refine seq_step rfl (op_alloc (c := #[.bool (neg 0), .slice none (dl 0) 0]) η σ rfl zero_anvil_anvilref02_Int rcells ?_)
 clear η σ a; intro a w2 g1 η σ
 refine sv (v := .int .i64 0) η rfl (rn_assign η rfl) ?_
 clear η a; intro a η
 refine wpList_nil (th_n (wp_seq (region_seq ?_)))
 refine sv (v := .int .i64 0) η rfl (rn_assign η rfl) ?_
 clear η a; intro a η
 refine wpList_nil (th_n (wp_seq (wp_seq (region_seq ?_))))
 revert a
 refine mA rfl rfl ?_
 refine sA (v := .int .i64 ((45 :: d).length : Nat)) rfl (fun _ η => rn_lenS η Tryd.underlying9 rfl) ?_
 intro a η
 rw [List.length_cons] at η
 refine sv (v := .bool (decide (((d.length + 1 : Nat) : Int) > (0 : Int)))) η rfl (rn_bin η rfl rfl rfl) ?_
 clear η a; intro a η
 rw [show (decide (((d.length + 1 : Nat) : Int) > (0 : Int))) = true from decide_eq_true (by omega)] at η
 revert a
 refine mA rfl rfl ?_
 refine gA (v := .string ⟨(45 :: d).toArray⟩) rfl rfl rfl rfl (fun _ η => rn_move η rfl) ?_
 refine gA (v := .int .u8 (((45 :: d).getD 0 0).toNat : Nat)) rfl rfl rfl rfl (fun _ η => rn_idxS (i := 0) η Tryd.underlying9 rfl rfl (by omega)) ?_
 intro a η
 rw [List.getD_cons_zero] at η
 refine seq_g rfl η rfl rfl (op_val (v := .bool ((((45 : UInt8).toNat : Nat) : Int) == (45 : Int))) η rfl (rn_bin η rfl rfl rfl) ?_)
 clear η a; intro a η
 rw [show ((((45 : UInt8).toNat : Nat) : Int) == (45 : Int)) = true from rfl] at η
 refine sv (v := .bool true) η rfl (rn_pick η rfl rfl) ?_
 clear η a; intro a η
 refine wpList_nil (th_n ?_)
 refine if_t η rfl (rfl) ?_
 refine region_seq ?_
 refine sv (v := .int .i64 1) η rfl (rn_assign η rfl) ?_
 clear η a; intro a η
 refine wpList_nil (th_n (wp_seq (wp_seq (region_seq ?_))))
 revert a
 refine mA rfl rfl ?_
 refine mA rfl rfl ?_
 refine sA (v := .int .i64 ((45 :: d).length : Nat)) rfl (fun _ η => rn_lenS η Tryd.underlying9 rfl) ?_
 intro a η
 rw [List.length_cons] at η
 refine sv (v := .bool (decide ((1 : Int) ≥ ((d.length + 1 : Nat) : Int)))) η rfl (rn_bin η rfl rfl rfl) ?_
 clear η a; intro a η
 rw [show (decide ((1 : Int) ≥ ((d.length + 1 : Nat) : Int))) = false from decide_eq_false (by omega)] at η
 revert a
 refine mA rfl rfl ?_
 refine gA (v := .string ⟨(45 :: d).toArray⟩) rfl rfl rfl rfl (fun _ η => rn_move η rfl) ?_
 refine gA (v := .int .i64 1) rfl rfl rfl rfl (fun _ η => rn_move η rfl) ?_
 refine gA (v := .int .u8 (((45 :: d).getD 1 0).toNat : Nat)) rfl rfl rfl rfl (fun _ η => rn_idxS (i := 1) η Tryd.underlying9 rfl rfl (by omega)) ?_
 intro a η
 rw [show (45 :: d).getD 1 0 = d.getD 0 0 from rfl] at η
 refine seq_g rfl η rfl rfl (op_val (v := .bool (decide ((((d.getD 0 0).toNat : Nat) : Int) < (48 : Int)))) η rfl (rn_bin η rfl rfl rfl) ?_)
 clear η a; intro a η
 rw [show (decide ((((d.getD 0 0).toNat : Nat) : Int) < (48 : Int))) = false from decide_eq_false (by omega)] at η
 revert a
 refine sA (v := .bool false) rfl (fun _ η => rn_pick η rfl rfl) ?_
 refine mA rfl rfl ?_
 refine gA (v := .string ⟨(45 :: d).toArray⟩) rfl rfl rfl rfl (fun _ η => rn_move η rfl) ?_
 refine gA (v := .int .i64 1) rfl rfl rfl rfl (fun _ η => rn_move η rfl) ?_
 refine gA (v := .int .u8 (((45 :: d).getD 1 0).toNat : Nat)) rfl rfl rfl rfl (fun _ η => rn_idxS (i := 1) η Tryd.underlying9 rfl rfl (by omega)) ?_
 intro a η
 rw [show (45 :: d).getD 1 0 = d.getD 0 0 from rfl] at η
 refine seq_g rfl η rfl rfl (op_val (v := .bool (decide ((((d.getD 0 0).toNat : Nat) : Int) > (57 : Int)))) η rfl (rn_bin η rfl rfl rfl) ?_)
 clear η a; intro a η
 rw [show (decide ((((d.getD 0 0).toNat : Nat) : Int) > (57 : Int))) = false from decide_eq_false (by omega)] at η
 revert a
 refine sA (v := .bool false) rfl (fun _ η => rn_pick η rfl rfl) ?_
 refine mA rfl rfl ?_
 refine gA (v := .int .i64 1) rfl rfl rfl rfl (fun _ η => rn_move η rfl) ?_
 refine gA (v := .bool true) rfl rfl rfl rfl (fun _ η => rn_bin η rfl rfl rfl) ?_
 refine gA (v := .bool true) rfl rfl rfl rfl (fun _ η => rn_move η rfl) ?_
 refine gA (v := .string ⟨(45 :: d).toArray⟩) rfl rfl rfl rfl (fun _ η => rn_move η rfl) ?_
 refine gA (v := .int .u8 (((45 :: d).getD 1 0).toNat : Nat)) rfl rfl rfl rfl (fun _ η => rn_idxS (i := 1) η Tryd.underlying9 rfl rfl (by omega)) ?_
 intro a η
 rw [show (45 :: d).getD 1 0 = d.getD 0 0 from rfl] at η
 refine seq_g rfl η rfl rfl (op_val (v := .bool ((((d.getD 0 0).toNat : Nat) : Int) == (48 : Int))) η rfl (rn_bin η rfl rfl rfl) ?_)
 clear η a; intro a η
 rw [show ((((d.getD 0 0).toNat : Nat) : Int) == (48 : Int)) = false from beq_eq_false_iff_ne.2 (by omega)] at η
 revert a
 refine gA (v := .bool false) rfl rfl rfl rfl (fun _ η => rn_pick η rfl rfl) ?_
 refine sA (v := .bool false) rfl (fun _ η => rn_pick η rfl rfl) ?_
 intro a η
 refine wpList_nil (th_n ?_)
 refine if_f η rfl (rfl) ?_
 refine wp_skip (th_n (wp_seq (region_seq ?_)))
 refine sv (v := .agg #[.bool (neg 0), .slice none (dl 0) 0]) η rfl (rn_zref) ?_
 clear η a; intro a η
 refine seq_step rfl (op_alloc (c := #[.bool (neg 0), .slice none (dl 0) 0]) η σ rfl zero_anvil_anvilref02_Int rcells ?_)
 clear η σ a; intro a w4 g3 η σ
 refine seq_step rfl (op_store (k := 0) (c' := #[.bool (neg 0), .slice none (dl 0) 0]) η σ (ty_anvil_anvilref02_Int.size) rfl rfl rfl rfl (by simp) rfl rfl ?_)
 clear η σ a; intro a w5 η σ
 refine wpList_nil (th_n (wp_seq (wp_seq (region_seq ?_))))
 revert a
 refine mA rfl rfl ?_
 refine aA rfl rfl ?_
 intro a η
 refine wpList_nil (th_n (wp_block ?_))
 replace σ := σ.addR (rin_none _) ⟨nou_bk rfl, nou_bk rfl, trivial⟩
 refine wp_loop_ghost (fun mz a w => ∃ (k : Nat) (A1 : Option Addr) (c1 : Nat), d.length - k = mz ∧ Env 89 a [(0, .string ⟨(45 :: d).toArray⟩), (2, .pointer (some ⟨g1, 0, none⟩)), (4, .int .i64 1), (5, .pointer (some ⟨g3, 0, none⟩)), (6, .int .i64 (k + 1 : Nat))] ∧ St w0 w [bk g3 #[.bool (neg ((numOf (d.take k) : Nat) : Int)), .slice A1 (dl ((numOf (d.take k) : Nat) : Int)) c1] 39, bk g1 #[.bool (neg 0), .slice none (dl 0) 0] 39] [pfR A1 c1 ((numOf (d.take k) : Nat) : Int)] ∧ k ≤ b) _ ⟨0, none, 0, rfl, η.sub ⟨rfl, rfl, rfl, rfl, rfl, trivial⟩, σ.pick [0, 1] [0] (by decide), (Nat.zero_le _)⟩ ?_
 clear η σ a
 rintro mz a w6 ⟨k, A1, c1, rfl, η, σ, hk⟩
 have hkl : k ≤ d.length := by have := fb_le hfb; omega
 have hdl1 := dl_num2 hfb hk
 rcases bad_split3 hfb hk hb0 with ⟨hlt, h1, h2, hk0, h3, hkb⟩ | ⟨hlt, h1, h2, hk0, h3, hkb⟩ | ⟨hlt, h1, h2, hk0, hkb⟩ | ⟨hkb, hlt, h1, hk0⟩ | ⟨hkb, hlt, h1, hk0⟩ | ⟨hkb, hlt, h1, h2, hk0, h3⟩
 ·refine wp_seq (wp_seq (region_seq ?_))
  revert a
  refine mA rfl rfl ?_
  refine mA rfl rfl ?_
  refine sA (v := .int .i64 ((45 :: d).length : Nat)) rfl (fun _ η => rn_lenS η Tryd.underlying9 rfl) ?_
  intro a η
  rw [List.length_cons] at η
  refine sv (v := .bool (decide (((k + 1 : Nat) : Int) < ((d.length + 1 : Nat) : Int)))) η rfl (rn_bin η rfl rfl rfl) ?_
  clear η a; intro a η
  rw [show (decide (((k + 1 : Nat) : Int) < ((d.length + 1 : Nat) : Int))) = true from decide_eq_true (by omega)] at η
  refine wpList_nil (th_n ?_)
  refine if_t η rfl (rfl) ?_
  refine wp_skip (th_n (wp_seq (wp_block (wp_seq (wp_seq (region_seq ?_))))))
  revert a
  refine mA rfl rfl ?_
  refine mA rfl rfl ?_
  refine sA (v := .int .u8 (((45 :: d).getD (k + 1) 0).toNat : Nat)) rfl (fun _ η => rn_idxS (i := k + 1) η Tryd.underlying9 rfl rfl (by omega)) ?_
  intro a η
  rw [List.getD_cons_succ] at η
  refine sv (v := .bool (decide ((((d.getD k 0).toNat : Nat) : Int) < (48 : Int)))) η rfl (rn_bin η rfl rfl rfl) ?_
  clear η a; intro a η
  rw [show (decide ((((d.getD k 0).toNat : Nat) : Int) < (48 : Int))) = false from decide_eq_false (by omega)] at η
  revert a
  refine mA rfl rfl ?_
  refine gA (v := .string ⟨(45 :: d).toArray⟩) rfl rfl rfl rfl (fun _ η => rn_move η rfl) ?_
  refine gA (v := .int .i64 (k + 1 : Nat)) rfl rfl rfl rfl (fun _ η => rn_move η rfl) ?_
  refine gA (v := .int .u8 (((45 :: d).getD (k + 1) 0).toNat : Nat)) rfl rfl rfl rfl (fun _ η => rn_idxS (i := k + 1) η Tryd.underlying9 rfl rfl (by omega)) ?_
  intro a η
  rw [List.getD_cons_succ] at η
  refine seq_g rfl η rfl rfl (op_val (v := .bool (decide ((((d.getD k 0).toNat : Nat) : Int) > (57 : Int)))) η rfl (rn_bin η rfl rfl rfl) ?_)
  clear η a; intro a η
  rw [show (decide ((((d.getD k 0).toNat : Nat) : Int) > (57 : Int))) = false from decide_eq_false (by omega)] at η
  revert a
  refine sA (v := .bool false) rfl (fun _ η => rn_pick η rfl rfl) ?_
  refine mA rfl rfl ?_
  refine gA (v := .int .i64 (k + 1 : Nat)) rfl rfl rfl rfl (fun _ η => rn_move η rfl) ?_
  refine gA (v := .int .i64 1) rfl rfl rfl rfl (fun _ η => rn_move η rfl) ?_
  refine gA (v := .int .i64 2) rfl rfl rfl rfl (fun _ η => rn_bin η rfl rfl rfl) ?_
  refine gA (v := .bool (((k + 1 : Nat) : Int) == (2 : Int))) rfl rfl rfl rfl (fun _ η => rn_bin η rfl rfl rfl) ?_
  intro a η
  rw [show (((k + 1 : Nat) : Int) == (2 : Int)) = false from beq_eq_false_iff_ne.2 (by omega)] at η
  revert a
  refine gA (v := .bool false) rfl rfl rfl rfl (fun _ η => rn_move η rfl) ?_
  refine kA rfl rfl rfl rfl rfl ?_
  refine kA rfl rfl rfl rfl rfl ?_
  refine kA rfl rfl rfl rfl rfl ?_
  refine kA rfl rfl rfl rfl rfl ?_
  refine gA (v := .bool false) rfl rfl rfl rfl (fun _ η => rn_pick η rfl rfl) ?_
  refine sA (v := .bool false) rfl (fun _ η => rn_pick η rfl rfl) ?_
  intro a η
  refine wpList_nil (th_n ?_)
  refine if_f η rfl (rfl) ?_
  refine wp_skip (th_n ?_)
  refine region_any (n := 11) (Sk [bk g1 #[.bool (neg 0), .slice none (dl 0) 0] 39] [pfR A1 c1 ((numOf (d.take k) : Nat) : Int)] [10] [bk g3 #[.bool (neg ((numOf (d.take k) : Nat) : Int)), .slice A1 (dl ((numOf (d.take k) : Nat) : Int)) c1] 39]) mixed rfl η σ ?_
  clear η σ; intro w7 η σ
  refine sAny_take (i := 0) [2, 8, 9, 10] (fun w' => w'.heap[g3]? = some (.cells #[.bool (neg ((numOf (d.take k) : Nat) : Int)), .slice A1 (dl ((numOf (d.take k) : Nat) : Int)) c1] 39 (0, 0))) (v := .agg #[.bool (neg ((numOf (d.take k) : Nat) : Int)), .slice A1 (dl ((numOf (d.take k) : Nat) : Int)) c1]) rfl (by kernel_rfl) (fun _ _ _ h => h) (fun _ _ hj hS => (hS.two rfl hj).oat (k := 0) rfl) η rfl (σ.oat (k := 0) rfl) (fun w' hg => rn_load0 η ty_anvil_anvilref02_Int rfl hg rfl) ?_
  clear η a; intro a η
  refine tM (i := 3) (rg 5 6) rfl (by kernel_rfl) (fun _ _ _ h => h) η rfl rfl ?_
  clear η a; intro a η
  refine tM (i := 4) (rg 5 6) rfl (by kernel_rfl) (fun _ _ _ h => h) η rfl rfl ?_
  clear η a; intro a η
  refine tA (i := 5) (rg 6 5) (v := .int .u8 (((45 :: d).getD (k + 1) 0).toNat : Nat)) rfl (by kernel_rfl) (fun _ _ _ h => h) η rfl (fun _ => rn_idxS (i := k + 1) η Tryd.underlying9 rfl rfl (by omega)) ?_
  clear η a; intro a η
  rw [List.getD_cons_succ] at η
  refine tA (i := 6) (rg 7 4) (v := .int .u8 (((d.getD k 0).toNat) - 48 : Nat)) rfl (by kernel_rfl) (fun _ _ _ h => h) η rfl (fun _ => rn_sub η rfl rfl (by rw [IntWalk.u8_in _ (by omega)]; omega)) ?_
  clear η a; intro a η
  refine tA (i := 7) [8, 9, 10] (v := .int .i64 (((d.getD k 0).toNat) - 48 : Nat)) rfl (by kernel_rfl) (fun _ _ _ h => h) η rfl (fun _ => rn_conv η rfl Tryd.underlying5 Tryd.underlying2 (IntWalk.i64_in _ (by omega))) ?_
  clear η a; intro a η
  refine sAny_one (i := 1) (by kernel_rfl) rfl rfl (op_call η rfl Tryd.call29 rfl (of_r (n := (10 : Int)) (by omega) (by omega)) ?_)
  rintro e w11 ⟨_, rfl, ⟨A8, c9, rfl, hz10⟩, hb⟩
  refine ⟨_, rfl, ?_⟩
  clear η a; intro a η
  replace σ := (σ.call hb).addR hz10 ⟨nou_bk rfl, nou_bk rfl, trivial⟩
  clear hz10
  clear hb
  refine ⟨.inr ⟨σ.kn.pick [1] [1], .inr (σ.kn.pick [0] [])⟩, ?_⟩
  refine sAny_one (i := 2) (by kernel_rfl) rfl rfl (op_call η rfl Tryd.call105 rfl (mul_r (x := ((numOf (d.take k) : Nat) : Int)) (y := 10) (show RIn _ A1 c1 ((numOf (d.take k) : Nat) : Int) from σ.pat (k := 1) rfl) (show RIn _ A8 c9 10 from σ.pat (k := 0) rfl) (by omega) (by have := dl_small (n := 10) (by decide) (by decide); omega)) ?_)
  rintro e w15 ⟨_, rfl, ⟨A12, c13, rfl, hz14⟩, hb⟩
  refine ⟨_, rfl, ?_⟩
  clear η a; intro a η
  replace σ := (σ.call hb).addR hz14 ⟨nou_bk rfl, nou_bk rfl, trivial⟩
  clear hz14
  clear hb
  refine ⟨.inr ⟨σ.kn.pick [1] [2], .inr (σ.kn.pick [0] [])⟩, ?_⟩
  refine sAny_one (i := 8) (by kernel_rfl) rfl rfl (op_call η rfl Tryd.call29 rfl (of_r (n := (((d.getD k 0).toNat) - 48 : Nat)) (by omega) (by omega)) ?_)
  rintro e w19 ⟨_, rfl, ⟨A16, c17, rfl, hz18⟩, hb⟩
  refine ⟨_, rfl, ?_⟩
  clear η a; intro a η
  replace σ := (σ.call hb).addR hz18 ⟨nou_bk rfl, nou_bk rfl, trivial⟩
  clear hz18
  clear hb
  refine ⟨.inr ⟨σ.kn.pick [1] [3], .inr (σ.kn.pick [0] [])⟩, ?_⟩
  refine sAny_one (i := 9) (by kernel_rfl) rfl rfl (op_call η rfl Tryd.call104 rfl (add_r (x := ((numOf (d.take k) : Nat) : Int) * 10) (y := (((d.getD k 0).toNat) - 48 : Nat)) (show RIn _ A12 c13 (((numOf (d.take k) : Nat) : Int) * 10) from σ.pat (k := 1) rfl) (show RIn _ A16 c17 (((d.getD k 0).toNat) - 48 : Nat) from σ.pat (k := 0) rfl) (by have h1 := dl_mul ((numOf (d.take k) : Nat) : Int) 10; have h2 := dl_small (n := 10) (by decide) (by decide); omega) (by have := dl_small (n := (((d.getD k 0).toNat) - 48 : Nat)) (by omega) (by omega); omega)) ?_)
  rintro e w23 ⟨_, rfl, ⟨A20, c21, rfl, hz22⟩, hb⟩
  refine ⟨_, rfl, ?_⟩
  clear η a; intro a η
  replace σ := (σ.call hb).addR hz22 ⟨nou_bk rfl, nou_bk rfl, trivial⟩
  clear hz22
  clear hb
  refine ⟨.inr ⟨σ.kn.pick [1] [4], .inr (σ.kn.pick [0] [])⟩, ?_⟩
  refine sAny_one (i := 10) (by kernel_rfl) rfl rfl (op_store (k := 0) (c' := #[.bool (neg ((((numOf (d.take k) : Nat) : Int) * 10) + (((d.getD k 0).toNat) - 48 : Nat))), .slice A20 (dl ((((numOf (d.take k) : Nat) : Int) * 10) + (((d.getD k 0).toNat) - 48 : Nat))) c21]) η σ (ty_anvil_anvilref02_Int.size) rfl rfl rfl rfl (by simp) rfl rfl ?_)
  clear η σ a; intro a w24 η σ
  refine ⟨.inr ⟨σ.kn.pick [1] [4], .inl rfl⟩, ?_⟩
  refine sAny_done (by kernel_rfl) ?_ _
  refine bl_n (th_n (region_seq ?_))
  revert a
  refine mA rfl rfl ?_
  refine sA (v := .int .i64 ((k + 1) + 1 : Nat)) rfl (fun _ η => rn_add η rfl rfl (by rw [IntWalk.i64_in _ (by omega)]; omega)) ?_
  refine aA rfl rfl ?_
  intro a η
  refine wpList_nil ?_
  rw [num_step hlt] at σ
  exact th_n ⟨_, (by omega), ⟨k + 1, A20, c21, rfl, η.sub ⟨rfl, rfl, rfl, rfl, rfl, trivial⟩, σ.pick [0, 1] [0] (by decide), (by omega)⟩⟩
 ·refine wp_seq (wp_seq (region_seq ?_))
  revert a
  refine mA rfl rfl ?_
  refine mA rfl rfl ?_
  refine sA (v := .int .i64 ((45 :: d).length : Nat)) rfl (fun _ η => rn_lenS η Tryd.underlying9 rfl) ?_
  intro a η
  rw [List.length_cons] at η
  refine sv (v := .bool (decide (((k + 1 : Nat) : Int) < ((d.length + 1 : Nat) : Int)))) η rfl (rn_bin η rfl rfl rfl) ?_
  clear η a; intro a η
  rw [show (decide (((k + 1 : Nat) : Int) < ((d.length + 1 : Nat) : Int))) = true from decide_eq_true (by omega)] at η
  refine wpList_nil (th_n ?_)
  refine if_t η rfl (rfl) ?_
  refine wp_skip (th_n (wp_seq (wp_block (wp_seq (wp_seq (region_seq ?_))))))
  revert a
  refine mA rfl rfl ?_
  refine mA rfl rfl ?_
  refine sA (v := .int .u8 (((45 :: d).getD (k + 1) 0).toNat : Nat)) rfl (fun _ η => rn_idxS (i := k + 1) η Tryd.underlying9 rfl rfl (by omega)) ?_
  intro a η
  rw [List.getD_cons_succ] at η
  refine sv (v := .bool (decide ((((d.getD k 0).toNat : Nat) : Int) < (48 : Int)))) η rfl (rn_bin η rfl rfl rfl) ?_
  clear η a; intro a η
  rw [show (decide ((((d.getD k 0).toNat : Nat) : Int) < (48 : Int))) = false from decide_eq_false (by omega)] at η
  revert a
  refine mA rfl rfl ?_
  refine gA (v := .string ⟨(45 :: d).toArray⟩) rfl rfl rfl rfl (fun _ η => rn_move η rfl) ?_
  refine gA (v := .int .i64 (k + 1 : Nat)) rfl rfl rfl rfl (fun _ η => rn_move η rfl) ?_
  refine gA (v := .int .u8 (((45 :: d).getD (k + 1) 0).toNat : Nat)) rfl rfl rfl rfl (fun _ η => rn_idxS (i := k + 1) η Tryd.underlying9 rfl rfl (by omega)) ?_
  intro a η
  rw [List.getD_cons_succ] at η
  refine seq_g rfl η rfl rfl (op_val (v := .bool (decide ((((d.getD k 0).toNat : Nat) : Int) > (57 : Int)))) η rfl (rn_bin η rfl rfl rfl) ?_)
  clear η a; intro a η
  rw [show (decide ((((d.getD k 0).toNat : Nat) : Int) > (57 : Int))) = false from decide_eq_false (by omega)] at η
  revert a
  refine sA (v := .bool false) rfl (fun _ η => rn_pick η rfl rfl) ?_
  refine mA rfl rfl ?_
  refine gA (v := .int .i64 (k + 1 : Nat)) rfl rfl rfl rfl (fun _ η => rn_move η rfl) ?_
  refine gA (v := .int .i64 1) rfl rfl rfl rfl (fun _ η => rn_move η rfl) ?_
  refine gA (v := .int .i64 2) rfl rfl rfl rfl (fun _ η => rn_bin η rfl rfl rfl) ?_
  refine gA (v := .bool (((k + 1 : Nat) : Int) == (2 : Int))) rfl rfl rfl rfl (fun _ η => rn_bin η rfl rfl rfl) ?_
  intro a η
  rw [show (((k + 1 : Nat) : Int) == (2 : Int)) = true from beq_iff_eq.2 (by omega)] at η
  revert a
  refine gA (v := .bool true) rfl rfl rfl rfl (fun _ η => rn_move η rfl) ?_
  refine gA (v := .string ⟨(45 :: d).toArray⟩) rfl rfl rfl rfl (fun _ η => rn_move η rfl) ?_
  refine gA (v := .int .i64 1) rfl rfl rfl rfl (fun _ η => rn_move η rfl) ?_
  refine gA (v := .int .u8 (((45 :: d).getD 1 0).toNat : Nat)) rfl rfl rfl rfl (fun _ η => rn_idxS (i := 1) η Tryd.underlying9 rfl rfl (by omega)) ?_
  intro a η
  rw [show (45 :: d).getD 1 0 = d.getD 0 0 from rfl] at η
  refine seq_g rfl η rfl rfl (op_val (v := .bool ((((d.getD 0 0).toNat : Nat) : Int) == (48 : Int))) η rfl (rn_bin η rfl rfl rfl) ?_)
  clear η a; intro a η
  rw [show ((((d.getD 0 0).toNat : Nat) : Int) == (48 : Int)) = false from beq_eq_false_iff_ne.2 (by omega)] at η
  revert a
  refine gA (v := .bool false) rfl rfl rfl rfl (fun _ η => rn_pick η rfl rfl) ?_
  refine sA (v := .bool false) rfl (fun _ η => rn_pick η rfl rfl) ?_
  intro a η
  refine wpList_nil (th_n ?_)
  refine if_f η rfl (rfl) ?_
  refine wp_skip (th_n ?_)
  refine region_any (n := 11) (Sk [bk g1 #[.bool (neg 0), .slice none (dl 0) 0] 39] [pfR A1 c1 ((numOf (d.take k) : Nat) : Int)] [10] [bk g3 #[.bool (neg ((numOf (d.take k) : Nat) : Int)), .slice A1 (dl ((numOf (d.take k) : Nat) : Int)) c1] 39]) mixed rfl η σ ?_
  clear η σ; intro w25 η σ
  refine sAny_take (i := 0) [2, 8, 9, 10] (fun w' => w'.heap[g3]? = some (.cells #[.bool (neg ((numOf (d.take k) : Nat) : Int)), .slice A1 (dl ((numOf (d.take k) : Nat) : Int)) c1] 39 (0, 0))) (v := .agg #[.bool (neg ((numOf (d.take k) : Nat) : Int)), .slice A1 (dl ((numOf (d.take k) : Nat) : Int)) c1]) rfl (by kernel_rfl) (fun _ _ _ h => h) (fun _ _ hj hS => (hS.two rfl hj).oat (k := 0) rfl) η rfl (σ.oat (k := 0) rfl) (fun w' hg => rn_load0 η ty_anvil_anvilref02_Int rfl hg rfl) ?_
  clear η a; intro a η
  refine tM (i := 3) (rg 5 6) rfl (by kernel_rfl) (fun _ _ _ h => h) η rfl rfl ?_
  clear η a; intro a η
  refine tM (i := 4) (rg 5 6) rfl (by kernel_rfl) (fun _ _ _ h => h) η rfl rfl ?_
  clear η a; intro a η
  refine tA (i := 5) (rg 6 5) (v := .int .u8 (((45 :: d).getD (k + 1) 0).toNat : Nat)) rfl (by kernel_rfl) (fun _ _ _ h => h) η rfl (fun _ => rn_idxS (i := k + 1) η Tryd.underlying9 rfl rfl (by omega)) ?_
  clear η a; intro a η
  rw [List.getD_cons_succ] at η
  refine tA (i := 6) (rg 7 4) (v := .int .u8 (((d.getD k 0).toNat) - 48 : Nat)) rfl (by kernel_rfl) (fun _ _ _ h => h) η rfl (fun _ => rn_sub η rfl rfl (by rw [IntWalk.u8_in _ (by omega)]; omega)) ?_
  clear η a; intro a η
  refine tA (i := 7) [8, 9, 10] (v := .int .i64 (((d.getD k 0).toNat) - 48 : Nat)) rfl (by kernel_rfl) (fun _ _ _ h => h) η rfl (fun _ => rn_conv η rfl Tryd.underlying5 Tryd.underlying2 (IntWalk.i64_in _ (by omega))) ?_
  clear η a; intro a η
  refine sAny_one (i := 1) (by kernel_rfl) rfl rfl (op_call η rfl Tryd.call29 rfl (of_r (n := (10 : Int)) (by omega) (by omega)) ?_)
  rintro e w29 ⟨_, rfl, ⟨A26, c27, rfl, hz28⟩, hb⟩
  refine ⟨_, rfl, ?_⟩
  clear η a; intro a η
  replace σ := (σ.call hb).addR hz28 ⟨nou_bk rfl, nou_bk rfl, trivial⟩
  clear hz28
  clear hb
  refine ⟨.inr ⟨σ.kn.pick [1] [1], .inr (σ.kn.pick [0] [])⟩, ?_⟩
  refine sAny_one (i := 2) (by kernel_rfl) rfl rfl (op_call η rfl Tryd.call105 rfl (mul_r (x := ((numOf (d.take k) : Nat) : Int)) (y := 10) (show RIn _ A1 c1 ((numOf (d.take k) : Nat) : Int) from σ.pat (k := 1) rfl) (show RIn _ A26 c27 10 from σ.pat (k := 0) rfl) (by omega) (by have := dl_small (n := 10) (by decide) (by decide); omega)) ?_)
  rintro e w33 ⟨_, rfl, ⟨A30, c31, rfl, hz32⟩, hb⟩
  refine ⟨_, rfl, ?_⟩
  clear η a; intro a η
  replace σ := (σ.call hb).addR hz32 ⟨nou_bk rfl, nou_bk rfl, trivial⟩
  clear hz32
  clear hb
  refine ⟨.inr ⟨σ.kn.pick [1] [2], .inr (σ.kn.pick [0] [])⟩, ?_⟩
  refine sAny_one (i := 8) (by kernel_rfl) rfl rfl (op_call η rfl Tryd.call29 rfl (of_r (n := (((d.getD k 0).toNat) - 48 : Nat)) (by omega) (by omega)) ?_)
  rintro e w37 ⟨_, rfl, ⟨A34, c35, rfl, hz36⟩, hb⟩
  refine ⟨_, rfl, ?_⟩
  clear η a; intro a η
  replace σ := (σ.call hb).addR hz36 ⟨nou_bk rfl, nou_bk rfl, trivial⟩
  clear hz36
  clear hb
  refine ⟨.inr ⟨σ.kn.pick [1] [3], .inr (σ.kn.pick [0] [])⟩, ?_⟩
  refine sAny_one (i := 9) (by kernel_rfl) rfl rfl (op_call η rfl Tryd.call104 rfl (add_r (x := ((numOf (d.take k) : Nat) : Int) * 10) (y := (((d.getD k 0).toNat) - 48 : Nat)) (show RIn _ A30 c31 (((numOf (d.take k) : Nat) : Int) * 10) from σ.pat (k := 1) rfl) (show RIn _ A34 c35 (((d.getD k 0).toNat) - 48 : Nat) from σ.pat (k := 0) rfl) (by have h1 := dl_mul ((numOf (d.take k) : Nat) : Int) 10; have h2 := dl_small (n := 10) (by decide) (by decide); omega) (by have := dl_small (n := (((d.getD k 0).toNat) - 48 : Nat)) (by omega) (by omega); omega)) ?_)
  rintro e w41 ⟨_, rfl, ⟨A38, c39, rfl, hz40⟩, hb⟩
  refine ⟨_, rfl, ?_⟩
  clear η a; intro a η
  replace σ := (σ.call hb).addR hz40 ⟨nou_bk rfl, nou_bk rfl, trivial⟩
  clear hz40
  clear hb
  refine ⟨.inr ⟨σ.kn.pick [1] [4], .inr (σ.kn.pick [0] [])⟩, ?_⟩
  refine sAny_one (i := 10) (by kernel_rfl) rfl rfl (op_store (k := 0) (c' := #[.bool (neg ((((numOf (d.take k) : Nat) : Int) * 10) + (((d.getD k 0).toNat) - 48 : Nat))), .slice A38 (dl ((((numOf (d.take k) : Nat) : Int) * 10) + (((d.getD k 0).toNat) - 48 : Nat))) c39]) η σ (ty_anvil_anvilref02_Int.size) rfl rfl rfl rfl (by simp) rfl rfl ?_)
  clear η σ a; intro a w42 η σ
  refine ⟨.inr ⟨σ.kn.pick [1] [4], .inl rfl⟩, ?_⟩
  refine sAny_done (by kernel_rfl) ?_ _
  refine bl_n (th_n (region_seq ?_))
  revert a
  refine mA rfl rfl ?_
  refine sA (v := .int .i64 ((k + 1) + 1 : Nat)) rfl (fun _ η => rn_add η rfl rfl (by rw [IntWalk.i64_in _ (by omega)]; omega)) ?_
  refine aA rfl rfl ?_
  intro a η
  refine wpList_nil ?_
  rw [num_step hlt] at σ
  exact th_n ⟨_, (by omega), ⟨k + 1, A38, c39, rfl, η.sub ⟨rfl, rfl, rfl, rfl, rfl, trivial⟩, σ.pick [0, 1] [0] (by decide), (by omega)⟩⟩
 ·refine wp_seq (wp_seq (region_seq ?_))
  revert a
  refine mA rfl rfl ?_
  refine mA rfl rfl ?_
  refine sA (v := .int .i64 ((45 :: d).length : Nat)) rfl (fun _ η => rn_lenS η Tryd.underlying9 rfl) ?_
  intro a η
  rw [List.length_cons] at η
  refine sv (v := .bool (decide (((k + 1 : Nat) : Int) < ((d.length + 1 : Nat) : Int)))) η rfl (rn_bin η rfl rfl rfl) ?_
  clear η a; intro a η
  rw [show (decide (((k + 1 : Nat) : Int) < ((d.length + 1 : Nat) : Int))) = true from decide_eq_true (by omega)] at η
  refine wpList_nil (th_n ?_)
  refine if_t η rfl (rfl) ?_
  refine wp_skip (th_n (wp_seq (wp_block (wp_seq (wp_seq (region_seq ?_))))))
  revert a
  refine mA rfl rfl ?_
  refine mA rfl rfl ?_
  refine sA (v := .int .u8 (((45 :: d).getD (k + 1) 0).toNat : Nat)) rfl (fun _ η => rn_idxS (i := k + 1) η Tryd.underlying9 rfl rfl (by omega)) ?_
  intro a η
  rw [List.getD_cons_succ] at η
  refine sv (v := .bool (decide ((((d.getD k 0).toNat : Nat) : Int) < (48 : Int)))) η rfl (rn_bin η rfl rfl rfl) ?_
  clear η a; intro a η
  rw [show (decide ((((d.getD k 0).toNat : Nat) : Int) < (48 : Int))) = false from decide_eq_false (by omega)] at η
  revert a
  refine mA rfl rfl ?_
  refine gA (v := .string ⟨(45 :: d).toArray⟩) rfl rfl rfl rfl (fun _ η => rn_move η rfl) ?_
  refine gA (v := .int .i64 (k + 1 : Nat)) rfl rfl rfl rfl (fun _ η => rn_move η rfl) ?_
  refine gA (v := .int .u8 (((45 :: d).getD (k + 1) 0).toNat : Nat)) rfl rfl rfl rfl (fun _ η => rn_idxS (i := k + 1) η Tryd.underlying9 rfl rfl (by omega)) ?_
  intro a η
  rw [List.getD_cons_succ] at η
  refine seq_g rfl η rfl rfl (op_val (v := .bool (decide ((((d.getD k 0).toNat : Nat) : Int) > (57 : Int)))) η rfl (rn_bin η rfl rfl rfl) ?_)
  clear η a; intro a η
  rw [show (decide ((((d.getD k 0).toNat : Nat) : Int) > (57 : Int))) = false from decide_eq_false (by omega)] at η
  revert a
  refine sA (v := .bool false) rfl (fun _ η => rn_pick η rfl rfl) ?_
  refine mA rfl rfl ?_
  refine gA (v := .int .i64 (k + 1 : Nat)) rfl rfl rfl rfl (fun _ η => rn_move η rfl) ?_
  refine gA (v := .int .i64 1) rfl rfl rfl rfl (fun _ η => rn_move η rfl) ?_
  refine gA (v := .int .i64 2) rfl rfl rfl rfl (fun _ η => rn_bin η rfl rfl rfl) ?_
  refine gA (v := .bool (((k + 1 : Nat) : Int) == (2 : Int))) rfl rfl rfl rfl (fun _ η => rn_bin η rfl rfl rfl) ?_
  intro a η
  rw [show (((k + 1 : Nat) : Int) == (2 : Int)) = false from beq_eq_false_iff_ne.2 (by omega)] at η
  revert a
  refine gA (v := .bool false) rfl rfl rfl rfl (fun _ η => rn_move η rfl) ?_
  refine kA rfl rfl rfl rfl rfl ?_
  refine kA rfl rfl rfl rfl rfl ?_
  refine kA rfl rfl rfl rfl rfl ?_
  refine kA rfl rfl rfl rfl rfl ?_
  refine gA (v := .bool false) rfl rfl rfl rfl (fun _ η => rn_pick η rfl rfl) ?_
  refine sA (v := .bool false) rfl (fun _ η => rn_pick η rfl rfl) ?_
  intro a η
  refine wpList_nil (th_n ?_)
  refine if_f η rfl (rfl) ?_
  refine wp_skip (th_n ?_)
  refine region_any (n := 11) (Sk [bk g1 #[.bool (neg 0), .slice none (dl 0) 0] 39] [pfR A1 c1 ((numOf (d.take k) : Nat) : Int)] [10] [bk g3 #[.bool (neg ((numOf (d.take k) : Nat) : Int)), .slice A1 (dl ((numOf (d.take k) : Nat) : Int)) c1] 39]) mixed rfl η σ ?_
  clear η σ; intro w43 η σ
  refine sAny_take (i := 0) [2, 8, 9, 10] (fun w' => w'.heap[g3]? = some (.cells #[.bool (neg ((numOf (d.take k) : Nat) : Int)), .slice A1 (dl ((numOf (d.take k) : Nat) : Int)) c1] 39 (0, 0))) (v := .agg #[.bool (neg ((numOf (d.take k) : Nat) : Int)), .slice A1 (dl ((numOf (d.take k) : Nat) : Int)) c1]) rfl (by kernel_rfl) (fun _ _ _ h => h) (fun _ _ hj hS => (hS.two rfl hj).oat (k := 0) rfl) η rfl (σ.oat (k := 0) rfl) (fun w' hg => rn_load0 η ty_anvil_anvilref02_Int rfl hg rfl) ?_
  clear η a; intro a η
  refine tM (i := 3) (rg 5 6) rfl (by kernel_rfl) (fun _ _ _ h => h) η rfl rfl ?_
  clear η a; intro a η
  refine tM (i := 4) (rg 5 6) rfl (by kernel_rfl) (fun _ _ _ h => h) η rfl rfl ?_
  clear η a; intro a η
  refine tA (i := 5) (rg 6 5) (v := .int .u8 (((45 :: d).getD (k + 1) 0).toNat : Nat)) rfl (by kernel_rfl) (fun _ _ _ h => h) η rfl (fun _ => rn_idxS (i := k + 1) η Tryd.underlying9 rfl rfl (by omega)) ?_
  clear η a; intro a η
  rw [List.getD_cons_succ] at η
  refine tA (i := 6) (rg 7 4) (v := .int .u8 (((d.getD k 0).toNat) - 48 : Nat)) rfl (by kernel_rfl) (fun _ _ _ h => h) η rfl (fun _ => rn_sub η rfl rfl (by rw [IntWalk.u8_in _ (by omega)]; omega)) ?_
  clear η a; intro a η
  refine tA (i := 7) [8, 9, 10] (v := .int .i64 (((d.getD k 0).toNat) - 48 : Nat)) rfl (by kernel_rfl) (fun _ _ _ h => h) η rfl (fun _ => rn_conv η rfl Tryd.underlying5 Tryd.underlying2 (IntWalk.i64_in _ (by omega))) ?_
  clear η a; intro a η
  refine sAny_one (i := 1) (by kernel_rfl) rfl rfl (op_call η rfl Tryd.call29 rfl (of_r (n := (10 : Int)) (by omega) (by omega)) ?_)
  rintro e w47 ⟨_, rfl, ⟨A44, c45, rfl, hz46⟩, hb⟩
  refine ⟨_, rfl, ?_⟩
  clear η a; intro a η
  replace σ := (σ.call hb).addR hz46 ⟨nou_bk rfl, nou_bk rfl, trivial⟩
  clear hz46
  clear hb
  refine ⟨.inr ⟨σ.kn.pick [1] [1], .inr (σ.kn.pick [0] [])⟩, ?_⟩
  refine sAny_one (i := 2) (by kernel_rfl) rfl rfl (op_call η rfl Tryd.call105 rfl (mul_r (x := ((numOf (d.take k) : Nat) : Int)) (y := 10) (show RIn _ A1 c1 ((numOf (d.take k) : Nat) : Int) from σ.pat (k := 1) rfl) (show RIn _ A44 c45 10 from σ.pat (k := 0) rfl) (by omega) (by have := dl_small (n := 10) (by decide) (by decide); omega)) ?_)
  rintro e w51 ⟨_, rfl, ⟨A48, c49, rfl, hz50⟩, hb⟩
  refine ⟨_, rfl, ?_⟩
  clear η a; intro a η
  replace σ := (σ.call hb).addR hz50 ⟨nou_bk rfl, nou_bk rfl, trivial⟩
  clear hz50
  clear hb
  refine ⟨.inr ⟨σ.kn.pick [1] [2], .inr (σ.kn.pick [0] [])⟩, ?_⟩
  refine sAny_one (i := 8) (by kernel_rfl) rfl rfl (op_call η rfl Tryd.call29 rfl (of_r (n := (((d.getD k 0).toNat) - 48 : Nat)) (by omega) (by omega)) ?_)
  rintro e w55 ⟨_, rfl, ⟨A52, c53, rfl, hz54⟩, hb⟩
  refine ⟨_, rfl, ?_⟩
  clear η a; intro a η
  replace σ := (σ.call hb).addR hz54 ⟨nou_bk rfl, nou_bk rfl, trivial⟩
  clear hz54
  clear hb
  refine ⟨.inr ⟨σ.kn.pick [1] [3], .inr (σ.kn.pick [0] [])⟩, ?_⟩
  refine sAny_one (i := 9) (by kernel_rfl) rfl rfl (op_call η rfl Tryd.call104 rfl (add_r (x := ((numOf (d.take k) : Nat) : Int) * 10) (y := (((d.getD k 0).toNat) - 48 : Nat)) (show RIn _ A48 c49 (((numOf (d.take k) : Nat) : Int) * 10) from σ.pat (k := 1) rfl) (show RIn _ A52 c53 (((d.getD k 0).toNat) - 48 : Nat) from σ.pat (k := 0) rfl) (by have h1 := dl_mul ((numOf (d.take k) : Nat) : Int) 10; have h2 := dl_small (n := 10) (by decide) (by decide); omega) (by have := dl_small (n := (((d.getD k 0).toNat) - 48 : Nat)) (by omega) (by omega); omega)) ?_)
  rintro e w59 ⟨_, rfl, ⟨A56, c57, rfl, hz58⟩, hb⟩
  refine ⟨_, rfl, ?_⟩
  clear η a; intro a η
  replace σ := (σ.call hb).addR hz58 ⟨nou_bk rfl, nou_bk rfl, trivial⟩
  clear hz58
  clear hb
  refine ⟨.inr ⟨σ.kn.pick [1] [4], .inr (σ.kn.pick [0] [])⟩, ?_⟩
  refine sAny_one (i := 10) (by kernel_rfl) rfl rfl (op_store (k := 0) (c' := #[.bool (neg ((((numOf (d.take k) : Nat) : Int) * 10) + (((d.getD k 0).toNat) - 48 : Nat))), .slice A56 (dl ((((numOf (d.take k) : Nat) : Int) * 10) + (((d.getD k 0).toNat) - 48 : Nat))) c57]) η σ (ty_anvil_anvilref02_Int.size) rfl rfl rfl rfl (by simp) rfl rfl ?_)
  clear η σ a; intro a w60 η σ
  refine ⟨.inr ⟨σ.kn.pick [1] [4], .inl rfl⟩, ?_⟩
  refine sAny_done (by kernel_rfl) ?_ _
  refine bl_n (th_n (region_seq ?_))
  revert a
  refine mA rfl rfl ?_
  refine sA (v := .int .i64 ((k + 1) + 1 : Nat)) rfl (fun _ η => rn_add η rfl rfl (by rw [IntWalk.i64_in _ (by omega)]; omega)) ?_
  refine aA rfl rfl ?_
  intro a η
  refine wpList_nil ?_
  rw [num_step hlt] at σ
  exact th_n ⟨_, (by omega), ⟨k + 1, A56, c57, rfl, η.sub ⟨rfl, rfl, rfl, rfl, rfl, trivial⟩, σ.pick [0, 1] [0] (by decide), (by omega)⟩⟩
 ·refine wp_seq (wp_seq (region_seq ?_))
  revert a
  refine mA rfl rfl ?_
  refine mA rfl rfl ?_
  refine sA (v := .int .i64 ((45 :: d).length : Nat)) rfl (fun _ η => rn_lenS η Tryd.underlying9 rfl) ?_
  intro a η
  rw [List.length_cons] at η
  refine sv (v := .bool (decide (((k + 1 : Nat) : Int) < ((d.length + 1 : Nat) : Int)))) η rfl (rn_bin η rfl rfl rfl) ?_
  clear η a; intro a η
  rw [show (decide (((k + 1 : Nat) : Int) < ((d.length + 1 : Nat) : Int))) = true from decide_eq_true (by omega)] at η
  refine wpList_nil (th_n ?_)
  refine if_t η rfl (rfl) ?_
  refine wp_skip (th_n (wp_seq (wp_block (wp_seq (wp_seq (region_seq ?_))))))
  revert a
  refine mA rfl rfl ?_
  refine mA rfl rfl ?_
  refine sA (v := .int .u8 (((45 :: d).getD (k + 1) 0).toNat : Nat)) rfl (fun _ η => rn_idxS (i := k + 1) η Tryd.underlying9 rfl rfl (by omega)) ?_
  intro a η
  rw [List.getD_cons_succ] at η
  refine sv (v := .bool (decide ((((d.getD k 0).toNat : Nat) : Int) < (48 : Int)))) η rfl (rn_bin η rfl rfl rfl) ?_
  clear η a; intro a η
  rw [show (decide ((((d.getD k 0).toNat : Nat) : Int) < (48 : Int))) = true from decide_eq_true (by omega)] at η
  revert a
  refine mA rfl rfl ?_
  refine kA rfl rfl rfl rfl rfl ?_
  refine kA rfl rfl rfl rfl rfl ?_
  refine kA rfl rfl rfl rfl rfl ?_
  refine kA rfl rfl rfl rfl rfl ?_
  refine sA (v := .bool true) rfl (fun _ η => rn_pick η rfl rfl) ?_
  refine mA rfl rfl ?_
  refine kA rfl rfl rfl rfl rfl ?_
  refine kA rfl rfl rfl rfl rfl ?_
  refine kA rfl rfl rfl rfl rfl ?_
  refine kA rfl rfl rfl rfl rfl ?_
  refine kA rfl rfl rfl rfl rfl ?_
  refine kA rfl rfl rfl rfl rfl ?_
  refine kA rfl rfl rfl rfl rfl ?_
  refine kA rfl rfl rfl rfl rfl ?_
  refine kA rfl rfl rfl rfl rfl ?_
  refine kA rfl rfl rfl rfl rfl ?_
  refine sA (v := .bool true) rfl (fun _ η => rn_pick η rfl rfl) ?_
  intro a η
  refine wpList_nil (th_n ?_)
  refine if_t η rfl (rfl) ?_
  refine wp_seq (region_seq ?_)
  revert a
  refine sA (v := .agg #[.bool (neg 0), .slice none (dl 0) 0]) rfl (fun _ η => rn_zref) ?_
  refine mA rfl rfl ?_
  intro a η
  refine seq_step rfl (op_store (k := 1) (c' := #[.bool (neg 0), .slice none (dl 0) 0]) η σ (ty_anvil_anvilref02_Int.size) rfl rfl rfl rfl (by simp) rfl rfl ?_)
  clear η σ a; intro a w61 η σ
  refine sv (v := .int .i64 (k + 1 : Nat)) η rfl (rn_assign η rfl) ?_
  clear η a; intro a η
  refine wpList_nil (th_n (wp_ret (th_r (bl_r (th_r (th_r (bl_r (th_r ?_))))))))
  refine leave η (res2 Tryd.results115 (RV.cell η ty_anvil_anvilref02_Int rfl (σ.oat (k := 1) rfl) rfl) (RV.tmp η rfl)) ?_
  subst hkb
  exact ⟨rfl, σ.below⟩
 ·refine wp_seq (wp_seq (region_seq ?_))
  revert a
  refine mA rfl rfl ?_
  refine mA rfl rfl ?_
  refine sA (v := .int .i64 ((45 :: d).length : Nat)) rfl (fun _ η => rn_lenS η Tryd.underlying9 rfl) ?_
  intro a η
  rw [List.length_cons] at η
  refine sv (v := .bool (decide (((k + 1 : Nat) : Int) < ((d.length + 1 : Nat) : Int)))) η rfl (rn_bin η rfl rfl rfl) ?_
  clear η a; intro a η
  rw [show (decide (((k + 1 : Nat) : Int) < ((d.length + 1 : Nat) : Int))) = true from decide_eq_true (by omega)] at η
  refine wpList_nil (th_n ?_)
  refine if_t η rfl (rfl) ?_
  refine wp_skip (th_n (wp_seq (wp_block (wp_seq (wp_seq (region_seq ?_))))))
  revert a
  refine mA rfl rfl ?_
  refine mA rfl rfl ?_
  refine sA (v := .int .u8 (((45 :: d).getD (k + 1) 0).toNat : Nat)) rfl (fun _ η => rn_idxS (i := k + 1) η Tryd.underlying9 rfl rfl (by omega)) ?_
  intro a η
  rw [List.getD_cons_succ] at η
  refine sv (v := .bool (decide ((((d.getD k 0).toNat : Nat) : Int) < (48 : Int)))) η rfl (rn_bin η rfl rfl rfl) ?_
  clear η a; intro a η
  rw [show (decide ((((d.getD k 0).toNat : Nat) : Int) < (48 : Int))) = false from decide_eq_false (by omega)] at η
  revert a
  refine mA rfl rfl ?_
  refine gA (v := .string ⟨(45 :: d).toArray⟩) rfl rfl rfl rfl (fun _ η => rn_move η rfl) ?_
  refine gA (v := .int .i64 (k + 1 : Nat)) rfl rfl rfl rfl (fun _ η => rn_move η rfl) ?_
  refine gA (v := .int .u8 (((45 :: d).getD (k + 1) 0).toNat : Nat)) rfl rfl rfl rfl (fun _ η => rn_idxS (i := k + 1) η Tryd.underlying9 rfl rfl (by omega)) ?_
  intro a η
  rw [List.getD_cons_succ] at η
  refine seq_g rfl η rfl rfl (op_val (v := .bool (decide ((((d.getD k 0).toNat : Nat) : Int) > (57 : Int)))) η rfl (rn_bin η rfl rfl rfl) ?_)
  clear η a; intro a η
  rw [show (decide ((((d.getD k 0).toNat : Nat) : Int) > (57 : Int))) = true from decide_eq_true (by omega)] at η
  revert a
  refine sA (v := .bool true) rfl (fun _ η => rn_pick η rfl rfl) ?_
  refine mA rfl rfl ?_
  refine kA rfl rfl rfl rfl rfl ?_
  refine kA rfl rfl rfl rfl rfl ?_
  refine kA rfl rfl rfl rfl rfl ?_
  refine kA rfl rfl rfl rfl rfl ?_
  refine kA rfl rfl rfl rfl rfl ?_
  refine kA rfl rfl rfl rfl rfl ?_
  refine kA rfl rfl rfl rfl rfl ?_
  refine kA rfl rfl rfl rfl rfl ?_
  refine kA rfl rfl rfl rfl rfl ?_
  refine kA rfl rfl rfl rfl rfl ?_
  refine sA (v := .bool true) rfl (fun _ η => rn_pick η rfl rfl) ?_
  intro a η
  refine wpList_nil (th_n ?_)
  refine if_t η rfl (rfl) ?_
  refine wp_seq (region_seq ?_)
  revert a
  refine sA (v := .agg #[.bool (neg 0), .slice none (dl 0) 0]) rfl (fun _ η => rn_zref) ?_
  refine mA rfl rfl ?_
  intro a η
  refine seq_step rfl (op_store (k := 1) (c' := #[.bool (neg 0), .slice none (dl 0) 0]) η σ (ty_anvil_anvilref02_Int.size) rfl rfl rfl rfl (by simp) rfl rfl ?_)
  clear η σ a; intro a w62 η σ
  refine sv (v := .int .i64 (k + 1 : Nat)) η rfl (rn_assign η rfl) ?_
  clear η a; intro a η
  refine wpList_nil (th_n (wp_ret (th_r (bl_r (th_r (th_r (bl_r (th_r ?_))))))))
  refine leave η (res2 Tryd.results115 (RV.cell η ty_anvil_anvilref02_Int rfl (σ.oat (k := 1) rfl) rfl) (RV.tmp η rfl)) ?_
  subst hkb
  exact ⟨rfl, σ.below⟩
 ·refine wp_seq (wp_seq (region_seq ?_))
  revert a
  refine mA rfl rfl ?_
  refine mA rfl rfl ?_
  refine sA (v := .int .i64 ((45 :: d).length : Nat)) rfl (fun _ η => rn_lenS η Tryd.underlying9 rfl) ?_
  intro a η
  rw [List.length_cons] at η
  refine sv (v := .bool (decide (((k + 1 : Nat) : Int) < ((d.length + 1 : Nat) : Int)))) η rfl (rn_bin η rfl rfl rfl) ?_
  clear η a; intro a η
  rw [show (decide (((k + 1 : Nat) : Int) < ((d.length + 1 : Nat) : Int))) = true from decide_eq_true (by omega)] at η
  refine wpList_nil (th_n ?_)
  refine if_t η rfl (rfl) ?_
  refine wp_skip (th_n (wp_seq (wp_block (wp_seq (wp_seq (region_seq ?_))))))
  revert a
  refine mA rfl rfl ?_
  refine mA rfl rfl ?_
  refine sA (v := .int .u8 (((45 :: d).getD (k + 1) 0).toNat : Nat)) rfl (fun _ η => rn_idxS (i := k + 1) η Tryd.underlying9 rfl rfl (by omega)) ?_
  intro a η
  rw [List.getD_cons_succ] at η
  refine sv (v := .bool (decide ((((d.getD k 0).toNat : Nat) : Int) < (48 : Int)))) η rfl (rn_bin η rfl rfl rfl) ?_
  clear η a; intro a η
  rw [show (decide ((((d.getD k 0).toNat : Nat) : Int) < (48 : Int))) = false from decide_eq_false (by omega)] at η
  revert a
  refine mA rfl rfl ?_
  refine gA (v := .string ⟨(45 :: d).toArray⟩) rfl rfl rfl rfl (fun _ η => rn_move η rfl) ?_
  refine gA (v := .int .i64 (k + 1 : Nat)) rfl rfl rfl rfl (fun _ η => rn_move η rfl) ?_
  refine gA (v := .int .u8 (((45 :: d).getD (k + 1) 0).toNat : Nat)) rfl rfl rfl rfl (fun _ η => rn_idxS (i := k + 1) η Tryd.underlying9 rfl rfl (by omega)) ?_
  intro a η
  rw [List.getD_cons_succ] at η
  refine seq_g rfl η rfl rfl (op_val (v := .bool (decide ((((d.getD k 0).toNat : Nat) : Int) > (57 : Int)))) η rfl (rn_bin η rfl rfl rfl) ?_)
  clear η a; intro a η
  rw [show (decide ((((d.getD k 0).toNat : Nat) : Int) > (57 : Int))) = false from decide_eq_false (by omega)] at η
  revert a
  refine sA (v := .bool false) rfl (fun _ η => rn_pick η rfl rfl) ?_
  refine mA rfl rfl ?_
  refine gA (v := .int .i64 (k + 1 : Nat)) rfl rfl rfl rfl (fun _ η => rn_move η rfl) ?_
  refine gA (v := .int .i64 1) rfl rfl rfl rfl (fun _ η => rn_move η rfl) ?_
  refine gA (v := .int .i64 2) rfl rfl rfl rfl (fun _ η => rn_bin η rfl rfl rfl) ?_
  refine gA (v := .bool (((k + 1 : Nat) : Int) == (2 : Int))) rfl rfl rfl rfl (fun _ η => rn_bin η rfl rfl rfl) ?_
  intro a η
  rw [show (((k + 1 : Nat) : Int) == (2 : Int)) = true from beq_iff_eq.2 (by omega)] at η
  revert a
  refine gA (v := .bool true) rfl rfl rfl rfl (fun _ η => rn_move η rfl) ?_
  refine gA (v := .string ⟨(45 :: d).toArray⟩) rfl rfl rfl rfl (fun _ η => rn_move η rfl) ?_
  refine gA (v := .int .i64 1) rfl rfl rfl rfl (fun _ η => rn_move η rfl) ?_
  refine gA (v := .int .u8 (((45 :: d).getD 1 0).toNat : Nat)) rfl rfl rfl rfl (fun _ η => rn_idxS (i := 1) η Tryd.underlying9 rfl rfl (by omega)) ?_
  intro a η
  rw [show (45 :: d).getD 1 0 = d.getD 0 0 from rfl] at η
  refine seq_g rfl η rfl rfl (op_val (v := .bool ((((d.getD 0 0).toNat : Nat) : Int) == (48 : Int))) η rfl (rn_bin η rfl rfl rfl) ?_)
  clear η a; intro a η
  rw [show ((((d.getD 0 0).toNat : Nat) : Int) == (48 : Int)) = true from beq_iff_eq.2 (by omega)] at η
  revert a
  refine gA (v := .bool true) rfl rfl rfl rfl (fun _ η => rn_pick η rfl rfl) ?_
  refine sA (v := .bool true) rfl (fun _ η => rn_pick η rfl rfl) ?_
  intro a η
  refine wpList_nil (th_n ?_)
  refine if_t η rfl (rfl) ?_
  refine wp_seq (region_seq ?_)
  revert a
  refine sA (v := .agg #[.bool (neg 0), .slice none (dl 0) 0]) rfl (fun _ η => rn_zref) ?_
  refine mA rfl rfl ?_
  intro a η
  refine seq_step rfl (op_store (k := 1) (c' := #[.bool (neg 0), .slice none (dl 0) 0]) η σ (ty_anvil_anvilref02_Int.size) rfl rfl rfl rfl (by simp) rfl rfl ?_)
  clear η σ a; intro a w63 η σ
  refine sv (v := .int .i64 (k + 1 : Nat)) η rfl (rn_assign η rfl) ?_
  clear η a; intro a η
  refine wpList_nil (th_n (wp_ret (th_r (bl_r (th_r (th_r (bl_r (th_r ?_))))))))
  refine leave η (res2 Tryd.results115 (RV.cell η ty_anvil_anvilref02_Int rfl (σ.oat (k := 1) rfl) rfl) (RV.tmp η rfl)) ?_
  subst hkb
  exact ⟨rfl, σ.below⟩
theorem rread_ok1 {d : List UInt8} {w0 : World} (hfb : Ok 1 d) (hl : d.length ≤ 100000) :
  Calls Tryd.prog 115 #[.string ⟨(45 :: d).toArray⟩] w0 fun e w' => ∃ v, e = .returned (.tuple #[v, .int .i64 (-1)]) ∧ RAt w' v (sg true (numOf d)) ∧ Below w0.heap.size w0 w' := by
 have hlen1 : (45 :: d).length = d.length + 1 := rfl
 have hdg := digits_of hfb.ok
 have hd0 := ok_first hfb
 obtain ⟨hl0, hd1, hd2, hd3⟩ := hd0
 refine enter Tryd.func115 rfl Tryd.ntmps115 rfl ?_
 intro a η σ
 refine wp_seq (region_seq ?_)
 refine seq_step rfl (op_alloc (c := #[.bool (neg 0), .slice none (dl 0) 0]) η σ rfl zero_anvil_anvilref02_Int rcells ?_)
 clear η σ a; intro a w2 g1 η σ
 refine sv (v := .int .i64 0) η rfl (rn_assign η rfl) ?_
 clear η a; intro a η
 refine wpList_nil (th_n (wp_seq (region_seq ?_)))
 refine sv (v := .int .i64 0) η rfl (rn_assign η rfl) ?_
 clear η a; intro a η
 refine wpList_nil (th_n (wp_seq (wp_seq (region_seq ?_))))
 revert a
 refine mA rfl rfl ?_
 refine sA (v := .int .i64 ((45 :: d).length : Nat)) rfl (fun _ η => rn_lenS η Tryd.underlying9 rfl) ?_
 intro a η
 rw [List.length_cons] at η
 refine sv (v := .bool (decide (((d.length + 1 : Nat) : Int) > (0 : Int)))) η rfl (rn_bin η rfl rfl rfl) ?_
 clear η a; intro a η
 rw [show (decide (((d.length + 1 : Nat) : Int) > (0 : Int))) = true from decide_eq_true (by omega)] at η
 revert a
 refine mA rfl rfl ?_
 refine gA (v := .string ⟨(45 :: d).toArray⟩) rfl rfl rfl rfl (fun _ η => rn_move η rfl) ?_
 refine gA (v := .int .u8 (((45 :: d).getD 0 0).toNat : Nat)) rfl rfl rfl rfl (fun _ η => rn_idxS (i := 0) η Tryd.underlying9 rfl rfl (by omega)) ?_
 intro a η
 rw [List.getD_cons_zero] at η
 refine seq_g rfl η rfl rfl (op_val (v := .bool ((((45 : UInt8).toNat : Nat) : Int) == (45 : Int))) η rfl (rn_bin η rfl rfl rfl) ?_)
 clear η a; intro a η
 rw [show ((((45 : UInt8).toNat : Nat) : Int) == (45 : Int)) = true from rfl] at η
 refine sv (v := .bool true) η rfl (rn_pick η rfl rfl) ?_
 clear η a; intro a η
 refine wpList_nil (th_n ?_)
 refine if_t η rfl (rfl) ?_
 refine region_seq ?_
 refine sv (v := .int .i64 1) η rfl (rn_assign η rfl) ?_
 clear η a; intro a η
 refine wpList_nil (th_n (wp_seq (wp_seq (region_seq ?_))))
 revert a
 refine mA rfl rfl ?_
 refine mA rfl rfl ?_
 refine sA (v := .int .i64 ((45 :: d).length : Nat)) rfl (fun _ η => rn_lenS η Tryd.underlying9 rfl) ?_
 intro a η
 rw [List.length_cons] at η
 refine sv (v := .bool (decide ((1 : Int) ≥ ((d.length + 1 : Nat) : Int)))) η rfl (rn_bin η rfl rfl rfl) ?_
 clear η a; intro a η
 rw [show (decide ((1 : Int) ≥ ((d.length + 1 : Nat) : Int))) = false from decide_eq_false (by omega)] at η
 revert a
 refine mA rfl rfl ?_
 refine gA (v := .string ⟨(45 :: d).toArray⟩) rfl rfl rfl rfl (fun _ η => rn_move η rfl) ?_
 refine gA (v := .int .i64 1) rfl rfl rfl rfl (fun _ η => rn_move η rfl) ?_
 refine gA (v := .int .u8 (((45 :: d).getD 1 0).toNat : Nat)) rfl rfl rfl rfl (fun _ η => rn_idxS (i := 1) η Tryd.underlying9 rfl rfl (by omega)) ?_
 intro a η
 rw [show (45 :: d).getD 1 0 = d.getD 0 0 from rfl] at η
 refine seq_g rfl η rfl rfl (op_val (v := .bool (decide ((((d.getD 0 0).toNat : Nat) : Int) < (48 : Int)))) η rfl (rn_bin η rfl rfl rfl) ?_)
 clear η a; intro a η
 rw [show (decide ((((d.getD 0 0).toNat : Nat) : Int) < (48 : Int))) = false from decide_eq_false (by omega)] at η
 revert a
 refine sA (v := .bool false) rfl (fun _ η => rn_pick η rfl rfl) ?_
 refine mA rfl rfl ?_
 refine gA (v := .string ⟨(45 :: d).toArray⟩) rfl rfl rfl rfl (fun _ η => rn_move η rfl) ?_
 refine gA (v := .int .i64 1) rfl rfl rfl rfl (fun _ η => rn_move η rfl) ?_
 refine gA (v := .int .u8 (((45 :: d).getD 1 0).toNat : Nat)) rfl rfl rfl rfl (fun _ η => rn_idxS (i := 1) η Tryd.underlying9 rfl rfl (by omega)) ?_
 intro a η
 rw [show (45 :: d).getD 1 0 = d.getD 0 0 from rfl] at η
 refine seq_g rfl η rfl rfl (op_val (v := .bool (decide ((((d.getD 0 0).toNat : Nat) : Int) > (57 : Int)))) η rfl (rn_bin η rfl rfl rfl) ?_)
 clear η a; intro a η
 rw [show (decide ((((d.getD 0 0).toNat : Nat) : Int) > (57 : Int))) = false from decide_eq_false (by omega)] at η
 revert a
 refine sA (v := .bool false) rfl (fun _ η => rn_pick η rfl rfl) ?_
 refine mA rfl rfl ?_
 refine gA (v := .int .i64 1) rfl rfl rfl rfl (fun _ η => rn_move η rfl) ?_
 refine gA (v := .bool true) rfl rfl rfl rfl (fun _ η => rn_bin η rfl rfl rfl) ?_
 refine gA (v := .bool true) rfl rfl rfl rfl (fun _ η => rn_move η rfl) ?_
 refine gA (v := .string ⟨(45 :: d).toArray⟩) rfl rfl rfl rfl (fun _ η => rn_move η rfl) ?_
 refine gA (v := .int .u8 (((45 :: d).getD 1 0).toNat : Nat)) rfl rfl rfl rfl (fun _ η => rn_idxS (i := 1) η Tryd.underlying9 rfl rfl (by omega)) ?_
 intro a η
 rw [show (45 :: d).getD 1 0 = d.getD 0 0 from rfl] at η
 refine seq_g rfl η rfl rfl (op_val (v := .bool ((((d.getD 0 0).toNat : Nat) : Int) == (48 : Int))) η rfl (rn_bin η rfl rfl rfl) ?_)
 clear η a; intro a η
 rw [show ((((d.getD 0 0).toNat : Nat) : Int) == (48 : Int)) = false from beq_eq_false_iff_ne.2 (by omega)] at η
 revert a
 refine gA (v := .bool false) rfl rfl rfl rfl (fun _ η => rn_pick η rfl rfl) ?_
 refine sA (v := .bool false) rfl (fun _ η => rn_pick η rfl rfl) ?_
 intro a η
 refine wpList_nil (th_n ?_)
 refine if_f η rfl (rfl) ?_
 refine wp_skip (th_n (wp_seq (region_seq ?_)))
 refine sv (v := .agg #[.bool (neg 0), .slice none (dl 0) 0]) η rfl (rn_zref) ?_
 clear η a; intro a η
 refine seq_step rfl (op_alloc (c := #[.bool (neg 0), .slice none (dl 0) 0]) η σ rfl zero_anvil_anvilref02_Int rcells ?_)
 clear η σ a; intro a w4 g3 η σ
 refine seq_step rfl (op_store (k := 0) (c' := #[.bool (neg 0), .slice none (dl 0) 0]) η σ (ty_anvil_anvilref02_Int.size) rfl rfl rfl rfl (by simp) rfl rfl ?_)
 clear η σ a; intro a w5 η σ
 refine wpList_nil (th_n (wp_seq (wp_seq (region_seq ?_))))
 revert a
 refine mA rfl rfl ?_
 refine aA rfl rfl ?_
 intro a η
 refine wpList_nil (th_n (wp_block ?_))
 replace σ := σ.addR (rin_none _) ⟨nou_bk rfl, nou_bk rfl, trivial⟩
 refine wp_loop_ghost (fun mz a w => ∃ (k : Nat) (A1 : Option Addr) (c1 : Nat), d.length - k = mz ∧ Env 89 a [(0, .string ⟨(45 :: d).toArray⟩), (2, .pointer (some ⟨g1, 0, none⟩)), (4, .int .i64 1), (5, .pointer (some ⟨g3, 0, none⟩)), (6, .int .i64 (k + 1 : Nat))] ∧ St w0 w [bk g3 #[.bool (neg ((numOf (d.take k) : Nat) : Int)), .slice A1 (dl ((numOf (d.take k) : Nat) : Int)) c1] 39, bk g1 #[.bool (neg 0), .slice none (dl 0) 0] 39] [pfR A1 c1 ((numOf (d.take k) : Nat) : Int)] ∧ k ≤ d.length) _ ⟨0, none, 0, rfl, η.sub ⟨rfl, rfl, rfl, rfl, rfl, trivial⟩, σ.pick [0, 1] [0] (by decide), (Nat.zero_le _)⟩ ?_
 clear η σ a
 rintro mz a w6 ⟨k, A1, c1, rfl, η, σ, hk⟩
 have hkl : k ≤ d.length := by omega
 have hdl1 := dl_num (d := d) (k := k) hdg hkl
 rcases ok_split2 hfb k with ⟨hlt⟩ | ⟨hlt, h1, h2, hk0, h3⟩ | ⟨hlt, h1, h2, hk0, h3⟩ | ⟨hlt, h1, h2, hk0⟩
 ·refine wp_seq (wp_seq (region_seq ?_))
  revert a
  refine mA rfl rfl ?_
  refine mA rfl rfl ?_
  refine sA (v := .int .i64 ((45 :: d).length : Nat)) rfl (fun _ η => rn_lenS η Tryd.underlying9 rfl) ?_
  intro a η
  rw [List.length_cons] at η
  refine sv (v := .bool (decide (((k + 1 : Nat) : Int) < ((d.length + 1 : Nat) : Int)))) η rfl (rn_bin η rfl rfl rfl) ?_
  clear η a; intro a η
  rw [show (decide (((k + 1 : Nat) : Int) < ((d.length + 1 : Nat) : Int))) = false from decide_eq_false (by omega)] at η
  refine wpList_nil (th_n ?_)
  refine if_f η rfl (rfl) ?_
  refine wp_exit (th_x (th_x (bl_x (th_n (wp_seq ?_)))))
  obtain rfl : k = d.length := by omega
  rw [List.take_length] at σ
  refine region_seq ?_
  revert a
  refine mA rfl rfl ?_
  refine sA (v := .bool true) rfl (fun _ η => rn_bin η rfl rfl rfl) ?_
  refine sA (v := .pointer (some ⟨g3, 1, none⟩)) rfl (fun _ η => rn_fieldAddr η fd_anvil_anvilref02_Int_1 (ty__uint32.size) (by decide) rfl) ?_
  refine sA (v := .slice A1 (dl ((numOf d : Nat) : Int)) c1) rfl (fun _ η => rn_load1 η ty__uint32 rfl (σ.oat (k := 0) rfl) rfl) ?_
  intro a η
  refine seq_step rfl (op_call η rfl Tryd.call97 rfl (norm_num' (b := true) (N := numOf d) (show U32 _ A1 (dn (numOf d)) c1 (D (numOf d)) from σ.pat (k := 0) rfl)) ?_)
  rintro e w7 ⟨rfl, hz, hb⟩
  refine ⟨_, rfl, ?_⟩
  clear η a; intro a η
  replace σ := (σ.call hb).addR hz ⟨nou_bk rfl, nou_bk rfl, trivial⟩
  clear hz
  clear hb
  refine seq_step rfl (op_store (k := 1) (c' := #[.bool (neg (sg true (numOf d))), .slice A1 (dl (sg true (numOf d))) c1]) η σ (ty_anvil_anvilref02_Int.size) rfl rfl rfl rfl (by simp) rfl rfl ?_)
  clear η σ a; intro a w8 η σ
  refine sv (v := .int .i64 (-1)) η rfl (rn_assign η rfl) ?_
  clear η a; intro a η
  refine wpList_nil (th_n (wp_ret ?_))
  refine leave η (res2 Tryd.results115 (RV.cell η ty_anvil_anvilref02_Int rfl (σ.oat (k := 1) rfl) rfl) (RV.tmp η rfl)) ?_
  exact ⟨_, rfl, ⟨A1, c1, rfl, σ.pat (k := 0) rfl⟩, σ.below⟩
 ·refine wp_seq (wp_seq (region_seq ?_))
  revert a
  refine mA rfl rfl ?_
  refine mA rfl rfl ?_
  refine sA (v := .int .i64 ((45 :: d).length : Nat)) rfl (fun _ η => rn_lenS η Tryd.underlying9 rfl) ?_
  intro a η
  rw [List.length_cons] at η
  refine sv (v := .bool (decide (((k + 1 : Nat) : Int) < ((d.length + 1 : Nat) : Int)))) η rfl (rn_bin η rfl rfl rfl) ?_
  clear η a; intro a η
  rw [show (decide (((k + 1 : Nat) : Int) < ((d.length + 1 : Nat) : Int))) = true from decide_eq_true (by omega)] at η
  refine wpList_nil (th_n ?_)
  refine if_t η rfl (rfl) ?_
  refine wp_skip (th_n (wp_seq (wp_block (wp_seq (wp_seq (region_seq ?_))))))
  revert a
  refine mA rfl rfl ?_
  refine mA rfl rfl ?_
  refine sA (v := .int .u8 (((45 :: d).getD (k + 1) 0).toNat : Nat)) rfl (fun _ η => rn_idxS (i := k + 1) η Tryd.underlying9 rfl rfl (by omega)) ?_
  intro a η
  rw [List.getD_cons_succ] at η
  refine sv (v := .bool (decide ((((d.getD k 0).toNat : Nat) : Int) < (48 : Int)))) η rfl (rn_bin η rfl rfl rfl) ?_
  clear η a; intro a η
  rw [show (decide ((((d.getD k 0).toNat : Nat) : Int) < (48 : Int))) = false from decide_eq_false (by omega)] at η
  revert a
  refine mA rfl rfl ?_
  refine gA (v := .string ⟨(45 :: d).toArray⟩) rfl rfl rfl rfl (fun _ η => rn_move η rfl) ?_
  refine gA (v := .int .i64 (k + 1 : Nat)) rfl rfl rfl rfl (fun _ η => rn_move η rfl) ?_
  refine gA (v := .int .u8 (((45 :: d).getD (k + 1) 0).toNat : Nat)) rfl rfl rfl rfl (fun _ η => rn_idxS (i := k + 1) η Tryd.underlying9 rfl rfl (by omega)) ?_
  intro a η
  rw [List.getD_cons_succ] at η
  refine seq_g rfl η rfl rfl (op_val (v := .bool (decide ((((d.getD k 0).toNat : Nat) : Int) > (57 : Int)))) η rfl (rn_bin η rfl rfl rfl) ?_)
  clear η a; intro a η
  rw [show (decide ((((d.getD k 0).toNat : Nat) : Int) > (57 : Int))) = false from decide_eq_false (by omega)] at η
  revert a
  refine sA (v := .bool false) rfl (fun _ η => rn_pick η rfl rfl) ?_
  refine mA rfl rfl ?_
  refine gA (v := .int .i64 (k + 1 : Nat)) rfl rfl rfl rfl (fun _ η => rn_move η rfl) ?_
  refine gA (v := .int .i64 1) rfl rfl rfl rfl (fun _ η => rn_move η rfl) ?_
  refine gA (v := .int .i64 2) rfl rfl rfl rfl (fun _ η => rn_bin η rfl rfl rfl) ?_
  refine gA (v := .bool (((k + 1 : Nat) : Int) == (2 : Int))) rfl rfl rfl rfl (fun _ η => rn_bin η rfl rfl rfl) ?_
  intro a η
  rw [show (((k + 1 : Nat) : Int) == (2 : Int)) = false from beq_eq_false_iff_ne.2 (by omega)] at η
  revert a
  refine gA (v := .bool false) rfl rfl rfl rfl (fun _ η => rn_move η rfl) ?_
  refine kA rfl rfl rfl rfl rfl ?_
  refine kA rfl rfl rfl rfl rfl ?_
  refine kA rfl rfl rfl rfl rfl ?_
  refine kA rfl rfl rfl rfl rfl ?_
  refine gA (v := .bool false) rfl rfl rfl rfl (fun _ η => rn_pick η rfl rfl) ?_
  refine sA (v := .bool false) rfl (fun _ η => rn_pick η rfl rfl) ?_
  intro a η
  refine wpList_nil (th_n ?_)
  refine if_f η rfl (rfl) ?_
  refine wp_skip (th_n ?_)
  refine region_any (n := 11) (Sk [bk g1 #[.bool (neg 0), .slice none (dl 0) 0] 39] [pfR A1 c1 ((numOf (d.take k) : Nat) : Int)] [10] [bk g3 #[.bool (neg ((numOf (d.take k) : Nat) : Int)), .slice A1 (dl ((numOf (d.take k) : Nat) : Int)) c1] 39]) mixed rfl η σ ?_
  clear η σ; intro w9 η σ
  refine sAny_take (i := 0) [2, 8, 9, 10] (fun w' => w'.heap[g3]? = some (.cells #[.bool (neg ((numOf (d.take k) : Nat) : Int)), .slice A1 (dl ((numOf (d.take k) : Nat) : Int)) c1] 39 (0, 0))) (v := .agg #[.bool (neg ((numOf (d.take k) : Nat) : Int)), .slice A1 (dl ((numOf (d.take k) : Nat) : Int)) c1]) rfl (by kernel_rfl) (fun _ _ _ h => h) (fun _ _ hj hS => (hS.two rfl hj).oat (k := 0) rfl) η rfl (σ.oat (k := 0) rfl) (fun w' hg => rn_load0 η ty_anvil_anvilref02_Int rfl hg rfl) ?_
  clear η a; intro a η
  refine tM (i := 3) (rg 5 6) rfl (by kernel_rfl) (fun _ _ _ h => h) η rfl rfl ?_
  clear η a; intro a η
  refine tM (i := 4) (rg 5 6) rfl (by kernel_rfl) (fun _ _ _ h => h) η rfl rfl ?_
  clear η a; intro a η
  refine tA (i := 5) (rg 6 5) (v := .int .u8 (((45 :: d).getD (k + 1) 0).toNat : Nat)) rfl (by kernel_rfl) (fun _ _ _ h => h) η rfl (fun _ => rn_idxS (i := k + 1) η Tryd.underlying9 rfl rfl (by omega)) ?_
  clear η a; intro a η
  rw [List.getD_cons_succ] at η
  refine tA (i := 6) (rg 7 4) (v := .int .u8 (((d.getD k 0).toNat) - 48 : Nat)) rfl (by kernel_rfl) (fun _ _ _ h => h) η rfl (fun _ => rn_sub η rfl rfl (by rw [IntWalk.u8_in _ (by omega)]; omega)) ?_
  clear η a; intro a η
  refine tA (i := 7) [8, 9, 10] (v := .int .i64 (((d.getD k 0).toNat) - 48 : Nat)) rfl (by kernel_rfl) (fun _ _ _ h => h) η rfl (fun _ => rn_conv η rfl Tryd.underlying5 Tryd.underlying2 (IntWalk.i64_in _ (by omega))) ?_
  clear η a; intro a η
  refine sAny_one (i := 1) (by kernel_rfl) rfl rfl (op_call η rfl Tryd.call29 rfl (of_r (n := (10 : Int)) (by omega) (by omega)) ?_)
  rintro e w13 ⟨_, rfl, ⟨A10, c11, rfl, hz12⟩, hb⟩
  refine ⟨_, rfl, ?_⟩
  clear η a; intro a η
  replace σ := (σ.call hb).addR hz12 ⟨nou_bk rfl, nou_bk rfl, trivial⟩
  clear hz12
  clear hb
  refine ⟨.inr ⟨σ.kn.pick [1] [1], .inr (σ.kn.pick [0] [])⟩, ?_⟩
  refine sAny_one (i := 2) (by kernel_rfl) rfl rfl (op_call η rfl Tryd.call105 rfl (mul_r (x := ((numOf (d.take k) : Nat) : Int)) (y := 10) (show RIn _ A1 c1 ((numOf (d.take k) : Nat) : Int) from σ.pat (k := 1) rfl) (show RIn _ A10 c11 10 from σ.pat (k := 0) rfl) (by omega) (by have := dl_small (n := 10) (by decide) (by decide); omega)) ?_)
  rintro e w17 ⟨_, rfl, ⟨A14, c15, rfl, hz16⟩, hb⟩
  refine ⟨_, rfl, ?_⟩
  clear η a; intro a η
  replace σ := (σ.call hb).addR hz16 ⟨nou_bk rfl, nou_bk rfl, trivial⟩
  clear hz16
  clear hb
  refine ⟨.inr ⟨σ.kn.pick [1] [2], .inr (σ.kn.pick [0] [])⟩, ?_⟩
  refine sAny_one (i := 8) (by kernel_rfl) rfl rfl (op_call η rfl Tryd.call29 rfl (of_r (n := (((d.getD k 0).toNat) - 48 : Nat)) (by omega) (by omega)) ?_)
  rintro e w21 ⟨_, rfl, ⟨A18, c19, rfl, hz20⟩, hb⟩
  refine ⟨_, rfl, ?_⟩
  clear η a; intro a η
  replace σ := (σ.call hb).addR hz20 ⟨nou_bk rfl, nou_bk rfl, trivial⟩
  clear hz20
  clear hb
  refine ⟨.inr ⟨σ.kn.pick [1] [3], .inr (σ.kn.pick [0] [])⟩, ?_⟩
  refine sAny_one (i := 9) (by kernel_rfl) rfl rfl (op_call η rfl Tryd.call104 rfl (add_r (x := ((numOf (d.take k) : Nat) : Int) * 10) (y := (((d.getD k 0).toNat) - 48 : Nat)) (show RIn _ A14 c15 (((numOf (d.take k) : Nat) : Int) * 10) from σ.pat (k := 1) rfl) (show RIn _ A18 c19 (((d.getD k 0).toNat) - 48 : Nat) from σ.pat (k := 0) rfl) (by have h1 := dl_mul ((numOf (d.take k) : Nat) : Int) 10; have h2 := dl_small (n := 10) (by decide) (by decide); omega) (by have := dl_small (n := (((d.getD k 0).toNat) - 48 : Nat)) (by omega) (by omega); omega)) ?_)
  rintro e w25 ⟨_, rfl, ⟨A22, c23, rfl, hz24⟩, hb⟩
  refine ⟨_, rfl, ?_⟩
  clear η a; intro a η
  replace σ := (σ.call hb).addR hz24 ⟨nou_bk rfl, nou_bk rfl, trivial⟩
  clear hz24
  clear hb
  refine ⟨.inr ⟨σ.kn.pick [1] [4], .inr (σ.kn.pick [0] [])⟩, ?_⟩
  refine sAny_one (i := 10) (by kernel_rfl) rfl rfl (op_store (k := 0) (c' := #[.bool (neg ((((numOf (d.take k) : Nat) : Int) * 10) + (((d.getD k 0).toNat) - 48 : Nat))), .slice A22 (dl ((((numOf (d.take k) : Nat) : Int) * 10) + (((d.getD k 0).toNat) - 48 : Nat))) c23]) η σ (ty_anvil_anvilref02_Int.size) rfl rfl rfl rfl (by simp) rfl rfl ?_)
  clear η σ a; intro a w26 η σ
  refine ⟨.inr ⟨σ.kn.pick [1] [4], .inl rfl⟩, ?_⟩
  refine sAny_done (by kernel_rfl) ?_ _
  refine bl_n (th_n (region_seq ?_))
  revert a
  refine mA rfl rfl ?_
  refine sA (v := .int .i64 ((k + 1) + 1 : Nat)) rfl (fun _ η => rn_add η rfl rfl (by rw [IntWalk.i64_in _ (by omega)]; omega)) ?_
  refine aA rfl rfl ?_
  intro a η
  refine wpList_nil ?_
  rw [num_step hlt] at σ
  exact th_n ⟨_, (by omega), ⟨k + 1, A22, c23, rfl, η.sub ⟨rfl, rfl, rfl, rfl, rfl, trivial⟩, σ.pick [0, 1] [0] (by decide), (by omega)⟩⟩
 ·refine wp_seq (wp_seq (region_seq ?_))
  revert a
  refine mA rfl rfl ?_
  refine mA rfl rfl ?_
  refine sA (v := .int .i64 ((45 :: d).length : Nat)) rfl (fun _ η => rn_lenS η Tryd.underlying9 rfl) ?_
  intro a η
  rw [List.length_cons] at η
  refine sv (v := .bool (decide (((k + 1 : Nat) : Int) < ((d.length + 1 : Nat) : Int)))) η rfl (rn_bin η rfl rfl rfl) ?_
  clear η a; intro a η
  rw [show (decide (((k + 1 : Nat) : Int) < ((d.length + 1 : Nat) : Int))) = true from decide_eq_true (by omega)] at η
  refine wpList_nil (th_n ?_)
  refine if_t η rfl (rfl) ?_
  refine wp_skip (th_n (wp_seq (wp_block (wp_seq (wp_seq (region_seq ?_))))))
  revert a
  refine mA rfl rfl ?_
  refine mA rfl rfl ?_
  refine sA (v := .int .u8 (((45 :: d).getD (k + 1) 0).toNat : Nat)) rfl (fun _ η => rn_idxS (i := k + 1) η Tryd.underlying9 rfl rfl (by omega)) ?_
  intro a η
  rw [List.getD_cons_succ] at η
  refine sv (v := .bool (decide ((((d.getD k 0).toNat : Nat) : Int) < (48 : Int)))) η rfl (rn_bin η rfl rfl rfl) ?_
  clear η a; intro a η
  rw [show (decide ((((d.getD k 0).toNat : Nat) : Int) < (48 : Int))) = false from decide_eq_false (by omega)] at η
  revert a
  refine mA rfl rfl ?_
  refine gA (v := .string ⟨(45 :: d).toArray⟩) rfl rfl rfl rfl (fun _ η => rn_move η rfl) ?_
  refine gA (v := .int .i64 (k + 1 : Nat)) rfl rfl rfl rfl (fun _ η => rn_move η rfl) ?_
  refine gA (v := .int .u8 (((45 :: d).getD (k + 1) 0).toNat : Nat)) rfl rfl rfl rfl (fun _ η => rn_idxS (i := k + 1) η Tryd.underlying9 rfl rfl (by omega)) ?_
  intro a η
  rw [List.getD_cons_succ] at η
  refine seq_g rfl η rfl rfl (op_val (v := .bool (decide ((((d.getD k 0).toNat : Nat) : Int) > (57 : Int)))) η rfl (rn_bin η rfl rfl rfl) ?_)
  clear η a; intro a η
  rw [show (decide ((((d.getD k 0).toNat : Nat) : Int) > (57 : Int))) = false from decide_eq_false (by omega)] at η
  revert a
  refine sA (v := .bool false) rfl (fun _ η => rn_pick η rfl rfl) ?_
  refine mA rfl rfl ?_
  refine gA (v := .int .i64 (k + 1 : Nat)) rfl rfl rfl rfl (fun _ η => rn_move η rfl) ?_
  refine gA (v := .int .i64 1) rfl rfl rfl rfl (fun _ η => rn_move η rfl) ?_
  refine gA (v := .int .i64 2) rfl rfl rfl rfl (fun _ η => rn_bin η rfl rfl rfl) ?_
  refine gA (v := .bool (((k + 1 : Nat) : Int) == (2 : Int))) rfl rfl rfl rfl (fun _ η => rn_bin η rfl rfl rfl) ?_
  intro a η
  rw [show (((k + 1 : Nat) : Int) == (2 : Int)) = true from beq_iff_eq.2 (by omega)] at η
  revert a
  refine gA (v := .bool true) rfl rfl rfl rfl (fun _ η => rn_move η rfl) ?_
  refine gA (v := .string ⟨(45 :: d).toArray⟩) rfl rfl rfl rfl (fun _ η => rn_move η rfl) ?_
  refine gA (v := .int .i64 1) rfl rfl rfl rfl (fun _ η => rn_move η rfl) ?_
  refine gA (v := .int .u8 (((45 :: d).getD 1 0).toNat : Nat)) rfl rfl rfl rfl (fun _ η => rn_idxS (i := 1) η Tryd.underlying9 rfl rfl (by omega)) ?_
  intro a η
  rw [show (45 :: d).getD 1 0 = d.getD 0 0 from rfl] at η
  refine seq_g rfl η rfl rfl (op_val (v := .bool ((((d.getD 0 0).toNat : Nat) : Int) == (48 : Int))) η rfl (rn_bin η rfl rfl rfl) ?_)
  clear η a; intro a η
  rw [show ((((d.getD 0 0).toNat : Nat) : Int) == (48 : Int)) = false from beq_eq_false_iff_ne.2 (by omega)] at η
  revert a
  refine gA (v := .bool false) rfl rfl rfl rfl (fun _ η => rn_pick η rfl rfl) ?_
  refine sA (v := .bool false) rfl (fun _ η => rn_pick η rfl rfl) ?_
  intro a η
  refine wpList_nil (th_n ?_)
  refine if_f η rfl (rfl) ?_
  refine wp_skip (th_n ?_)
  refine region_any (n := 11) (Sk [bk g1 #[.bool (neg 0), .slice none (dl 0) 0] 39] [pfR A1 c1 ((numOf (d.take k) : Nat) : Int)] [10] [bk g3 #[.bool (neg ((numOf (d.take k) : Nat) : Int)), .slice A1 (dl ((numOf (d.take k) : Nat) : Int)) c1] 39]) mixed rfl η σ ?_
  clear η σ; intro w27 η σ
  refine sAny_take (i := 0) [2, 8, 9, 10] (fun w' => w'.heap[g3]? = some (.cells #[.bool (neg ((numOf (d.take k) : Nat) : Int)), .slice A1 (dl ((numOf (d.take k) : Nat) : Int)) c1] 39 (0, 0))) (v := .agg #[.bool (neg ((numOf (d.take k) : Nat) : Int)), .slice A1 (dl ((numOf (d.take k) : Nat) : Int)) c1]) rfl (by kernel_rfl) (fun _ _ _ h => h) (fun _ _ hj hS => (hS.two rfl hj).oat (k := 0) rfl) η rfl (σ.oat (k := 0) rfl) (fun w' hg => rn_load0 η ty_anvil_anvilref02_Int rfl hg rfl) ?_
  clear η a; intro a η
  refine tM (i := 3) (rg 5 6) rfl (by kernel_rfl) (fun _ _ _ h => h) η rfl rfl ?_
  clear η a; intro a η
  refine tM (i := 4) (rg 5 6) rfl (by kernel_rfl) (fun _ _ _ h => h) η rfl rfl ?_
  clear η a; intro a η
  refine tA (i := 5) (rg 6 5) (v := .int .u8 (((45 :: d).getD (k + 1) 0).toNat : Nat)) rfl (by kernel_rfl) (fun _ _ _ h => h) η rfl (fun _ => rn_idxS (i := k + 1) η Tryd.underlying9 rfl rfl (by omega)) ?_
  clear η a; intro a η
  rw [List.getD_cons_succ] at η
  refine tA (i := 6) (rg 7 4) (v := .int .u8 (((d.getD k 0).toNat) - 48 : Nat)) rfl (by kernel_rfl) (fun _ _ _ h => h) η rfl (fun _ => rn_sub η rfl rfl (by rw [IntWalk.u8_in _ (by omega)]; omega)) ?_
  clear η a; intro a η
  refine tA (i := 7) [8, 9, 10] (v := .int .i64 (((d.getD k 0).toNat) - 48 : Nat)) rfl (by kernel_rfl) (fun _ _ _ h => h) η rfl (fun _ => rn_conv η rfl Tryd.underlying5 Tryd.underlying2 (IntWalk.i64_in _ (by omega))) ?_
  clear η a; intro a η
  refine sAny_one (i := 1) (by kernel_rfl) rfl rfl (op_call η rfl Tryd.call29 rfl (of_r (n := (10 : Int)) (by omega) (by omega)) ?_)
  rintro e w31 ⟨_, rfl, ⟨A28, c29, rfl, hz30⟩, hb⟩
  refine ⟨_, rfl, ?_⟩
  clear η a; intro a η
  replace σ := (σ.call hb).addR hz30 ⟨nou_bk rfl, nou_bk rfl, trivial⟩
  clear hz30
  clear hb
  refine ⟨.inr ⟨σ.kn.pick [1] [1], .inr (σ.kn.pick [0] [])⟩, ?_⟩
  refine sAny_one (i := 2) (by kernel_rfl) rfl rfl (op_call η rfl Tryd.call105 rfl (mul_r (x := ((numOf (d.take k) : Nat) : Int)) (y := 10) (show RIn _ A1 c1 ((numOf (d.take k) : Nat) : Int) from σ.pat (k := 1) rfl) (show RIn _ A28 c29 10 from σ.pat (k := 0) rfl) (by omega) (by have := dl_small (n := 10) (by decide) (by decide); omega)) ?_)
  rintro e w35 ⟨_, rfl, ⟨A32, c33, rfl, hz34⟩, hb⟩
  refine ⟨_, rfl, ?_⟩
  clear η a; intro a η
  replace σ := (σ.call hb).addR hz34 ⟨nou_bk rfl, nou_bk rfl, trivial⟩
  clear hz34
  clear hb
  refine ⟨.inr ⟨σ.kn.pick [1] [2], .inr (σ.kn.pick [0] [])⟩, ?_⟩
  refine sAny_one (i := 8) (by kernel_rfl) rfl rfl (op_call η rfl Tryd.call29 rfl (of_r (n := (((d.getD k 0).toNat) - 48 : Nat)) (by omega) (by omega)) ?_)
  rintro e w39 ⟨_, rfl, ⟨A36, c37, rfl, hz38⟩, hb⟩
  refine ⟨_, rfl, ?_⟩
  clear η a; intro a η
  replace σ := (σ.call hb).addR hz38 ⟨nou_bk rfl, nou_bk rfl, trivial⟩
  clear hz38
  clear hb
  refine ⟨.inr ⟨σ.kn.pick [1] [3], .inr (σ.kn.pick [0] [])⟩, ?_⟩
  refine sAny_one (i := 9) (by kernel_rfl) rfl rfl (op_call η rfl Tryd.call104 rfl (add_r (x := ((numOf (d.take k) : Nat) : Int) * 10) (y := (((d.getD k 0).toNat) - 48 : Nat)) (show RIn _ A32 c33 (((numOf (d.take k) : Nat) : Int) * 10) from σ.pat (k := 1) rfl) (show RIn _ A36 c37 (((d.getD k 0).toNat) - 48 : Nat) from σ.pat (k := 0) rfl) (by have h1 := dl_mul ((numOf (d.take k) : Nat) : Int) 10; have h2 := dl_small (n := 10) (by decide) (by decide); omega) (by have := dl_small (n := (((d.getD k 0).toNat) - 48 : Nat)) (by omega) (by omega); omega)) ?_)
  rintro e w43 ⟨_, rfl, ⟨A40, c41, rfl, hz42⟩, hb⟩
  refine ⟨_, rfl, ?_⟩
  clear η a; intro a η
  replace σ := (σ.call hb).addR hz42 ⟨nou_bk rfl, nou_bk rfl, trivial⟩
  clear hz42
  clear hb
  refine ⟨.inr ⟨σ.kn.pick [1] [4], .inr (σ.kn.pick [0] [])⟩, ?_⟩
  refine sAny_one (i := 10) (by kernel_rfl) rfl rfl (op_store (k := 0) (c' := #[.bool (neg ((((numOf (d.take k) : Nat) : Int) * 10) + (((d.getD k 0).toNat) - 48 : Nat))), .slice A40 (dl ((((numOf (d.take k) : Nat) : Int) * 10) + (((d.getD k 0).toNat) - 48 : Nat))) c41]) η σ (ty_anvil_anvilref02_Int.size) rfl rfl rfl rfl (by simp) rfl rfl ?_)
  clear η σ a; intro a w44 η σ
  refine ⟨.inr ⟨σ.kn.pick [1] [4], .inl rfl⟩, ?_⟩
  refine sAny_done (by kernel_rfl) ?_ _
  refine bl_n (th_n (region_seq ?_))
  revert a
  refine mA rfl rfl ?_
  refine sA (v := .int .i64 ((k + 1) + 1 : Nat)) rfl (fun _ η => rn_add η rfl rfl (by rw [IntWalk.i64_in _ (by omega)]; omega)) ?_
  refine aA rfl rfl ?_
  intro a η
  refine wpList_nil ?_
  rw [num_step hlt] at σ
  exact th_n ⟨_, (by omega), ⟨k + 1, A40, c41, rfl, η.sub ⟨rfl, rfl, rfl, rfl, rfl, trivial⟩, σ.pick [0, 1] [0] (by decide), (by omega)⟩⟩
 ·refine wp_seq (wp_seq (region_seq ?_))
  revert a
  refine mA rfl rfl ?_
  refine mA rfl rfl ?_
  refine sA (v := .int .i64 ((45 :: d).length : Nat)) rfl (fun _ η => rn_lenS η Tryd.underlying9 rfl) ?_
  intro a η
  rw [List.length_cons] at η
  refine sv (v := .bool (decide (((k + 1 : Nat) : Int) < ((d.length + 1 : Nat) : Int)))) η rfl (rn_bin η rfl rfl rfl) ?_
  clear η a; intro a η
  rw [show (decide (((k + 1 : Nat) : Int) < ((d.length + 1 : Nat) : Int))) = true from decide_eq_true (by omega)] at η
  refine wpList_nil (th_n ?_)
  refine if_t η rfl (rfl) ?_
  refine wp_skip (th_n (wp_seq (wp_block (wp_seq (wp_seq (region_seq ?_))))))
  revert a
  refine mA rfl rfl ?_
  refine mA rfl rfl ?_
  refine sA (v := .int .u8 (((45 :: d).getD (k + 1) 0).toNat : Nat)) rfl (fun _ η => rn_idxS (i := k + 1) η Tryd.underlying9 rfl rfl (by omega)) ?_
  intro a η
  rw [List.getD_cons_succ] at η
  refine sv (v := .bool (decide ((((d.getD k 0).toNat : Nat) : Int) < (48 : Int)))) η rfl (rn_bin η rfl rfl rfl) ?_
  clear η a; intro a η
  rw [show (decide ((((d.getD k 0).toNat : Nat) : Int) < (48 : Int))) = false from decide_eq_false (by omega)] at η
  revert a
  refine mA rfl rfl ?_
  refine gA (v := .string ⟨(45 :: d).toArray⟩) rfl rfl rfl rfl (fun _ η => rn_move η rfl) ?_
  refine gA (v := .int .i64 (k + 1 : Nat)) rfl rfl rfl rfl (fun _ η => rn_move η rfl) ?_
  refine gA (v := .int .u8 (((45 :: d).getD (k + 1) 0).toNat : Nat)) rfl rfl rfl rfl (fun _ η => rn_idxS (i := k + 1) η Tryd.underlying9 rfl rfl (by omega)) ?_
  intro a η
  rw [List.getD_cons_succ] at η
  refine seq_g rfl η rfl rfl (op_val (v := .bool (decide ((((d.getD k 0).toNat : Nat) : Int) > (57 : Int)))) η rfl (rn_bin η rfl rfl rfl) ?_)
  clear η a; intro a η
  rw [show (decide ((((d.getD k 0).toNat : Nat) : Int) > (57 : Int))) = false from decide_eq_false (by omega)] at η
  revert a
  refine sA (v := .bool false) rfl (fun _ η => rn_pick η rfl rfl) ?_
  refine mA rfl rfl ?_
  refine gA (v := .int .i64 (k + 1 : Nat)) rfl rfl rfl rfl (fun _ η => rn_move η rfl) ?_
  refine gA (v := .int .i64 1) rfl rfl rfl rfl (fun _ η => rn_move η rfl) ?_
  refine gA (v := .int .i64 2) rfl rfl rfl rfl (fun _ η => rn_bin η rfl rfl rfl) ?_
  refine gA (v := .bool (((k + 1 : Nat) : Int) == (2 : Int))) rfl rfl rfl rfl (fun _ η => rn_bin η rfl rfl rfl) ?_
  intro a η
  rw [show (((k + 1 : Nat) : Int) == (2 : Int)) = false from beq_eq_false_iff_ne.2 (by omega)] at η
  revert a
  refine gA (v := .bool false) rfl rfl rfl rfl (fun _ η => rn_move η rfl) ?_
  refine kA rfl rfl rfl rfl rfl ?_
  refine kA rfl rfl rfl rfl rfl ?_
  refine kA rfl rfl rfl rfl rfl ?_
  refine kA rfl rfl rfl rfl rfl ?_
  refine gA (v := .bool false) rfl rfl rfl rfl (fun _ η => rn_pick η rfl rfl) ?_
  refine sA (v := .bool false) rfl (fun _ η => rn_pick η rfl rfl) ?_
  intro a η
  refine wpList_nil (th_n ?_)
  refine if_f η rfl (rfl) ?_
  refine wp_skip (th_n ?_)
  refine region_any (n := 11) (Sk [bk g1 #[.bool (neg 0), .slice none (dl 0) 0] 39] [pfR A1 c1 ((numOf (d.take k) : Nat) : Int)] [10] [bk g3 #[.bool (neg ((numOf (d.take k) : Nat) : Int)), .slice A1 (dl ((numOf (d.take k) : Nat) : Int)) c1] 39]) mixed rfl η σ ?_
  clear η σ; intro w45 η σ
  refine sAny_take (i := 0) [2, 8, 9, 10] (fun w' => w'.heap[g3]? = some (.cells #[.bool (neg ((numOf (d.take k) : Nat) : Int)), .slice A1 (dl ((numOf (d.take k) : Nat) : Int)) c1] 39 (0, 0))) (v := .agg #[.bool (neg ((numOf (d.take k) : Nat) : Int)), .slice A1 (dl ((numOf (d.take k) : Nat) : Int)) c1]) rfl (by kernel_rfl) (fun _ _ _ h => h) (fun _ _ hj hS => (hS.two rfl hj).oat (k := 0) rfl) η rfl (σ.oat (k := 0) rfl) (fun w' hg => rn_load0 η ty_anvil_anvilref02_Int rfl hg rfl) ?_
  clear η a; intro a η
  refine tM (i := 3) (rg 5 6) rfl (by kernel_rfl) (fun _ _ _ h => h) η rfl rfl ?_
  clear η a; intro a η
  refine tM (i := 4) (rg 5 6) rfl (by kernel_rfl) (fun _ _ _ h => h) η rfl rfl ?_
  clear η a; intro a η
  refine tA (i := 5) (rg 6 5) (v := .int .u8 (((45 :: d).getD (k + 1) 0).toNat : Nat)) rfl (by kernel_rfl) (fun _ _ _ h => h) η rfl (fun _ => rn_idxS (i := k + 1) η Tryd.underlying9 rfl rfl (by omega)) ?_
  clear η a; intro a η
  rw [List.getD_cons_succ] at η
  refine tA (i := 6) (rg 7 4) (v := .int .u8 (((d.getD k 0).toNat) - 48 : Nat)) rfl (by kernel_rfl) (fun _ _ _ h => h) η rfl (fun _ => rn_sub η rfl rfl (by rw [IntWalk.u8_in _ (by omega)]; omega)) ?_
  clear η a; intro a η
  refine tA (i := 7) [8, 9, 10] (v := .int .i64 (((d.getD k 0).toNat) - 48 : Nat)) rfl (by kernel_rfl) (fun _ _ _ h => h) η rfl (fun _ => rn_conv η rfl Tryd.underlying5 Tryd.underlying2 (IntWalk.i64_in _ (by omega))) ?_
  clear η a; intro a η
  refine sAny_one (i := 1) (by kernel_rfl) rfl rfl (op_call η rfl Tryd.call29 rfl (of_r (n := (10 : Int)) (by omega) (by omega)) ?_)
  rintro e w49 ⟨_, rfl, ⟨A46, c47, rfl, hz48⟩, hb⟩
  refine ⟨_, rfl, ?_⟩
  clear η a; intro a η
  replace σ := (σ.call hb).addR hz48 ⟨nou_bk rfl, nou_bk rfl, trivial⟩
  clear hz48
  clear hb
  refine ⟨.inr ⟨σ.kn.pick [1] [1], .inr (σ.kn.pick [0] [])⟩, ?_⟩
  refine sAny_one (i := 2) (by kernel_rfl) rfl rfl (op_call η rfl Tryd.call105 rfl (mul_r (x := ((numOf (d.take k) : Nat) : Int)) (y := 10) (show RIn _ A1 c1 ((numOf (d.take k) : Nat) : Int) from σ.pat (k := 1) rfl) (show RIn _ A46 c47 10 from σ.pat (k := 0) rfl) (by omega) (by have := dl_small (n := 10) (by decide) (by decide); omega)) ?_)
  rintro e w53 ⟨_, rfl, ⟨A50, c51, rfl, hz52⟩, hb⟩
  refine ⟨_, rfl, ?_⟩
  clear η a; intro a η
  replace σ := (σ.call hb).addR hz52 ⟨nou_bk rfl, nou_bk rfl, trivial⟩
  clear hz52
  clear hb
  refine ⟨.inr ⟨σ.kn.pick [1] [2], .inr (σ.kn.pick [0] [])⟩, ?_⟩
  refine sAny_one (i := 8) (by kernel_rfl) rfl rfl (op_call η rfl Tryd.call29 rfl (of_r (n := (((d.getD k 0).toNat) - 48 : Nat)) (by omega) (by omega)) ?_)
  rintro e w57 ⟨_, rfl, ⟨A54, c55, rfl, hz56⟩, hb⟩
  refine ⟨_, rfl, ?_⟩
  clear η a; intro a η
  replace σ := (σ.call hb).addR hz56 ⟨nou_bk rfl, nou_bk rfl, trivial⟩
  clear hz56
  clear hb
  refine ⟨.inr ⟨σ.kn.pick [1] [3], .inr (σ.kn.pick [0] [])⟩, ?_⟩
  refine sAny_one (i := 9) (by kernel_rfl) rfl rfl (op_call η rfl Tryd.call104 rfl (add_r (x := ((numOf (d.take k) : Nat) : Int) * 10) (y := (((d.getD k 0).toNat) - 48 : Nat)) (show RIn _ A50 c51 (((numOf (d.take k) : Nat) : Int) * 10) from σ.pat (k := 1) rfl) (show RIn _ A54 c55 (((d.getD k 0).toNat) - 48 : Nat) from σ.pat (k := 0) rfl) (by have h1 := dl_mul ((numOf (d.take k) : Nat) : Int) 10; have h2 := dl_small (n := 10) (by decide) (by decide); omega) (by have := dl_small (n := (((d.getD k 0).toNat) - 48 : Nat)) (by omega) (by omega); omega)) ?_)
  rintro e w61 ⟨_, rfl, ⟨A58, c59, rfl, hz60⟩, hb⟩
  refine ⟨_, rfl, ?_⟩
  clear η a; intro a η
  replace σ := (σ.call hb).addR hz60 ⟨nou_bk rfl, nou_bk rfl, trivial⟩
  clear hz60
  clear hb
  refine ⟨.inr ⟨σ.kn.pick [1] [4], .inr (σ.kn.pick [0] [])⟩, ?_⟩
  refine sAny_one (i := 10) (by kernel_rfl) rfl rfl (op_store (k := 0) (c' := #[.bool (neg ((((numOf (d.take k) : Nat) : Int) * 10) + (((d.getD k 0).toNat) - 48 : Nat))), .slice A58 (dl ((((numOf (d.take k) : Nat) : Int) * 10) + (((d.getD k 0).toNat) - 48 : Nat))) c59]) η σ (ty_anvil_anvilref02_Int.size) rfl rfl rfl rfl (by simp) rfl rfl ?_)
  clear η σ a; intro a w62 η σ
  refine ⟨.inr ⟨σ.kn.pick [1] [4], .inl rfl⟩, ?_⟩
  refine sAny_done (by kernel_rfl) ?_ _
  refine bl_n (th_n (region_seq ?_))
  revert a
  refine mA rfl rfl ?_
  refine sA (v := .int .i64 ((k + 1) + 1 : Nat)) rfl (fun _ η => rn_add η rfl rfl (by rw [IntWalk.i64_in _ (by omega)]; omega)) ?_
  refine aA rfl rfl ?_
  intro a η
  refine wpList_nil ?_
  rw [num_step hlt] at σ
  exact th_n ⟨_, (by omega), ⟨k + 1, A58, c59, rfl, η.sub ⟨rfl, rfl, rfl, rfl, rfl, trivial⟩, σ.pick [0, 1] [0] (by decide), (by omega)⟩⟩
theorem sign_cases (t : List UInt8) : (t.getD 0 0).toNat ≠ 45 ∨ ∃ d, t = 45 :: d := by
 cases t with
 | nil => exact .inl (by decide)
 | cons c d =>
  by_cases h : c.toNat = 45
  ·exact .inr ⟨d, by rw [UInt8.toNat_inj.1 (h.trans (show (45 : Nat) = (45 : UInt8).toNat from rfl))]⟩
  ·exact .inl h
theorem iread_fb0 {d : List UInt8} {b : Nat} {w0 : World} (h45 : (d.getD 0 0).toNat ≠ 45) (hl : d.length + 0 ≤ 65536) (hfb : Fb 0 d b) :
  Calls Tryd.prog 113 #[.string ⟨d.toArray⟩] w0 fun e w' => e = .returned (.tuple #[.agg #[.bool (neg 0), .slice none (zl 0) 0], .agg #[.int .i64 6, .int .i64 (b : Nat)]]) ∧ Below w0.heap.size w0 w' := by
 by_cases hd : d = []
 ·have hb : b = 0 := by rcases hfb.1 with h | h; rw [hd] at h; simp at h; exact h.1
  subst hb
  exact iread_empty hd
 ·exact iread_bad0 h45 hl hd hfb
theorem iread_fb1 {d : List UInt8} {b : Nat} {w0 : World} (hl : d.length + 1 ≤ 65536) (hfb : Fb 1 d b) :
  Calls Tryd.prog 113 #[.string ⟨(45 :: d).toArray⟩] w0 fun e w' => e = .returned (.tuple #[.agg #[.bool (neg 0), .slice none (zl 0) 0], .agg #[.int .i64 6, .int .i64 (b + 1 : Nat)]]) ∧ Below w0.heap.size w0 w' :=
 iread_bad1 hl hfb
theorem rread_fb0 {d : List UInt8} {b : Nat} {w0 : World} (h45 : (d.getD 0 0).toNat ≠ 45) (hl : d.length ≤ 100000) (hfb : Fb 0 d b) :
  Calls Tryd.prog 115 #[.string ⟨d.toArray⟩] w0 fun e w' => e = .returned (.tuple #[.agg #[.bool (neg 0), .slice none (dl 0) 0], .int .i64 (b : Nat)]) ∧ Below w0.heap.size w0 w' := by
 rcases Nat.eq_zero_or_pos b with rfl | hb
 ·rcases hfb.1 with ⟨h1, h2⟩ | ⟨_, h2⟩
  ·unfold BadD at h2
   rcases (show (d.getD 0 0).toNat < 48 ∨ 57 < (d.getD 0 0).toNat by omega) with h3 | h3
   ·exact rread_lo0 h45 h1 h3 hl
   ·exact rread_hi0 h45 h1 h3 hl
  ·exact rread_empty0 h2
 ·exact rread_bad0 h45 hfb hb hl
theorem rread_fb1 {d : List UInt8} {b : Nat} {w0 : World} (hl : d.length ≤ 100000) (hfb : Fb 1 d b) :
  Calls Tryd.prog 115 #[.string ⟨(45 :: d).toArray⟩] w0 fun e w' => e = .returned (.tuple #[.agg #[.bool (neg 0), .slice none (dl 0) 0], .int .i64 (b + 1 : Nat)]) ∧ Below w0.heap.size w0 w' := by
 rcases Nat.eq_zero_or_pos b with rfl | hb
 ·rcases hfb.1 with ⟨h1, h2⟩ | ⟨_, h2⟩
  ·unfold BadD at h2
   rcases (show (d.getD 0 0).toNat < 48 ∨ 57 < (d.getD 0 0).toNat ∨ (d.getD 0 0).toNat = 48 by omega) with h3 | h3 | h3
   ·exact rread_lo1 h1 h3 hl
   ·exact rread_hi1 h1 h3 hl
   ·exact rread_z1 h1 h3 hl
  ·exact rread_empty1 h2
 ·exact rread_bad1 hfb hb hl
theorem zl_num0 {d : List UInt8} (h : ∀ c ∈ d, 48 ≤ c.toNat ∧ c.toNat ≤ 57) : zl (sg false (numOf d)) ≤ d.length + 1 := by
 rw [sg_zl]
 have h1 := numOf_lt (l := d) fun c hc => (h c hc).2
 refine nl_le_of_lt (Nat.lt_of_lt_of_le h1 ?_)
 exact Nat.le_trans (Nat.pow_le_pow_left (show 10 ≤ 4294967296 by decide) _) (Nat.pow_le_pow_right (by decide) (by omega))
theorem zl_num1 {d : List UInt8} (h : ∀ c ∈ d, 48 ≤ c.toNat ∧ c.toNat ≤ 57) : zl (sg true (numOf d)) ≤ d.length + 1 := by
 have := zl_num0 h
 rw [sg_zl] at this ⊢
 exact this
end Go.Proofs.YtegglooojlheoaaDoor.W
