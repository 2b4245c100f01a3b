/- integer.Read: the number of a text. Printed by pv/gen_iread.py. No condition. -/
import Derived.Test.YtegglooojlheoaaDoorM37
import Derived.Test.YtegglooojlheoaaDoorM11
import Derived.Test.YtegglooojlheoaaDoorM38

namespace Go.Proofs.YtegglooojlheoaaDoor.W
open Go.RowKit Anv Go.Lib
theorem made_given {b : Bool} {A : Option Addr} {c N : Nat} {z : Int} {w : World} (h : U32 w A (nl N) c (L N)) (hz : sg b N = z) :
    Calls Tryd.prog 95 #[.bool b, .slice A (nl N) c] w fun e w' => ∃ v, e = .returned v ∧ ZAt w' v z ∧ Below w.heap.size w w' := by
  subst hz
  exact (made_num h).mono fun _ _ ⟨he, hz, hb⟩ => ⟨_, he, ⟨_, _, rfl, hz⟩, hb⟩
def BadD (f : Nat) (d : List UInt8) (k : Nat) : Prop :=
  ((d.getD k 0).toNat < 48 ∨ 57 < (d.getD k 0).toNat) ∨ (k = 1 ∧ (d.getD 0 0).toNat = 48) ∨ (k = 0 ∧ f = 1 ∧ (d.getD 0 0).toNat = 48)
def Fb (f : Nat) (d : List UInt8) (b : Nat) : Prop := ((b < d.length ∧ BadD f d b) ∨ (b = 0 ∧ d.length = 0)) ∧ ∀ q, q < b → ¬ BadD f d q
def Ok (f : Nat) (d : List UInt8) : Prop := 0 < d.length ∧ ∀ q, q < d.length → ¬ BadD f d q
theorem read_cases (f : Nat) (d : List UInt8) : (∃ b, Fb f d b) ∨ Ok f d := by
  by_cases h0 : d.length = 0
  · exact .inl ⟨0, .inr ⟨rfl, h0⟩, fun q hq => absurd hq (Nat.not_lt_zero _)⟩
  by_cases h : ∃ i, i < d.length ∧ BadD f d i
  · have key : ∀ n i, i ≤ n → i < d.length → BadD f d i → ∃ b, Fb f d b := by
      intro n
      induction n with
      | zero =>
        intro i hi hl hb
        obtain rfl : i = 0 := by omega
        exact ⟨0, .inl ⟨hl, hb⟩, fun j hj => absurd hj (Nat.not_lt_zero _)⟩
      | succ n ih =>
        intro i hi hl hb
        by_cases h : ∃ j, j < i ∧ BadD f d j
        · obtain ⟨j, hj, hbj⟩ := h
          exact ih j (by omega) (by omega) hbj
        · exact ⟨i, .inl ⟨hl, hb⟩, fun j hj hbj => h ⟨j, hj, hbj⟩⟩
    obtain ⟨i, hi, hb⟩ := h
    exact .inl (key i i (Nat.le_refl _) hi hb)
  · exact .inr ⟨by omega, fun j hj hb => h ⟨j, hj, hb⟩⟩
theorem not_bad {f k : Nat} {d : List UInt8} (h : ¬ BadD f d k) : 48 ≤ (d.getD k 0).toNat ∧ (d.getD k 0).toNat ≤ 57 ∧ (k = 1 → (d.getD 0 0).toNat ≠ 48) ∧ (k = 0 → f = 1 → (d.getD 0 0).toNat ≠ 48) := by
  unfold BadD at h
  refine ⟨by omega, by omega, fun h1 h2 => h (.inr (.inl ⟨h1, h2⟩)), fun h1 h2 h3 => h (.inr (.inr ⟨h1, h2, h3⟩))⟩
theorem ok_split2 {f : Nat} {d : List UInt8} (h : Ok f d) (k : Nat) :
    (d.length ≤ k) ∨ (k < d.length ∧ 48 ≤ (d.getD k 0).toNat ∧ (d.getD k 0).toNat ≤ 57 ∧ k = 0 ∧ (f = 1 → (d.getD 0 0).toNat ≠ 48)) ∨
    (k < d.length ∧ 48 ≤ (d.getD k 0).toNat ∧ (d.getD k 0).toNat ≤ 57 ∧ k = 1 ∧ (d.getD 0 0).toNat ≠ 48) ∨ (k < d.length ∧ 48 ≤ (d.getD k 0).toNat ∧ (d.getD k 0).toNat ≤ 57 ∧ 1 < k) := by
  rcases Nat.lt_or_ge k d.length with hlt | hge
  · obtain ⟨h1, h2, h3, h4⟩ := not_bad (h.2 k hlt)
    rcases (show k = 0 ∨ k = 1 ∨ 1 < k by omega) with hk | hk | hk
    · exact .inr (.inl ⟨hlt, h1, h2, hk, h4 hk⟩)
    · exact .inr (.inr (.inl ⟨hlt, h1, h2, hk, h3 hk⟩))
    · exact .inr (.inr (.inr ⟨hlt, h1, h2, hk⟩))
  · exact .inl hge
theorem bad_split2 {f b k : Nat} {d : List UInt8} (h : Fb f d b) (hk : k ≤ b) :
    (k < d.length ∧ 48 ≤ (d.getD k 0).toNat ∧ (d.getD k 0).toNat ≤ 57 ∧ k = 0 ∧ (f = 1 → (d.getD 0 0).toNat ≠ 48) ∧ k < b) ∨
    (k < d.length ∧ 48 ≤ (d.getD k 0).toNat ∧ (d.getD k 0).toNat ≤ 57 ∧ k = 1 ∧ (d.getD 0 0).toNat ≠ 48 ∧ k < b) ∨
    (k < d.length ∧ 48 ≤ (d.getD k 0).toNat ∧ (d.getD k 0).toNat ≤ 57 ∧ 1 < k ∧ k < b) ∨
    (k = b ∧ d.length = 0 ∧ k = 0) ∨
    (k = b ∧ k < d.length ∧ (d.getD k 0).toNat < 48 ∧ k = 0) ∨ (k = b ∧ k < d.length ∧ (d.getD k 0).toNat < 48 ∧ 0 < k) ∨
    (k = b ∧ k < d.length ∧ 57 < (d.getD k 0).toNat ∧ k = 0) ∨ (k = b ∧ k < d.length ∧ 57 < (d.getD k 0).toNat ∧ 0 < k) ∨
    (k = b ∧ k < d.length ∧ 48 ≤ (d.getD k 0).toNat ∧ (d.getD k 0).toNat ≤ 57 ∧ k = 1 ∧ (d.getD 0 0).toNat = 48) ∨
    (k = b ∧ k < d.length ∧ 48 ≤ (d.getD k 0).toNat ∧ (d.getD k 0).toNat ≤ 57 ∧ k = 0 ∧ f = 1 ∧ (d.getD 0 0).toNat = 48) := by
  rcases Nat.lt_or_ge k b with hlt | hge
  · have hkl : k < d.length := by rcases h.1 with h1 | h1 <;> omega
    obtain ⟨h1, h2, h3, h4⟩ := not_bad (h.2 k hlt)
    rcases (show k = 0 ∨ k = 1 ∨ 1 < k by omega) with hk0 | hk0 | hk0
    · exact .inl ⟨hkl, h1, h2, hk0, h4 hk0, hlt⟩
    · exact .inr (.inl ⟨hkl, h1, h2, hk0, h3 hk0, hlt⟩)
    · exact .inr (.inr (.inl ⟨hkl, h1, h2, hk0, hlt⟩))
  · obtain rfl : k = b := by omega
    rcases h.1 with ⟨h1, h2⟩ | ⟨h1, h2⟩
    · unfold BadD at h2
      omega
    · exact .inr (.inr (.inr (.inl ⟨rfl, h2, h1⟩)))
theorem Ok.ne {f : Nat} {d : List UInt8} (h : Ok f d) : d ≠ [] := by intro e; have := h.1; rw [e] at this; simp at this
theorem Ok.ok {f : Nat} {d : List UInt8} (h : Ok f d) : ∀ j, j < d.length → ¬ BadAt d j := by
  intro j hj hb
  have h1 := h.2 j hj
  obtain ⟨a1, a2, _, _⟩ := not_bad h1
  unfold BadAt at hb
  have h48 : 0 < j ∧ (d.getD 0 0).toNat = 48 := by omega
  have h2 := not_bad (h.2 1 (by omega))
  exact h2.2.2.1 rfl h48.2
set_option maxRecDepth 100000 in
set_option maxHeartbeats 4000000 in
theorem iread_empty {d : List UInt8} {w0 : World} (hd0 : d = []) :
    Calls Tryd.prog 113 #[.string ⟨d.toArray⟩] w0 fun e w' => e = .returned (.tuple #[.agg #[.bool (neg 0), .slice none (zl 0) 0], .agg #[.int .i64 6, .int .i64 0]]) ∧ Below w0.heap.size w0 w' := by
  have hlt : d.length = 0 := by rw [hd0]; rfl
  refine enter Tryd.func113 rfl Tryd.ntmps113 rfl ?_
  intro a henv hst
  refine wp_seq ?_
  refine region_seq ?_
  refine seq_step rfl (op_alloc (c := #[.bool (neg 0), .slice none (zl 0) 0]) henv hst rfl zero_anvil_integer_Int zcells ?_)
  clear henv hst a; intro a w2 g1 henv hst
  refine seq_step rfl (op_alloc (c := #[.int .i64 0, .int .i64 0]) henv hst rfl zero_anvil_api_Spot rfl ?_)
  clear henv hst a; intro a w4 g3 henv hst
  refine wpList_nil ?_
  refine th_n ?_
  refine wp_seq ?_
  refine wp_seq ?_
  refine region_seq ?_
  revert a
  refine mA rfl rfl ?_
  refine sA (v := .int .i64 (d.length : Nat)) rfl (fun _ henv => rn_lenS henv Tryd.underlying9 rfl) ?_
  refine sA (v := .bool (decide (((d.length : Nat) : Int) > (65536 : Int)))) rfl (fun _ henv => rn_bin henv rfl rfl rfl) ?_
  intro a henv
  rw [show (decide (((d.length : Nat) : Int) > (65536 : Int))) = false from decide_eq_false (by omega)] at henv
  refine wpList_nil ?_
  refine th_n ?_
  refine if_f henv rfl (rfl) ?_
  refine wp_skip ?_
  refine th_n ?_
  refine wp_seq ?_
  refine region_seq ?_
  refine sv (v := .int .i64 0) henv rfl (rn_assign henv rfl) ?_
  clear henv a; intro a henv
  refine wpList_nil ?_
  refine th_n ?_
  refine wp_seq ?_
  refine wp_seq ?_
  refine region_seq ?_
  revert a
  refine mA rfl rfl ?_
  refine sA (v := .bool (!decide (d = []))) rfl (fun _ henv => rn_neqs (s := d) (t := []) henv rfl rfl) ?_
  intro a henv
  rw [show (!decide (d = [])) = false from by simp [hd0]] at henv
  revert a
  refine mA rfl rfl ?_
  refine kA rfl rfl rfl rfl rfl ?_
  refine kA rfl rfl rfl rfl rfl ?_
  refine kA rfl rfl rfl rfl rfl ?_
  refine sA (v := .bool false) rfl (fun _ henv => rn_pick henv rfl rfl) ?_
  intro a henv
  refine wpList_nil ?_
  refine th_n ?_
  refine if_f henv rfl (rfl) ?_
  refine wp_skip ?_
  refine th_n ?_
  refine wp_seq ?_
  refine region_seq ?_
  revert a
  refine mA rfl rfl ?_
  refine aA rfl rfl ?_
  intro a henv
  refine wpList_nil ?_
  refine th_n ?_
  refine wp_seq ?_
  refine wp_block ?_
  refine wp_loop_ghost (fun mz a w => ∃ k : Nat, k = mz ∧ Env 86 a [(0, .string ⟨d.toArray⟩), (2, .pointer (some ⟨g1, 0, none⟩)), (3, .pointer (some ⟨g3, 0, none⟩)), (4, .int .i64 (k : Nat)), (5, .int .i64 0)] ∧ St w0 w [bk g3 #[.int .i64 0, .int .i64 0] 79, bk g1 #[.bool (neg 0), .slice none (zl 0) 0] 36] [] ∧ k = 0) _ ⟨0, rfl, henv.sub ⟨rfl, rfl, rfl, rfl, rfl, trivial⟩, hst.pick [0, 1] [] (by decide), rfl⟩ ?_
  clear henv hst a
  rintro mz a w5 ⟨k, rfl, henv, hst, hk0⟩
  rcases (show k = 0 ∧ d.length = 0 from ⟨hk0, hlt⟩) with ⟨hk0, hlt⟩
  · refine wp_seq ?_
    refine wp_seq ?_
    refine region_seq ?_
    revert a
    refine mA rfl rfl ?_
    refine mA rfl rfl ?_
    refine sA (v := .int .i64 (d.length : Nat)) rfl (fun _ henv => rn_lenS henv Tryd.underlying9 rfl) ?_
    refine sA (v := .bool (decide (((k : Nat) : Int) < ((d.length : Nat) : Int)))) rfl (fun _ henv => rn_bin henv rfl rfl rfl) ?_
    intro a henv
    rw [show (decide (((k : Nat) : Int) < ((d.length : Nat) : Int))) = false from decide_eq_false (by omega)] at henv
    revert a
    refine mA rfl rfl ?_
    refine kA rfl rfl rfl rfl rfl ?_
    refine kA rfl rfl rfl rfl rfl ?_
    refine kA rfl rfl rfl rfl rfl ?_
    refine kA rfl rfl rfl rfl rfl ?_
    refine sA (v := .bool false) rfl (fun _ henv => rn_pick henv rfl rfl) ?_
    refine mA rfl rfl ?_
    refine kA rfl rfl rfl rfl rfl ?_
    refine kA rfl rfl rfl rfl rfl ?_
    refine kA rfl rfl rfl rfl rfl ?_
    refine kA rfl rfl rfl rfl rfl ?_
    refine sA (v := .bool false) rfl (fun _ henv => rn_pick henv rfl rfl) ?_
    intro a henv
    refine wpList_nil ?_
    refine th_n ?_
    refine if_f henv rfl (rfl) ?_
    refine wp_exit ?_
    refine th_x (th_x (bl_x (th_n ?_)))
    refine wp_seq ?_
    refine wp_seq ?_
    refine region_seq ?_
    revert a
    refine mA rfl rfl ?_
    refine mA rfl rfl ?_
    refine sA (v := .bool (((k : Nat) : Int) == (0 : Int))) rfl (fun _ henv => rn_bin henv rfl rfl rfl) ?_
    intro a henv
    rw [show (((k : Nat) : Int) == (0 : Int)) = true from beq_iff_eq.2 (by omega)] at henv
    revert a
    refine mA rfl rfl ?_
    refine kA rfl rfl rfl rfl rfl ?_
    refine kA rfl rfl rfl rfl rfl ?_
    refine kA rfl rfl rfl rfl rfl ?_
    refine kA rfl rfl rfl rfl rfl ?_
    refine sA (v := .bool true) rfl (fun _ henv => rn_pick henv rfl rfl) ?_
    intro a henv
    refine wpList_nil ?_
    refine th_n ?_
    refine if_t henv rfl (rfl) ?_
    refine wp_seq ?_
    refine region_seq ?_
    revert a
    refine sA (v := .agg #[.bool (neg 0), .slice none (zl 0) 0]) rfl (fun _ henv => rn_zint Tryd.underlying36 zero_anvil_integer_Int (by intro f hf; simp at hf; rcases hf with rfl | rfl <;> exact ⟨_, rfl⟩)) ?_
    refine mA rfl rfl ?_
    refine sA (v := .agg #[.int .i64 6, .int .i64 (k : Nat)]) rfl (fun _ henv => rn_spot2 henv rfl rfl) ?_
    intro a henv
    refine seq_step rfl (op_store (k := 1) (c' := #[.bool (neg 0), .slice none (zl 0) 0]) henv hst (ty_anvil_integer_Int.size) rfl rfl rfl rfl (by simp) rfl rfl ?_)
    clear henv hst a; intro a w6 henv hst
    refine seq_step rfl (op_store (k := 0) (c' := #[.int .i64 6, .int .i64 (k : Nat)]) henv hst (ty_anvil_api_Spot.size) rfl rfl rfl rfl (by simp) rfl rfl ?_)
    clear henv hst a; intro a w7 henv hst
    refine wpList_nil ?_
    refine th_n ?_
    refine wp_ret ?_
    refine th_r ?_
    refine leave henv (res2 Tryd.results113 (RV.cell henv ty_anvil_integer_Int rfl (hst.oat (k := 1) rfl) rfl) (RV.cell henv ty_anvil_api_Spot rfl (hst.oat (k := 0) rfl) rfl)) ?_
    subst hk0
    exact ⟨rfl, hst.below⟩
set_option maxRecDepth 100000 in
set_option maxHeartbeats 4000000 in
theorem iread_bad0 {d : List UInt8} {b : Nat} {w0 : World} (h45 : (d.getD 0 0).toNat ≠ 45) (hl : d.length + 0 ≤ 65536) (hdne : d ≠ []) (hfb : Fb 0 d b) :
    Calls Tryd.prog 113 #[.string ⟨d.toArray⟩] w0 fun e w' => e = .returned (.tuple #[.agg #[.bool (neg 0), .slice none (zl 0) 0], .agg #[.int .i64 6, .int .i64 (b : Nat)]]) ∧ Below w0.heap.size w0 w' := by
  have hdl0 : 0 < d.length := List.length_pos_iff.2 hdne
  refine enter Tryd.func113 rfl Tryd.ntmps113 rfl ?_
  intro a henv hst
  refine wp_seq ?_
  refine region_seq ?_
  refine seq_step rfl (op_alloc (c := #[.bool (neg 0), .slice none (zl 0) 0]) henv hst rfl zero_anvil_integer_Int zcells ?_)
  clear henv hst a; intro a w2 g1 henv hst
  refine seq_step rfl (op_alloc (c := #[.int .i64 0, .int .i64 0]) henv hst rfl zero_anvil_api_Spot rfl ?_)
  clear henv hst a; intro a w4 g3 henv hst
  refine wpList_nil ?_
  refine th_n ?_
  refine wp_seq ?_
  refine wp_seq ?_
  refine region_seq ?_
  revert a
  refine mA rfl rfl ?_
  refine sA (v := .int .i64 (d.length : Nat)) rfl (fun _ henv => rn_lenS henv Tryd.underlying9 rfl) ?_
  refine sA (v := .bool (decide (((d.length : Nat) : Int) > (65536 : Int)))) rfl (fun _ henv => rn_bin henv rfl rfl rfl) ?_
  intro a henv
  rw [show (decide (((d.length : Nat) : Int) > (65536 : Int))) = false from decide_eq_false (by omega)] at henv
  refine wpList_nil ?_
  refine th_n ?_
  refine if_f henv rfl (rfl) ?_
  refine wp_skip ?_
  refine th_n ?_
  refine wp_seq ?_
  refine region_seq ?_
  refine sv (v := .int .i64 0) henv rfl (rn_assign henv rfl) ?_
  clear henv a; intro a henv
  refine wpList_nil ?_
  refine th_n ?_
  refine wp_seq ?_
  refine wp_seq ?_
  refine region_seq ?_
  revert a
  refine mA rfl rfl ?_
  refine sA (v := .bool (!decide (d = []))) rfl (fun _ henv => rn_neqs (s := d) (t := []) henv rfl rfl) ?_
  intro a henv
  rw [show (!decide (d = [])) = true from by simp [hdne]] at henv
  revert a
  refine mA rfl rfl ?_
  refine gA (v := .string ⟨d.toArray⟩) rfl rfl rfl rfl (fun _ henv => rn_move henv rfl) ?_
  refine gA (v := .int .u8 ((d.getD 0 0).toNat : Nat)) rfl rfl rfl rfl (fun _ henv => rn_idxS (i := 0) henv Tryd.underlying9 rfl rfl (by omega)) ?_
  refine gA (v := .bool ((((d.getD 0 0).toNat : Nat) : Int) == (45 : Int))) rfl rfl rfl rfl (fun _ henv => rn_bin henv rfl rfl rfl) ?_
  intro a henv
  rw [show ((((d.getD 0 0).toNat : Nat) : Int) == (45 : Int)) = false from beq_eq_false_iff_ne.2 (by omega)] at henv
  refine sv (v := .bool false) henv rfl (rn_pick henv rfl rfl) ?_
  clear henv a; intro a henv
  refine wpList_nil ?_
  refine th_n ?_
  refine if_f henv rfl (rfl) ?_
  refine wp_skip ?_
  refine th_n ?_
  refine wp_seq ?_
  refine region_seq ?_
  revert a
  refine mA rfl rfl ?_
  refine aA rfl rfl ?_
  intro a henv
  refine wpList_nil ?_
  refine th_n ?_
  refine wp_seq ?_
  refine wp_block ?_
  refine wp_loop_ghost (fun mz a w => ∃ k : Nat, d.length - k = mz ∧ Env 86 a [(0, .string ⟨d.toArray⟩), (2, .pointer (some ⟨g1, 0, none⟩)), (3, .pointer (some ⟨g3, 0, none⟩)), (4, .int .i64 (k : Nat)), (5, .int .i64 0)] ∧ St w0 w [bk g3 #[.int .i64 0, .int .i64 0] 79, bk g1 #[.bool (neg 0), .slice none (zl 0) 0] 36] [] ∧ k ≤ b) _ ⟨0, rfl, henv.sub ⟨rfl, rfl, rfl, rfl, rfl, trivial⟩, hst.pick [0, 1] [] (by decide), (Nat.zero_le _)⟩ ?_
  clear henv hst a
  rintro mz a w5 ⟨k, rfl, henv, hst, hk⟩
  rcases bad_split2 hfb hk with ⟨hlt, h1, h2, hk0, h3, hkb⟩ | ⟨hlt, h1, h2, hk0, h3, hkb⟩ | ⟨hlt, h1, h2, hk0, hkb⟩ | ⟨hkb, hlt, hk0⟩ | ⟨hkb, hlt, h1, hk0⟩ | ⟨hkb, hlt, h1, hk0⟩ | ⟨hkb, hlt, h1, hk0⟩ | ⟨hkb, hlt, h1, hk0⟩ | ⟨hkb, hlt, h1, h2, hk0, h3⟩ | ⟨hkb, hlt, h1, h2, hk0, hf, h3⟩
  · refine wp_seq ?_
    refine wp_seq ?_
    refine region_seq ?_
    revert a
    refine mA rfl rfl ?_
    refine mA rfl rfl ?_
    refine sA (v := .int .i64 (d.length : Nat)) rfl (fun _ henv => rn_lenS henv Tryd.underlying9 rfl) ?_
    refine sA (v := .bool (decide (((k : Nat) : Int) < ((d.length : Nat) : Int)))) rfl (fun _ henv => rn_bin henv rfl rfl rfl) ?_
    intro a henv
    rw [show (decide (((k : Nat) : Int) < ((d.length : Nat) : Int))) = true from decide_eq_true (by omega)] at henv
    revert a
    refine mA rfl rfl ?_
    refine gA (v := .string ⟨d.toArray⟩) rfl rfl rfl rfl (fun _ henv => rn_move henv rfl) ?_
    refine gA (v := .int .i64 (k : Nat)) rfl rfl rfl rfl (fun _ henv => rn_move henv rfl) ?_
    refine gA (v := .int .u8 ((d.getD k 0).toNat : Nat)) rfl rfl rfl rfl (fun _ henv => rn_idxS (i := k) henv Tryd.underlying9 rfl rfl (by omega)) ?_
    refine gA (v := .bool (decide ((((d.getD k 0).toNat : Nat) : Int) ≥ (48 : Int)))) rfl rfl rfl rfl (fun _ henv => rn_bin henv rfl rfl rfl) ?_
    intro a henv
    rw [show (decide ((((d.getD k 0).toNat : Nat) : Int) ≥ (48 : Int))) = true from decide_eq_true (by omega)] at henv
    revert a
    refine sA (v := .bool true) rfl (fun _ henv => rn_pick henv rfl rfl) ?_
    refine mA rfl rfl ?_
    refine gA (v := .string ⟨d.toArray⟩) rfl rfl rfl rfl (fun _ henv => rn_move henv rfl) ?_
    refine gA (v := .int .i64 (k : Nat)) rfl rfl rfl rfl (fun _ henv => rn_move henv rfl) ?_
    refine gA (v := .int .u8 ((d.getD k 0).toNat : Nat)) rfl rfl rfl rfl (fun _ henv => rn_idxS (i := k) henv Tryd.underlying9 rfl rfl (by omega)) ?_
    refine gA (v := .bool (decide ((((d.getD k 0).toNat : Nat) : Int) ≤ (57 : Int)))) rfl rfl rfl rfl (fun _ henv => rn_bin henv rfl rfl rfl) ?_
    intro a henv
    rw [show (decide ((((d.getD k 0).toNat : Nat) : Int) ≤ (57 : Int))) = true from decide_eq_true (by omega)] at henv
    refine sv (v := .bool true) henv rfl (rn_pick henv rfl rfl) ?_
    clear henv a; intro a henv
    refine wpList_nil ?_
    refine th_n ?_
    refine if_t henv rfl (rfl) ?_
    refine wp_skip ?_
    refine th_n ?_
    refine wp_seq ?_
    refine wp_block ?_
    refine wp_seq ?_
    refine wp_seq ?_
    refine region_seq ?_
    revert a
    refine mA rfl rfl ?_
    refine mA rfl rfl ?_
    refine sA (v := .int .i64 1) rfl (fun _ henv => rn_bin henv rfl rfl rfl) ?_
    refine sA (v := .bool (((k : Nat) : Int) == (1 : Int))) rfl (fun _ henv => rn_bin henv rfl rfl rfl) ?_
    intro a henv
    rw [show (((k : Nat) : Int) == (1 : Int)) = false from beq_eq_false_iff_ne.2 (by omega)] at henv
    revert a
    refine mA rfl rfl ?_
    refine kA rfl rfl rfl rfl rfl ?_
    refine kA rfl rfl rfl rfl rfl ?_
    refine kA rfl rfl rfl rfl rfl ?_
    refine kA rfl rfl rfl rfl rfl ?_
    refine sA (v := .bool false) rfl (fun _ henv => rn_pick henv rfl rfl) ?_
    intro a henv
    refine wpList_nil ?_
    refine th_n ?_
    refine if_f henv rfl (rfl) ?_
    refine wp_skip ?_
    refine th_n ?_
    refine wp_seq ?_
    refine region_seq ?_
    revert a
    refine mA rfl rfl ?_
    refine mA rfl rfl ?_
    refine sA (v := .bool (((k : Nat) : Int) == (0 : Int))) rfl (fun _ henv => rn_bin henv rfl rfl rfl) ?_
    intro a henv
    rw [show (((k : Nat) : Int) == (0 : Int)) = true from beq_iff_eq.2 (by omega)] at henv
    revert a
    refine mA rfl rfl ?_
    refine gA (v := .int .i64 0) rfl rfl rfl rfl (fun _ henv => rn_move henv rfl) ?_
    refine gA (v := .bool false) rfl rfl rfl rfl (fun _ henv => rn_bin henv rfl rfl rfl) ?_
    refine sA (v := .bool false) rfl (fun _ henv => rn_pick henv rfl rfl) ?_
    refine mA rfl rfl ?_
    refine kA rfl rfl rfl rfl rfl ?_
    refine kA rfl rfl rfl rfl rfl ?_
    refine kA rfl rfl rfl rfl rfl ?_
    refine kA rfl rfl rfl rfl rfl ?_
    refine sA (v := .bool false) rfl (fun _ henv => rn_pick henv rfl rfl) ?_
    intro a henv
    refine wpList_nil ?_
    refine th_n ?_
    refine if_f henv rfl (rfl) ?_
    refine wp_skip ?_
    refine bl_n (th_n ?_)
    refine region_seq ?_
    revert a
    refine mA rfl rfl ?_
    refine sA (v := .int .i64 (k + 1 : Nat)) rfl (fun _ henv => rn_add henv rfl rfl (by rw [IntWalk.i64_in _ (by omega)]; omega)) ?_
    refine aA rfl rfl ?_
    intro a henv
    refine wpList_nil ?_
    exact th_n ⟨_, (by omega), ⟨k + 1, rfl, henv.sub ⟨rfl, rfl, rfl, rfl, rfl, trivial⟩, hst.pick [0, 1] [] (by decide), (by omega)⟩⟩
  · refine wp_seq ?_
    refine wp_seq ?_
    refine region_seq ?_
    revert a
    refine mA rfl rfl ?_
    refine mA rfl rfl ?_
    refine sA (v := .int .i64 (d.length : Nat)) rfl (fun _ henv => rn_lenS henv Tryd.underlying9 rfl) ?_
    refine sA (v := .bool (decide (((k : Nat) : Int) < ((d.length : Nat) : Int)))) rfl (fun _ henv => rn_bin henv rfl rfl rfl) ?_
    intro a henv
    rw [show (decide (((k : Nat) : Int) < ((d.length : Nat) : Int))) = true from decide_eq_true (by omega)] at henv
    revert a
    refine mA rfl rfl ?_
    refine gA (v := .string ⟨d.toArray⟩) rfl rfl rfl rfl (fun _ henv => rn_move henv rfl) ?_
    refine gA (v := .int .i64 (k : Nat)) rfl rfl rfl rfl (fun _ henv => rn_move henv rfl) ?_
    refine gA (v := .int .u8 ((d.getD k 0).toNat : Nat)) rfl rfl rfl rfl (fun _ henv => rn_idxS (i := k) henv Tryd.underlying9 rfl rfl (by omega)) ?_
    refine gA (v := .bool (decide ((((d.getD k 0).toNat : Nat) : Int) ≥ (48 : Int)))) rfl rfl rfl rfl (fun _ henv => rn_bin henv rfl rfl rfl) ?_
    intro a henv
    rw [show (decide ((((d.getD k 0).toNat : Nat) : Int) ≥ (48 : Int))) = true from decide_eq_true (by omega)] at henv
    revert a
    refine sA (v := .bool true) rfl (fun _ henv => rn_pick henv rfl rfl) ?_
    refine mA rfl rfl ?_
    refine gA (v := .string ⟨d.toArray⟩) rfl rfl rfl rfl (fun _ henv => rn_move henv rfl) ?_
    refine gA (v := .int .i64 (k : Nat)) rfl rfl rfl rfl (fun _ henv => rn_move henv rfl) ?_
    refine gA (v := .int .u8 ((d.getD k 0).toNat : Nat)) rfl rfl rfl rfl (fun _ henv => rn_idxS (i := k) henv Tryd.underlying9 rfl rfl (by omega)) ?_
    refine gA (v := .bool (decide ((((d.getD k 0).toNat : Nat) : Int) ≤ (57 : Int)))) rfl rfl rfl rfl (fun _ henv => rn_bin henv rfl rfl rfl) ?_
    intro a henv
    rw [show (decide ((((d.getD k 0).toNat : Nat) : Int) ≤ (57 : Int))) = true from decide_eq_true (by omega)] at henv
    refine sv (v := .bool true) henv rfl (rn_pick henv rfl rfl) ?_
    clear henv a; intro a henv
    refine wpList_nil ?_
    refine th_n ?_
    refine if_t henv rfl (rfl) ?_
    refine wp_skip ?_
    refine th_n ?_
    refine wp_seq ?_
    refine wp_block ?_
    refine wp_seq ?_
    refine wp_seq ?_
    refine region_seq ?_
    revert a
    refine mA rfl rfl ?_
    refine mA rfl rfl ?_
    refine sA (v := .int .i64 1) rfl (fun _ henv => rn_bin henv rfl rfl rfl) ?_
    refine sA (v := .bool (((k : Nat) : Int) == (1 : Int))) rfl (fun _ henv => rn_bin henv rfl rfl rfl) ?_
    intro a henv
    rw [show (((k : Nat) : Int) == (1 : Int)) = true from beq_iff_eq.2 (by omega)] at henv
    revert a
    refine mA rfl rfl ?_
    refine gA (v := .string ⟨d.toArray⟩) rfl rfl rfl rfl (fun _ henv => rn_move henv rfl) ?_
    refine gA (v := .int .i64 0) rfl rfl rfl rfl (fun _ henv => rn_move henv rfl) ?_
    refine gA (v := .int .u8 ((d.getD 0 0).toNat : Nat)) rfl rfl rfl rfl (fun _ henv => rn_idxS (i := 0) henv Tryd.underlying9 rfl rfl (by omega)) ?_
    refine gA (v := .bool ((((d.getD 0 0).toNat : Nat) : Int) == (48 : Int))) rfl rfl rfl rfl (fun _ henv => rn_bin henv rfl rfl rfl) ?_
    intro a henv
    rw [show ((((d.getD 0 0).toNat : Nat) : Int) == (48 : Int)) = false from beq_eq_false_iff_ne.2 (by omega)] at henv
    refine sv (v := .bool false) henv rfl (rn_pick henv rfl rfl) ?_
    clear henv a; intro a henv
    refine wpList_nil ?_
    refine th_n ?_
    refine if_f henv rfl (rfl) ?_
    refine wp_skip ?_
    refine th_n ?_
    refine wp_seq ?_
    refine region_seq ?_
    revert a
    refine mA rfl rfl ?_
    refine mA rfl rfl ?_
    refine sA (v := .bool (((k : Nat) : Int) == (0 : Int))) rfl (fun _ henv => rn_bin henv rfl rfl rfl) ?_
    intro a henv
    rw [show (((k : Nat) : Int) == (0 : Int)) = false from beq_eq_false_iff_ne.2 (by omega)] at henv
    revert a
    refine mA rfl rfl ?_
    refine kA rfl rfl rfl rfl rfl ?_
    refine kA rfl rfl rfl rfl rfl ?_
    refine sA (v := .bool false) rfl (fun _ henv => rn_pick henv rfl rfl) ?_
    refine mA rfl rfl ?_
    refine kA rfl rfl rfl rfl rfl ?_
    refine kA rfl rfl rfl rfl rfl ?_
    refine kA rfl rfl rfl rfl rfl ?_
    refine kA rfl rfl rfl rfl rfl ?_
    refine sA (v := .bool false) rfl (fun _ henv => rn_pick henv rfl rfl) ?_
    intro a henv
    refine wpList_nil ?_
    refine th_n ?_
    refine if_f henv rfl (rfl) ?_
    refine wp_skip ?_
    refine bl_n (th_n ?_)
    refine region_seq ?_
    revert a
    refine mA rfl rfl ?_
    refine sA (v := .int .i64 (k + 1 : Nat)) rfl (fun _ henv => rn_add henv rfl rfl (by rw [IntWalk.i64_in _ (by omega)]; omega)) ?_
    refine aA rfl rfl ?_
    intro a henv
    refine wpList_nil ?_
    exact th_n ⟨_, (by omega), ⟨k + 1, rfl, henv.sub ⟨rfl, rfl, rfl, rfl, rfl, trivial⟩, hst.pick [0, 1] [] (by decide), (by omega)⟩⟩
  · refine wp_seq ?_
    refine wp_seq ?_
    refine region_seq ?_
    revert a
    refine mA rfl rfl ?_
    refine mA rfl rfl ?_
    refine sA (v := .int .i64 (d.length : Nat)) rfl (fun _ henv => rn_lenS henv Tryd.underlying9 rfl) ?_
    refine sA (v := .bool (decide (((k : Nat) : Int) < ((d.length : Nat) : Int)))) rfl (fun _ henv => rn_bin henv rfl rfl rfl) ?_
    intro a henv
    rw [show (decide (((k : Nat) : Int) < ((d.length : Nat) : Int))) = true from decide_eq_true (by omega)] at henv
    revert a
    refine mA rfl rfl ?_
    refine gA (v := .string ⟨d.toArray⟩) rfl rfl rfl rfl (fun _ henv => rn_move henv rfl) ?_
    refine gA (v := .int .i64 (k : Nat)) rfl rfl rfl rfl (fun _ henv => rn_move henv rfl) ?_
    refine gA (v := .int .u8 ((d.getD k 0).toNat : Nat)) rfl rfl rfl rfl (fun _ henv => rn_idxS (i := k) henv Tryd.underlying9 rfl rfl (by omega)) ?_
    refine gA (v := .bool (decide ((((d.getD k 0).toNat : Nat) : Int) ≥ (48 : Int)))) rfl rfl rfl rfl (fun _ henv => rn_bin henv rfl rfl rfl) ?_
    intro a henv
    rw [show (decide ((((d.getD k 0).toNat : Nat) : Int) ≥ (48 : Int))) = true from decide_eq_true (by omega)] at henv
    revert a
    refine sA (v := .bool true) rfl (fun _ henv => rn_pick henv rfl rfl) ?_
    refine mA rfl rfl ?_
    refine gA (v := .string ⟨d.toArray⟩) rfl rfl rfl rfl (fun _ henv => rn_move henv rfl) ?_
    refine gA (v := .int .i64 (k : Nat)) rfl rfl rfl rfl (fun _ henv => rn_move henv rfl) ?_
    refine gA (v := .int .u8 ((d.getD k 0).toNat : Nat)) rfl rfl rfl rfl (fun _ henv => rn_idxS (i := k) henv Tryd.underlying9 rfl rfl (by omega)) ?_
    refine gA (v := .bool (decide ((((d.getD k 0).toNat : Nat) : Int) ≤ (57 : Int)))) rfl rfl rfl rfl (fun _ henv => rn_bin henv rfl rfl rfl) ?_
    intro a henv
    rw [show (decide ((((d.getD k 0).toNat : Nat) : Int) ≤ (57 : Int))) = true from decide_eq_true (by omega)] at henv
    refine sv (v := .bool true) henv rfl (rn_pick henv rfl rfl) ?_
    clear henv a; intro a henv
    refine wpList_nil ?_
    refine th_n ?_
    refine if_t henv rfl (rfl) ?_
    refine wp_skip ?_
    refine th_n ?_
    refine wp_seq ?_
    refine wp_block ?_
    refine wp_seq ?_
    refine wp_seq ?_
    refine region_seq ?_
    revert a
    refine mA rfl rfl ?_
    refine mA rfl rfl ?_
    refine sA (v := .int .i64 1) rfl (fun _ henv => rn_bin henv rfl rfl rfl) ?_
    refine sA (v := .bool (((k : Nat) : Int) == (1 : Int))) rfl (fun _ henv => rn_bin henv rfl rfl rfl) ?_
    intro a henv
    rw [show (((k : Nat) : Int) == (1 : Int)) = false from beq_eq_false_iff_ne.2 (by omega)] at henv
    revert a
    refine mA rfl rfl ?_
    refine kA rfl rfl rfl rfl rfl ?_
    refine kA rfl rfl rfl rfl rfl ?_
    refine kA rfl rfl rfl rfl rfl ?_
    refine kA rfl rfl rfl rfl rfl ?_
    refine sA (v := .bool false) rfl (fun _ henv => rn_pick henv rfl rfl) ?_
    intro a henv
    refine wpList_nil ?_
    refine th_n ?_
    refine if_f henv rfl (rfl) ?_
    refine wp_skip ?_
    refine th_n ?_
    refine wp_seq ?_
    refine region_seq ?_
    revert a
    refine mA rfl rfl ?_
    refine mA rfl rfl ?_
    refine sA (v := .bool (((k : Nat) : Int) == (0 : Int))) rfl (fun _ henv => rn_bin henv rfl rfl rfl) ?_
    intro a henv
    rw [show (((k : Nat) : Int) == (0 : Int)) = false from beq_eq_false_iff_ne.2 (by omega)] at henv
    revert a
    refine mA rfl rfl ?_
    refine kA rfl rfl rfl rfl rfl ?_
    refine kA rfl rfl rfl rfl rfl ?_
    refine sA (v := .bool false) rfl (fun _ henv => rn_pick henv rfl rfl) ?_
    refine mA rfl rfl ?_
    refine kA rfl rfl rfl rfl rfl ?_
    refine kA rfl rfl rfl rfl rfl ?_
    refine kA rfl rfl rfl rfl rfl ?_
    refine kA rfl rfl rfl rfl rfl ?_
    refine sA (v := .bool false) rfl (fun _ henv => rn_pick henv rfl rfl) ?_
    intro a henv
    refine wpList_nil ?_
    refine th_n ?_
    refine if_f henv rfl (rfl) ?_
    refine wp_skip ?_
    refine bl_n (th_n ?_)
    refine region_seq ?_
    revert a
    refine mA rfl rfl ?_
    refine sA (v := .int .i64 (k + 1 : Nat)) rfl (fun _ henv => rn_add henv rfl rfl (by rw [IntWalk.i64_in _ (by omega)]; omega)) ?_
    refine aA rfl rfl ?_
    intro a henv
    refine wpList_nil ?_
    exact th_n ⟨_, (by omega), ⟨k + 1, rfl, henv.sub ⟨rfl, rfl, rfl, rfl, rfl, trivial⟩, hst.pick [0, 1] [] (by decide), (by omega)⟩⟩
  · refine wp_seq ?_
    refine wp_seq ?_
    refine region_seq ?_
    revert a
    refine mA rfl rfl ?_
    refine mA rfl rfl ?_
    refine sA (v := .int .i64 (d.length : Nat)) rfl (fun _ henv => rn_lenS henv Tryd.underlying9 rfl) ?_
    refine sA (v := .bool (decide (((k : Nat) : Int) < ((d.length : Nat) : Int)))) rfl (fun _ henv => rn_bin henv rfl rfl rfl) ?_
    intro a henv
    rw [show (decide (((k : Nat) : Int) < ((d.length : Nat) : Int))) = false from decide_eq_false (by omega)] at henv
    revert a
    refine mA rfl rfl ?_
    refine kA rfl rfl rfl rfl rfl ?_
    refine kA rfl rfl rfl rfl rfl ?_
    refine kA rfl rfl rfl rfl rfl ?_
    refine kA rfl rfl rfl rfl rfl ?_
    refine sA (v := .bool false) rfl (fun _ henv => rn_pick henv rfl rfl) ?_
    refine mA rfl rfl ?_
    refine kA rfl rfl rfl rfl rfl ?_
    refine kA rfl rfl rfl rfl rfl ?_
    refine kA rfl rfl rfl rfl rfl ?_
    refine kA rfl rfl rfl rfl rfl ?_
    refine sA (v := .bool false) rfl (fun _ henv => rn_pick henv rfl rfl) ?_
    intro a henv
    refine wpList_nil ?_
    refine th_n ?_
    refine if_f henv rfl (rfl) ?_
    refine wp_exit ?_
    refine th_x (th_x (bl_x (th_n ?_)))
    refine wp_seq ?_
    refine wp_seq ?_
    refine region_seq ?_
    revert a
    refine mA rfl rfl ?_
    refine mA rfl rfl ?_
    refine sA (v := .bool (((k : Nat) : Int) == (0 : Int))) rfl (fun _ henv => rn_bin henv rfl rfl rfl) ?_
    intro a henv
    rw [show (((k : Nat) : Int) == (0 : Int)) = true from beq_iff_eq.2 (by omega)] at henv
    revert a
    refine mA rfl rfl ?_
    refine kA rfl rfl rfl rfl rfl ?_
    refine kA rfl rfl rfl rfl rfl ?_
    refine kA rfl rfl rfl rfl rfl ?_
    refine kA rfl rfl rfl rfl rfl ?_
    refine sA (v := .bool true) rfl (fun _ henv => rn_pick henv rfl rfl) ?_
    intro a henv
    refine wpList_nil ?_
    refine th_n ?_
    refine if_t henv rfl (rfl) ?_
    refine wp_seq ?_
    refine region_seq ?_
    revert a
    refine sA (v := .agg #[.bool (neg 0), .slice none (zl 0) 0]) rfl (fun _ henv => rn_zint Tryd.underlying36 zero_anvil_integer_Int (by intro f hf; simp at hf; rcases hf with rfl | rfl <;> exact ⟨_, rfl⟩)) ?_
    refine mA rfl rfl ?_
    refine sA (v := .agg #[.int .i64 6, .int .i64 (k : Nat)]) rfl (fun _ henv => rn_spot2 henv rfl rfl) ?_
    intro a henv
    refine seq_step rfl (op_store (k := 1) (c' := #[.bool (neg 0), .slice none (zl 0) 0]) henv hst (ty_anvil_integer_Int.size) rfl rfl rfl rfl (by simp) rfl rfl ?_)
    clear henv hst a; intro a w6 henv hst
    refine seq_step rfl (op_store (k := 0) (c' := #[.int .i64 6, .int .i64 (k : Nat)]) henv hst (ty_anvil_api_Spot.size) rfl rfl rfl rfl (by simp) rfl rfl ?_)
    clear henv hst a; intro a w7 henv hst
    refine wpList_nil ?_
    refine th_n ?_
    refine wp_ret ?_
    refine th_r ?_
    refine leave henv (res2 Tryd.results113 (RV.cell henv ty_anvil_integer_Int rfl (hst.oat (k := 1) rfl) rfl) (RV.cell henv ty_anvil_api_Spot rfl (hst.oat (k := 0) rfl) rfl)) ?_
    subst hkb
    exact ⟨rfl, hst.below⟩
  · refine wp_seq ?_
    refine wp_seq ?_
    refine region_seq ?_
    revert a
    refine mA rfl rfl ?_
    refine mA rfl rfl ?_
    refine sA (v := .int .i64 (d.length : Nat)) rfl (fun _ henv => rn_lenS henv Tryd.underlying9 rfl) ?_
    refine sA (v := .bool (decide (((k : Nat) : Int) < ((d.length : Nat) : Int)))) rfl (fun _ henv => rn_bin henv rfl rfl rfl) ?_
    intro a henv
    rw [show (decide (((k : Nat) : Int) < ((d.length : Nat) : Int))) = true from decide_eq_true (by omega)] at henv
    revert a
    refine mA rfl rfl ?_
    refine gA (v := .string ⟨d.toArray⟩) rfl rfl rfl rfl (fun _ henv => rn_move henv rfl) ?_
    refine gA (v := .int .i64 (k : Nat)) rfl rfl rfl rfl (fun _ henv => rn_move henv rfl) ?_
    refine gA (v := .int .u8 ((d.getD k 0).toNat : Nat)) rfl rfl rfl rfl (fun _ henv => rn_idxS (i := k) henv Tryd.underlying9 rfl rfl (by omega)) ?_
    refine gA (v := .bool (decide ((((d.getD k 0).toNat : Nat) : Int) ≥ (48 : Int)))) rfl rfl rfl rfl (fun _ henv => rn_bin henv rfl rfl rfl) ?_
    intro a henv
    rw [show (decide ((((d.getD k 0).toNat : Nat) : Int) ≥ (48 : Int))) = false from decide_eq_false (by omega)] at henv
    revert a
    refine sA (v := .bool false) rfl (fun _ henv => rn_pick henv rfl rfl) ?_
    refine mA rfl rfl ?_
    refine kA rfl rfl rfl rfl rfl ?_
    refine kA rfl rfl rfl rfl rfl ?_
    refine kA rfl rfl rfl rfl rfl ?_
    refine kA rfl rfl rfl rfl rfl ?_
    refine sA (v := .bool false) rfl (fun _ henv => rn_pick henv rfl rfl) ?_
    intro a henv
    refine wpList_nil ?_
    refine th_n ?_
    refine if_f henv rfl (rfl) ?_
    refine wp_exit ?_
    refine th_x (th_x (bl_x (th_n ?_)))
    refine wp_seq ?_
    refine wp_seq ?_
    refine region_seq ?_
    revert a
    refine mA rfl rfl ?_
    refine mA rfl rfl ?_
    refine sA (v := .bool (((k : Nat) : Int) == (0 : Int))) rfl (fun _ henv => rn_bin henv rfl rfl rfl) ?_
    intro a henv
    rw [show (((k : Nat) : Int) == (0 : Int)) = true from beq_iff_eq.2 (by omega)] at henv
    revert a
    refine mA rfl rfl ?_
    refine kA rfl rfl rfl rfl rfl ?_
    refine kA rfl rfl rfl rfl rfl ?_
    refine kA rfl rfl rfl rfl rfl ?_
    refine kA rfl rfl rfl rfl rfl ?_
    refine sA (v := .bool true) rfl (fun _ henv => rn_pick henv rfl rfl) ?_
    intro a henv
    refine wpList_nil ?_
    refine th_n ?_
    refine if_t henv rfl (rfl) ?_
    refine wp_seq ?_
    refine region_seq ?_
    revert a
    refine sA (v := .agg #[.bool (neg 0), .slice none (zl 0) 0]) rfl (fun _ henv => rn_zint Tryd.underlying36 zero_anvil_integer_Int (by intro f hf; simp at hf; rcases hf with rfl | rfl <;> exact ⟨_, rfl⟩)) ?_
    refine mA rfl rfl ?_
    refine sA (v := .agg #[.int .i64 6, .int .i64 (k : Nat)]) rfl (fun _ henv => rn_spot2 henv rfl rfl) ?_
    intro a henv
    refine seq_step rfl (op_store (k := 1) (c' := #[.bool (neg 0), .slice none (zl 0) 0]) henv hst (ty_anvil_integer_Int.size) rfl rfl rfl rfl (by simp) rfl rfl ?_)
    clear henv hst a; intro a w8 henv hst
    refine seq_step rfl (op_store (k := 0) (c' := #[.int .i64 6, .int .i64 (k : Nat)]) henv hst (ty_anvil_api_Spot.size) rfl rfl rfl rfl (by simp) rfl rfl ?_)
    clear henv hst a; intro a w9 henv hst
    refine wpList_nil ?_
    refine th_n ?_
    refine wp_ret ?_
    refine th_r ?_
    refine leave henv (res2 Tryd.results113 (RV.cell henv ty_anvil_integer_Int rfl (hst.oat (k := 1) rfl) rfl) (RV.cell henv ty_anvil_api_Spot rfl (hst.oat (k := 0) rfl) rfl)) ?_
    subst hkb
    exact ⟨rfl, hst.below⟩
  · refine wp_seq ?_
    refine wp_seq ?_
    refine region_seq ?_
    revert a
    refine mA rfl rfl ?_
    refine mA rfl rfl ?_
    refine sA (v := .int .i64 (d.length : Nat)) rfl (fun _ henv => rn_lenS henv Tryd.underlying9 rfl) ?_
    refine sA (v := .bool (decide (((k : Nat) : Int) < ((d.length : Nat) : Int)))) rfl (fun _ henv => rn_bin henv rfl rfl rfl) ?_
    intro a henv
    rw [show (decide (((k : Nat) : Int) < ((d.length : Nat) : Int))) = true from decide_eq_true (by omega)] at henv
    revert a
    refine mA rfl rfl ?_
    refine gA (v := .string ⟨d.toArray⟩) rfl rfl rfl rfl (fun _ henv => rn_move henv rfl) ?_
    refine gA (v := .int .i64 (k : Nat)) rfl rfl rfl rfl (fun _ henv => rn_move henv rfl) ?_
    refine gA (v := .int .u8 ((d.getD k 0).toNat : Nat)) rfl rfl rfl rfl (fun _ henv => rn_idxS (i := k) henv Tryd.underlying9 rfl rfl (by omega)) ?_
    refine gA (v := .bool (decide ((((d.getD k 0).toNat : Nat) : Int) ≥ (48 : Int)))) rfl rfl rfl rfl (fun _ henv => rn_bin henv rfl rfl rfl) ?_
    intro a henv
    rw [show (decide ((((d.getD k 0).toNat : Nat) : Int) ≥ (48 : Int))) = false from decide_eq_false (by omega)] at henv
    revert a
    refine sA (v := .bool false) rfl (fun _ henv => rn_pick henv rfl rfl) ?_
    refine mA rfl rfl ?_
    refine kA rfl rfl rfl rfl rfl ?_
    refine kA rfl rfl rfl rfl rfl ?_
    refine kA rfl rfl rfl rfl rfl ?_
    refine kA rfl rfl rfl rfl rfl ?_
    refine sA (v := .bool false) rfl (fun _ henv => rn_pick henv rfl rfl) ?_
    intro a henv
    refine wpList_nil ?_
    refine th_n ?_
    refine if_f henv rfl (rfl) ?_
    refine wp_exit ?_
    refine th_x (th_x (bl_x (th_n ?_)))
    refine wp_seq ?_
    refine wp_seq ?_
    refine region_seq ?_
    revert a
    refine mA rfl rfl ?_
    refine mA rfl rfl ?_
    refine sA (v := .bool (((k : Nat) : Int) == (0 : Int))) rfl (fun _ henv => rn_bin henv rfl rfl rfl) ?_
    intro a henv
    rw [show (((k : Nat) : Int) == (0 : Int)) = false from beq_eq_false_iff_ne.2 (by omega)] at henv
    revert a
    refine mA rfl rfl ?_
    refine gA (v := .int .i64 (k : Nat)) rfl rfl rfl rfl (fun _ henv => rn_move henv rfl) ?_
    refine gA (v := .string ⟨d.toArray⟩) rfl rfl rfl rfl (fun _ henv => rn_move henv rfl) ?_
    refine gA (v := .int .i64 (d.length : Nat)) rfl rfl rfl rfl (fun _ henv => rn_lenS henv Tryd.underlying9 rfl) ?_
    refine gA (v := .bool (decide (((k : Nat) : Int) < ((d.length : Nat) : Int)))) rfl rfl rfl rfl (fun _ henv => rn_bin henv rfl rfl rfl) ?_
    intro a henv
    rw [show (decide (((k : Nat) : Int) < ((d.length : Nat) : Int))) = true from decide_eq_true (by omega)] at henv
    refine sv (v := .bool true) henv rfl (rn_pick henv rfl rfl) ?_
    clear henv a; intro a henv
    refine wpList_nil ?_
    refine th_n ?_
    refine if_t henv rfl (rfl) ?_
    refine wp_seq ?_
    refine region_seq ?_
    revert a
    refine sA (v := .agg #[.bool (neg 0), .slice none (zl 0) 0]) rfl (fun _ henv => rn_zint Tryd.underlying36 zero_anvil_integer_Int (by intro f hf; simp at hf; rcases hf with rfl | rfl <;> exact ⟨_, rfl⟩)) ?_
    refine mA rfl rfl ?_
    refine sA (v := .agg #[.int .i64 6, .int .i64 (k : Nat)]) rfl (fun _ henv => rn_spot2 henv rfl rfl) ?_
    intro a henv
    refine seq_step rfl (op_store (k := 1) (c' := #[.bool (neg 0), .slice none (zl 0) 0]) henv hst (ty_anvil_integer_Int.size) rfl rfl rfl rfl (by simp) rfl rfl ?_)
    clear henv hst a; intro a w10 henv hst
    refine seq_step rfl (op_store (k := 0) (c' := #[.int .i64 6, .int .i64 (k : Nat)]) henv hst (ty_anvil_api_Spot.size) rfl rfl rfl rfl (by simp) rfl rfl ?_)
    clear henv hst a; intro a w11 henv hst
    refine wpList_nil ?_
    refine th_n ?_
    refine wp_ret ?_
    refine th_r ?_
    refine leave henv (res2 Tryd.results113 (RV.cell henv ty_anvil_integer_Int rfl (hst.oat (k := 1) rfl) rfl) (RV.cell henv ty_anvil_api_Spot rfl (hst.oat (k := 0) rfl) rfl)) ?_
    subst hkb
    exact ⟨rfl, hst.below⟩
  · refine wp_seq ?_
    refine wp_seq ?_
    refine region_seq ?_
    revert a
    refine mA rfl rfl ?_
    refine mA rfl rfl ?_
    refine sA (v := .int .i64 (d.length : Nat)) rfl (fun _ henv => rn_lenS henv Tryd.underlying9 rfl) ?_
    refine sA (v := .bool (decide (((k : Nat) : Int) < ((d.length : Nat) : Int)))) rfl (fun _ henv => rn_bin henv rfl rfl rfl) ?_
    intro a henv
    rw [show (decide (((k : Nat) : Int) < ((d.length : Nat) : Int))) = true from decide_eq_true (by omega)] at henv
    revert a
    refine mA rfl rfl ?_
    refine gA (v := .string ⟨d.toArray⟩) rfl rfl rfl rfl (fun _ henv => rn_move henv rfl) ?_
    refine gA (v := .int .i64 (k : Nat)) rfl rfl rfl rfl (fun _ henv => rn_move henv rfl) ?_
    refine gA (v := .int .u8 ((d.getD k 0).toNat : Nat)) rfl rfl rfl rfl (fun _ henv => rn_idxS (i := k) henv Tryd.underlying9 rfl rfl (by omega)) ?_
    refine gA (v := .bool (decide ((((d.getD k 0).toNat : Nat) : Int) ≥ (48 : Int)))) rfl rfl rfl rfl (fun _ henv => rn_bin henv rfl rfl rfl) ?_
    intro a henv
    rw [show (decide ((((d.getD k 0).toNat : Nat) : Int) ≥ (48 : Int))) = true from decide_eq_true (by omega)] at henv
    revert a
    refine sA (v := .bool true) rfl (fun _ henv => rn_pick henv rfl rfl) ?_
    refine mA rfl rfl ?_
    refine gA (v := .string ⟨d.toArray⟩) rfl rfl rfl rfl (fun _ henv => rn_move henv rfl) ?_
    refine gA (v := .int .i64 (k : Nat)) rfl rfl rfl rfl (fun _ henv => rn_move henv rfl) ?_
    refine gA (v := .int .u8 ((d.getD k 0).toNat : Nat)) rfl rfl rfl rfl (fun _ henv => rn_idxS (i := k) henv Tryd.underlying9 rfl rfl (by omega)) ?_
    refine gA (v := .bool (decide ((((d.getD k 0).toNat : Nat) : Int) ≤ (57 : Int)))) rfl rfl rfl rfl (fun _ henv => rn_bin henv rfl rfl rfl) ?_
    intro a henv
    rw [show (decide ((((d.getD k 0).toNat : Nat) : Int) ≤ (57 : Int))) = false from decide_eq_false (by omega)] at henv
    refine sv (v := .bool false) henv rfl (rn_pick henv rfl rfl) ?_
    clear henv a; intro a henv
    refine wpList_nil ?_
    refine th_n ?_
    refine if_f henv rfl (rfl) ?_
    refine wp_exit ?_
    refine th_x (th_x (bl_x (th_n ?_)))
    refine wp_seq ?_
    refine wp_seq ?_
    refine region_seq ?_
    revert a
    refine mA rfl rfl ?_
    refine mA rfl rfl ?_
    refine sA (v := .bool (((k : Nat) : Int) == (0 : Int))) rfl (fun _ henv => rn_bin henv rfl rfl rfl) ?_
    intro a henv
    rw [show (((k : Nat) : Int) == (0 : Int)) = true from beq_iff_eq.2 (by omega)] at henv
    revert a
    refine mA rfl rfl ?_
    refine kA rfl rfl rfl rfl rfl ?_
    refine kA rfl rfl rfl rfl rfl ?_
    refine kA rfl rfl rfl rfl rfl ?_
    refine kA rfl rfl rfl rfl rfl ?_
    refine sA (v := .bool true) rfl (fun _ henv => rn_pick henv rfl rfl) ?_
    intro a henv
    refine wpList_nil ?_
    refine th_n ?_
    refine if_t henv rfl (rfl) ?_
    refine wp_seq ?_
    refine region_seq ?_
    revert a
    refine sA (v := .agg #[.bool (neg 0), .slice none (zl 0) 0]) rfl (fun _ henv => rn_zint Tryd.underlying36 zero_anvil_integer_Int (by intro f hf; simp at hf; rcases hf with rfl | rfl <;> exact ⟨_, rfl⟩)) ?_
    refine mA rfl rfl ?_
    refine sA (v := .agg #[.int .i64 6, .int .i64 (k : Nat)]) rfl (fun _ henv => rn_spot2 henv rfl rfl) ?_
    intro a henv
    refine seq_step rfl (op_store (k := 1) (c' := #[.bool (neg 0), .slice none (zl 0) 0]) henv hst (ty_anvil_integer_Int.size) rfl rfl rfl rfl (by simp) rfl rfl ?_)
    clear henv hst a; intro a w12 henv hst
    refine seq_step rfl (op_store (k := 0) (c' := #[.int .i64 6, .int .i64 (k : Nat)]) henv hst (ty_anvil_api_Spot.size) rfl rfl rfl rfl (by simp) rfl rfl ?_)
    clear henv hst a; intro a w13 henv hst
    refine wpList_nil ?_
    refine th_n ?_
    refine wp_ret ?_
    refine th_r ?_
    refine leave henv (res2 Tryd.results113 (RV.cell henv ty_anvil_integer_Int rfl (hst.oat (k := 1) rfl) rfl) (RV.cell henv ty_anvil_api_Spot rfl (hst.oat (k := 0) rfl) rfl)) ?_
    subst hkb
    exact ⟨rfl, hst.below⟩
  · refine wp_seq ?_
    refine wp_seq ?_
    refine region_seq ?_
    revert a
    refine mA rfl rfl ?_
    refine mA rfl rfl ?_
    refine sA (v := .int .i64 (d.length : Nat)) rfl (fun _ henv => rn_lenS henv Tryd.underlying9 rfl) ?_
    refine sA (v := .bool (decide (((k : Nat) : Int) < ((d.length : Nat) : Int)))) rfl (fun _ henv => rn_bin henv rfl rfl rfl) ?_
    intro a henv
    rw [show (decide (((k : Nat) : Int) < ((d.length : Nat) : Int))) = true from decide_eq_true (by omega)] at henv
    revert a
    refine mA rfl rfl ?_
    refine gA (v := .string ⟨d.toArray⟩) rfl rfl rfl rfl (fun _ henv => rn_move henv rfl) ?_
    refine gA (v := .int .i64 (k : Nat)) rfl rfl rfl rfl (fun _ henv => rn_move henv rfl) ?_
    refine gA (v := .int .u8 ((d.getD k 0).toNat : Nat)) rfl rfl rfl rfl (fun _ henv => rn_idxS (i := k) henv Tryd.underlying9 rfl rfl (by omega)) ?_
    refine gA (v := .bool (decide ((((d.getD k 0).toNat : Nat) : Int) ≥ (48 : Int)))) rfl rfl rfl rfl (fun _ henv => rn_bin henv rfl rfl rfl) ?_
    intro a henv
    rw [show (decide ((((d.getD k 0).toNat : Nat) : Int) ≥ (48 : Int))) = true from decide_eq_true (by omega)] at henv
    revert a
    refine sA (v := .bool true) rfl (fun _ henv => rn_pick henv rfl rfl) ?_
    refine mA rfl rfl ?_
    refine gA (v := .string ⟨d.toArray⟩) rfl rfl rfl rfl (fun _ henv => rn_move henv rfl) ?_
    refine gA (v := .int .i64 (k : Nat)) rfl rfl rfl rfl (fun _ henv => rn_move henv rfl) ?_
    refine gA (v := .int .u8 ((d.getD k 0).toNat : Nat)) rfl rfl rfl rfl (fun _ henv => rn_idxS (i := k) henv Tryd.underlying9 rfl rfl (by omega)) ?_
    refine gA (v := .bool (decide ((((d.getD k 0).toNat : Nat) : Int) ≤ (57 : Int)))) rfl rfl rfl rfl (fun _ henv => rn_bin henv rfl rfl rfl) ?_
    intro a henv
    rw [show (decide ((((d.getD k 0).toNat : Nat) : Int) ≤ (57 : Int))) = false from decide_eq_false (by omega)] at henv
    refine sv (v := .bool false) henv rfl (rn_pick henv rfl rfl) ?_
    clear henv a; intro a henv
    refine wpList_nil ?_
    refine th_n ?_
    refine if_f henv rfl (rfl) ?_
    refine wp_exit ?_
    refine th_x (th_x (bl_x (th_n ?_)))
    refine wp_seq ?_
    refine wp_seq ?_
    refine region_seq ?_
    revert a
    refine mA rfl rfl ?_
    refine mA rfl rfl ?_
    refine sA (v := .bool (((k : Nat) : Int) == (0 : Int))) rfl (fun _ henv => rn_bin henv rfl rfl rfl) ?_
    intro a henv
    rw [show (((k : Nat) : Int) == (0 : Int)) = false from beq_eq_false_iff_ne.2 (by omega)] at henv
    revert a
    refine mA rfl rfl ?_
    refine gA (v := .int .i64 (k : Nat)) rfl rfl rfl rfl (fun _ henv => rn_move henv rfl) ?_
    refine gA (v := .string ⟨d.toArray⟩) rfl rfl rfl rfl (fun _ henv => rn_move henv rfl) ?_
    refine gA (v := .int .i64 (d.length : Nat)) rfl rfl rfl rfl (fun _ henv => rn_lenS henv Tryd.underlying9 rfl) ?_
    refine gA (v := .bool (decide (((k : Nat) : Int) < ((d.length : Nat) : Int)))) rfl rfl rfl rfl (fun _ henv => rn_bin henv rfl rfl rfl) ?_
    intro a henv
    rw [show (decide (((k : Nat) : Int) < ((d.length : Nat) : Int))) = true from decide_eq_true (by omega)] at henv
    refine sv (v := .bool true) henv rfl (rn_pick henv rfl rfl) ?_
    clear henv a; intro a henv
    refine wpList_nil ?_
    refine th_n ?_
    refine if_t henv rfl (rfl) ?_
    refine wp_seq ?_
    refine region_seq ?_
    revert a
    refine sA (v := .agg #[.bool (neg 0), .slice none (zl 0) 0]) rfl (fun _ henv => rn_zint Tryd.underlying36 zero_anvil_integer_Int (by intro f hf; simp at hf; rcases hf with rfl | rfl <;> exact ⟨_, rfl⟩)) ?_
    refine mA rfl rfl ?_
    refine sA (v := .agg #[.int .i64 6, .int .i64 (k : Nat)]) rfl (fun _ henv => rn_spot2 henv rfl rfl) ?_
    intro a henv
    refine seq_step rfl (op_store (k := 1) (c' := #[.bool (neg 0), .slice none (zl 0) 0]) henv hst (ty_anvil_integer_Int.size) rfl rfl rfl rfl (by simp) rfl rfl ?_)
    clear henv hst a; intro a w14 henv hst
    refine seq_step rfl (op_store (k := 0) (c' := #[.int .i64 6, .int .i64 (k : Nat)]) henv hst (ty_anvil_api_Spot.size) rfl rfl rfl rfl (by simp) rfl rfl ?_)
    clear henv hst a; intro a w15 henv hst
    refine wpList_nil ?_
    refine th_n ?_
    refine wp_ret ?_
    refine th_r ?_
    refine leave henv (res2 Tryd.results113 (RV.cell henv ty_anvil_integer_Int rfl (hst.oat (k := 1) rfl) rfl) (RV.cell henv ty_anvil_api_Spot rfl (hst.oat (k := 0) rfl) rfl)) ?_
    subst hkb
    exact ⟨rfl, hst.below⟩
  · refine wp_seq ?_
    refine wp_seq ?_
    refine region_seq ?_
    revert a
    refine mA rfl rfl ?_
    refine mA rfl rfl ?_
    refine sA (v := .int .i64 (d.length : Nat)) rfl (fun _ henv => rn_lenS henv Tryd.underlying9 rfl) ?_
    refine sA (v := .bool (decide (((k : Nat) : Int) < ((d.length : Nat) : Int)))) rfl (fun _ henv => rn_bin henv rfl rfl rfl) ?_
    intro a henv
    rw [show (decide (((k : Nat) : Int) < ((d.length : Nat) : Int))) = true from decide_eq_true (by omega)] at henv
    revert a
    refine mA rfl rfl ?_
    refine gA (v := .string ⟨d.toArray⟩) rfl rfl rfl rfl (fun _ henv => rn_move henv rfl) ?_
    refine gA (v := .int .i64 (k : Nat)) rfl rfl rfl rfl (fun _ henv => rn_move henv rfl) ?_
    refine gA (v := .int .u8 ((d.getD k 0).toNat : Nat)) rfl rfl rfl rfl (fun _ henv => rn_idxS (i := k) henv Tryd.underlying9 rfl rfl (by omega)) ?_
    refine gA (v := .bool (decide ((((d.getD k 0).toNat : Nat) : Int) ≥ (48 : Int)))) rfl rfl rfl rfl (fun _ henv => rn_bin henv rfl rfl rfl) ?_
    intro a henv
    rw [show (decide ((((d.getD k 0).toNat : Nat) : Int) ≥ (48 : Int))) = true from decide_eq_true (by omega)] at henv
    revert a
    refine sA (v := .bool true) rfl (fun _ henv => rn_pick henv rfl rfl) ?_
    refine mA rfl rfl ?_
    refine gA (v := .string ⟨d.toArray⟩) rfl rfl rfl rfl (fun _ henv => rn_move henv rfl) ?_
    refine gA (v := .int .i64 (k : Nat)) rfl rfl rfl rfl (fun _ henv => rn_move henv rfl) ?_
    refine gA (v := .int .u8 ((d.getD k 0).toNat : Nat)) rfl rfl rfl rfl (fun _ henv => rn_idxS (i := k) henv Tryd.underlying9 rfl rfl (by omega)) ?_
    refine gA (v := .bool (decide ((((d.getD k 0).toNat : Nat) : Int) ≤ (57 : Int)))) rfl rfl rfl rfl (fun _ henv => rn_bin henv rfl rfl rfl) ?_
    intro a henv
    rw [show (decide ((((d.getD k 0).toNat : Nat) : Int) ≤ (57 : Int))) = true from decide_eq_true (by omega)] at henv
    refine sv (v := .bool true) henv rfl (rn_pick henv rfl rfl) ?_
    clear henv a; intro a henv
    refine wpList_nil ?_
    refine th_n ?_
    refine if_t henv rfl (rfl) ?_
    refine wp_skip ?_
    refine th_n ?_
    refine wp_seq ?_
    refine wp_block ?_
    refine wp_seq ?_
    refine wp_seq ?_
    refine region_seq ?_
    revert a
    refine mA rfl rfl ?_
    refine mA rfl rfl ?_
    refine sA (v := .int .i64 1) rfl (fun _ henv => rn_bin henv rfl rfl rfl) ?_
    refine sA (v := .bool (((k : Nat) : Int) == (1 : Int))) rfl (fun _ henv => rn_bin henv rfl rfl rfl) ?_
    intro a henv
    rw [show (((k : Nat) : Int) == (1 : Int)) = true from beq_iff_eq.2 (by omega)] at henv
    revert a
    refine mA rfl rfl ?_
    refine gA (v := .string ⟨d.toArray⟩) rfl rfl rfl rfl (fun _ henv => rn_move henv rfl) ?_
    refine gA (v := .int .i64 0) rfl rfl rfl rfl (fun _ henv => rn_move henv rfl) ?_
    refine gA (v := .int .u8 ((d.getD 0 0).toNat : Nat)) rfl rfl rfl rfl (fun _ henv => rn_idxS (i := 0) henv Tryd.underlying9 rfl rfl (by omega)) ?_
    refine gA (v := .bool ((((d.getD 0 0).toNat : Nat) : Int) == (48 : Int))) rfl rfl rfl rfl (fun _ henv => rn_bin henv rfl rfl rfl) ?_
    intro a henv
    rw [show ((((d.getD 0 0).toNat : Nat) : Int) == (48 : Int)) = true from beq_iff_eq.2 (by omega)] at henv
    refine sv (v := .bool true) henv rfl (rn_pick henv rfl rfl) ?_
    clear henv a; intro a henv
    refine wpList_nil ?_
    refine th_n ?_
    refine if_t henv rfl (rfl) ?_
    refine wp_exit ?_
    refine th_x (bl_o rfl (th_x (th_x (bl_x (th_n ?_)))))
    refine wp_seq ?_
    refine wp_seq ?_
    refine region_seq ?_
    revert a
    refine mA rfl rfl ?_
    refine mA rfl rfl ?_
    refine sA (v := .bool (((k : Nat) : Int) == (0 : Int))) rfl (fun _ henv => rn_bin henv rfl rfl rfl) ?_
    intro a henv
    rw [show (((k : Nat) : Int) == (0 : Int)) = false from beq_eq_false_iff_ne.2 (by omega)] at henv
    revert a
    refine mA rfl rfl ?_
    refine gA (v := .int .i64 (k : Nat)) rfl rfl rfl rfl (fun _ henv => rn_move henv rfl) ?_
    refine gA (v := .string ⟨d.toArray⟩) rfl rfl rfl rfl (fun _ henv => rn_move henv rfl) ?_
    refine gA (v := .int .i64 (d.length : Nat)) rfl rfl rfl rfl (fun _ henv => rn_lenS henv Tryd.underlying9 rfl) ?_
    refine gA (v := .bool (decide (((k : Nat) : Int) < ((d.length : Nat) : Int)))) rfl rfl rfl rfl (fun _ henv => rn_bin henv rfl rfl rfl) ?_
    intro a henv
    rw [show (decide (((k : Nat) : Int) < ((d.length : Nat) : Int))) = true from decide_eq_true (by omega)] at henv
    refine sv (v := .bool true) henv rfl (rn_pick henv rfl rfl) ?_
    clear henv a; intro a henv
    refine wpList_nil ?_
    refine th_n ?_
    refine if_t henv rfl (rfl) ?_
    refine wp_seq ?_
    refine region_seq ?_
    revert a
    refine sA (v := .agg #[.bool (neg 0), .slice none (zl 0) 0]) rfl (fun _ henv => rn_zint Tryd.underlying36 zero_anvil_integer_Int (by intro f hf; simp at hf; rcases hf with rfl | rfl <;> exact ⟨_, rfl⟩)) ?_
    refine mA rfl rfl ?_
    refine sA (v := .agg #[.int .i64 6, .int .i64 (k : Nat)]) rfl (fun _ henv => rn_spot2 henv rfl rfl) ?_
    intro a henv
    refine seq_step rfl (op_store (k := 1) (c' := #[.bool (neg 0), .slice none (zl 0) 0]) henv hst (ty_anvil_integer_Int.size) rfl rfl rfl rfl (by simp) rfl rfl ?_)
    clear henv hst a; intro a w16 henv hst
    refine seq_step rfl (op_store (k := 0) (c' := #[.int .i64 6, .int .i64 (k : Nat)]) henv hst (ty_anvil_api_Spot.size) rfl rfl rfl rfl (by simp) rfl rfl ?_)
    clear henv hst a; intro a w17 henv hst
    refine wpList_nil ?_
    refine th_n ?_
    refine wp_ret ?_
    refine th_r ?_
    refine leave henv (res2 Tryd.results113 (RV.cell henv ty_anvil_integer_Int rfl (hst.oat (k := 1) rfl) rfl) (RV.cell henv ty_anvil_api_Spot rfl (hst.oat (k := 0) rfl) rfl)) ?_
    subst hkb
    exact ⟨rfl, hst.below⟩
  · exact absurd hf (by decide)
set_option maxRecDepth 100000 in
set_option maxHeartbeats 4000000 in
theorem iread_ok0 {d : List UInt8} {w0 : World} (h45 : (d.getD 0 0).toNat ≠ 45) (hl : d.length + 0 ≤ 65536) (hfb : Ok 0 d) :
    Calls Tryd.prog 113 #[.string ⟨d.toArray⟩] w0 fun e w' => ∃ v, e = .returned (.tuple #[v, .agg #[.int .i64 0, .int .i64 0]]) ∧ ZAt w' v (sg false (numOf d)) ∧ Below w0.heap.size w0 w' := by
  have hne := hfb.ne
  have hok2 := hfb.ok
  have hdg := digits_of hok2
  have hnn : nl (numOf d) ≤ 65536 := nl_numOf (fun c hc => (hdg c hc).2) (by omega)
  have hdne := hne
  have hdl0 := hfb.1
  refine enter Tryd.func113 rfl Tryd.ntmps113 rfl ?_
  intro a henv hst
  refine wp_seq ?_
  refine region_seq ?_
  refine seq_step rfl (op_alloc (c := #[.bool (neg 0), .slice none (zl 0) 0]) henv hst rfl zero_anvil_integer_Int zcells ?_)
  clear henv hst a; intro a w2 g1 henv hst
  refine seq_step rfl (op_alloc (c := #[.int .i64 0, .int .i64 0]) henv hst rfl zero_anvil_api_Spot rfl ?_)
  clear henv hst a; intro a w4 g3 henv hst
  refine wpList_nil ?_
  refine th_n ?_
  refine wp_seq ?_
  refine wp_seq ?_
  refine region_seq ?_
  revert a
  refine mA rfl rfl ?_
  refine sA (v := .int .i64 (d.length : Nat)) rfl (fun _ henv => rn_lenS henv Tryd.underlying9 rfl) ?_
  refine sA (v := .bool (decide (((d.length : Nat) : Int) > (65536 : Int)))) rfl (fun _ henv => rn_bin henv rfl rfl rfl) ?_
  intro a henv
  rw [show (decide (((d.length : Nat) : Int) > (65536 : Int))) = false from decide_eq_false (by omega)] at henv
  refine wpList_nil ?_
  refine th_n ?_
  refine if_f henv rfl (rfl) ?_
  refine wp_skip ?_
  refine th_n ?_
  refine wp_seq ?_
  refine region_seq ?_
  refine sv (v := .int .i64 0) henv rfl (rn_assign henv rfl) ?_
  clear henv a; intro a henv
  refine wpList_nil ?_
  refine th_n ?_
  refine wp_seq ?_
  refine wp_seq ?_
  refine region_seq ?_
  revert a
  refine mA rfl rfl ?_
  refine sA (v := .bool (!decide (d = []))) rfl (fun _ henv => rn_neqs (s := d) (t := []) henv rfl rfl) ?_
  intro a henv
  rw [show (!decide (d = [])) = true from by simp [hdne]] at henv
  revert a
  refine mA rfl rfl ?_
  refine gA (v := .string ⟨d.toArray⟩) rfl rfl rfl rfl (fun _ henv => rn_move henv rfl) ?_
  refine gA (v := .int .u8 ((d.getD 0 0).toNat : Nat)) rfl rfl rfl rfl (fun _ henv => rn_idxS (i := 0) henv Tryd.underlying9 rfl rfl (by omega)) ?_
  refine gA (v := .bool ((((d.getD 0 0).toNat : Nat) : Int) == (45 : Int))) rfl rfl rfl rfl (fun _ henv => rn_bin henv rfl rfl rfl) ?_
  intro a henv
  rw [show ((((d.getD 0 0).toNat : Nat) : Int) == (45 : Int)) = false from beq_eq_false_iff_ne.2 (by omega)] at henv
  refine sv (v := .bool false) henv rfl (rn_pick henv rfl rfl) ?_
  clear henv a; intro a henv
  refine wpList_nil ?_
  refine th_n ?_
  refine if_f henv rfl (rfl) ?_
  refine wp_skip ?_
  refine th_n ?_
  refine wp_seq ?_
  refine region_seq ?_
  revert a
  refine mA rfl rfl ?_
  refine aA rfl rfl ?_
  intro a henv
  refine wpList_nil ?_
  refine th_n ?_
  refine wp_seq ?_
  refine wp_block ?_
  refine wp_loop_ghost (fun mz a w => ∃ k : Nat, d.length - k = mz ∧ Env 86 a [(0, .string ⟨d.toArray⟩), (2, .pointer (some ⟨g1, 0, none⟩)), (3, .pointer (some ⟨g3, 0, none⟩)), (4, .int .i64 (k : Nat)), (5, .int .i64 0)] ∧ St w0 w [bk g3 #[.int .i64 0, .int .i64 0] 79, bk g1 #[.bool (neg 0), .slice none (zl 0) 0] 36] [] ∧ k ≤ d.length) _ ⟨0, rfl, henv.sub ⟨rfl, rfl, rfl, rfl, rfl, trivial⟩, hst.pick [0, 1] [] (by decide), (Nat.zero_le _)⟩ ?_
  clear henv hst a
  rintro mz a w5 ⟨k, rfl, henv, hst, hk⟩
  rcases ok_split2 hfb k with ⟨hlt⟩ | ⟨hlt, h1, h2, hk0, h3⟩ | ⟨hlt, h1, h2, hk0, h3⟩ | ⟨hlt, h1, h2, hk0⟩
  · refine wp_seq ?_
    refine wp_seq ?_
    refine region_seq ?_
    revert a
    refine mA rfl rfl ?_
    refine mA rfl rfl ?_
    refine sA (v := .int .i64 (d.length : Nat)) rfl (fun _ henv => rn_lenS henv Tryd.underlying9 rfl) ?_
    refine sA (v := .bool (decide (((k : Nat) : Int) < ((d.length : Nat) : Int)))) rfl (fun _ henv => rn_bin henv rfl rfl rfl) ?_
    intro a henv
    rw [show (decide (((k : Nat) : Int) < ((d.length : Nat) : Int))) = false from decide_eq_false (by omega)] at henv
    revert a
    refine mA rfl rfl ?_
    refine kA rfl rfl rfl rfl rfl ?_
    refine kA rfl rfl rfl rfl rfl ?_
    refine kA rfl rfl rfl rfl rfl ?_
    refine kA rfl rfl rfl rfl rfl ?_
    refine sA (v := .bool false) rfl (fun _ henv => rn_pick henv rfl rfl) ?_
    refine mA rfl rfl ?_
    refine kA rfl rfl rfl rfl rfl ?_
    refine kA rfl rfl rfl rfl rfl ?_
    refine kA rfl rfl rfl rfl rfl ?_
    refine kA rfl rfl rfl rfl rfl ?_
    refine sA (v := .bool false) rfl (fun _ henv => rn_pick henv rfl rfl) ?_
    intro a henv
    refine wpList_nil ?_
    refine th_n ?_
    refine if_f henv rfl (rfl) ?_
    refine wp_exit ?_
    refine th_x (th_x (bl_x (th_n ?_)))
    refine wp_seq ?_
    refine wp_seq ?_
    refine region_seq ?_
    revert a
    refine mA rfl rfl ?_
    refine mA rfl rfl ?_
    refine sA (v := .bool (((k : Nat) : Int) == (0 : Int))) rfl (fun _ henv => rn_bin henv rfl rfl rfl) ?_
    intro a henv
    rw [show (((k : Nat) : Int) == (0 : Int)) = false from beq_eq_false_iff_ne.2 (by omega)] at henv
    revert a
    refine mA rfl rfl ?_
    refine gA (v := .int .i64 (k : Nat)) rfl rfl rfl rfl (fun _ henv => rn_move henv rfl) ?_
    refine gA (v := .string ⟨d.toArray⟩) rfl rfl rfl rfl (fun _ henv => rn_move henv rfl) ?_
    refine gA (v := .int .i64 (d.length : Nat)) rfl rfl rfl rfl (fun _ henv => rn_lenS henv Tryd.underlying9 rfl) ?_
    refine gA (v := .bool (decide (((k : Nat) : Int) < ((d.length : Nat) : Int)))) rfl rfl rfl rfl (fun _ henv => rn_bin henv rfl rfl rfl) ?_
    intro a henv
    rw [show (decide (((k : Nat) : Int) < ((d.length : Nat) : Int))) = false from decide_eq_false (by omega)] at henv
    refine sv (v := .bool false) henv rfl (rn_pick henv rfl rfl) ?_
    clear henv a; intro a henv
    refine wpList_nil ?_
    refine th_n ?_
    refine if_f henv rfl (rfl) ?_
    refine wp_skip ?_
    refine th_n ?_
    refine wp_seq ?_
    refine region_seq ?_
    revert a
    refine mA rfl rfl ?_
    refine mA rfl rfl ?_
    refine sA (v := .string ⟨d.toArray⟩) rfl (fun _ henv => rn_dropS (n := 0) henv Tryd.underlying9 rfl rfl (Nat.zero_le _)) ?_
    intro a henv
    refine seq_step rfl (op_call henv rfl Tryd.call143 rfl (read_ok (l := d) (by omega) hne hok2) ?_)
    rintro e w8 ⟨_, rfl, ⟨A6, c7, rfl, hU, hA⟩, hb⟩
    refine ⟨_, rfl, ?_⟩
    clear henv a; intro a henv
    replace hst := hst.freshU hb hU hA
    clear hU
    clear hA
    clear hb
    revert a
    refine mA rfl rfl ?_
    refine sA (v := .slice A6 (nl (numOf d)) c7) rfl (fun _ henv => rn_extract henv rfl rfl) ?_
    refine sA (v := .agg #[.int .i64 0, .int .i64 0]) rfl (fun _ henv => rn_extract henv rfl rfl) ?_
    intro a henv
    refine seq_step rfl (op_alloc (c := #[.int .i64 0, .int .i64 0]) henv hst rfl zero_anvil_api_Spot rfl ?_)
    clear henv hst a; intro a w10 g9 henv hst
    refine sv (v := .slice A6 (nl (numOf d)) c7) henv rfl (rn_assign henv rfl) ?_
    clear henv a; intro a henv
    refine seq_step rfl (op_store (k := 0) (c' := #[.int .i64 0, .int .i64 0]) henv hst (ty_anvil_api_Spot.size) rfl rfl rfl rfl (by simp) rfl rfl ?_)
    clear henv hst a; intro a w11 henv hst
    refine wpList_nil ?_
    refine th_n ?_
    refine wp_seq ?_
    refine region_seq ?_
    revert a
    refine mA rfl rfl ?_
    refine sA (v := .bool false) rfl (fun _ henv => rn_bin henv rfl rfl rfl) ?_
    refine mA rfl rfl ?_
    intro a henv
    refine seq_step rfl (op_call henv rfl Tryd.call95 rfl (made_given (b := false) (N := (numOf d)) (z := sg false (numOf d)) (show U32 _ A6 (nl (numOf d)) c7 (L (numOf d)) from hst.pat (k := 0) rfl) rfl) ?_)
    rintro e w15 ⟨_, rfl, ⟨A12, c13, rfl, hz14⟩, hb⟩
    refine ⟨_, rfl, ?_⟩
    clear henv a; intro a henv
    replace hst := (hst.call hb).addZ hz14 ⟨nou_bk rfl, nou_bk rfl, nou_bk rfl, trivial⟩
    clear hz14
    clear hb
    refine sv (v := .agg #[.int .i64 0, .int .i64 0]) henv rfl (rn_spot0) ?_
    clear henv a; intro a henv
    refine seq_step rfl (op_store (k := 2) (c' := #[.bool (neg (sg false (numOf d))), .slice A12 (zl (sg false (numOf d))) c13]) henv hst (ty_anvil_integer_Int.size) rfl rfl rfl rfl (by simp) rfl rfl ?_)
    clear henv hst a; intro a w16 henv hst
    refine seq_step rfl (op_store (k := 1) (c' := #[.int .i64 0, .int .i64 0]) henv hst (ty_anvil_api_Spot.size) rfl rfl rfl rfl (by simp) rfl rfl ?_)
    clear henv hst a; intro a w17 henv hst
    refine wpList_nil ?_
    refine th_n ?_
    refine wp_ret ?_
    refine leave henv (res2 Tryd.results113 (RV.cell henv ty_anvil_integer_Int rfl (hst.oat (k := 2) rfl) rfl) (RV.cell henv ty_anvil_api_Spot rfl (hst.oat (k := 1) rfl) rfl)) ?_
    exact ⟨_, rfl, ⟨A12, c13, rfl, hst.pat (k := 0) rfl⟩, hst.below⟩
  · refine wp_seq ?_
    refine wp_seq ?_
    refine region_seq ?_
    revert a
    refine mA rfl rfl ?_
    refine mA rfl rfl ?_
    refine sA (v := .int .i64 (d.length : Nat)) rfl (fun _ henv => rn_lenS henv Tryd.underlying9 rfl) ?_
    refine sA (v := .bool (decide (((k : Nat) : Int) < ((d.length : Nat) : Int)))) rfl (fun _ henv => rn_bin henv rfl rfl rfl) ?_
    intro a henv
    rw [show (decide (((k : Nat) : Int) < ((d.length : Nat) : Int))) = true from decide_eq_true (by omega)] at henv
    revert a
    refine mA rfl rfl ?_
    refine gA (v := .string ⟨d.toArray⟩) rfl rfl rfl rfl (fun _ henv => rn_move henv rfl) ?_
    refine gA (v := .int .i64 (k : Nat)) rfl rfl rfl rfl (fun _ henv => rn_move henv rfl) ?_
    refine gA (v := .int .u8 ((d.getD k 0).toNat : Nat)) rfl rfl rfl rfl (fun _ henv => rn_idxS (i := k) henv Tryd.underlying9 rfl rfl (by omega)) ?_
    refine gA (v := .bool (decide ((((d.getD k 0).toNat : Nat) : Int) ≥ (48 : Int)))) rfl rfl rfl rfl (fun _ henv => rn_bin henv rfl rfl rfl) ?_
    intro a henv
    rw [show (decide ((((d.getD k 0).toNat : Nat) : Int) ≥ (48 : Int))) = true from decide_eq_true (by omega)] at henv
    revert a
    refine sA (v := .bool true) rfl (fun _ henv => rn_pick henv rfl rfl) ?_
    refine mA rfl rfl ?_
    refine gA (v := .string ⟨d.toArray⟩) rfl rfl rfl rfl (fun _ henv => rn_move henv rfl) ?_
    refine gA (v := .int .i64 (k : Nat)) rfl rfl rfl rfl (fun _ henv => rn_move henv rfl) ?_
    refine gA (v := .int .u8 ((d.getD k 0).toNat : Nat)) rfl rfl rfl rfl (fun _ henv => rn_idxS (i := k) henv Tryd.underlying9 rfl rfl (by omega)) ?_
    refine gA (v := .bool (decide ((((d.getD k 0).toNat : Nat) : Int) ≤ (57 : Int)))) rfl rfl rfl rfl (fun _ henv => rn_bin henv rfl rfl rfl) ?_
    intro a henv
    rw [show (decide ((((d.getD k 0).toNat : Nat) : Int) ≤ (57 : Int))) = true from decide_eq_true (by omega)] at henv
    refine sv (v := .bool true) henv rfl (rn_pick henv rfl rfl) ?_
    clear henv a; intro a henv
    refine wpList_nil ?_
    refine th_n ?_
    refine if_t henv rfl (rfl) ?_
    refine wp_skip ?_
    refine th_n ?_
    refine wp_seq ?_
    refine wp_block ?_
    refine wp_seq ?_
    refine wp_seq ?_
    refine region_seq ?_
    revert a
    refine mA rfl rfl ?_
    refine mA rfl rfl ?_
    refine sA (v := .int .i64 1) rfl (fun _ henv => rn_bin henv rfl rfl rfl) ?_
    refine sA (v := .bool (((k : Nat) : Int) == (1 : Int))) rfl (fun _ henv => rn_bin henv rfl rfl rfl) ?_
    intro a henv
    rw [show (((k : Nat) : Int) == (1 : Int)) = false from beq_eq_false_iff_ne.2 (by omega)] at henv
    revert a
    refine mA rfl rfl ?_
    refine kA rfl rfl rfl rfl rfl ?_
    refine kA rfl rfl rfl rfl rfl ?_
    refine kA rfl rfl rfl rfl rfl ?_
    refine kA rfl rfl rfl rfl rfl ?_
    refine sA (v := .bool false) rfl (fun _ henv => rn_pick henv rfl rfl) ?_
    intro a henv
    refine wpList_nil ?_
    refine th_n ?_
    refine if_f henv rfl (rfl) ?_
    refine wp_skip ?_
    refine th_n ?_
    refine wp_seq ?_
    refine region_seq ?_
    revert a
    refine mA rfl rfl ?_
    refine mA rfl rfl ?_
    refine sA (v := .bool (((k : Nat) : Int) == (0 : Int))) rfl (fun _ henv => rn_bin henv rfl rfl rfl) ?_
    intro a henv
    rw [show (((k : Nat) : Int) == (0 : Int)) = true from beq_iff_eq.2 (by omega)] at henv
    revert a
    refine mA rfl rfl ?_
    refine gA (v := .int .i64 0) rfl rfl rfl rfl (fun _ henv => rn_move henv rfl) ?_
    refine gA (v := .bool false) rfl rfl rfl rfl (fun _ henv => rn_bin henv rfl rfl rfl) ?_
    refine sA (v := .bool false) rfl (fun _ henv => rn_pick henv rfl rfl) ?_
    refine mA rfl rfl ?_
    refine kA rfl rfl rfl rfl rfl ?_
    refine kA rfl rfl rfl rfl rfl ?_
    refine kA rfl rfl rfl rfl rfl ?_
    refine kA rfl rfl rfl rfl rfl ?_
    refine sA (v := .bool false) rfl (fun _ henv => rn_pick henv rfl rfl) ?_
    intro a henv
    refine wpList_nil ?_
    refine th_n ?_
    refine if_f henv rfl (rfl) ?_
    refine wp_skip ?_
    refine bl_n (th_n ?_)
    refine region_seq ?_
    revert a
    refine mA rfl rfl ?_
    refine sA (v := .int .i64 (k + 1 : Nat)) rfl (fun _ henv => rn_add henv rfl rfl (by rw [IntWalk.i64_in _ (by omega)]; omega)) ?_
    refine aA rfl rfl ?_
    intro a henv
    refine wpList_nil ?_
    exact th_n ⟨_, (by omega), ⟨k + 1, rfl, henv.sub ⟨rfl, rfl, rfl, rfl, rfl, trivial⟩, hst.pick [0, 1] [] (by decide), (by omega)⟩⟩
  · refine wp_seq ?_
    refine wp_seq ?_
    refine region_seq ?_
    revert a
    refine mA rfl rfl ?_
    refine mA rfl rfl ?_
    refine sA (v := .int .i64 (d.length : Nat)) rfl (fun _ henv => rn_lenS henv Tryd.underlying9 rfl) ?_
    refine sA (v := .bool (decide (((k : Nat) : Int) < ((d.length : Nat) : Int)))) rfl (fun _ henv => rn_bin henv rfl rfl rfl) ?_
    intro a henv
    rw [show (decide (((k : Nat) : Int) < ((d.length : Nat) : Int))) = true from decide_eq_true (by omega)] at henv
    revert a
    refine mA rfl rfl ?_
    refine gA (v := .string ⟨d.toArray⟩) rfl rfl rfl rfl (fun _ henv => rn_move henv rfl) ?_
    refine gA (v := .int .i64 (k : Nat)) rfl rfl rfl rfl (fun _ henv => rn_move henv rfl) ?_
    refine gA (v := .int .u8 ((d.getD k 0).toNat : Nat)) rfl rfl rfl rfl (fun _ henv => rn_idxS (i := k) henv Tryd.underlying9 rfl rfl (by omega)) ?_
    refine gA (v := .bool (decide ((((d.getD k 0).toNat : Nat) : Int) ≥ (48 : Int)))) rfl rfl rfl rfl (fun _ henv => rn_bin henv rfl rfl rfl) ?_
    intro a henv
    rw [show (decide ((((d.getD k 0).toNat : Nat) : Int) ≥ (48 : Int))) = true from decide_eq_true (by omega)] at henv
    revert a
    refine sA (v := .bool true) rfl (fun _ henv => rn_pick henv rfl rfl) ?_
    refine mA rfl rfl ?_
    refine gA (v := .string ⟨d.toArray⟩) rfl rfl rfl rfl (fun _ henv => rn_move henv rfl) ?_
    refine gA (v := .int .i64 (k : Nat)) rfl rfl rfl rfl (fun _ henv => rn_move henv rfl) ?_
    refine gA (v := .int .u8 ((d.getD k 0).toNat : Nat)) rfl rfl rfl rfl (fun _ henv => rn_idxS (i := k) henv Tryd.underlying9 rfl rfl (by omega)) ?_
    refine gA (v := .bool (decide ((((d.getD k 0).toNat : Nat) : Int) ≤ (57 : Int)))) rfl rfl rfl rfl (fun _ henv => rn_bin henv rfl rfl rfl) ?_
    intro a henv
    rw [show (decide ((((d.getD k 0).toNat : Nat) : Int) ≤ (57 : Int))) = true from decide_eq_true (by omega)] at henv
    refine sv (v := .bool true) henv rfl (rn_pick henv rfl rfl) ?_
    clear henv a; intro a henv
    refine wpList_nil ?_
    refine th_n ?_
    refine if_t henv rfl (rfl) ?_
    refine wp_skip ?_
    refine th_n ?_
    refine wp_seq ?_
    refine wp_block ?_
    refine wp_seq ?_
    refine wp_seq ?_
    refine region_seq ?_
    revert a
    refine mA rfl rfl ?_
    refine mA rfl rfl ?_
    refine sA (v := .int .i64 1) rfl (fun _ henv => rn_bin henv rfl rfl rfl) ?_
    refine sA (v := .bool (((k : Nat) : Int) == (1 : Int))) rfl (fun _ henv => rn_bin henv rfl rfl rfl) ?_
    intro a henv
    rw [show (((k : Nat) : Int) == (1 : Int)) = true from beq_iff_eq.2 (by omega)] at henv
    revert a
    refine mA rfl rfl ?_
    refine gA (v := .string ⟨d.toArray⟩) rfl rfl rfl rfl (fun _ henv => rn_move henv rfl) ?_
    refine gA (v := .int .i64 0) rfl rfl rfl rfl (fun _ henv => rn_move henv rfl) ?_
    refine gA (v := .int .u8 ((d.getD 0 0).toNat : Nat)) rfl rfl rfl rfl (fun _ henv => rn_idxS (i := 0) henv Tryd.underlying9 rfl rfl (by omega)) ?_
    refine gA (v := .bool ((((d.getD 0 0).toNat : Nat) : Int) == (48 : Int))) rfl rfl rfl rfl (fun _ henv => rn_bin henv rfl rfl rfl) ?_
    intro a henv
    rw [show ((((d.getD 0 0).toNat : Nat) : Int) == (48 : Int)) = false from beq_eq_false_iff_ne.2 (by omega)] at henv
    refine sv (v := .bool false) henv rfl (rn_pick henv rfl rfl) ?_
    clear henv a; intro a henv
    refine wpList_nil ?_
    refine th_n ?_
    refine if_f henv rfl (rfl) ?_
    refine wp_skip ?_
    refine th_n ?_
    refine wp_seq ?_
    refine region_seq ?_
    revert a
    refine mA rfl rfl ?_
    refine mA rfl rfl ?_
    refine sA (v := .bool (((k : Nat) : Int) == (0 : Int))) rfl (fun _ henv => rn_bin henv rfl rfl rfl) ?_
    intro a henv
    rw [show (((k : Nat) : Int) == (0 : Int)) = false from beq_eq_false_iff_ne.2 (by omega)] at henv
    revert a
    refine mA rfl rfl ?_
    refine kA rfl rfl rfl rfl rfl ?_
    refine kA rfl rfl rfl rfl rfl ?_
    refine sA (v := .bool false) rfl (fun _ henv => rn_pick henv rfl rfl) ?_
    refine mA rfl rfl ?_
    refine kA rfl rfl rfl rfl rfl ?_
    refine kA rfl rfl rfl rfl rfl ?_
    refine kA rfl rfl rfl rfl rfl ?_
    refine kA rfl rfl rfl rfl rfl ?_
    refine sA (v := .bool false) rfl (fun _ henv => rn_pick henv rfl rfl) ?_
    intro a henv
    refine wpList_nil ?_
    refine th_n ?_
    refine if_f henv rfl (rfl) ?_
    refine wp_skip ?_
    refine bl_n (th_n ?_)
    refine region_seq ?_
    revert a
    refine mA rfl rfl ?_
    refine sA (v := .int .i64 (k + 1 : Nat)) rfl (fun _ henv => rn_add henv rfl rfl (by rw [IntWalk.i64_in _ (by omega)]; omega)) ?_
    refine aA rfl rfl ?_
    intro a henv
    refine wpList_nil ?_
    exact th_n ⟨_, (by omega), ⟨k + 1, rfl, henv.sub ⟨rfl, rfl, rfl, rfl, rfl, trivial⟩, hst.pick [0, 1] [] (by decide), (by omega)⟩⟩
  · refine wp_seq ?_
    refine wp_seq ?_
    refine region_seq ?_
    revert a
    refine mA rfl rfl ?_
    refine mA rfl rfl ?_
    refine sA (v := .int .i64 (d.length : Nat)) rfl (fun _ henv => rn_lenS henv Tryd.underlying9 rfl) ?_
    refine sA (v := .bool (decide (((k : Nat) : Int) < ((d.length : Nat) : Int)))) rfl (fun _ henv => rn_bin henv rfl rfl rfl) ?_
    intro a henv
    rw [show (decide (((k : Nat) : Int) < ((d.length : Nat) : Int))) = true from decide_eq_true (by omega)] at henv
    revert a
    refine mA rfl rfl ?_
    refine gA (v := .string ⟨d.toArray⟩) rfl rfl rfl rfl (fun _ henv => rn_move henv rfl) ?_
    refine gA (v := .int .i64 (k : Nat)) rfl rfl rfl rfl (fun _ henv => rn_move henv rfl) ?_
    refine gA (v := .int .u8 ((d.getD k 0).toNat : Nat)) rfl rfl rfl rfl (fun _ henv => rn_idxS (i := k) henv Tryd.underlying9 rfl rfl (by omega)) ?_
    refine gA (v := .bool (decide ((((d.getD k 0).toNat : Nat) : Int) ≥ (48 : Int)))) rfl rfl rfl rfl (fun _ henv => rn_bin henv rfl rfl rfl) ?_
    intro a henv
    rw [show (decide ((((d.getD k 0).toNat : Nat) : Int) ≥ (48 : Int))) = true from decide_eq_true (by omega)] at henv
    revert a
    refine sA (v := .bool true) rfl (fun _ henv => rn_pick henv rfl rfl) ?_
    refine mA rfl rfl ?_
    refine gA (v := .string ⟨d.toArray⟩) rfl rfl rfl rfl (fun _ henv => rn_move henv rfl) ?_
    refine gA (v := .int .i64 (k : Nat)) rfl rfl rfl rfl (fun _ henv => rn_move henv rfl) ?_
    refine gA (v := .int .u8 ((d.getD k 0).toNat : Nat)) rfl rfl rfl rfl (fun _ henv => rn_idxS (i := k) henv Tryd.underlying9 rfl rfl (by omega)) ?_
    refine gA (v := .bool (decide ((((d.getD k 0).toNat : Nat) : Int) ≤ (57 : Int)))) rfl rfl rfl rfl (fun _ henv => rn_bin henv rfl rfl rfl) ?_
    intro a henv
    rw [show (decide ((((d.getD k 0).toNat : Nat) : Int) ≤ (57 : Int))) = true from decide_eq_true (by omega)] at henv
    refine sv (v := .bool true) henv rfl (rn_pick henv rfl rfl) ?_
    clear henv a; intro a henv
    refine wpList_nil ?_
    refine th_n ?_
    refine if_t henv rfl (rfl) ?_
    refine wp_skip ?_
    refine th_n ?_
    refine wp_seq ?_
    refine wp_block ?_
    refine wp_seq ?_
    refine wp_seq ?_
    refine region_seq ?_
    revert a
    refine mA rfl rfl ?_
    refine mA rfl rfl ?_
    refine sA (v := .int .i64 1) rfl (fun _ henv => rn_bin henv rfl rfl rfl) ?_
    refine sA (v := .bool (((k : Nat) : Int) == (1 : Int))) rfl (fun _ henv => rn_bin henv rfl rfl rfl) ?_
    intro a henv
    rw [show (((k : Nat) : Int) == (1 : Int)) = false from beq_eq_false_iff_ne.2 (by omega)] at henv
    revert a
    refine mA rfl rfl ?_
    refine kA rfl rfl rfl rfl rfl ?_
    refine kA rfl rfl rfl rfl rfl ?_
    refine kA rfl rfl rfl rfl rfl ?_
    refine kA rfl rfl rfl rfl rfl ?_
    refine sA (v := .bool false) rfl (fun _ henv => rn_pick henv rfl rfl) ?_
    intro a henv
    refine wpList_nil ?_
    refine th_n ?_
    refine if_f henv rfl (rfl) ?_
    refine wp_skip ?_
    refine th_n ?_
    refine wp_seq ?_
    refine region_seq ?_
    revert a
    refine mA rfl rfl ?_
    refine mA rfl rfl ?_
    refine sA (v := .bool (((k : Nat) : Int) == (0 : Int))) rfl (fun _ henv => rn_bin henv rfl rfl rfl) ?_
    intro a henv
    rw [show (((k : Nat) : Int) == (0 : Int)) = false from beq_eq_false_iff_ne.2 (by omega)] at henv
    revert a
    refine mA rfl rfl ?_
    refine kA rfl rfl rfl rfl rfl ?_
    refine kA rfl rfl rfl rfl rfl ?_
    refine sA (v := .bool false) rfl (fun _ henv => rn_pick henv rfl rfl) ?_
    refine mA rfl rfl ?_
    refine kA rfl rfl rfl rfl rfl ?_
    refine kA rfl rfl rfl rfl rfl ?_
    refine kA rfl rfl rfl rfl rfl ?_
    refine kA rfl rfl rfl rfl rfl ?_
    refine sA (v := .bool false) rfl (fun _ henv => rn_pick henv rfl rfl) ?_
    intro a henv
    refine wpList_nil ?_
    refine th_n ?_
    refine if_f henv rfl (rfl) ?_
    refine wp_skip ?_
    refine bl_n (th_n ?_)
    refine region_seq ?_
    revert a
    refine mA rfl rfl ?_
    refine sA (v := .int .i64 (k + 1 : Nat)) rfl (fun _ henv => rn_add henv rfl rfl (by rw [IntWalk.i64_in _ (by omega)]; omega)) ?_
    refine aA rfl rfl ?_
    intro a henv
    refine wpList_nil ?_
    exact th_n ⟨_, (by omega), ⟨k + 1, rfl, henv.sub ⟨rfl, rfl, rfl, rfl, rfl, trivial⟩, hst.pick [0, 1] [] (by decide), (by omega)⟩⟩
set_option maxRecDepth 100000 in
set_option maxHeartbeats 4000000 in
theorem iread_bad1 {d : List UInt8} {b : Nat} {w0 : World} (hl : d.length + 1 ≤ 65536) (hfb : Fb 1 d b) :
    Calls Tryd.prog 113 #[.string ⟨(45 :: d).toArray⟩] w0 fun e w' => e = .returned (.tuple #[.agg #[.bool (neg 0), .slice none (zl 0) 0], .agg #[.int .i64 6, .int .i64 (b + 1 : Nat)]]) ∧ Below w0.heap.size w0 w' := by
  have hlen1 : (45 :: d).length = d.length + 1 := rfl
  refine enter Tryd.func113 rfl Tryd.ntmps113 rfl ?_
  intro a henv hst
  refine wp_seq ?_
  refine region_seq ?_
  refine seq_step rfl (op_alloc (c := #[.bool (neg 0), .slice none (zl 0) 0]) henv hst rfl zero_anvil_integer_Int zcells ?_)
  clear henv hst a; intro a w2 g1 henv hst
  refine seq_step rfl (op_alloc (c := #[.int .i64 0, .int .i64 0]) henv hst rfl zero_anvil_api_Spot rfl ?_)
  clear henv hst a; intro a w4 g3 henv hst
  refine wpList_nil ?_
  refine th_n ?_
  refine wp_seq ?_
  refine wp_seq ?_
  refine region_seq ?_
  revert a
  refine mA rfl rfl ?_
  refine sA (v := .int .i64 ((45 :: d).length : Nat)) rfl (fun _ henv => rn_lenS henv Tryd.underlying9 rfl) ?_
  intro a henv
  rw [List.length_cons] at henv
  refine sv (v := .bool (decide (((d.length + 1 : Nat) : Int) > (65536 : Int)))) henv rfl (rn_bin henv rfl rfl rfl) ?_
  clear henv a; intro a henv
  rw [show (decide (((d.length + 1 : Nat) : Int) > (65536 : Int))) = false from decide_eq_false (by omega)] at henv
  refine wpList_nil ?_
  refine th_n ?_
  refine if_f henv rfl (rfl) ?_
  refine wp_skip ?_
  refine th_n ?_
  refine wp_seq ?_
  refine region_seq ?_
  refine sv (v := .int .i64 0) henv rfl (rn_assign henv rfl) ?_
  clear henv a; intro a henv
  refine wpList_nil ?_
  refine th_n ?_
  refine wp_seq ?_
  refine wp_seq ?_
  refine region_seq ?_
  revert a
  refine mA rfl rfl ?_
  refine sA (v := .bool (!decide ((45 :: d) = []))) rfl (fun _ henv => rn_neqs (s := (45 :: d)) (t := []) henv rfl rfl) ?_
  intro a henv
  rw [show (!decide ((45 :: d) = [])) = true from rfl] at henv
  revert a
  refine mA rfl rfl ?_
  refine gA (v := .string ⟨(45 :: d).toArray⟩) rfl rfl rfl rfl (fun _ henv => rn_move henv rfl) ?_
  refine gA (v := .int .u8 (((45 :: d).getD 0 0).toNat : Nat)) rfl rfl rfl rfl (fun _ henv => rn_idxS (i := 0) henv Tryd.underlying9 rfl rfl (by omega)) ?_
  intro a henv
  rw [List.getD_cons_zero] at henv
  refine seq_g rfl henv rfl rfl (op_val (v := .bool ((((45 : UInt8).toNat : Nat) : Int) == (45 : Int))) henv rfl (rn_bin henv rfl rfl rfl) ?_)
  clear henv a; intro a henv
  rw [show ((((45 : UInt8).toNat : Nat) : Int) == (45 : Int)) = true from rfl] at henv
  refine sv (v := .bool true) henv rfl (rn_pick henv rfl rfl) ?_
  clear henv a; intro a henv
  refine wpList_nil ?_
  refine th_n ?_
  refine if_t henv rfl (rfl) ?_
  refine region_seq ?_
  refine sv (v := .int .i64 1) henv rfl (rn_assign henv rfl) ?_
  clear henv a; intro a henv
  refine wpList_nil ?_
  refine th_n ?_
  refine wp_seq ?_
  refine region_seq ?_
  revert a
  refine mA rfl rfl ?_
  refine aA rfl rfl ?_
  intro a henv
  refine wpList_nil ?_
  refine th_n ?_
  refine wp_seq ?_
  refine wp_block ?_
  refine wp_loop_ghost (fun mz a w => ∃ k : Nat, d.length - k = mz ∧ Env 86 a [(0, .string ⟨(45 :: d).toArray⟩), (2, .pointer (some ⟨g1, 0, none⟩)), (3, .pointer (some ⟨g3, 0, none⟩)), (4, .int .i64 (k + 1 : Nat)), (5, .int .i64 1)] ∧ St w0 w [bk g3 #[.int .i64 0, .int .i64 0] 79, bk g1 #[.bool (neg 0), .slice none (zl 0) 0] 36] [] ∧ k ≤ b) _ ⟨0, rfl, henv.sub ⟨rfl, rfl, rfl, rfl, rfl, trivial⟩, hst.pick [0, 1] [] (by decide), (Nat.zero_le _)⟩ ?_
  clear henv hst a
  rintro mz a w5 ⟨k, rfl, henv, hst, hk⟩
  rcases bad_split2 hfb hk with ⟨hlt, h1, h2, hk0, h3, hkb⟩ | ⟨hlt, h1, h2, hk0, h3, hkb⟩ | ⟨hlt, h1, h2, hk0, hkb⟩ | ⟨hkb, hlt, hk0⟩ | ⟨hkb, hlt, h1, hk0⟩ | ⟨hkb, hlt, h1, hk0⟩ | ⟨hkb, hlt, h1, hk0⟩ | ⟨hkb, hlt, h1, hk0⟩ | ⟨hkb, hlt, h1, h2, hk0, h3⟩ | ⟨hkb, hlt, h1, h2, hk0, hf, h3⟩
  · refine wp_seq ?_
    refine wp_seq ?_
    refine region_seq ?_
    revert a
    refine mA rfl rfl ?_
    refine mA rfl rfl ?_
    refine sA (v := .int .i64 ((45 :: d).length : Nat)) rfl (fun _ henv => rn_lenS henv Tryd.underlying9 rfl) ?_
    intro a henv
    rw [List.length_cons] at henv
    refine sv (v := .bool (decide (((k + 1 : Nat) : Int) < ((d.length + 1 : Nat) : Int)))) henv rfl (rn_bin henv rfl rfl rfl) ?_
    clear henv a; intro a henv
    rw [show (decide (((k + 1 : Nat) : Int) < ((d.length + 1 : Nat) : Int))) = true from decide_eq_true (by omega)] at henv
    revert a
    refine mA rfl rfl ?_
    refine gA (v := .string ⟨(45 :: d).toArray⟩) rfl rfl rfl rfl (fun _ henv => rn_move henv rfl) ?_
    refine gA (v := .int .i64 (k + 1 : Nat)) rfl rfl rfl rfl (fun _ henv => rn_move henv rfl) ?_
    refine gA (v := .int .u8 (((45 :: d).getD (k + 1) 0).toNat : Nat)) rfl rfl rfl rfl (fun _ henv => rn_idxS (i := k + 1) henv Tryd.underlying9 rfl rfl (by omega)) ?_
    intro a henv
    rw [List.getD_cons_succ] at henv
    refine seq_g rfl henv rfl rfl (op_val (v := .bool (decide ((((d.getD k 0).toNat : Nat) : Int) ≥ (48 : Int)))) henv rfl (rn_bin henv rfl rfl rfl) ?_)
    clear henv a; intro a henv
    rw [show (decide ((((d.getD k 0).toNat : Nat) : Int) ≥ (48 : Int))) = true from decide_eq_true (by omega)] at henv
    revert a
    refine sA (v := .bool true) rfl (fun _ henv => rn_pick henv rfl rfl) ?_
    refine mA rfl rfl ?_
    refine gA (v := .string ⟨(45 :: d).toArray⟩) rfl rfl rfl rfl (fun _ henv => rn_move henv rfl) ?_
    refine gA (v := .int .i64 (k + 1 : Nat)) rfl rfl rfl rfl (fun _ henv => rn_move henv rfl) ?_
    refine gA (v := .int .u8 (((45 :: d).getD (k + 1) 0).toNat : Nat)) rfl rfl rfl rfl (fun _ henv => rn_idxS (i := k + 1) henv Tryd.underlying9 rfl rfl (by omega)) ?_
    intro a henv
    rw [List.getD_cons_succ] at henv
    refine seq_g rfl henv rfl rfl (op_val (v := .bool (decide ((((d.getD k 0).toNat : Nat) : Int) ≤ (57 : Int)))) henv rfl (rn_bin henv rfl rfl rfl) ?_)
    clear henv a; intro a henv
    rw [show (decide ((((d.getD k 0).toNat : Nat) : Int) ≤ (57 : Int))) = true from decide_eq_true (by omega)] at henv
    refine sv (v := .bool true) henv rfl (rn_pick henv rfl rfl) ?_
    clear henv a; intro a henv
    refine wpList_nil ?_
    refine th_n ?_
    refine if_t henv rfl (rfl) ?_
    refine wp_skip ?_
    refine th_n ?_
    refine wp_seq ?_
    refine wp_block ?_
    refine wp_seq ?_
    refine wp_seq ?_
    refine region_seq ?_
    revert a
    refine mA rfl rfl ?_
    refine mA rfl rfl ?_
    refine sA (v := .int .i64 2) rfl (fun _ henv => rn_bin henv rfl rfl rfl) ?_
    refine sA (v := .bool (((k + 1 : Nat) : Int) == (2 : Int))) rfl (fun _ henv => rn_bin henv rfl rfl rfl) ?_
    intro a henv
    rw [show (((k + 1 : Nat) : Int) == (2 : Int)) = false from beq_eq_false_iff_ne.2 (by omega)] at henv
    revert a
    refine mA rfl rfl ?_
    refine kA rfl rfl rfl rfl rfl ?_
    refine kA rfl rfl rfl rfl rfl ?_
    refine kA rfl rfl rfl rfl rfl ?_
    refine kA rfl rfl rfl rfl rfl ?_
    refine sA (v := .bool false) rfl (fun _ henv => rn_pick henv rfl rfl) ?_
    intro a henv
    refine wpList_nil ?_
    refine th_n ?_
    refine if_f henv rfl (rfl) ?_
    refine wp_skip ?_
    refine th_n ?_
    refine wp_seq ?_
    refine region_seq ?_
    revert a
    refine mA rfl rfl ?_
    refine mA rfl rfl ?_
    refine sA (v := .bool (((k + 1 : Nat) : Int) == (1 : Int))) rfl (fun _ henv => rn_bin henv rfl rfl rfl) ?_
    intro a henv
    rw [show (((k + 1 : Nat) : Int) == (1 : Int)) = true from beq_iff_eq.2 (by omega)] at henv
    revert a
    refine mA rfl rfl ?_
    refine gA (v := .int .i64 1) rfl rfl rfl rfl (fun _ henv => rn_move henv rfl) ?_
    refine gA (v := .bool true) rfl rfl rfl rfl (fun _ henv => rn_bin henv rfl rfl rfl) ?_
    refine sA (v := .bool true) rfl (fun _ henv => rn_pick henv rfl rfl) ?_
    refine mA rfl rfl ?_
    refine gA (v := .string ⟨(45 :: d).toArray⟩) rfl rfl rfl rfl (fun _ henv => rn_move henv rfl) ?_
    refine gA (v := .int .i64 (k + 1 : Nat)) rfl rfl rfl rfl (fun _ henv => rn_move henv rfl) ?_
    refine gA (v := .int .u8 (((45 :: d).getD (k + 1) 0).toNat : Nat)) rfl rfl rfl rfl (fun _ henv => rn_idxS (i := k + 1) henv Tryd.underlying9 rfl rfl (by omega)) ?_
    intro a henv
    rw [List.getD_cons_succ] at henv
    refine seq_g rfl henv rfl rfl (op_val (v := .bool ((((d.getD k 0).toNat : Nat) : Int) == (48 : Int))) henv rfl (rn_bin henv rfl rfl rfl) ?_)
    clear henv a; intro a henv
    rw [show ((((d.getD k 0).toNat : Nat) : Int) == (48 : Int)) = false from beq_eq_false_iff_ne.2 (by subst hk0; omega)] at henv
    refine sv (v := .bool false) henv rfl (rn_pick henv rfl rfl) ?_
    clear henv a; intro a henv
    refine wpList_nil ?_
    refine th_n ?_
    refine if_f henv rfl (rfl) ?_
    refine wp_skip ?_
    refine bl_n (th_n ?_)
    refine region_seq ?_
    revert a
    refine mA rfl rfl ?_
    refine sA (v := .int .i64 ((k + 1) + 1 : Nat)) rfl (fun _ henv => rn_add henv rfl rfl (by rw [IntWalk.i64_in _ (by omega)]; omega)) ?_
    refine aA rfl rfl ?_
    intro a henv
    refine wpList_nil ?_
    exact th_n ⟨_, (by omega), ⟨k + 1, rfl, henv.sub ⟨rfl, rfl, rfl, rfl, rfl, trivial⟩, hst.pick [0, 1] [] (by decide), (by omega)⟩⟩
  · refine wp_seq ?_
    refine wp_seq ?_
    refine region_seq ?_
    revert a
    refine mA rfl rfl ?_
    refine mA rfl rfl ?_
    refine sA (v := .int .i64 ((45 :: d).length : Nat)) rfl (fun _ henv => rn_lenS henv Tryd.underlying9 rfl) ?_
    intro a henv
    rw [List.length_cons] at henv
    refine sv (v := .bool (decide (((k + 1 : Nat) : Int) < ((d.length + 1 : Nat) : Int)))) henv rfl (rn_bin henv rfl rfl rfl) ?_
    clear henv a; intro a henv
    rw [show (decide (((k + 1 : Nat) : Int) < ((d.length + 1 : Nat) : Int))) = true from decide_eq_true (by omega)] at henv
    revert a
    refine mA rfl rfl ?_
    refine gA (v := .string ⟨(45 :: d).toArray⟩) rfl rfl rfl rfl (fun _ henv => rn_move henv rfl) ?_
    refine gA (v := .int .i64 (k + 1 : Nat)) rfl rfl rfl rfl (fun _ henv => rn_move henv rfl) ?_
    refine gA (v := .int .u8 (((45 :: d).getD (k + 1) 0).toNat : Nat)) rfl rfl rfl rfl (fun _ henv => rn_idxS (i := k + 1) henv Tryd.underlying9 rfl rfl (by omega)) ?_
    intro a henv
    rw [List.getD_cons_succ] at henv
    refine seq_g rfl henv rfl rfl (op_val (v := .bool (decide ((((d.getD k 0).toNat : Nat) : Int) ≥ (48 : Int)))) henv rfl (rn_bin henv rfl rfl rfl) ?_)
    clear henv a; intro a henv
    rw [show (decide ((((d.getD k 0).toNat : Nat) : Int) ≥ (48 : Int))) = true from decide_eq_true (by omega)] at henv
    revert a
    refine sA (v := .bool true) rfl (fun _ henv => rn_pick henv rfl rfl) ?_
    refine mA rfl rfl ?_
    refine gA (v := .string ⟨(45 :: d).toArray⟩) rfl rfl rfl rfl (fun _ henv => rn_move henv rfl) ?_
    refine gA (v := .int .i64 (k + 1 : Nat)) rfl rfl rfl rfl (fun _ henv => rn_move henv rfl) ?_
    refine gA (v := .int .u8 (((45 :: d).getD (k + 1) 0).toNat : Nat)) rfl rfl rfl rfl (fun _ henv => rn_idxS (i := k + 1) henv Tryd.underlying9 rfl rfl (by omega)) ?_
    intro a henv
    rw [List.getD_cons_succ] at henv
    refine seq_g rfl henv rfl rfl (op_val (v := .bool (decide ((((d.getD k 0).toNat : Nat) : Int) ≤ (57 : Int)))) henv rfl (rn_bin henv rfl rfl rfl) ?_)
    clear henv a; intro a henv
    rw [show (decide ((((d.getD k 0).toNat : Nat) : Int) ≤ (57 : Int))) = true from decide_eq_true (by omega)] at henv
    refine sv (v := .bool true) henv rfl (rn_pick henv rfl rfl) ?_
    clear henv a; intro a henv
    refine wpList_nil ?_
    refine th_n ?_
    refine if_t henv rfl (rfl) ?_
    refine wp_skip ?_
    refine th_n ?_
    refine wp_seq ?_
    refine wp_block ?_
    refine wp_seq ?_
    refine wp_seq ?_
    refine region_seq ?_
    revert a
    refine mA rfl rfl ?_
    refine mA rfl rfl ?_
    refine sA (v := .int .i64 2) rfl (fun _ henv => rn_bin henv rfl rfl rfl) ?_
    refine sA (v := .bool (((k + 1 : Nat) : Int) == (2 : Int))) rfl (fun _ henv => rn_bin henv rfl rfl rfl) ?_
    intro a henv
    rw [show (((k + 1 : Nat) : Int) == (2 : Int)) = true from beq_iff_eq.2 (by omega)] at henv
    revert a
    refine mA rfl rfl ?_
    refine gA (v := .string ⟨(45 :: d).toArray⟩) rfl rfl rfl rfl (fun _ henv => rn_move henv rfl) ?_
    refine gA (v := .int .i64 1) rfl rfl rfl rfl (fun _ henv => rn_move henv rfl) ?_
    refine gA (v := .int .u8 (((45 :: d).getD 1 0).toNat : Nat)) rfl rfl rfl rfl (fun _ henv => rn_idxS (i := 1) henv Tryd.underlying9 rfl rfl (by omega)) ?_
    intro a henv
    rw [show (45 :: d).getD 1 0 = d.getD 0 0 from rfl] at henv
    refine seq_g rfl henv rfl rfl (op_val (v := .bool ((((d.getD 0 0).toNat : Nat) : Int) == (48 : Int))) henv rfl (rn_bin henv rfl rfl rfl) ?_)
    clear henv a; intro a henv
    rw [show ((((d.getD 0 0).toNat : Nat) : Int) == (48 : Int)) = false from beq_eq_false_iff_ne.2 (by omega)] at henv
    refine sv (v := .bool false) henv rfl (rn_pick henv rfl rfl) ?_
    clear henv a; intro a henv
    refine wpList_nil ?_
    refine th_n ?_
    refine if_f henv rfl (rfl) ?_
    refine wp_skip ?_
    refine th_n ?_
    refine wp_seq ?_
    refine region_seq ?_
    revert a
    refine mA rfl rfl ?_
    refine mA rfl rfl ?_
    refine sA (v := .bool (((k + 1 : Nat) : Int) == (1 : Int))) rfl (fun _ henv => rn_bin henv rfl rfl rfl) ?_
    intro a henv
    rw [show (((k + 1 : Nat) : Int) == (1 : Int)) = false from beq_eq_false_iff_ne.2 (by omega)] at henv
    revert a
    refine mA rfl rfl ?_
    refine kA rfl rfl rfl rfl rfl ?_
    refine kA rfl rfl rfl rfl rfl ?_
    refine sA (v := .bool false) rfl (fun _ henv => rn_pick henv rfl rfl) ?_
    refine mA rfl rfl ?_
    refine kA rfl rfl rfl rfl rfl ?_
    refine kA rfl rfl rfl rfl rfl ?_
    refine kA rfl rfl rfl rfl rfl ?_
    refine kA rfl rfl rfl rfl rfl ?_
    refine sA (v := .bool false) rfl (fun _ henv => rn_pick henv rfl rfl) ?_
    intro a henv
    refine wpList_nil ?_
    refine th_n ?_
    refine if_f henv rfl (rfl) ?_
    refine wp_skip ?_
    refine bl_n (th_n ?_)
    refine region_seq ?_
    revert a
    refine mA rfl rfl ?_
    refine sA (v := .int .i64 ((k + 1) + 1 : Nat)) rfl (fun _ henv => rn_add henv rfl rfl (by rw [IntWalk.i64_in _ (by omega)]; omega)) ?_
    refine aA rfl rfl ?_
    intro a henv
    refine wpList_nil ?_
    exact th_n ⟨_, (by omega), ⟨k + 1, rfl, henv.sub ⟨rfl, rfl, rfl, rfl, rfl, trivial⟩, hst.pick [0, 1] [] (by decide), (by omega)⟩⟩
  · refine wp_seq ?_
    refine wp_seq ?_
    refine region_seq ?_
    revert a
    refine mA rfl rfl ?_
    refine mA rfl rfl ?_
    refine sA (v := .int .i64 ((45 :: d).length : Nat)) rfl (fun _ henv => rn_lenS henv Tryd.underlying9 rfl) ?_
    intro a henv
    rw [List.length_cons] at henv
    refine sv (v := .bool (decide (((k + 1 : Nat) : Int) < ((d.length + 1 : Nat) : Int)))) henv rfl (rn_bin henv rfl rfl rfl) ?_
    clear henv a; intro a henv
    rw [show (decide (((k + 1 : Nat) : Int) < ((d.length + 1 : Nat) : Int))) = true from decide_eq_true (by omega)] at henv
    revert a
    refine mA rfl rfl ?_
    refine gA (v := .string ⟨(45 :: d).toArray⟩) rfl rfl rfl rfl (fun _ henv => rn_move henv rfl) ?_
    refine gA (v := .int .i64 (k + 1 : Nat)) rfl rfl rfl rfl (fun _ henv => rn_move henv rfl) ?_
    refine gA (v := .int .u8 (((45 :: d).getD (k + 1) 0).toNat : Nat)) rfl rfl rfl rfl (fun _ henv => rn_idxS (i := k + 1) henv Tryd.underlying9 rfl rfl (by omega)) ?_
    intro a henv
    rw [List.getD_cons_succ] at henv
    refine seq_g rfl henv rfl rfl (op_val (v := .bool (decide ((((d.getD k 0).toNat : Nat) : Int) ≥ (48 : Int)))) henv rfl (rn_bin henv rfl rfl rfl) ?_)
    clear henv a; intro a henv
    rw [show (decide ((((d.getD k 0).toNat : Nat) : Int) ≥ (48 : Int))) = true from decide_eq_true (by omega)] at henv
    revert a
    refine sA (v := .bool true) rfl (fun _ henv => rn_pick henv rfl rfl) ?_
    refine mA rfl rfl ?_
    refine gA (v := .string ⟨(45 :: d).toArray⟩) rfl rfl rfl rfl (fun _ henv => rn_move henv rfl) ?_
    refine gA (v := .int .i64 (k + 1 : Nat)) rfl rfl rfl rfl (fun _ henv => rn_move henv rfl) ?_
    refine gA (v := .int .u8 (((45 :: d).getD (k + 1) 0).toNat : Nat)) rfl rfl rfl rfl (fun _ henv => rn_idxS (i := k + 1) henv Tryd.underlying9 rfl rfl (by omega)) ?_
    intro a henv
    rw [List.getD_cons_succ] at henv
    refine seq_g rfl henv rfl rfl (op_val (v := .bool (decide ((((d.getD k 0).toNat : Nat) : Int) ≤ (57 : Int)))) henv rfl (rn_bin henv rfl rfl rfl) ?_)
    clear henv a; intro a henv
    rw [show (decide ((((d.getD k 0).toNat : Nat) : Int) ≤ (57 : Int))) = true from decide_eq_true (by omega)] at henv
    refine sv (v := .bool true) henv rfl (rn_pick henv rfl rfl) ?_
    clear henv a; intro a henv
    refine wpList_nil ?_
    refine th_n ?_
    refine if_t henv rfl (rfl) ?_
    refine wp_skip ?_
    refine th_n ?_
    refine wp_seq ?_
    refine wp_block ?_
    refine wp_seq ?_
    refine wp_seq ?_
    refine region_seq ?_
    revert a
    refine mA rfl rfl ?_
    refine mA rfl rfl ?_
    refine sA (v := .int .i64 2) rfl (fun _ henv => rn_bin henv rfl rfl rfl) ?_
    refine sA (v := .bool (((k + 1 : Nat) : Int) == (2 : Int))) rfl (fun _ henv => rn_bin henv rfl rfl rfl) ?_
    intro a henv
    rw [show (((k + 1 : Nat) : Int) == (2 : Int)) = false from beq_eq_false_iff_ne.2 (by omega)] at henv
    revert a
    refine mA rfl rfl ?_
    refine kA rfl rfl rfl rfl rfl ?_
    refine kA rfl rfl rfl rfl rfl ?_
    refine kA rfl rfl rfl rfl rfl ?_
    refine kA rfl rfl rfl rfl rfl ?_
    refine sA (v := .bool false) rfl (fun _ henv => rn_pick henv rfl rfl) ?_
    intro a henv
    refine wpList_nil ?_
    refine th_n ?_
    refine if_f henv rfl (rfl) ?_
    refine wp_skip ?_
    refine th_n ?_
    refine wp_seq ?_
    refine region_seq ?_
    revert a
    refine mA rfl rfl ?_
    refine mA rfl rfl ?_
    refine sA (v := .bool (((k + 1 : Nat) : Int) == (1 : Int))) rfl (fun _ henv => rn_bin henv rfl rfl rfl) ?_
    intro a henv
    rw [show (((k + 1 : Nat) : Int) == (1 : Int)) = false from beq_eq_false_iff_ne.2 (by omega)] at henv
    revert a
    refine mA rfl rfl ?_
    refine kA rfl rfl rfl rfl rfl ?_
    refine kA rfl rfl rfl rfl rfl ?_
    refine sA (v := .bool false) rfl (fun _ henv => rn_pick henv rfl rfl) ?_
    refine mA rfl rfl ?_
    refine kA rfl rfl rfl rfl rfl ?_
    refine kA rfl rfl rfl rfl rfl ?_
    refine kA rfl rfl rfl rfl rfl ?_
    refine kA rfl rfl rfl rfl rfl ?_
    refine sA (v := .bool false) rfl (fun _ henv => rn_pick henv rfl rfl) ?_
    intro a henv
    refine wpList_nil ?_
    refine th_n ?_
    refine if_f henv rfl (rfl) ?_
    refine wp_skip ?_
    refine bl_n (th_n ?_)
    refine region_seq ?_
    revert a
    refine mA rfl rfl ?_
    refine sA (v := .int .i64 ((k + 1) + 1 : Nat)) rfl (fun _ henv => rn_add henv rfl rfl (by rw [IntWalk.i64_in _ (by omega)]; omega)) ?_
    refine aA rfl rfl ?_
    intro a henv
    refine wpList_nil ?_
    exact th_n ⟨_, (by omega), ⟨k + 1, rfl, henv.sub ⟨rfl, rfl, rfl, rfl, rfl, trivial⟩, hst.pick [0, 1] [] (by decide), (by omega)⟩⟩
  · refine wp_seq ?_
    refine wp_seq ?_
    refine region_seq ?_
    revert a
    refine mA rfl rfl ?_
    refine mA rfl rfl ?_
    refine sA (v := .int .i64 ((45 :: d).length : Nat)) rfl (fun _ henv => rn_lenS henv Tryd.underlying9 rfl) ?_
    intro a henv
    rw [List.length_cons] at henv
    refine sv (v := .bool (decide (((k + 1 : Nat) : Int) < ((d.length + 1 : Nat) : Int)))) henv rfl (rn_bin henv rfl rfl rfl) ?_
    clear henv a; intro a henv
    rw [show (decide (((k + 1 : Nat) : Int) < ((d.length + 1 : Nat) : Int))) = false from decide_eq_false (by omega)] at henv
    revert a
    refine mA rfl rfl ?_
    refine kA rfl rfl rfl rfl rfl ?_
    refine kA rfl rfl rfl rfl rfl ?_
    refine kA rfl rfl rfl rfl rfl ?_
    refine kA rfl rfl rfl rfl rfl ?_
    refine sA (v := .bool false) rfl (fun _ henv => rn_pick henv rfl rfl) ?_
    refine mA rfl rfl ?_
    refine kA rfl rfl rfl rfl rfl ?_
    refine kA rfl rfl rfl rfl rfl ?_
    refine kA rfl rfl rfl rfl rfl ?_
    refine kA rfl rfl rfl rfl rfl ?_
    refine sA (v := .bool false) rfl (fun _ henv => rn_pick henv rfl rfl) ?_
    intro a henv
    refine wpList_nil ?_
    refine th_n ?_
    refine if_f henv rfl (rfl) ?_
    refine wp_exit ?_
    refine th_x (th_x (bl_x (th_n ?_)))
    refine wp_seq ?_
    refine wp_seq ?_
    refine region_seq ?_
    revert a
    refine mA rfl rfl ?_
    refine mA rfl rfl ?_
    refine sA (v := .bool (((k + 1 : Nat) : Int) == (1 : Int))) rfl (fun _ henv => rn_bin henv rfl rfl rfl) ?_
    intro a henv
    rw [show (((k + 1 : Nat) : Int) == (1 : Int)) = true from beq_iff_eq.2 (by omega)] at henv
    revert a
    refine mA rfl rfl ?_
    refine kA rfl rfl rfl rfl rfl ?_
    refine kA rfl rfl rfl rfl rfl ?_
    refine kA rfl rfl rfl rfl rfl ?_
    refine kA rfl rfl rfl rfl rfl ?_
    refine sA (v := .bool true) rfl (fun _ henv => rn_pick henv rfl rfl) ?_
    intro a henv
    refine wpList_nil ?_
    refine th_n ?_
    refine if_t henv rfl (rfl) ?_
    refine wp_seq ?_
    refine region_seq ?_
    revert a
    refine sA (v := .agg #[.bool (neg 0), .slice none (zl 0) 0]) rfl (fun _ henv => rn_zint Tryd.underlying36 zero_anvil_integer_Int (by intro f hf; simp at hf; rcases hf with rfl | rfl <;> exact ⟨_, rfl⟩)) ?_
    refine mA rfl rfl ?_
    refine sA (v := .agg #[.int .i64 6, .int .i64 (k + 1 : Nat)]) rfl (fun _ henv => rn_spot2 henv rfl rfl) ?_
    intro a henv
    refine seq_step rfl (op_store (k := 1) (c' := #[.bool (neg 0), .slice none (zl 0) 0]) henv hst (ty_anvil_integer_Int.size) rfl rfl rfl rfl (by simp) rfl rfl ?_)
    clear henv hst a; intro a w6 henv hst
    refine seq_step rfl (op_store (k := 0) (c' := #[.int .i64 6, .int .i64 (k + 1 : Nat)]) henv hst (ty_anvil_api_Spot.size) rfl rfl rfl rfl (by simp) rfl rfl ?_)
    clear henv hst a; intro a w7 henv hst
    refine wpList_nil ?_
    refine th_n ?_
    refine wp_ret ?_
    refine th_r ?_
    refine leave henv (res2 Tryd.results113 (RV.cell henv ty_anvil_integer_Int rfl (hst.oat (k := 1) rfl) rfl) (RV.cell henv ty_anvil_api_Spot rfl (hst.oat (k := 0) rfl) rfl)) ?_
    subst hkb
    exact ⟨rfl, hst.below⟩
  · refine wp_seq ?_
    refine wp_seq ?_
    refine region_seq ?_
    revert a
    refine mA rfl rfl ?_
    refine mA rfl rfl ?_
    refine sA (v := .int .i64 ((45 :: d).length : Nat)) rfl (fun _ henv => rn_lenS henv Tryd.underlying9 rfl) ?_
    intro a henv
    rw [List.length_cons] at henv
    refine sv (v := .bool (decide (((k + 1 : Nat) : Int) < ((d.length + 1 : Nat) : Int)))) henv rfl (rn_bin henv rfl rfl rfl) ?_
    clear henv a; intro a henv
    rw [show (decide (((k + 1 : Nat) : Int) < ((d.length + 1 : Nat) : Int))) = true from decide_eq_true (by omega)] at henv
    revert a
    refine mA rfl rfl ?_
    refine gA (v := .string ⟨(45 :: d).toArray⟩) rfl rfl rfl rfl (fun _ henv => rn_move henv rfl) ?_
    refine gA (v := .int .i64 (k + 1 : Nat)) rfl rfl rfl rfl (fun _ henv => rn_move henv rfl) ?_
    refine gA (v := .int .u8 (((45 :: d).getD (k + 1) 0).toNat : Nat)) rfl rfl rfl rfl (fun _ henv => rn_idxS (i := k + 1) henv Tryd.underlying9 rfl rfl (by omega)) ?_
    intro a henv
    rw [List.getD_cons_succ] at henv
    refine seq_g rfl henv rfl rfl (op_val (v := .bool (decide ((((d.getD k 0).toNat : Nat) : Int) ≥ (48 : Int)))) henv rfl (rn_bin henv rfl rfl rfl) ?_)
    clear henv a; intro a henv
    rw [show (decide ((((d.getD k 0).toNat : Nat) : Int) ≥ (48 : Int))) = false from decide_eq_false (by omega)] at henv
    revert a
    refine sA (v := .bool false) rfl (fun _ henv => rn_pick henv rfl rfl) ?_
    refine mA rfl rfl ?_
    refine kA rfl rfl rfl rfl rfl ?_
    refine kA rfl rfl rfl rfl rfl ?_
    refine kA rfl rfl rfl rfl rfl ?_
    refine kA rfl rfl rfl rfl rfl ?_
    refine sA (v := .bool false) rfl (fun _ henv => rn_pick henv rfl rfl) ?_
    intro a henv
    refine wpList_nil ?_
    refine th_n ?_
    refine if_f henv rfl (rfl) ?_
    refine wp_exit ?_
    refine th_x (th_x (bl_x (th_n ?_)))
    refine wp_seq ?_
    refine wp_seq ?_
    refine region_seq ?_
    revert a
    refine mA rfl rfl ?_
    refine mA rfl rfl ?_
    refine sA (v := .bool (((k + 1 : Nat) : Int) == (1 : Int))) rfl (fun _ henv => rn_bin henv rfl rfl rfl) ?_
    intro a henv
    rw [show (((k + 1 : Nat) : Int) == (1 : Int)) = true from beq_iff_eq.2 (by omega)] at henv
    revert a
    refine mA rfl rfl ?_
    refine kA rfl rfl rfl rfl rfl ?_
    refine kA rfl rfl rfl rfl rfl ?_
    refine kA rfl rfl rfl rfl rfl ?_
    refine kA rfl rfl rfl rfl rfl ?_
    refine sA (v := .bool true) rfl (fun _ henv => rn_pick henv rfl rfl) ?_
    intro a henv
    refine wpList_nil ?_
    refine th_n ?_
    refine if_t henv rfl (rfl) ?_
    refine wp_seq ?_
    refine region_seq ?_
    revert a
    refine sA (v := .agg #[.bool (neg 0), .slice none (zl 0) 0]) rfl (fun _ henv => rn_zint Tryd.underlying36 zero_anvil_integer_Int (by intro f hf; simp at hf; rcases hf with rfl | rfl <;> exact ⟨_, rfl⟩)) ?_
    refine mA rfl rfl ?_
    refine sA (v := .agg #[.int .i64 6, .int .i64 (k + 1 : Nat)]) rfl (fun _ henv => rn_spot2 henv rfl rfl) ?_
    intro a henv
    refine seq_step rfl (op_store (k := 1) (c' := #[.bool (neg 0), .slice none (zl 0) 0]) henv hst (ty_anvil_integer_Int.size) rfl rfl rfl rfl (by simp) rfl rfl ?_)
    clear henv hst a; intro a w8 henv hst
    refine seq_step rfl (op_store (k := 0) (c' := #[.int .i64 6, .int .i64 (k + 1 : Nat)]) henv hst (ty_anvil_api_Spot.size) rfl rfl rfl rfl (by simp) rfl rfl ?_)
    clear henv hst a; intro a w9 henv hst
    refine wpList_nil ?_
    refine th_n ?_
    refine wp_ret ?_
    refine th_r ?_
    refine leave henv (res2 Tryd.results113 (RV.cell henv ty_anvil_integer_Int rfl (hst.oat (k := 1) rfl) rfl) (RV.cell henv ty_anvil_api_Spot rfl (hst.oat (k := 0) rfl) rfl)) ?_
    subst hkb
    exact ⟨rfl, hst.below⟩
  · refine wp_seq ?_
    refine wp_seq ?_
    refine region_seq ?_
    revert a
    refine mA rfl rfl ?_
    refine mA rfl rfl ?_
    refine sA (v := .int .i64 ((45 :: d).length : Nat)) rfl (fun _ henv => rn_lenS henv Tryd.underlying9 rfl) ?_
    intro a henv
    rw [List.length_cons] at henv
    refine sv (v := .bool (decide (((k + 1 : Nat) : Int) < ((d.length + 1 : Nat) : Int)))) henv rfl (rn_bin henv rfl rfl rfl) ?_
    clear henv a; intro a henv
    rw [show (decide (((k + 1 : Nat) : Int) < ((d.length + 1 : Nat) : Int))) = true from decide_eq_true (by omega)] at henv
    revert a
    refine mA rfl rfl ?_
    refine gA (v := .string ⟨(45 :: d).toArray⟩) rfl rfl rfl rfl (fun _ henv => rn_move henv rfl) ?_
    refine gA (v := .int .i64 (k + 1 : Nat)) rfl rfl rfl rfl (fun _ henv => rn_move henv rfl) ?_
    refine gA (v := .int .u8 (((45 :: d).getD (k + 1) 0).toNat : Nat)) rfl rfl rfl rfl (fun _ henv => rn_idxS (i := k + 1) henv Tryd.underlying9 rfl rfl (by omega)) ?_
    intro a henv
    rw [List.getD_cons_succ] at henv
    refine seq_g rfl henv rfl rfl (op_val (v := .bool (decide ((((d.getD k 0).toNat : Nat) : Int) ≥ (48 : Int)))) henv rfl (rn_bin henv rfl rfl rfl) ?_)
    clear henv a; intro a henv
    rw [show (decide ((((d.getD k 0).toNat : Nat) : Int) ≥ (48 : Int))) = false from decide_eq_false (by omega)] at henv
    revert a
    refine sA (v := .bool false) rfl (fun _ henv => rn_pick henv rfl rfl) ?_
    refine mA rfl rfl ?_
    refine kA rfl rfl rfl rfl rfl ?_
    refine kA rfl rfl rfl rfl rfl ?_
    refine kA rfl rfl rfl rfl rfl ?_
    refine kA rfl rfl rfl rfl rfl ?_
    refine sA (v := .bool false) rfl (fun _ henv => rn_pick henv rfl rfl) ?_
    intro a henv
    refine wpList_nil ?_
    refine th_n ?_
    refine if_f henv rfl (rfl) ?_
    refine wp_exit ?_
    refine th_x (th_x (bl_x (th_n ?_)))
    refine wp_seq ?_
    refine wp_seq ?_
    refine region_seq ?_
    revert a
    refine mA rfl rfl ?_
    refine mA rfl rfl ?_
    refine sA (v := .bool (((k + 1 : Nat) : Int) == (1 : Int))) rfl (fun _ henv => rn_bin henv rfl rfl rfl) ?_
    intro a henv
    rw [show (((k + 1 : Nat) : Int) == (1 : Int)) = false from beq_eq_false_iff_ne.2 (by omega)] at henv
    revert a
    refine mA rfl rfl ?_
    refine gA (v := .int .i64 (k + 1 : Nat)) rfl rfl rfl rfl (fun _ henv => rn_move henv rfl) ?_
    refine gA (v := .string ⟨(45 :: d).toArray⟩) rfl rfl rfl rfl (fun _ henv => rn_move henv rfl) ?_
    refine gA (v := .int .i64 ((45 :: d).length : Nat)) rfl rfl rfl rfl (fun _ henv => rn_lenS henv Tryd.underlying9 rfl) ?_
    intro a henv
    rw [List.length_cons] at henv
    refine seq_g rfl henv rfl rfl (op_val (v := .bool (decide (((k + 1 : Nat) : Int) < ((d.length + 1 : Nat) : Int)))) henv rfl (rn_bin henv rfl rfl rfl) ?_)
    clear henv a; intro a henv
    rw [show (decide (((k + 1 : Nat) : Int) < ((d.length + 1 : Nat) : Int))) = true from decide_eq_true (by omega)] at henv
    refine sv (v := .bool true) henv rfl (rn_pick henv rfl rfl) ?_
    clear henv a; intro a henv
    refine wpList_nil ?_
    refine th_n ?_
    refine if_t henv rfl (rfl) ?_
    refine wp_seq ?_
    refine region_seq ?_
    revert a
    refine sA (v := .agg #[.bool (neg 0), .slice none (zl 0) 0]) rfl (fun _ henv => rn_zint Tryd.underlying36 zero_anvil_integer_Int (by intro f hf; simp at hf; rcases hf with rfl | rfl <;> exact ⟨_, rfl⟩)) ?_
    refine mA rfl rfl ?_
    refine sA (v := .agg #[.int .i64 6, .int .i64 (k + 1 : Nat)]) rfl (fun _ henv => rn_spot2 henv rfl rfl) ?_
    intro a henv
    refine seq_step rfl (op_store (k := 1) (c' := #[.bool (neg 0), .slice none (zl 0) 0]) henv hst (ty_anvil_integer_Int.size) rfl rfl rfl rfl (by simp) rfl rfl ?_)
    clear henv hst a; intro a w10 henv hst
    refine seq_step rfl (op_store (k := 0) (c' := #[.int .i64 6, .int .i64 (k + 1 : Nat)]) henv hst (ty_anvil_api_Spot.size) rfl rfl rfl rfl (by simp) rfl rfl ?_)
    clear henv hst a; intro a w11 henv hst
    refine wpList_nil ?_
    refine th_n ?_
    refine wp_ret ?_
    refine th_r ?_
    refine leave henv (res2 Tryd.results113 (RV.cell henv ty_anvil_integer_Int rfl (hst.oat (k := 1) rfl) rfl) (RV.cell henv ty_anvil_api_Spot rfl (hst.oat (k := 0) rfl) rfl)) ?_
    subst hkb
    exact ⟨rfl, hst.below⟩
  · refine wp_seq ?_
    refine wp_seq ?_
    refine region_seq ?_
    revert a
    refine mA rfl rfl ?_
    refine mA rfl rfl ?_
    refine sA (v := .int .i64 ((45 :: d).length : Nat)) rfl (fun _ henv => rn_lenS henv Tryd.underlying9 rfl) ?_
    intro a henv
    rw [List.length_cons] at henv
    refine sv (v := .bool (decide (((k + 1 : Nat) : Int) < ((d.length + 1 : Nat) : Int)))) henv rfl (rn_bin henv rfl rfl rfl) ?_
    clear henv a; intro a henv
    rw [show (decide (((k + 1 : Nat) : Int) < ((d.length + 1 : Nat) : Int))) = true from decide_eq_true (by omega)] at henv
    revert a
    refine mA rfl rfl ?_
    refine gA (v := .string ⟨(45 :: d).toArray⟩) rfl rfl rfl rfl (fun _ henv => rn_move henv rfl) ?_
    refine gA (v := .int .i64 (k + 1 : Nat)) rfl rfl rfl rfl (fun _ henv => rn_move henv rfl) ?_
    refine gA (v := .int .u8 (((45 :: d).getD (k + 1) 0).toNat : Nat)) rfl rfl rfl rfl (fun _ henv => rn_idxS (i := k + 1) henv Tryd.underlying9 rfl rfl (by omega)) ?_
    intro a henv
    rw [List.getD_cons_succ] at henv
    refine seq_g rfl henv rfl rfl (op_val (v := .bool (decide ((((d.getD k 0).toNat : Nat) : Int) ≥ (48 : Int)))) henv rfl (rn_bin henv rfl rfl rfl) ?_)
    clear henv a; intro a henv
    rw [show (decide ((((d.getD k 0).toNat : Nat) : Int) ≥ (48 : Int))) = true from decide_eq_true (by omega)] at henv
    revert a
    refine sA (v := .bool true) rfl (fun _ henv => rn_pick henv rfl rfl) ?_
    refine mA rfl rfl ?_
    refine gA (v := .string ⟨(45 :: d).toArray⟩) rfl rfl rfl rfl (fun _ henv => rn_move henv rfl) ?_
    refine gA (v := .int .i64 (k + 1 : Nat)) rfl rfl rfl rfl (fun _ henv => rn_move henv rfl) ?_
    refine gA (v := .int .u8 (((45 :: d).getD (k + 1) 0).toNat : Nat)) rfl rfl rfl rfl (fun _ henv => rn_idxS (i := k + 1) henv Tryd.underlying9 rfl rfl (by omega)) ?_
    intro a henv
    rw [List.getD_cons_succ] at henv
    refine seq_g rfl henv rfl rfl (op_val (v := .bool (decide ((((d.getD k 0).toNat : Nat) : Int) ≤ (57 : Int)))) henv rfl (rn_bin henv rfl rfl rfl) ?_)
    clear henv a; intro a henv
    rw [show (decide ((((d.getD k 0).toNat : Nat) : Int) ≤ (57 : Int))) = false from decide_eq_false (by omega)] at henv
    refine sv (v := .bool false) henv rfl (rn_pick henv rfl rfl) ?_
    clear henv a; intro a henv
    refine wpList_nil ?_
    refine th_n ?_
    refine if_f henv rfl (rfl) ?_
    refine wp_exit ?_
    refine th_x (th_x (bl_x (th_n ?_)))
    refine wp_seq ?_
    refine wp_seq ?_
    refine region_seq ?_
    revert a
    refine mA rfl rfl ?_
    refine mA rfl rfl ?_
    refine sA (v := .bool (((k + 1 : Nat) : Int) == (1 : Int))) rfl (fun _ henv => rn_bin henv rfl rfl rfl) ?_
    intro a henv
    rw [show (((k + 1 : Nat) : Int) == (1 : Int)) = true from beq_iff_eq.2 (by omega)] at henv
    revert a
    refine mA rfl rfl ?_
    refine kA rfl rfl rfl rfl rfl ?_
    refine kA rfl rfl rfl rfl rfl ?_
    refine kA rfl rfl rfl rfl rfl ?_
    refine kA rfl rfl rfl rfl rfl ?_
    refine sA (v := .bool true) rfl (fun _ henv => rn_pick henv rfl rfl) ?_
    intro a henv
    refine wpList_nil ?_
    refine th_n ?_
    refine if_t henv rfl (rfl) ?_
    refine wp_seq ?_
    refine region_seq ?_
    revert a
    refine sA (v := .agg #[.bool (neg 0), .slice none (zl 0) 0]) rfl (fun _ henv => rn_zint Tryd.underlying36 zero_anvil_integer_Int (by intro f hf; simp at hf; rcases hf with rfl | rfl <;> exact ⟨_, rfl⟩)) ?_
    refine mA rfl rfl ?_
    refine sA (v := .agg #[.int .i64 6, .int .i64 (k + 1 : Nat)]) rfl (fun _ henv => rn_spot2 henv rfl rfl) ?_
    intro a henv
    refine seq_step rfl (op_store (k := 1) (c' := #[.bool (neg 0), .slice none (zl 0) 0]) henv hst (ty_anvil_integer_Int.size) rfl rfl rfl rfl (by simp) rfl rfl ?_)
    clear henv hst a; intro a w12 henv hst
    refine seq_step rfl (op_store (k := 0) (c' := #[.int .i64 6, .int .i64 (k + 1 : Nat)]) henv hst (ty_anvil_api_Spot.size) rfl rfl rfl rfl (by simp) rfl rfl ?_)
    clear henv hst a; intro a w13 henv hst
    refine wpList_nil ?_
    refine th_n ?_
    refine wp_ret ?_
    refine th_r ?_
    refine leave henv (res2 Tryd.results113 (RV.cell henv ty_anvil_integer_Int rfl (hst.oat (k := 1) rfl) rfl) (RV.cell henv ty_anvil_api_Spot rfl (hst.oat (k := 0) rfl) rfl)) ?_
    subst hkb
    exact ⟨rfl, hst.below⟩
  · refine wp_seq ?_
    refine wp_seq ?_
    refine region_seq ?_
    revert a
    refine mA rfl rfl ?_
    refine mA rfl rfl ?_
    refine sA (v := .int .i64 ((45 :: d).length : Nat)) rfl (fun _ henv => rn_lenS henv Tryd.underlying9 rfl) ?_
    intro a henv
    rw [List.length_cons] at henv
    refine sv (v := .bool (decide (((k + 1 : Nat) : Int) < ((d.length + 1 : Nat) : Int)))) henv rfl (rn_bin henv rfl rfl rfl) ?_
    clear henv a; intro a henv
    rw [show (decide (((k + 1 : Nat) : Int) < ((d.length + 1 : Nat) : Int))) = true from decide_eq_true (by omega)] at henv
    revert a
    refine mA rfl rfl ?_
    refine gA (v := .string ⟨(45 :: d).toArray⟩) rfl rfl rfl rfl (fun _ henv => rn_move henv rfl) ?_
    refine gA (v := .int .i64 (k + 1 : Nat)) rfl rfl rfl rfl (fun _ henv => rn_move henv rfl) ?_
    refine gA (v := .int .u8 (((45 :: d).getD (k + 1) 0).toNat : Nat)) rfl rfl rfl rfl (fun _ henv => rn_idxS (i := k + 1) henv Tryd.underlying9 rfl rfl (by omega)) ?_
    intro a henv
    rw [List.getD_cons_succ] at henv
    refine seq_g rfl henv rfl rfl (op_val (v := .bool (decide ((((d.getD k 0).toNat : Nat) : Int) ≥ (48 : Int)))) henv rfl (rn_bin henv rfl rfl rfl) ?_)
    clear henv a; intro a henv
    rw [show (decide ((((d.getD k 0).toNat : Nat) : Int) ≥ (48 : Int))) = true from decide_eq_true (by omega)] at henv
    revert a
    refine sA (v := .bool true) rfl (fun _ henv => rn_pick henv rfl rfl) ?_
    refine mA rfl rfl ?_
    refine gA (v := .string ⟨(45 :: d).toArray⟩) rfl rfl rfl rfl (fun _ henv => rn_move henv rfl) ?_
    refine gA (v := .int .i64 (k + 1 : Nat)) rfl rfl rfl rfl (fun _ henv => rn_move henv rfl) ?_
    refine gA (v := .int .u8 (((45 :: d).getD (k + 1) 0).toNat : Nat)) rfl rfl rfl rfl (fun _ henv => rn_idxS (i := k + 1) henv Tryd.underlying9 rfl rfl (by omega)) ?_
    intro a henv
    rw [List.getD_cons_succ] at henv
    refine seq_g rfl henv rfl rfl (op_val (v := .bool (decide ((((d.getD k 0).toNat : Nat) : Int) ≤ (57 : Int)))) henv rfl (rn_bin henv rfl rfl rfl) ?_)
    clear henv a; intro a henv
    rw [show (decide ((((d.getD k 0).toNat : Nat) : Int) ≤ (57 : Int))) = false from decide_eq_false (by omega)] at henv
    refine sv (v := .bool false) henv rfl (rn_pick henv rfl rfl) ?_
    clear henv a; intro a henv
    refine wpList_nil ?_
    refine th_n ?_
    refine if_f henv rfl (rfl) ?_
    refine wp_exit ?_
    refine th_x (th_x (bl_x (th_n ?_)))
    refine wp_seq ?_
    refine wp_seq ?_
    refine region_seq ?_
    revert a
    refine mA rfl rfl ?_
    refine mA rfl rfl ?_
    refine sA (v := .bool (((k + 1 : Nat) : Int) == (1 : Int))) rfl (fun _ henv => rn_bin henv rfl rfl rfl) ?_
    intro a henv
    rw [show (((k + 1 : Nat) : Int) == (1 : Int)) = false from beq_eq_false_iff_ne.2 (by omega)] at henv
    revert a
    refine mA rfl rfl ?_
    refine gA (v := .int .i64 (k + 1 : Nat)) rfl rfl rfl rfl (fun _ henv => rn_move henv rfl) ?_
    refine gA (v := .string ⟨(45 :: d).toArray⟩) rfl rfl rfl rfl (fun _ henv => rn_move henv rfl) ?_
    refine gA (v := .int .i64 ((45 :: d).length : Nat)) rfl rfl rfl rfl (fun _ henv => rn_lenS henv Tryd.underlying9 rfl) ?_
    intro a henv
    rw [List.length_cons] at henv
    refine seq_g rfl henv rfl rfl (op_val (v := .bool (decide (((k + 1 : Nat) : Int) < ((d.length + 1 : Nat) : Int)))) henv rfl (rn_bin henv rfl rfl rfl) ?_)
    clear henv a; intro a henv
    rw [show (decide (((k + 1 : Nat) : Int) < ((d.length + 1 : Nat) : Int))) = true from decide_eq_true (by omega)] at henv
    refine sv (v := .bool true) henv rfl (rn_pick henv rfl rfl) ?_
    clear henv a; intro a henv
    refine wpList_nil ?_
    refine th_n ?_
    refine if_t henv rfl (rfl) ?_
    refine wp_seq ?_
    refine region_seq ?_
    revert a
    refine sA (v := .agg #[.bool (neg 0), .slice none (zl 0) 0]) rfl (fun _ henv => rn_zint Tryd.underlying36 zero_anvil_integer_Int (by intro f hf; simp at hf; rcases hf with rfl | rfl <;> exact ⟨_, rfl⟩)) ?_
    refine mA rfl rfl ?_
    refine sA (v := .agg #[.int .i64 6, .int .i64 (k + 1 : Nat)]) rfl (fun _ henv => rn_spot2 henv rfl rfl) ?_
    intro a henv
    refine seq_step rfl (op_store (k := 1) (c' := #[.bool (neg 0), .slice none (zl 0) 0]) henv hst (ty_anvil_integer_Int.size) rfl rfl rfl rfl (by simp) rfl rfl ?_)
    clear henv hst a; intro a w14 henv hst
    refine seq_step rfl (op_store (k := 0) (c' := #[.int .i64 6, .int .i64 (k + 1 : Nat)]) henv hst (ty_anvil_api_Spot.size) rfl rfl rfl rfl (by simp) rfl rfl ?_)
    clear henv hst a; intro a w15 henv hst
    refine wpList_nil ?_
    refine th_n ?_
    refine wp_ret ?_
    refine th_r ?_
    refine leave henv (res2 Tryd.results113 (RV.cell henv ty_anvil_integer_Int rfl (hst.oat (k := 1) rfl) rfl) (RV.cell henv ty_anvil_api_Spot rfl (hst.oat (k := 0) rfl) rfl)) ?_
    subst hkb
    exact ⟨rfl, hst.below⟩
  · refine wp_seq ?_
    refine wp_seq ?_
    refine region_seq ?_
    revert a
    refine mA rfl rfl ?_
    refine mA rfl rfl ?_
    refine sA (v := .int .i64 ((45 :: d).length : Nat)) rfl (fun _ henv => rn_lenS henv Tryd.underlying9 rfl) ?_
    intro a henv
    rw [List.length_cons] at henv
    refine sv (v := .bool (decide (((k + 1 : Nat) : Int) < ((d.length + 1 : Nat) : Int)))) henv rfl (rn_bin henv rfl rfl rfl) ?_
    clear henv a; intro a henv
    rw [show (decide (((k + 1 : Nat) : Int) < ((d.length + 1 : Nat) : Int))) = true from decide_eq_true (by omega)] at henv
    revert a
    refine mA rfl rfl ?_
    refine gA (v := .string ⟨(45 :: d).toArray⟩) rfl rfl rfl rfl (fun _ henv => rn_move henv rfl) ?_
    refine gA (v := .int .i64 (k + 1 : Nat)) rfl rfl rfl rfl (fun _ henv => rn_move henv rfl) ?_
    refine gA (v := .int .u8 (((45 :: d).getD (k + 1) 0).toNat : Nat)) rfl rfl rfl rfl (fun _ henv => rn_idxS (i := k + 1) henv Tryd.underlying9 rfl rfl (by omega)) ?_
    intro a henv
    rw [List.getD_cons_succ] at henv
    refine seq_g rfl henv rfl rfl (op_val (v := .bool (decide ((((d.getD k 0).toNat : Nat) : Int) ≥ (48 : Int)))) henv rfl (rn_bin henv rfl rfl rfl) ?_)
    clear henv a; intro a henv
    rw [show (decide ((((d.getD k 0).toNat : Nat) : Int) ≥ (48 : Int))) = true from decide_eq_true (by omega)] at henv
    revert a
    refine sA (v := .bool true) rfl (fun _ henv => rn_pick henv rfl rfl) ?_
    refine mA rfl rfl ?_
    refine gA (v := .string ⟨(45 :: d).toArray⟩) rfl rfl rfl rfl (fun _ henv => rn_move henv rfl) ?_
    refine gA (v := .int .i64 (k + 1 : Nat)) rfl rfl rfl rfl (fun _ henv => rn_move henv rfl) ?_
    refine gA (v := .int .u8 (((45 :: d).getD (k + 1) 0).toNat : Nat)) rfl rfl rfl rfl (fun _ henv => rn_idxS (i := k + 1) henv Tryd.underlying9 rfl rfl (by omega)) ?_
    intro a henv
    rw [List.getD_cons_succ] at henv
    refine seq_g rfl henv rfl rfl (op_val (v := .bool (decide ((((d.getD k 0).toNat : Nat) : Int) ≤ (57 : Int)))) henv rfl (rn_bin henv rfl rfl rfl) ?_)
    clear henv a; intro a henv
    rw [show (decide ((((d.getD k 0).toNat : Nat) : Int) ≤ (57 : Int))) = true from decide_eq_true (by omega)] at henv
    refine sv (v := .bool true) henv rfl (rn_pick henv rfl rfl) ?_
    clear henv a; intro a henv
    refine wpList_nil ?_
    refine th_n ?_
    refine if_t henv rfl (rfl) ?_
    refine wp_skip ?_
    refine th_n ?_
    refine wp_seq ?_
    refine wp_block ?_
    refine wp_seq ?_
    refine wp_seq ?_
    refine region_seq ?_
    revert a
    refine mA rfl rfl ?_
    refine mA rfl rfl ?_
    refine sA (v := .int .i64 2) rfl (fun _ henv => rn_bin henv rfl rfl rfl) ?_
    refine sA (v := .bool (((k + 1 : Nat) : Int) == (2 : Int))) rfl (fun _ henv => rn_bin henv rfl rfl rfl) ?_
    intro a henv
    rw [show (((k + 1 : Nat) : Int) == (2 : Int)) = true from beq_iff_eq.2 (by omega)] at henv
    revert a
    refine mA rfl rfl ?_
    refine gA (v := .string ⟨(45 :: d).toArray⟩) rfl rfl rfl rfl (fun _ henv => rn_move henv rfl) ?_
    refine gA (v := .int .i64 1) rfl rfl rfl rfl (fun _ henv => rn_move henv rfl) ?_
    refine gA (v := .int .u8 (((45 :: d).getD 1 0).toNat : Nat)) rfl rfl rfl rfl (fun _ henv => rn_idxS (i := 1) henv Tryd.underlying9 rfl rfl (by omega)) ?_
    intro a henv
    rw [show (45 :: d).getD 1 0 = d.getD 0 0 from rfl] at henv
    refine seq_g rfl henv rfl rfl (op_val (v := .bool ((((d.getD 0 0).toNat : Nat) : Int) == (48 : Int))) henv rfl (rn_bin henv rfl rfl rfl) ?_)
    clear henv a; intro a henv
    rw [show ((((d.getD 0 0).toNat : Nat) : Int) == (48 : Int)) = true from beq_iff_eq.2 (by omega)] at henv
    refine sv (v := .bool true) henv rfl (rn_pick henv rfl rfl) ?_
    clear henv a; intro a henv
    refine wpList_nil ?_
    refine th_n ?_
    refine if_t henv rfl (rfl) ?_
    refine wp_exit ?_
    refine th_x (bl_o rfl (th_x (th_x (bl_x (th_n ?_)))))
    refine wp_seq ?_
    refine wp_seq ?_
    refine region_seq ?_
    revert a
    refine mA rfl rfl ?_
    refine mA rfl rfl ?_
    refine sA (v := .bool (((k + 1 : Nat) : Int) == (1 : Int))) rfl (fun _ henv => rn_bin henv rfl rfl rfl) ?_
    intro a henv
    rw [show (((k + 1 : Nat) : Int) == (1 : Int)) = false from beq_eq_false_iff_ne.2 (by omega)] at henv
    revert a
    refine mA rfl rfl ?_
    refine gA (v := .int .i64 (k + 1 : Nat)) rfl rfl rfl rfl (fun _ henv => rn_move henv rfl) ?_
    refine gA (v := .string ⟨(45 :: d).toArray⟩) rfl rfl rfl rfl (fun _ henv => rn_move henv rfl) ?_
    refine gA (v := .int .i64 ((45 :: d).length : Nat)) rfl rfl rfl rfl (fun _ henv => rn_lenS henv Tryd.underlying9 rfl) ?_
    intro a henv
    rw [List.length_cons] at henv
    refine seq_g rfl henv rfl rfl (op_val (v := .bool (decide (((k + 1 : Nat) : Int) < ((d.length + 1 : Nat) : Int)))) henv rfl (rn_bin henv rfl rfl rfl) ?_)
    clear henv a; intro a henv
    rw [show (decide (((k + 1 : Nat) : Int) < ((d.length + 1 : Nat) : Int))) = true from decide_eq_true (by omega)] at henv
    refine sv (v := .bool true) henv rfl (rn_pick henv rfl rfl) ?_
    clear henv a; intro a henv
    refine wpList_nil ?_
    refine th_n ?_
    refine if_t henv rfl (rfl) ?_
    refine wp_seq ?_
    refine region_seq ?_
    revert a
    refine sA (v := .agg #[.bool (neg 0), .slice none (zl 0) 0]) rfl (fun _ henv => rn_zint Tryd.underlying36 zero_anvil_integer_Int (by intro f hf; simp at hf; rcases hf with rfl | rfl <;> exact ⟨_, rfl⟩)) ?_
    refine mA rfl rfl ?_
    refine sA (v := .agg #[.int .i64 6, .int .i64 (k + 1 : Nat)]) rfl (fun _ henv => rn_spot2 henv rfl rfl) ?_
    intro a henv
    refine seq_step rfl (op_store (k := 1) (c' := #[.bool (neg 0), .slice none (zl 0) 0]) henv hst (ty_anvil_integer_Int.size) rfl rfl rfl rfl (by simp) rfl rfl ?_)
    clear henv hst a; intro a w16 henv hst
    refine seq_step rfl (op_store (k := 0) (c' := #[.int .i64 6, .int .i64 (k + 1 : Nat)]) henv hst (ty_anvil_api_Spot.size) rfl rfl rfl rfl (by simp) rfl rfl ?_)
    clear henv hst a; intro a w17 henv hst
    refine wpList_nil ?_
    refine th_n ?_
    refine wp_ret ?_
    refine th_r ?_
    refine leave henv (res2 Tryd.results113 (RV.cell henv ty_anvil_integer_Int rfl (hst.oat (k := 1) rfl) rfl) (RV.cell henv ty_anvil_api_Spot rfl (hst.oat (k := 0) rfl) rfl)) ?_
    subst hkb
    exact ⟨rfl, hst.below⟩
  · refine wp_seq ?_
    refine wp_seq ?_
    refine region_seq ?_
    revert a
    refine mA rfl rfl ?_
    refine mA rfl rfl ?_
    refine sA (v := .int .i64 ((45 :: d).length : Nat)) rfl (fun _ henv => rn_lenS henv Tryd.underlying9 rfl) ?_
    intro a henv
    rw [List.length_cons] at henv
    refine sv (v := .bool (decide (((k + 1 : Nat) : Int) < ((d.length + 1 : Nat) : Int)))) henv rfl (rn_bin henv rfl rfl rfl) ?_
    clear henv a; intro a henv
    rw [show (decide (((k + 1 : Nat) : Int) < ((d.length + 1 : Nat) : Int))) = true from decide_eq_true (by omega)] at henv
    revert a
    refine mA rfl rfl ?_
    refine gA (v := .string ⟨(45 :: d).toArray⟩) rfl rfl rfl rfl (fun _ henv => rn_move henv rfl) ?_
    refine gA (v := .int .i64 (k + 1 : Nat)) rfl rfl rfl rfl (fun _ henv => rn_move henv rfl) ?_
    refine gA (v := .int .u8 (((45 :: d).getD (k + 1) 0).toNat : Nat)) rfl rfl rfl rfl (fun _ henv => rn_idxS (i := k + 1) henv Tryd.underlying9 rfl rfl (by omega)) ?_
    intro a henv
    rw [List.getD_cons_succ] at henv
    refine seq_g rfl henv rfl rfl (op_val (v := .bool (decide ((((d.getD k 0).toNat : Nat) : Int) ≥ (48 : Int)))) henv rfl (rn_bin henv rfl rfl rfl) ?_)
    clear henv a; intro a henv
    rw [show (decide ((((d.getD k 0).toNat : Nat) : Int) ≥ (48 : Int))) = true from decide_eq_true (by omega)] at henv
    revert a
    refine sA (v := .bool true) rfl (fun _ henv => rn_pick henv rfl rfl) ?_
    refine mA rfl rfl ?_
    refine gA (v := .string ⟨(45 :: d).toArray⟩) rfl rfl rfl rfl (fun _ henv => rn_move henv rfl) ?_
    refine gA (v := .int .i64 (k + 1 : Nat)) rfl rfl rfl rfl (fun _ henv => rn_move henv rfl) ?_
    refine gA (v := .int .u8 (((45 :: d).getD (k + 1) 0).toNat : Nat)) rfl rfl rfl rfl (fun _ henv => rn_idxS (i := k + 1) henv Tryd.underlying9 rfl rfl (by omega)) ?_
    intro a henv
    rw [List.getD_cons_succ] at henv
    refine seq_g rfl henv rfl rfl (op_val (v := .bool (decide ((((d.getD k 0).toNat : Nat) : Int) ≤ (57 : Int)))) henv rfl (rn_bin henv rfl rfl rfl) ?_)
    clear henv a; intro a henv
    rw [show (decide ((((d.getD k 0).toNat : Nat) : Int) ≤ (57 : Int))) = true from decide_eq_true (by omega)] at henv
    refine sv (v := .bool true) henv rfl (rn_pick henv rfl rfl) ?_
    clear henv a; intro a henv
    refine wpList_nil ?_
    refine th_n ?_
    refine if_t henv rfl (rfl) ?_
    refine wp_skip ?_
    refine th_n ?_
    refine wp_seq ?_
    refine wp_block ?_
    refine wp_seq ?_
    refine wp_seq ?_
    refine region_seq ?_
    revert a
    refine mA rfl rfl ?_
    refine mA rfl rfl ?_
    refine sA (v := .int .i64 2) rfl (fun _ henv => rn_bin henv rfl rfl rfl) ?_
    refine sA (v := .bool (((k + 1 : Nat) : Int) == (2 : Int))) rfl (fun _ henv => rn_bin henv rfl rfl rfl) ?_
    intro a henv
    rw [show (((k + 1 : Nat) : Int) == (2 : Int)) = false from beq_eq_false_iff_ne.2 (by omega)] at henv
    revert a
    refine mA rfl rfl ?_
    refine kA rfl rfl rfl rfl rfl ?_
    refine kA rfl rfl rfl rfl rfl ?_
    refine kA rfl rfl rfl rfl rfl ?_
    refine kA rfl rfl rfl rfl rfl ?_
    refine sA (v := .bool false) rfl (fun _ henv => rn_pick henv rfl rfl) ?_
    intro a henv
    refine wpList_nil ?_
    refine th_n ?_
    refine if_f henv rfl (rfl) ?_
    refine wp_skip ?_
    refine th_n ?_
    refine wp_seq ?_
    refine region_seq ?_
    revert a
    refine mA rfl rfl ?_
    refine mA rfl rfl ?_
    refine sA (v := .bool (((k + 1 : Nat) : Int) == (1 : Int))) rfl (fun _ henv => rn_bin henv rfl rfl rfl) ?_
    intro a henv
    rw [show (((k + 1 : Nat) : Int) == (1 : Int)) = true from beq_iff_eq.2 (by omega)] at henv
    revert a
    refine mA rfl rfl ?_
    refine gA (v := .int .i64 1) rfl rfl rfl rfl (fun _ henv => rn_move henv rfl) ?_
    refine gA (v := .bool true) rfl rfl rfl rfl (fun _ henv => rn_bin henv rfl rfl rfl) ?_
    refine sA (v := .bool true) rfl (fun _ henv => rn_pick henv rfl rfl) ?_
    refine mA rfl rfl ?_
    refine gA (v := .string ⟨(45 :: d).toArray⟩) rfl rfl rfl rfl (fun _ henv => rn_move henv rfl) ?_
    refine gA (v := .int .i64 (k + 1 : Nat)) rfl rfl rfl rfl (fun _ henv => rn_move henv rfl) ?_
    refine gA (v := .int .u8 (((45 :: d).getD (k + 1) 0).toNat : Nat)) rfl rfl rfl rfl (fun _ henv => rn_idxS (i := k + 1) henv Tryd.underlying9 rfl rfl (by omega)) ?_
    intro a henv
    rw [List.getD_cons_succ] at henv
    refine seq_g rfl henv rfl rfl (op_val (v := .bool ((((d.getD k 0).toNat : Nat) : Int) == (48 : Int))) henv rfl (rn_bin henv rfl rfl rfl) ?_)
    clear henv a; intro a henv
    rw [show ((((d.getD k 0).toNat : Nat) : Int) == (48 : Int)) = true from beq_iff_eq.2 (by subst hk0; omega)] at henv
    refine sv (v := .bool true) henv rfl (rn_pick henv rfl rfl) ?_
    clear henv a; intro a henv
    refine wpList_nil ?_
    refine th_n ?_
    refine if_t henv rfl (rfl) ?_
    refine wp_exit ?_
    refine bl_o rfl (th_x (th_x (bl_x (th_n ?_))))
    refine wp_seq ?_
    refine wp_seq ?_
    refine region_seq ?_
    revert a
    refine mA rfl rfl ?_
    refine mA rfl rfl ?_
    refine sA (v := .bool (((k + 1 : Nat) : Int) == (1 : Int))) rfl (fun _ henv => rn_bin henv rfl rfl rfl) ?_
    intro a henv
    rw [show (((k + 1 : Nat) : Int) == (1 : Int)) = true from beq_iff_eq.2 (by omega)] at henv
    revert a
    refine mA rfl rfl ?_
    refine kA rfl rfl rfl rfl rfl ?_
    refine kA rfl rfl rfl rfl rfl ?_
    refine kA rfl rfl rfl rfl rfl ?_
    refine kA rfl rfl rfl rfl rfl ?_
    refine sA (v := .bool true) rfl (fun _ henv => rn_pick henv rfl rfl) ?_
    intro a henv
    refine wpList_nil ?_
    refine th_n ?_
    refine if_t henv rfl (rfl) ?_
    refine wp_seq ?_
    refine region_seq ?_
    revert a
    refine sA (v := .agg #[.bool (neg 0), .slice none (zl 0) 0]) rfl (fun _ henv => rn_zint Tryd.underlying36 zero_anvil_integer_Int (by intro f hf; simp at hf; rcases hf with rfl | rfl <;> exact ⟨_, rfl⟩)) ?_
    refine mA rfl rfl ?_
    refine sA (v := .agg #[.int .i64 6, .int .i64 (k + 1 : Nat)]) rfl (fun _ henv => rn_spot2 henv rfl rfl) ?_
    intro a henv
    refine seq_step rfl (op_store (k := 1) (c' := #[.bool (neg 0), .slice none (zl 0) 0]) henv hst (ty_anvil_integer_Int.size) rfl rfl rfl rfl (by simp) rfl rfl ?_)
    clear henv hst a; intro a w18 henv hst
    refine seq_step rfl (op_store (k := 0) (c' := #[.int .i64 6, .int .i64 (k + 1 : Nat)]) henv hst (ty_anvil_api_Spot.size) rfl rfl rfl rfl (by simp) rfl rfl ?_)
    clear henv hst a; intro a w19 henv hst
    refine wpList_nil ?_
    refine th_n ?_
    refine wp_ret ?_
    refine th_r ?_
    refine leave henv (res2 Tryd.results113 (RV.cell henv ty_anvil_integer_Int rfl (hst.oat (k := 1) rfl) rfl) (RV.cell henv ty_anvil_api_Spot rfl (hst.oat (k := 0) rfl) rfl)) ?_
    subst hkb
    exact ⟨rfl, hst.below⟩
set_option maxRecDepth 100000 in
set_option maxHeartbeats 4000000 in
theorem iread_ok1 {d : List UInt8} {w0 : World} (hl : d.length + 1 ≤ 65536) (hfb : Ok 1 d) :
    Calls Tryd.prog 113 #[.string ⟨(45 :: d).toArray⟩] w0 fun e w' => ∃ v, e = .returned (.tuple #[v, .agg #[.int .i64 0, .int .i64 0]]) ∧ ZAt w' v (sg true (numOf d)) ∧ Below w0.heap.size w0 w' := by
  have hlen1 : (45 :: d).length = d.length + 1 := rfl
  have hne := hfb.ne
  have hok2 := hfb.ok
  have hdg := digits_of hok2
  have hnn : nl (numOf d) ≤ 65536 := nl_numOf (fun c hc => (hdg c hc).2) (by omega)
  have hdl0 := hfb.1
  refine enter Tryd.func113 rfl Tryd.ntmps113 rfl ?_
  intro a henv hst
  refine wp_seq ?_
  refine region_seq ?_
  refine seq_step rfl (op_alloc (c := #[.bool (neg 0), .slice none (zl 0) 0]) henv hst rfl zero_anvil_integer_Int zcells ?_)
  clear henv hst a; intro a w2 g1 henv hst
  refine seq_step rfl (op_alloc (c := #[.int .i64 0, .int .i64 0]) henv hst rfl zero_anvil_api_Spot rfl ?_)
  clear henv hst a; intro a w4 g3 henv hst
  refine wpList_nil ?_
  refine th_n ?_
  refine wp_seq ?_
  refine wp_seq ?_
  refine region_seq ?_
  revert a
  refine mA rfl rfl ?_
  refine sA (v := .int .i64 ((45 :: d).length : Nat)) rfl (fun _ henv => rn_lenS henv Tryd.underlying9 rfl) ?_
  intro a henv
  rw [List.length_cons] at henv
  refine sv (v := .bool (decide (((d.length + 1 : Nat) : Int) > (65536 : Int)))) henv rfl (rn_bin henv rfl rfl rfl) ?_
  clear henv a; intro a henv
  rw [show (decide (((d.length + 1 : Nat) : Int) > (65536 : Int))) = false from decide_eq_false (by omega)] at henv
  refine wpList_nil ?_
  refine th_n ?_
  refine if_f henv rfl (rfl) ?_
  refine wp_skip ?_
  refine th_n ?_
  refine wp_seq ?_
  refine region_seq ?_
  refine sv (v := .int .i64 0) henv rfl (rn_assign henv rfl) ?_
  clear henv a; intro a henv
  refine wpList_nil ?_
  refine th_n ?_
  refine wp_seq ?_
  refine wp_seq ?_
  refine region_seq ?_
  revert a
  refine mA rfl rfl ?_
  refine sA (v := .bool (!decide ((45 :: d) = []))) rfl (fun _ henv => rn_neqs (s := (45 :: d)) (t := []) henv rfl rfl) ?_
  intro a henv
  rw [show (!decide ((45 :: d) = [])) = true from rfl] at henv
  revert a
  refine mA rfl rfl ?_
  refine gA (v := .string ⟨(45 :: d).toArray⟩) rfl rfl rfl rfl (fun _ henv => rn_move henv rfl) ?_
  refine gA (v := .int .u8 (((45 :: d).getD 0 0).toNat : Nat)) rfl rfl rfl rfl (fun _ henv => rn_idxS (i := 0) henv Tryd.underlying9 rfl rfl (by omega)) ?_
  intro a henv
  rw [List.getD_cons_zero] at henv
  refine seq_g rfl henv rfl rfl (op_val (v := .bool ((((45 : UInt8).toNat : Nat) : Int) == (45 : Int))) henv rfl (rn_bin henv rfl rfl rfl) ?_)
  clear henv a; intro a henv
  rw [show ((((45 : UInt8).toNat : Nat) : Int) == (45 : Int)) = true from rfl] at henv
  refine sv (v := .bool true) henv rfl (rn_pick henv rfl rfl) ?_
  clear henv a; intro a henv
  refine wpList_nil ?_
  refine th_n ?_
  refine if_t henv rfl (rfl) ?_
  refine region_seq ?_
  refine sv (v := .int .i64 1) henv rfl (rn_assign henv rfl) ?_
  clear henv a; intro a henv
  refine wpList_nil ?_
  refine th_n ?_
  refine wp_seq ?_
  refine region_seq ?_
  revert a
  refine mA rfl rfl ?_
  refine aA rfl rfl ?_
  intro a henv
  refine wpList_nil ?_
  refine th_n ?_
  refine wp_seq ?_
  refine wp_block ?_
  refine wp_loop_ghost (fun mz a w => ∃ k : Nat, d.length - k = mz ∧ Env 86 a [(0, .string ⟨(45 :: d).toArray⟩), (2, .pointer (some ⟨g1, 0, none⟩)), (3, .pointer (some ⟨g3, 0, none⟩)), (4, .int .i64 (k + 1 : Nat)), (5, .int .i64 1)] ∧ St w0 w [bk g3 #[.int .i64 0, .int .i64 0] 79, bk g1 #[.bool (neg 0), .slice none (zl 0) 0] 36] [] ∧ k ≤ d.length) _ ⟨0, rfl, henv.sub ⟨rfl, rfl, rfl, rfl, rfl, trivial⟩, hst.pick [0, 1] [] (by decide), (Nat.zero_le _)⟩ ?_
  clear henv hst a
  rintro mz a w5 ⟨k, rfl, henv, hst, hk⟩
  rcases ok_split2 hfb k with ⟨hlt⟩ | ⟨hlt, h1, h2, hk0, h3⟩ | ⟨hlt, h1, h2, hk0, h3⟩ | ⟨hlt, h1, h2, hk0⟩
  · refine wp_seq ?_
    refine wp_seq ?_
    refine region_seq ?_
    revert a
    refine mA rfl rfl ?_
    refine mA rfl rfl ?_
    refine sA (v := .int .i64 ((45 :: d).length : Nat)) rfl (fun _ henv => rn_lenS henv Tryd.underlying9 rfl) ?_
    intro a henv
    rw [List.length_cons] at henv
    refine sv (v := .bool (decide (((k + 1 : Nat) : Int) < ((d.length + 1 : Nat) : Int)))) henv rfl (rn_bin henv rfl rfl rfl) ?_
    clear henv a; intro a henv
    rw [show (decide (((k + 1 : Nat) : Int) < ((d.length + 1 : Nat) : Int))) = false from decide_eq_false (by omega)] at henv
    revert a
    refine mA rfl rfl ?_
    refine kA rfl rfl rfl rfl rfl ?_
    refine kA rfl rfl rfl rfl rfl ?_
    refine kA rfl rfl rfl rfl rfl ?_
    refine kA rfl rfl rfl rfl rfl ?_
    refine sA (v := .bool false) rfl (fun _ henv => rn_pick henv rfl rfl) ?_
    refine mA rfl rfl ?_
    refine kA rfl rfl rfl rfl rfl ?_
    refine kA rfl rfl rfl rfl rfl ?_
    refine kA rfl rfl rfl rfl rfl ?_
    refine kA rfl rfl rfl rfl rfl ?_
    refine sA (v := .bool false) rfl (fun _ henv => rn_pick henv rfl rfl) ?_
    intro a henv
    refine wpList_nil ?_
    refine th_n ?_
    refine if_f henv rfl (rfl) ?_
    refine wp_exit ?_
    refine th_x (th_x (bl_x (th_n ?_)))
    refine wp_seq ?_
    refine wp_seq ?_
    refine region_seq ?_
    revert a
    refine mA rfl rfl ?_
    refine mA rfl rfl ?_
    refine sA (v := .bool (((k + 1 : Nat) : Int) == (1 : Int))) rfl (fun _ henv => rn_bin henv rfl rfl rfl) ?_
    intro a henv
    rw [show (((k + 1 : Nat) : Int) == (1 : Int)) = false from beq_eq_false_iff_ne.2 (by omega)] at henv
    revert a
    refine mA rfl rfl ?_
    refine gA (v := .int .i64 (k + 1 : Nat)) rfl rfl rfl rfl (fun _ henv => rn_move henv rfl) ?_
    refine gA (v := .string ⟨(45 :: d).toArray⟩) rfl rfl rfl rfl (fun _ henv => rn_move henv rfl) ?_
    refine gA (v := .int .i64 ((45 :: d).length : Nat)) rfl rfl rfl rfl (fun _ henv => rn_lenS henv Tryd.underlying9 rfl) ?_
    intro a henv
    rw [List.length_cons] at henv
    refine seq_g rfl henv rfl rfl (op_val (v := .bool (decide (((k + 1 : Nat) : Int) < ((d.length + 1 : Nat) : Int)))) henv rfl (rn_bin henv rfl rfl rfl) ?_)
    clear henv a; intro a henv
    rw [show (decide (((k + 1 : Nat) : Int) < ((d.length + 1 : Nat) : Int))) = false from decide_eq_false (by omega)] at henv
    refine sv (v := .bool false) henv rfl (rn_pick henv rfl rfl) ?_
    clear henv a; intro a henv
    refine wpList_nil ?_
    refine th_n ?_
    refine if_f henv rfl (rfl) ?_
    refine wp_skip ?_
    refine th_n ?_
    refine wp_seq ?_
    refine region_seq ?_
    revert a
    refine mA rfl rfl ?_
    refine mA rfl rfl ?_
    refine sA (v := .string ⟨d.toArray⟩) rfl (fun _ henv => rn_dropS (n := 1) henv Tryd.underlying9 rfl rfl (show 1 ≤ (45 :: d).length by omega)) ?_
    intro a henv
    refine seq_step rfl (op_call henv rfl Tryd.call143 rfl (read_ok (l := d) (by omega) hne hok2) ?_)
    rintro e w8 ⟨_, rfl, ⟨A6, c7, rfl, hU, hA⟩, hb⟩
    refine ⟨_, rfl, ?_⟩
    clear henv a; intro a henv
    replace hst := hst.freshU hb hU hA
    clear hU
    clear hA
    clear hb
    revert a
    refine mA rfl rfl ?_
    refine sA (v := .slice A6 (nl (numOf d)) c7) rfl (fun _ henv => rn_extract henv rfl rfl) ?_
    refine sA (v := .agg #[.int .i64 0, .int .i64 0]) rfl (fun _ henv => rn_extract henv rfl rfl) ?_
    intro a henv
    refine seq_step rfl (op_alloc (c := #[.int .i64 0, .int .i64 0]) henv hst rfl zero_anvil_api_Spot rfl ?_)
    clear henv hst a; intro a w10 g9 henv hst
    refine sv (v := .slice A6 (nl (numOf d)) c7) henv rfl (rn_assign henv rfl) ?_
    clear henv a; intro a henv
    refine seq_step rfl (op_store (k := 0) (c' := #[.int .i64 0, .int .i64 0]) henv hst (ty_anvil_api_Spot.size) rfl rfl rfl rfl (by simp) rfl rfl ?_)
    clear henv hst a; intro a w11 henv hst
    refine wpList_nil ?_
    refine th_n ?_
    refine wp_seq ?_
    refine region_seq ?_
    revert a
    refine mA rfl rfl ?_
    refine sA (v := .bool true) rfl (fun _ henv => rn_bin henv rfl rfl rfl) ?_
    refine mA rfl rfl ?_
    intro a henv
    refine seq_step rfl (op_call henv rfl Tryd.call95 rfl (made_given (b := true) (N := (numOf d)) (z := sg true (numOf d)) (show U32 _ A6 (nl (numOf d)) c7 (L (numOf d)) from hst.pat (k := 0) rfl) rfl) ?_)
    rintro e w15 ⟨_, rfl, ⟨A12, c13, rfl, hz14⟩, hb⟩
    refine ⟨_, rfl, ?_⟩
    clear henv a; intro a henv
    replace hst := (hst.call hb).addZ hz14 ⟨nou_bk rfl, nou_bk rfl, nou_bk rfl, trivial⟩
    clear hz14
    clear hb
    refine sv (v := .agg #[.int .i64 0, .int .i64 0]) henv rfl (rn_spot0) ?_
    clear henv a; intro a henv
    refine seq_step rfl (op_store (k := 2) (c' := #[.bool (neg (sg true (numOf d))), .slice A12 (zl (sg true (numOf d))) c13]) henv hst (ty_anvil_integer_Int.size) rfl rfl rfl rfl (by simp) rfl rfl ?_)
    clear henv hst a; intro a w16 henv hst
    refine seq_step rfl (op_store (k := 1) (c' := #[.int .i64 0, .int .i64 0]) henv hst (ty_anvil_api_Spot.size) rfl rfl rfl rfl (by simp) rfl rfl ?_)
    clear henv hst a; intro a w17 henv hst
    refine wpList_nil ?_
    refine th_n ?_
    refine wp_ret ?_
    refine leave henv (res2 Tryd.results113 (RV.cell henv ty_anvil_integer_Int rfl (hst.oat (k := 2) rfl) rfl) (RV.cell henv ty_anvil_api_Spot rfl (hst.oat (k := 1) rfl) rfl)) ?_
    exact ⟨_, rfl, ⟨A12, c13, rfl, hst.pat (k := 0) rfl⟩, hst.below⟩
  · refine wp_seq ?_
    refine wp_seq ?_
    refine region_seq ?_
    revert a
    refine mA rfl rfl ?_
    refine mA rfl rfl ?_
    refine sA (v := .int .i64 ((45 :: d).length : Nat)) rfl (fun _ henv => rn_lenS henv Tryd.underlying9 rfl) ?_
    intro a henv
    rw [List.length_cons] at henv
    refine sv (v := .bool (decide (((k + 1 : Nat) : Int) < ((d.length + 1 : Nat) : Int)))) henv rfl (rn_bin henv rfl rfl rfl) ?_
    clear henv a; intro a henv
    rw [show (decide (((k + 1 : Nat) : Int) < ((d.length + 1 : Nat) : Int))) = true from decide_eq_true (by omega)] at henv
    revert a
    refine mA rfl rfl ?_
    refine gA (v := .string ⟨(45 :: d).toArray⟩) rfl rfl rfl rfl (fun _ henv => rn_move henv rfl) ?_
    refine gA (v := .int .i64 (k + 1 : Nat)) rfl rfl rfl rfl (fun _ henv => rn_move henv rfl) ?_
    refine gA (v := .int .u8 (((45 :: d).getD (k + 1) 0).toNat : Nat)) rfl rfl rfl rfl (fun _ henv => rn_idxS (i := k + 1) henv Tryd.underlying9 rfl rfl (by omega)) ?_
    intro a henv
    rw [List.getD_cons_succ] at henv
    refine seq_g rfl henv rfl rfl (op_val (v := .bool (decide ((((d.getD k 0).toNat : Nat) : Int) ≥ (48 : Int)))) henv rfl (rn_bin henv rfl rfl rfl) ?_)
    clear henv a; intro a henv
    rw [show (decide ((((d.getD k 0).toNat : Nat) : Int) ≥ (48 : Int))) = true from decide_eq_true (by omega)] at henv
    revert a
    refine sA (v := .bool true) rfl (fun _ henv => rn_pick henv rfl rfl) ?_
    refine mA rfl rfl ?_
    refine gA (v := .string ⟨(45 :: d).toArray⟩) rfl rfl rfl rfl (fun _ henv => rn_move henv rfl) ?_
    refine gA (v := .int .i64 (k + 1 : Nat)) rfl rfl rfl rfl (fun _ henv => rn_move henv rfl) ?_
    refine gA (v := .int .u8 (((45 :: d).getD (k + 1) 0).toNat : Nat)) rfl rfl rfl rfl (fun _ henv => rn_idxS (i := k + 1) henv Tryd.underlying9 rfl rfl (by omega)) ?_
    intro a henv
    rw [List.getD_cons_succ] at henv
    refine seq_g rfl henv rfl rfl (op_val (v := .bool (decide ((((d.getD k 0).toNat : Nat) : Int) ≤ (57 : Int)))) henv rfl (rn_bin henv rfl rfl rfl) ?_)
    clear henv a; intro a henv
    rw [show (decide ((((d.getD k 0).toNat : Nat) : Int) ≤ (57 : Int))) = true from decide_eq_true (by omega)] at henv
    refine sv (v := .bool true) henv rfl (rn_pick henv rfl rfl) ?_
    clear henv a; intro a henv
    refine wpList_nil ?_
    refine th_n ?_
    refine if_t henv rfl (rfl) ?_
    refine wp_skip ?_
    refine th_n ?_
    refine wp_seq ?_
    refine wp_block ?_
    refine wp_seq ?_
    refine wp_seq ?_
    refine region_seq ?_
    revert a
    refine mA rfl rfl ?_
    refine mA rfl rfl ?_
    refine sA (v := .int .i64 2) rfl (fun _ henv => rn_bin henv rfl rfl rfl) ?_
    refine sA (v := .bool (((k + 1 : Nat) : Int) == (2 : Int))) rfl (fun _ henv => rn_bin henv rfl rfl rfl) ?_
    intro a henv
    rw [show (((k + 1 : Nat) : Int) == (2 : Int)) = false from beq_eq_false_iff_ne.2 (by omega)] at henv
    revert a
    refine mA rfl rfl ?_
    refine kA rfl rfl rfl rfl rfl ?_
    refine kA rfl rfl rfl rfl rfl ?_
    refine kA rfl rfl rfl rfl rfl ?_
    refine kA rfl rfl rfl rfl rfl ?_
    refine sA (v := .bool false) rfl (fun _ henv => rn_pick henv rfl rfl) ?_
    intro a henv
    refine wpList_nil ?_
    refine th_n ?_
    refine if_f henv rfl (rfl) ?_
    refine wp_skip ?_
    refine th_n ?_
    refine wp_seq ?_
    refine region_seq ?_
    revert a
    refine mA rfl rfl ?_
    refine mA rfl rfl ?_
    refine sA (v := .bool (((k + 1 : Nat) : Int) == (1 : Int))) rfl (fun _ henv => rn_bin henv rfl rfl rfl) ?_
    intro a henv
    rw [show (((k + 1 : Nat) : Int) == (1 : Int)) = true from beq_iff_eq.2 (by omega)] at henv
    revert a
    refine mA rfl rfl ?_
    refine gA (v := .int .i64 1) rfl rfl rfl rfl (fun _ henv => rn_move henv rfl) ?_
    refine gA (v := .bool true) rfl rfl rfl rfl (fun _ henv => rn_bin henv rfl rfl rfl) ?_
    refine sA (v := .bool true) rfl (fun _ henv => rn_pick henv rfl rfl) ?_
    refine mA rfl rfl ?_
    refine gA (v := .string ⟨(45 :: d).toArray⟩) rfl rfl rfl rfl (fun _ henv => rn_move henv rfl) ?_
    refine gA (v := .int .i64 (k + 1 : Nat)) rfl rfl rfl rfl (fun _ henv => rn_move henv rfl) ?_
    refine gA (v := .int .u8 (((45 :: d).getD (k + 1) 0).toNat : Nat)) rfl rfl rfl rfl (fun _ henv => rn_idxS (i := k + 1) henv Tryd.underlying9 rfl rfl (by omega)) ?_
    intro a henv
    rw [List.getD_cons_succ] at henv
    refine seq_g rfl henv rfl rfl (op_val (v := .bool ((((d.getD k 0).toNat : Nat) : Int) == (48 : Int))) henv rfl (rn_bin henv rfl rfl rfl) ?_)
    clear henv a; intro a henv
    rw [show ((((d.getD k 0).toNat : Nat) : Int) == (48 : Int)) = false from beq_eq_false_iff_ne.2 (by subst hk0; omega)] at henv
    refine sv (v := .bool false) henv rfl (rn_pick henv rfl rfl) ?_
    clear henv a; intro a henv
    refine wpList_nil ?_
    refine th_n ?_
    refine if_f henv rfl (rfl) ?_
    refine wp_skip ?_
    refine bl_n (th_n ?_)
    refine region_seq ?_
    revert a
    refine mA rfl rfl ?_
    refine sA (v := .int .i64 ((k + 1) + 1 : Nat)) rfl (fun _ henv => rn_add henv rfl rfl (by rw [IntWalk.i64_in _ (by omega)]; omega)) ?_
    refine aA rfl rfl ?_
    intro a henv
    refine wpList_nil ?_
    exact th_n ⟨_, (by omega), ⟨k + 1, rfl, henv.sub ⟨rfl, rfl, rfl, rfl, rfl, trivial⟩, hst.pick [0, 1] [] (by decide), (by omega)⟩⟩
  · refine wp_seq ?_
    refine wp_seq ?_
    refine region_seq ?_
    revert a
    refine mA rfl rfl ?_
    refine mA rfl rfl ?_
    refine sA (v := .int .i64 ((45 :: d).length : Nat)) rfl (fun _ henv => rn_lenS henv Tryd.underlying9 rfl) ?_
    intro a henv
    rw [List.length_cons] at henv
    refine sv (v := .bool (decide (((k + 1 : Nat) : Int) < ((d.length + 1 : Nat) : Int)))) henv rfl (rn_bin henv rfl rfl rfl) ?_
    clear henv a; intro a henv
    rw [show (decide (((k + 1 : Nat) : Int) < ((d.length + 1 : Nat) : Int))) = true from decide_eq_true (by omega)] at henv
    revert a
    refine mA rfl rfl ?_
    refine gA (v := .string ⟨(45 :: d).toArray⟩) rfl rfl rfl rfl (fun _ henv => rn_move henv rfl) ?_
    refine gA (v := .int .i64 (k + 1 : Nat)) rfl rfl rfl rfl (fun _ henv => rn_move henv rfl) ?_
    refine gA (v := .int .u8 (((45 :: d).getD (k + 1) 0).toNat : Nat)) rfl rfl rfl rfl (fun _ henv => rn_idxS (i := k + 1) henv Tryd.underlying9 rfl rfl (by omega)) ?_
    intro a henv
    rw [List.getD_cons_succ] at henv
    refine seq_g rfl henv rfl rfl (op_val (v := .bool (decide ((((d.getD k 0).toNat : Nat) : Int) ≥ (48 : Int)))) henv rfl (rn_bin henv rfl rfl rfl) ?_)
    clear henv a; intro a henv
    rw [show (decide ((((d.getD k 0).toNat : Nat) : Int) ≥ (48 : Int))) = true from decide_eq_true (by omega)] at henv
    revert a
    refine sA (v := .bool true) rfl (fun _ henv => rn_pick henv rfl rfl) ?_
    refine mA rfl rfl ?_
    refine gA (v := .string ⟨(45 :: d).toArray⟩) rfl rfl rfl rfl (fun _ henv => rn_move henv rfl) ?_
    refine gA (v := .int .i64 (k + 1 : Nat)) rfl rfl rfl rfl (fun _ henv => rn_move henv rfl) ?_
    refine gA (v := .int .u8 (((45 :: d).getD (k + 1) 0).toNat : Nat)) rfl rfl rfl rfl (fun _ henv => rn_idxS (i := k + 1) henv Tryd.underlying9 rfl rfl (by omega)) ?_
    intro a henv
    rw [List.getD_cons_succ] at henv
    refine seq_g rfl henv rfl rfl (op_val (v := .bool (decide ((((d.getD k 0).toNat : Nat) : Int) ≤ (57 : Int)))) henv rfl (rn_bin henv rfl rfl rfl) ?_)
    clear henv a; intro a henv
    rw [show (decide ((((d.getD k 0).toNat : Nat) : Int) ≤ (57 : Int))) = true from decide_eq_true (by omega)] at henv
    refine sv (v := .bool true) henv rfl (rn_pick henv rfl rfl) ?_
    clear henv a; intro a henv
    refine wpList_nil ?_
    refine th_n ?_
    refine if_t henv rfl (rfl) ?_
    refine wp_skip ?_
    refine th_n ?_
    refine wp_seq ?_
    refine wp_block ?_
    refine wp_seq ?_
    refine wp_seq ?_
    refine region_seq ?_
    revert a
    refine mA rfl rfl ?_
    refine mA rfl rfl ?_
    refine sA (v := .int .i64 2) rfl (fun _ henv => rn_bin henv rfl rfl rfl) ?_
    refine sA (v := .bool (((k + 1 : Nat) : Int) == (2 : Int))) rfl (fun _ henv => rn_bin henv rfl rfl rfl) ?_
    intro a henv
    rw [show (((k + 1 : Nat) : Int) == (2 : Int)) = true from beq_iff_eq.2 (by omega)] at henv
    revert a
    refine mA rfl rfl ?_
    refine gA (v := .string ⟨(45 :: d).toArray⟩) rfl rfl rfl rfl (fun _ henv => rn_move henv rfl) ?_
    refine gA (v := .int .i64 1) rfl rfl rfl rfl (fun _ henv => rn_move henv rfl) ?_
    refine gA (v := .int .u8 (((45 :: d).getD 1 0).toNat : Nat)) rfl rfl rfl rfl (fun _ henv => rn_idxS (i := 1) henv Tryd.underlying9 rfl rfl (by omega)) ?_
    intro a henv
    rw [show (45 :: d).getD 1 0 = d.getD 0 0 from rfl] at henv
    refine seq_g rfl henv rfl rfl (op_val (v := .bool ((((d.getD 0 0).toNat : Nat) : Int) == (48 : Int))) henv rfl (rn_bin henv rfl rfl rfl) ?_)
    clear henv a; intro a henv
    rw [show ((((d.getD 0 0).toNat : Nat) : Int) == (48 : Int)) = false from beq_eq_false_iff_ne.2 (by omega)] at henv
    refine sv (v := .bool false) henv rfl (rn_pick henv rfl rfl) ?_
    clear henv a; intro a henv
    refine wpList_nil ?_
    refine th_n ?_
    refine if_f henv rfl (rfl) ?_
    refine wp_skip ?_
    refine th_n ?_
    refine wp_seq ?_
    refine region_seq ?_
    revert a
    refine mA rfl rfl ?_
    refine mA rfl rfl ?_
    refine sA (v := .bool (((k + 1 : Nat) : Int) == (1 : Int))) rfl (fun _ henv => rn_bin henv rfl rfl rfl) ?_
    intro a henv
    rw [show (((k + 1 : Nat) : Int) == (1 : Int)) = false from beq_eq_false_iff_ne.2 (by omega)] at henv
    revert a
    refine mA rfl rfl ?_
    refine kA rfl rfl rfl rfl rfl ?_
    refine kA rfl rfl rfl rfl rfl ?_
    refine sA (v := .bool false) rfl (fun _ henv => rn_pick henv rfl rfl) ?_
    refine mA rfl rfl ?_
    refine kA rfl rfl rfl rfl rfl ?_
    refine kA rfl rfl rfl rfl rfl ?_
    refine kA rfl rfl rfl rfl rfl ?_
    refine kA rfl rfl rfl rfl rfl ?_
    refine sA (v := .bool false) rfl (fun _ henv => rn_pick henv rfl rfl) ?_
    intro a henv
    refine wpList_nil ?_
    refine th_n ?_
    refine if_f henv rfl (rfl) ?_
    refine wp_skip ?_
    refine bl_n (th_n ?_)
    refine region_seq ?_
    revert a
    refine mA rfl rfl ?_
    refine sA (v := .int .i64 ((k + 1) + 1 : Nat)) rfl (fun _ henv => rn_add henv rfl rfl (by rw [IntWalk.i64_in _ (by omega)]; omega)) ?_
    refine aA rfl rfl ?_
    intro a henv
    refine wpList_nil ?_
    exact th_n ⟨_, (by omega), ⟨k + 1, rfl, henv.sub ⟨rfl, rfl, rfl, rfl, rfl, trivial⟩, hst.pick [0, 1] [] (by decide), (by omega)⟩⟩
  · refine wp_seq ?_
    refine wp_seq ?_
    refine region_seq ?_
    revert a
    refine mA rfl rfl ?_
    refine mA rfl rfl ?_
    refine sA (v := .int .i64 ((45 :: d).length : Nat)) rfl (fun _ henv => rn_lenS henv Tryd.underlying9 rfl) ?_
    intro a henv
    rw [List.length_cons] at henv
    refine sv (v := .bool (decide (((k + 1 : Nat) : Int) < ((d.length + 1 : Nat) : Int)))) henv rfl (rn_bin henv rfl rfl rfl) ?_
    clear henv a; intro a henv
    rw [show (decide (((k + 1 : Nat) : Int) < ((d.length + 1 : Nat) : Int))) = true from decide_eq_true (by omega)] at henv
    revert a
    refine mA rfl rfl ?_
    refine gA (v := .string ⟨(45 :: d).toArray⟩) rfl rfl rfl rfl (fun _ henv => rn_move henv rfl) ?_
    refine gA (v := .int .i64 (k + 1 : Nat)) rfl rfl rfl rfl (fun _ henv => rn_move henv rfl) ?_
    refine gA (v := .int .u8 (((45 :: d).getD (k + 1) 0).toNat : Nat)) rfl rfl rfl rfl (fun _ henv => rn_idxS (i := k + 1) henv Tryd.underlying9 rfl rfl (by omega)) ?_
    intro a henv
    rw [List.getD_cons_succ] at henv
    refine seq_g rfl henv rfl rfl (op_val (v := .bool (decide ((((d.getD k 0).toNat : Nat) : Int) ≥ (48 : Int)))) henv rfl (rn_bin henv rfl rfl rfl) ?_)
    clear henv a; intro a henv
    rw [show (decide ((((d.getD k 0).toNat : Nat) : Int) ≥ (48 : Int))) = true from decide_eq_true (by omega)] at henv
    revert a
    refine sA (v := .bool true) rfl (fun _ henv => rn_pick henv rfl rfl) ?_
    refine mA rfl rfl ?_
    refine gA (v := .string ⟨(45 :: d).toArray⟩) rfl rfl rfl rfl (fun _ henv => rn_move henv rfl) ?_
    refine gA (v := .int .i64 (k + 1 : Nat)) rfl rfl rfl rfl (fun _ henv => rn_move henv rfl) ?_
    refine gA (v := .int .u8 (((45 :: d).getD (k + 1) 0).toNat : Nat)) rfl rfl rfl rfl (fun _ henv => rn_idxS (i := k + 1) henv Tryd.underlying9 rfl rfl (by omega)) ?_
    intro a henv
    rw [List.getD_cons_succ] at henv
    refine seq_g rfl henv rfl rfl (op_val (v := .bool (decide ((((d.getD k 0).toNat : Nat) : Int) ≤ (57 : Int)))) henv rfl (rn_bin henv rfl rfl rfl) ?_)
    clear henv a; intro a henv
    rw [show (decide ((((d.getD k 0).toNat : Nat) : Int) ≤ (57 : Int))) = true from decide_eq_true (by omega)] at henv
    refine sv (v := .bool true) henv rfl (rn_pick henv rfl rfl) ?_
    clear henv a; intro a henv
    refine wpList_nil ?_
    refine th_n ?_
    refine if_t henv rfl (rfl) ?_
    refine wp_skip ?_
    refine th_n ?_
    refine wp_seq ?_
    refine wp_block ?_
    refine wp_seq ?_
    refine wp_seq ?_
    refine region_seq ?_
    revert a
    refine mA rfl rfl ?_
    refine mA rfl rfl ?_
    refine sA (v := .int .i64 2) rfl (fun _ henv => rn_bin henv rfl rfl rfl) ?_
    refine sA (v := .bool (((k + 1 : Nat) : Int) == (2 : Int))) rfl (fun _ henv => rn_bin henv rfl rfl rfl) ?_
    intro a henv
    rw [show (((k + 1 : Nat) : Int) == (2 : Int)) = false from beq_eq_false_iff_ne.2 (by omega)] at henv
    revert a
    refine mA rfl rfl ?_
    refine kA rfl rfl rfl rfl rfl ?_
    refine kA rfl rfl rfl rfl rfl ?_
    refine kA rfl rfl rfl rfl rfl ?_
    refine kA rfl rfl rfl rfl rfl ?_
    refine sA (v := .bool false) rfl (fun _ henv => rn_pick henv rfl rfl) ?_
    intro a henv
    refine wpList_nil ?_
    refine th_n ?_
    refine if_f henv rfl (rfl) ?_
    refine wp_skip ?_
    refine th_n ?_
    refine wp_seq ?_
    refine region_seq ?_
    revert a
    refine mA rfl rfl ?_
    refine mA rfl rfl ?_
    refine sA (v := .bool (((k + 1 : Nat) : Int) == (1 : Int))) rfl (fun _ henv => rn_bin henv rfl rfl rfl) ?_
    intro a henv
    rw [show (((k + 1 : Nat) : Int) == (1 : Int)) = false from beq_eq_false_iff_ne.2 (by omega)] at henv
    revert a
    refine mA rfl rfl ?_
    refine kA rfl rfl rfl rfl rfl ?_
    refine kA rfl rfl rfl rfl rfl ?_
    refine sA (v := .bool false) rfl (fun _ henv => rn_pick henv rfl rfl) ?_
    refine mA rfl rfl ?_
    refine kA rfl rfl rfl rfl rfl ?_
    refine kA rfl rfl rfl rfl rfl ?_
    refine kA rfl rfl rfl rfl rfl ?_
    refine kA rfl rfl rfl rfl rfl ?_
    refine sA (v := .bool false) rfl (fun _ henv => rn_pick henv rfl rfl) ?_
    intro a henv
    refine wpList_nil ?_
    refine th_n ?_
    refine if_f henv rfl (rfl) ?_
    refine wp_skip ?_
    refine bl_n (th_n ?_)
    refine region_seq ?_
    revert a
    refine mA rfl rfl ?_
    refine sA (v := .int .i64 ((k + 1) + 1 : Nat)) rfl (fun _ henv => rn_add henv rfl rfl (by rw [IntWalk.i64_in _ (by omega)]; omega)) ?_
    refine aA rfl rfl ?_
    intro a henv
    refine wpList_nil ?_
    exact th_n ⟨_, (by omega), ⟨k + 1, rfl, henv.sub ⟨rfl, rfl, rfl, rfl, rfl, trivial⟩, hst.pick [0, 1] [] (by decide), (by omega)⟩⟩
end Go.Proofs.YtegglooojlheoaaDoor.W

/- The reference's reading of a number. Printed by pv/gen_iread.py. No condition. -/
namespace Go.Proofs.YtegglooojlheoaaDoor.W
open Go.RowKit Anv Go.Lib
theorem ok_first {f : Nat} {d : List UInt8} (h : Ok f d) : 0 < d.length ∧ 48 ≤ (d.getD 0 0).toNat ∧ (d.getD 0 0).toNat ≤ 57 ∧ (f = 1 → (d.getD 0 0).toNat ≠ 48) := by
  obtain ⟨h1, h2, _, h4⟩ := not_bad (h.2 0 h.1)
  exact ⟨h.1, h1, h2, h4 rfl⟩
end Go.Proofs.YtegglooojlheoaaDoor.W

/- IntegerTexts, IntegerReads: the laws' walks. Printed by pv/gen_ilaw.py. No condition. -/
namespace Go.Proofs.YtegglooojlheoaaDoor.W
open Go.RowKit Anv Go.Lib
theorem sign_cases (t : List UInt8) : (t.getD 0 0).toNat ≠ 45 ∨ ∃ d, t = 45 :: d := by
  cases t with
  | nil => exact .inl (by decide)
  | cons c d =>
    by_cases h : c.toNat = 45
    · exact .inr ⟨d, by rw [UInt8.toNat_inj.1 (h.trans (show (45 : Nat) = (45 : UInt8).toNat from rfl))]⟩
    · exact .inl h
theorem iread_fb0 {d : List UInt8} {b : Nat} {w0 : World} (h45 : (d.getD 0 0).toNat ≠ 45) (hl : d.length + 0 ≤ 65536) (hfb : Fb 0 d b) :
    Calls Tryd.prog 113 #[.string ⟨d.toArray⟩] w0 fun e w' => e = .returned (.tuple #[.agg #[.bool (neg 0), .slice none (zl 0) 0], .agg #[.int .i64 6, .int .i64 (b : Nat)]]) ∧ Below w0.heap.size w0 w' := by
  by_cases hd : d = []
  · have hb : b = 0 := by rcases hfb.1 with h | h; rw [hd] at h; simp at h; exact h.1
    subst hb
    exact iread_empty hd
  · exact iread_bad0 h45 hl hd hfb
theorem iread_fb1 {d : List UInt8} {b : Nat} {w0 : World} (hl : d.length + 1 ≤ 65536) (hfb : Fb 1 d b) :
    Calls Tryd.prog 113 #[.string ⟨(45 :: d).toArray⟩] w0 fun e w' => e = .returned (.tuple #[.agg #[.bool (neg 0), .slice none (zl 0) 0], .agg #[.int .i64 6, .int .i64 (b + 1 : Nat)]]) ∧ Below w0.heap.size w0 w' :=
  iread_bad1 hl hfb
theorem ok_textN (N f : Nat) (h : f = 1 → 0 < N) : Ok f (textN N) := by
  refine ⟨List.length_pos_iff.2 (textN_ne N), fun q hq hb => ?_⟩
  have h1 := textN_ok N q hq
  unfold BadAt at h1
  unfold BadD at hb
  have h2 : ¬ (q = 0 ∧ f = 1 ∧ ((textN N).getD 0 0).toNat = 48) := fun ⟨_, h3, h4⟩ => textN_head (h h3) h4
  omega
theorem neg_sg {b : Bool} {N : Nat} (h : b = true → 0 < N) : neg (sg b N) = b := by
  rw [sg_neg]
  cases b
  · rfl
  · simp [h rfl]
theorem textZ_sg {b : Bool} {N : Nat} (h : b = true → 0 < N) : textZ (sg b N) = (if b then [45] else []) ++ textN N := by
  unfold textZ
  rw [neg_sg h, sg_abs]
theorem textZ_cases (z : Int) : (neg z = true ∧ 0 < z.natAbs ∧ textZ z = 45 :: textN z.natAbs ∧ sg true z.natAbs = z) ∨ (neg z = false ∧ textZ z = textN z.natAbs ∧ sg false z.natAbs = z) := by
  have hs := sg_self z
  unfold textZ
  cases h : neg z with
  | true =>
    refine .inl ⟨rfl, ?_, rfl, by rw [← h]; exact hs⟩
    unfold neg at h
    have := of_decide_eq_true h
    omega
  | false => exact .inr ⟨rfl, rfl, by rw [← h]; exact hs⟩
theorem pos_num {d : List UInt8} (h : Ok 1 d) : 0 < numOf d := by
  rcases Nat.eq_zero_or_pos (numOf d) with h0 | h0
  · have h1 := textN_numOf _ d rfl h.ne h.ok
    rw [h0, textN_zero] at h1
    have h2 := (ok_first h).2.2.2 rfl
    rw [← h1] at h2
    exact absurd rfl h2
  · exact h0
theorem textZ_back0 {d : List UInt8} (h : Ok 0 d) : textZ (sg false (numOf d)) = d := by
  rw [textZ_sg (fun e => by cases e)]
  exact textN_numOf _ d rfl h.ne h.ok
theorem textZ_back1 {d : List UInt8} (h : Ok 1 d) : textZ (sg true (numOf d)) = 45 :: d := by
  rw [textZ_sg (fun _ => pos_num h), textN_numOf _ d rfl h.ne h.ok]
  rfl
end Go.Proofs.YtegglooojlheoaaDoor.W
