/- math/bits.TrailingZeros32 over its table. No condition but the table's cells. -/
import Derived.Test.YtnldopjbiacbfaaDoorM1
import Derived.Test.YtnldopjbiacbfaaDoorM9
import Derived.Test.YtnldopjbiacbfaaDoorM27
import Derived.Shelf.Spec.TrailingZeros
import Derived.Test.YtnldopjbiacbfaaDoorM33

namespace Go.Proofs.YtnldopjbiacbfaaDoor
open Go.RowKit Anv Go.Shelf

/-- The table of math/bits.TrailingZeros32 lies where the program has it. -/
def Deb (w : World) : Prop := ∀ j, j < 32 → w.cell? ⟨0, j, none⟩ = some (.int .u8 (Lib.deBruijn32tab.getD j 0 : Nat))
theorem Deb.lt {w : World} (h : Deb w) : 0 < w.heap.size := block_lt_of_cell (h 0 (by omega))
def pfT : PF := ⟨Deb, fun b => b = 0, fun h e => by subst e; exact h.lt, fun h _ hk j hj => (World.cell?_of_block (hk 0 rfl)).trans (h j hj)⟩
theorem St.addT {w0 w : World} {own : List Bk} {ps : List PF} (h : St w0 w own ps) (ht : Deb w0) (hw : Deb w) : St w0 w own (pfT :: ps) :=
  h.addP pfT hw (h.older pfT fun b hb => by subst hb; exact ht.lt)

set_option maxHeartbeats 1000000 in
theorem tz32_go (x k idx : Nat) (w : World) (hx0 : ((x : Int) == 0) = false)
    (key : bits BinOp.and IntKind.u32 (x : Int) (-(x : Int) % 4294967296) * 125613361 % 4294967296 / 134217728 = (idx : Int))
    (hi : idx < 32) (hk : k < 32) (hcell : w.cell? ⟨0, idx, none⟩ = some (.int .u8 k)) :
    Calls Tryd.prog 101 #[.int .u32 x] w fun e w' => e = .returned (.int .i64 k) ∧ w' = w := by
  go_enter Tryd.func101, Tryd.ntmps101
  go_wp2_with (simp only [key])
  go_ret
  exact ⟨rfl, rfl⟩

theorem isTz_ctz {x : Nat} (h0 : x ≠ 0) (hx : x < 4294967296) : IsTz x (Lib.ctz 32 x) := by
  unfold Lib.ctz
  rw [if_neg h0]
  obtain ⟨m, hm, _⟩ := Lib.ctzFrom_spec 32 x (by omega) hx
  exact isTz_of hm

theorem tz32 {x : Nat} {w : World} (h0 : x ≠ 0) (hx : x < 4294967296) (hT : Deb w) :
    Calls Tryd.prog 101 #[.int .u32 x] w fun e w' => ∃ k : Nat, e = .returned (.int .i64 k) ∧ IsTz x k ∧ k < 32 ∧ Below w.heap.size w w' := by
  obtain ⟨hlow, hk⟩ := Lib.lowest_bit 32 x h0 hx
  obtain ⟨hi, htab⟩ := Lib.deBruijn32_at _ hk
  have hcell := hT _ hi
  rw [htab] at hcell
  refine (tz32_go x _ _ w (by simp; omega) (tz32_key x _ hx h0 hlow) hi hk hcell).mono ?_
  rintro e w' ⟨rfl, rfl⟩
  exact ⟨_, rfl, isTz_ctz h0 hx, hk, Below.refl _ _⟩

theorem val_first {xs : List Nat} {j : Nat} (hj : j < xs.length) (h : ∀ i, i < j → xs.getD i 0 = 0) : ∃ r, val 4294967296 xs = 4294967296 ^ j * (xs.getD j 0 + 4294967296 * r) := by
  induction xs generalizing j with
  | nil => simp at hj
  | cons x xs ih =>
    rcases j with _ | j
    · exact ⟨val 4294967296 xs, by simp⟩
    · have h0 := h 0 (by omega)
      simp at h0
      obtain ⟨r, hr⟩ := ih (j := j) (by simpa using hj) fun i hi => by simpa using h (i + 1) (by omega)
      refine ⟨r, ?_⟩
      rw [val_cons, h0, hr, Nat.zero_add, Nat.pow_succ, Nat.mul_assoc, List.getD_cons_succ, ← Nat.mul_assoc, Nat.mul_comm 4294967296 (4294967296 ^ j), Nat.mul_assoc]
theorem val_none {xs : List Nat} (h : ∀ i, i < xs.length → xs.getD i 0 = 0) : val 4294967296 xs = 0 := by
  induction xs with
  | nil => rfl
  | cons x xs ih =>
    have h0 := h 0 (by simp)
    simp at h0
    rw [val_cons, h0, ih fun i hi => by simpa using h (i + 1) (by simpa using hi)]

end Go.Proofs.YtnldopjbiacbfaaDoor

/- How often two divides a number: the program and the reference. Printed by pv/gen_twos.py. No condition. -/
namespace Go.Proofs.YtnldopjbiacbfaaDoor
open Go.RowKit Anv

theorem tz_lt {N k : Nat} (h : IsTz N k) : k < 16 * dn N := by
  rcases Nat.lt_or_ge k (16 * dn N) with h1 | h1
  · exact h1
  · have h2 := lt_dn N
    have h3 : N < 2 ^ k := Nat.lt_of_lt_of_le h2 (by rw [show (65536 : Nat) = 2 ^ 16 from rfl, ← Nat.pow_mul]; exact Nat.pow_le_pow_right (by omega) h1)
    have h4 := h.1
    rw [Nat.div_eq_of_lt h3] at h4
    omega
theorem u32_getD {w : World} {A : Option Addr} {n c i : Nat} {xs : List Nat} (h : U32 w A n c xs) (hi : i < n) : xs.getD i 0 < 4294967296 := by
  have hl : i < xs.length := by rw [h.len]; exact hi
  have := h.lt xs[i] (List.getElem_mem hl)
  simpa [List.getD, hl] using this
theorem zeros_succ {xs : List Nat} {j : Nat} (hz : ∀ i, i < j → xs.getD i 0 = 0) (h0 : xs.getD j 0 = 0) : ∀ i, i < j + 1 → xs.getD i 0 = 0 := fun i hi => by
  rcases Nat.lt_succ_iff_lt_or_eq.1 hi with h | h
  · exact hz i h
  · rw [h]; exact h0
theorem tz_more {N q j : Nat} (hq : IsTz N q) (hj : j ≤ q) (h : (((N / 2 ^ j % 2 : Nat) : Int) == (0 : Int)) = true) : j < q := by
  rcases Nat.lt_or_ge j q with h1 | h1
  · exact h1
  · have h2 : j = q := by omega
    subst h2
    rw [hq.1] at h
    cases h
theorem tz_stop {N q j : Nat} (hq : IsTz N q) (hj : j ≤ q) (h : (((N / 2 ^ j % 2 : Nat) : Int) == (0 : Int)) = false) : j = q := by
  rcases Nat.lt_or_ge j q with h1 | h1
  · rw [hq.2 j h1] at h
    cases h
  · omega
theorem bit_rb {A : Option Addr} {c N k : Nat} {w : World} (h : U32 w A (dn N) c (D N)) (hk : k < 16 * dn N) (hN : dn N ≤ 1000000) :
    Calls Tryd.prog 80 #[.slice A (dn N) c, .int .i64 k] w fun e w' => e = .returned (.int .u32 ((N / 2 ^ k % 2 : Nat) : Int)) ∧ Below w.heap.size w w' :=
  (bit_ref h hk hN).mono fun _ _ ⟨he, hw⟩ => ⟨he, hw ▸ Below.refl _ _⟩

set_option maxRecDepth 100000 in
set_option maxHeartbeats 4000000 in
theorem twos_any {A : Option Addr} {n c : Nat} {xs : List Nat} {w0 : World} (h : U32 w0 A n c xs) (hn : n ≤ 1000000) (hT : Deb w0) :
    Calls Tryd.prog 61 #[.slice A n c] w0 fun e w' => ∃ k : Nat, e = .returned (.int .i64 k) ∧ (val 4294967296 xs ≠ 0 → IsTz (val 4294967296 xs) k) ∧ (val 4294967296 xs = 0 → k = 0) ∧ Below w0.heap.size w0 w' := by
  refine enter Tryd.func61 rfl Tryd.ntmps61 rfl ?_
  intro a henv hst
  have hu := h
  have hmx : n ≤ 9223372036854775807 := by have := Nat.le_trans h.cap h.big; unfold maxLen at this; omega
  replace hst := (hst.addT hT hT).addU h rfl
  clear h
  refine wp_seq ?_
  refine region_seq ?_
  refine seq_step rfl (op_val (v := .int .i64 0) henv rfl (rn_assign henv rfl) ?_)
  clear henv a; intro a henv
  refine wpList_nil ?_
  refine th_n ?_
  refine wp_seq ?_
  refine wp_seq ?_
  refine region_seq ?_
  refine seq_step rfl (op_val (v := .slice A n c) henv rfl (rn_move henv rfl) ?_)
  clear henv a; intro a henv
  refine seq_step rfl (op_val (v := .int .i64 (n : Nat)) henv rfl (rn_len henv Tryd.underlying22 rfl) ?_)
  clear henv a; intro a henv
  refine seq_step rfl (op_val (v := .int .i64 0) henv rfl (rn_move henv rfl) ?_)
  clear henv a; intro a henv
  refine wpList_nil ?_
  refine th_n ?_
  refine wp_block ?_
  refine wp_loop_ghost (fun mz a w => ∃ j : Nat, n - j = mz ∧ Env 20 a [(0, .slice A n c), (5, .slice A n c), (6, .int .i64 (n : Nat)), (7, .int .i64 (j : Nat))] ∧ St w0 w [] [pfU A n c xs, pfT] ∧ j ≤ n ∧ ∀ i, i < j → xs.getD i 0 = 0) _ ⟨0, rfl, henv.sub ⟨rfl, rfl, rfl, rfl, trivial⟩, hst.pick [] [0, 1] (by decide), (Nat.zero_le _), (fun i hi => absurd hi (Nat.not_lt_zero _))⟩ ?_
  clear henv hst a
  rintro mz a w1 ⟨j, rfl, henv, hst, hj, hz⟩
  refine wp_seq ?_
  refine region_seq ?_
  refine seq_step rfl (op_val (v := .bool (decide (((j : Nat) : Int) < ((n : Nat) : Int)))) henv rfl (rn_bin henv rfl rfl rfl) ?_)
  clear henv a; intro a henv
  refine wpList_nil ?_
  refine th_n ?_
  refine wp_seq ?_
  refine if_split henv rfl (fun hc2 => ?_) (fun hc2 => ?_)
  · have hlt : j < n := by have := of_decide_eq_true hc2; omega
    refine wp_skip ?_
    refine th_n ?_
    refine wp_seq ?_
    refine wp_block ?_
    refine wp_seq ?_
    refine region_seq ?_
    refine seq_step rfl (op_val (v := .int .i64 (j : Nat)) henv rfl (rn_move henv rfl) ?_)
    clear henv a; intro a henv
    refine seq_step rfl (op_val (v := .pointer (some ⟨ab A, ao A + j, none⟩)) henv rfl (rn_idxU (i := j) henv Tryd.underlying22 (ty_uint32.size) rfl rfl (by omega) (show U32 _ A n c xs from (hst.pat (k := 0) rfl))) ?_)
    clear henv a; intro a henv
    refine seq_step rfl (op_val (v := .int .u32 (xs.getD j 0 : Nat)) henv rfl (rn_loadU henv ty_uint32 rfl (by omega) (show U32 _ A n c xs from (hst.pat (k := 0) rfl))) ?_)
    clear henv a; intro a henv
    refine seq_step rfl (op_val (v := .int .i64 (j : Nat)) henv rfl (rn_assign henv rfl) ?_)
    clear henv a; intro a henv
    refine seq_step rfl (op_val (v := .int .u32 (xs.getD j 0 : Nat)) henv rfl (rn_assign henv rfl) ?_)
    clear henv a; intro a henv
    refine wpList_nil ?_
    refine th_n ?_
    refine wp_seq ?_
    refine region_seq ?_
    refine seq_step rfl (op_val (v := .int .u32 (xs.getD j 0 : Nat)) henv rfl (rn_move henv rfl) ?_)
    clear henv a; intro a henv
    refine seq_step rfl (op_val (v := .bool (decide (((xs.getD j 0 : Nat) : Int) > (0 : Int)))) henv rfl (rn_bin henv rfl rfl rfl) ?_)
    clear henv a; intro a henv
    refine wpList_nil ?_
    refine th_n ?_
    refine if_split henv rfl (fun hc3 => ?_) (fun hc3 => ?_)
    · have hx0 : xs.getD j 0 ≠ 0 := by have := of_decide_eq_true hc3; omega
      have hxl : xs.getD j 0 < 4294967296 := u32_getD hu hlt
      refine wp_seq ?_
      refine region_seq ?_
      refine seq_step rfl (op_val (v := .int .i64 (j : Nat)) henv rfl (rn_move henv rfl) ?_)
      clear henv a; intro a henv
      refine seq_step rfl (op_val (v := .int .i64 (32 * j : Nat)) henv rfl (rn_mul henv rfl rfl (by rw [IntWalk.i64_in _ (by omega)]; omega)) ?_)
      clear henv a; intro a henv
      refine seq_step rfl (op_val (v := .int .u32 (xs.getD j 0 : Nat)) henv rfl (rn_move henv rfl) ?_)
      clear henv a; intro a henv
      refine seq_step rfl (op_call henv rfl Tryd.call101 rfl (tz32 (x := xs.getD j 0) hx0 hxl (show Deb _ from hst.pat (k := 1) rfl)) ?_)
      rintro e w5 ⟨k4, rfl, htz, hq, hb⟩
      refine ⟨_, rfl, ?_⟩
      clear henv a; intro a henv
      replace hst := hst.call hb
      clear hb
      refine seq_step rfl (op_val (v := .int .i64 ((32 * j) + k4 : Nat)) henv rfl (rn_add henv rfl rfl (by rw [IntWalk.i64_in _ (by omega)]; omega)) ?_)
      clear henv a; intro a henv
      refine seq_step rfl (op_val (v := .int .i64 ((32 * j) + k4 : Nat)) henv rfl (rn_assign henv rfl) ?_)
      clear henv a; intro a henv
      refine wpList_nil ?_
      refine th_n ?_
      refine wp_ret ?_
      refine bl_r (th_r (th_r (bl_r (th_r ?_))))
      refine leave henv (res1 Tryd.results61 (RV.tmp henv rfl)) ?_
      obtain ⟨r, hr⟩ := val_first (by rw [hu.len]; exact hlt) hz
      exact ⟨_, rfl, fun _ => isTz_limb hxl hr htz, fun h => absurd h (isTz_limb hxl hr htz).pos, hst.below⟩
    · have hx0 : xs.getD j 0 = 0 := by have := of_decide_eq_false hc3; omega
      refine wp_skip ?_
      refine bl_n (th_n ?_)
      refine region_seq ?_
      refine seq_step rfl (op_val (v := .int .i64 (j + 1 : Nat)) henv rfl (rn_add henv rfl rfl (by rw [IntWalk.i64_in _ (by omega)]; omega)) ?_)
      clear henv a; intro a henv
      refine seq_step rfl (op_val (v := .int .i64 (j + 1 : Nat)) henv rfl (rn_move henv rfl) ?_)
      clear henv a; intro a henv
      refine wpList_nil ?_
      exact th_n ⟨_, (by omega), ⟨j + 1, rfl, henv.sub ⟨rfl, rfl, rfl, rfl, trivial⟩, hst.pick [] [0, 1] (by decide), (by omega), (zeros_succ hz hx0)⟩⟩
  · have hjn : n ≤ j := by have := of_decide_eq_false hc2; omega
    refine wp_exit ?_
    refine th_x (th_x (bl_x (th_n ?_)))
    refine wp_seq ?_
    refine region_seq ?_
    refine seq_step rfl (op_val (v := .int .i64 0) henv rfl (rn_assign henv rfl) ?_)
    clear henv a; intro a henv
    refine wpList_nil ?_
    refine th_n ?_
    refine wp_ret ?_
    refine leave henv (res1 Tryd.results61 (RV.tmp henv rfl)) ?_
    exact ⟨0, rfl, fun h => absurd (val_none fun i hi => hz i (by rw [hu.len] at hi; omega)) h, fun _ => rfl, hst.below⟩

set_option maxRecDepth 100000 in
theorem twos_z0 {A : Option Addr} {c : Nat} {w0 : World} (hx : ZIn w0 A c 0) (hT : Deb w0) :
    Calls Tryd.prog 20 #[.agg #[.bool (neg 0), .slice A (zl 0) c]] w0 fun e w' => e = .returned (.int .i64 (-1)) ∧ Below w0.heap.size w0 w' := by
  refine enter Tryd.func20 rfl Tryd.ntmps20 rfl ?_
  intro a henv hst
  replace hst := (hst.addT hT hT).addZ hx rfl
  clear hx
  refine wp_seq ?_
  refine region_seq ?_
  refine seq_step rfl (op_box (c := #[.bool (neg 0), .slice A (zl 0) c]) henv hst rfl rfl rfl ?_)
  clear henv hst a; intro a w2 g1 henv hst
  refine seq_step rfl (op_val (v := .int .i64 0) henv rfl (rn_assign henv rfl) ?_)
  clear henv a; intro a henv
  refine wpList_nil ?_
  refine th_n ?_
  refine wp_seq ?_
  refine wp_seq ?_
  refine region_seq ?_
  refine seq_step rfl (op_val (v := .agg #[.bool (neg 0), .slice A (zl 0) c]) henv rfl (rn_load0 henv ty_anvil_integer_Int rfl (hst.oat (k := 0) rfl) rfl) ?_)
  clear henv a; intro a henv
  refine seq_step rfl (op_call henv rfl Tryd.call74 rfl (sign_z (z := 0)) ?_)
  rintro e w3 ⟨rfl, hb⟩
  refine ⟨_, rfl, ?_⟩
  clear henv a; intro a henv
  replace hst := hst.call hb
  clear hb
  refine seq_step rfl (op_val (v := .bool ((0 : Int).sign == (0 : Int))) henv rfl (rn_bin henv rfl rfl rfl) ?_)
  clear henv a; intro a henv
  refine wpList_nil ?_
  refine th_n ?_
  refine if_t henv rfl (rfl) ?_
  refine wp_seq ?_
  refine region_seq ?_
  refine seq_step rfl (op_val (v := .int .i64 (-1)) henv rfl (rn_assign henv rfl) ?_)
  clear henv a; intro a henv
  refine wpList_nil ?_
  refine th_n ?_
  refine wp_ret ?_
  refine th_r ?_
  refine leave henv (res1 Tryd.results20 (RV.tmp henv rfl)) ?_
  exact ⟨rfl, hst.below⟩

set_option maxRecDepth 100000 in
theorem twos_z {A : Option Addr} {c : Nat} {x : Int} {w0 : World} (hx : ZIn w0 A c x) (hn : zl x ≤ 1000000) (hx0 : x ≠ 0) (hT : Deb w0) :
    Calls Tryd.prog 20 #[.agg #[.bool (neg x), .slice A (zl x) c]] w0 fun e w' => ∃ k : Nat, e = .returned (.int .i64 k) ∧ IsTz x.natAbs k ∧ Below w0.heap.size w0 w' := by
  have hsx : (x.sign == (0 : Int)) = false := by simpa using hx0
  refine enter Tryd.func20 rfl Tryd.ntmps20 rfl ?_
  intro a henv hst
  replace hst := (hst.addT hT hT).addZ hx rfl
  clear hx
  refine wp_seq ?_
  refine region_seq ?_
  refine seq_step rfl (op_box (c := #[.bool (neg x), .slice A (zl x) c]) henv hst rfl rfl rfl ?_)
  clear henv hst a; intro a w2 g1 henv hst
  refine seq_step rfl (op_val (v := .int .i64 0) henv rfl (rn_assign henv rfl) ?_)
  clear henv a; intro a henv
  refine wpList_nil ?_
  refine th_n ?_
  refine wp_seq ?_
  refine wp_seq ?_
  refine region_seq ?_
  refine seq_step rfl (op_val (v := .agg #[.bool (neg x), .slice A (zl x) c]) henv rfl (rn_load0 henv ty_anvil_integer_Int rfl (hst.oat (k := 0) rfl) rfl) ?_)
  clear henv a; intro a henv
  refine seq_step rfl (op_call henv rfl Tryd.call74 rfl (sign_z (z := x)) ?_)
  rintro e w3 ⟨rfl, hb⟩
  refine ⟨_, rfl, ?_⟩
  clear henv a; intro a henv
  replace hst := hst.call hb
  clear hb
  refine seq_step rfl (op_val (v := .bool (x.sign == (0 : Int))) henv rfl (rn_bin henv rfl rfl rfl) ?_)
  clear henv a; intro a henv
  refine wpList_nil ?_
  refine th_n ?_
  refine if_f henv rfl (hsx) ?_
  refine wp_skip ?_
  refine th_n ?_
  refine wp_seq ?_
  refine region_seq ?_
  refine seq_step rfl (op_val (v := .pointer (some ⟨g1, 1, none⟩)) henv rfl (rn_fieldAddr henv fd_anvil_integer_Int_1 (ty__uint32.size) (by decide) rfl) ?_)
  clear henv a; intro a henv
  refine seq_step rfl (op_val (v := .slice A (zl x) c) henv rfl (rn_load1 henv ty__uint32 rfl (hst.oat (k := 0) rfl) rfl) ?_)
  clear henv a; intro a henv
  refine seq_step rfl (op_call henv rfl Tryd.call61 rfl (twos_any (show U32 _ A (zl x) c (L x.natAbs) from hst.pat (k := 0) rfl) (by omega) (show Deb _ from hst.pat (k := 1) rfl)) ?_)
  rintro e w5 ⟨k4, rfl, htz, -, hb⟩
  refine ⟨_, rfl, ?_⟩
  clear henv a; intro a henv
  replace hst := hst.call hb
  clear hb
  refine seq_step rfl (op_val (v := .int .i64 (k4 : Nat)) henv rfl (rn_assign henv rfl) ?_)
  clear henv a; intro a henv
  refine wpList_nil ?_
  refine th_n ?_
  refine wp_ret ?_
  refine leave henv (res1 Tryd.results20 (RV.tmp henv rfl)) ?_
  rw [val_L] at htz
  exact ⟨_, rfl, htz (by omega), hst.below⟩

set_option maxRecDepth 100000 in
theorem twos_r0 {A : Option Addr} {c : Nat} {w0 : World} (hx : RIn w0 A c 0) :
    Calls Tryd.prog 21 #[.agg #[.bool (neg 0), .slice A (dl 0) c]] w0 fun e w' => e = .returned (.int .i64 (-1)) ∧ Below w0.heap.size w0 w' := by
  refine enter Tryd.func21 rfl Tryd.ntmps21 rfl ?_
  intro a henv hst
  replace hst := hst.addR hx rfl
  clear hx
  refine wp_seq ?_
  refine region_seq ?_
  refine seq_step rfl (op_box (c := #[.bool (neg 0), .slice A (dl 0) c]) henv hst rfl rfl rfl ?_)
  clear henv hst a; intro a w2 g1 henv hst
  refine seq_step rfl (op_val (v := .int .i64 0) henv rfl (rn_assign henv rfl) ?_)
  clear henv a; intro a henv
  refine wpList_nil ?_
  refine th_n ?_
  refine wp_seq ?_
  refine wp_seq ?_
  refine region_seq ?_
  refine seq_step rfl (op_val (v := .pointer (some ⟨g1, 1, none⟩)) henv rfl (rn_fieldAddr henv fd_anvil_anvilref02_Int_1 (ty__uint32.size) (by decide) rfl) ?_)
  clear henv a; intro a henv
  refine seq_step rfl (op_val (v := .slice A (dl 0) c) henv rfl (rn_load1 henv ty__uint32 rfl (hst.oat (k := 0) rfl) rfl) ?_)
  clear henv a; intro a henv
  refine seq_step rfl (op_val (v := .int .i64 (dl 0 : Nat)) henv rfl (rn_len henv Tryd.underlying22 rfl) ?_)
  clear henv a; intro a henv
  refine seq_step rfl (op_val (v := .bool (((dl 0 : Nat) : Int) == (0 : Int))) henv rfl (rn_bin henv rfl rfl rfl) ?_)
  clear henv a; intro a henv
  refine wpList_nil ?_
  refine th_n ?_
  refine if_t henv rfl ((by rw [dl_zero]; rfl)) ?_
  refine wp_seq ?_
  refine region_seq ?_
  refine seq_step rfl (op_val (v := .int .i64 (-1)) henv rfl (rn_assign henv rfl) ?_)
  clear henv a; intro a henv
  refine wpList_nil ?_
  refine th_n ?_
  refine wp_ret ?_
  refine th_r ?_
  refine leave henv (res1 Tryd.results21 (RV.tmp henv rfl)) ?_
  exact ⟨rfl, hst.below⟩

set_option maxRecDepth 100000 in
theorem twos_r {A : Option Addr} {c : Nat} {x : Int} {w0 : World} (hx : RIn w0 A c x) (hn : dl x ≤ 1000000) (hx0 : x ≠ 0) :
    Calls Tryd.prog 21 #[.agg #[.bool (neg x), .slice A (dl x) c]] w0 fun e w' => ∃ k : Nat, e = .returned (.int .i64 k) ∧ IsTz x.natAbs k ∧ Below w0.heap.size w0 w' := by
  obtain ⟨q, hq⟩ := isTz_ex (N := x.natAbs) (by omega)
  have hqd : q < 16 * dl x := tz_lt hq
  have hsx : (((dl x : Nat) : Int) == (0 : Int)) = false := by simp; intro h; rw [h] at hqd; omega
  refine enter Tryd.func21 rfl Tryd.ntmps21 rfl ?_
  intro a henv hst
  replace hst := hst.addR hx rfl
  clear hx
  refine wp_seq ?_
  refine region_seq ?_
  refine seq_step rfl (op_box (c := #[.bool (neg x), .slice A (dl x) c]) henv hst rfl rfl rfl ?_)
  clear henv hst a; intro a w2 g1 henv hst
  refine seq_step rfl (op_val (v := .int .i64 0) henv rfl (rn_assign henv rfl) ?_)
  clear henv a; intro a henv
  refine wpList_nil ?_
  refine th_n ?_
  refine wp_seq ?_
  refine wp_seq ?_
  refine region_seq ?_
  refine seq_step rfl (op_val (v := .pointer (some ⟨g1, 1, none⟩)) henv rfl (rn_fieldAddr henv fd_anvil_anvilref02_Int_1 (ty__uint32.size) (by decide) rfl) ?_)
  clear henv a; intro a henv
  refine seq_step rfl (op_val (v := .slice A (dl x) c) henv rfl (rn_load1 henv ty__uint32 rfl (hst.oat (k := 0) rfl) rfl) ?_)
  clear henv a; intro a henv
  refine seq_step rfl (op_val (v := .int .i64 (dl x : Nat)) henv rfl (rn_len henv Tryd.underlying22 rfl) ?_)
  clear henv a; intro a henv
  refine seq_step rfl (op_val (v := .bool (((dl x : Nat) : Int) == (0 : Int))) henv rfl (rn_bin henv rfl rfl rfl) ?_)
  clear henv a; intro a henv
  refine wpList_nil ?_
  refine th_n ?_
  refine if_f henv rfl (hsx) ?_
  refine wp_skip ?_
  refine th_n ?_
  refine wp_seq ?_
  refine region_seq ?_
  refine seq_step rfl (op_val (v := .int .i64 0) henv rfl (rn_assign henv rfl) ?_)
  clear henv a; intro a henv
  refine wpList_nil ?_
  refine th_n ?_
  refine wp_seq ?_
  refine wp_block ?_
  refine wp_loop_ghost (fun mz a w => ∃ j : Nat, ∃ g : Nat, q - j = mz ∧ Env 16 a [(1, .pointer (some ⟨g, 0, none⟩)), (3, .int .i64 (j : Nat))] ∧ St w0 w [⟨g, #[.bool (neg x), .slice A (dl x) c], 30⟩] [pfR A c x] ∧ j ≤ q) _ ⟨0, g1, rfl, henv.sub ⟨rfl, rfl, trivial⟩, hst.pick [0] [0] (by decide), (Nat.zero_le _)⟩ ?_
  clear henv hst a
  rintro mz a w3 ⟨j, g, rfl, henv, hst, hj⟩
  refine wp_seq ?_
  refine wp_seq ?_
  refine region_seq ?_
  refine seq_step rfl (op_val (v := .pointer (some ⟨g, 1, none⟩)) henv rfl (rn_fieldAddr henv fd_anvil_anvilref02_Int_1 (ty__uint32.size) (by decide) rfl) ?_)
  clear henv a; intro a henv
  refine seq_step rfl (op_val (v := .slice A (dl x) c) henv rfl (rn_load1 henv ty__uint32 rfl (hst.oat (k := 0) rfl) rfl) ?_)
  clear henv a; intro a henv
  refine seq_step rfl (op_val (v := .int .i64 (j : Nat)) henv rfl (rn_move henv rfl) ?_)
  clear henv a; intro a henv
  refine seq_step rfl (op_call henv rfl Tryd.call80 rfl (bit_rb (k := j) (show U32 _ A (dn x.natAbs) c (D x.natAbs) from hst.pat (k := 0) rfl) (by have : dl x = dn x.natAbs := rfl; omega) (by have : dl x = dn x.natAbs := rfl; omega)) ?_)
  rintro e w4 ⟨rfl, hb⟩
  refine ⟨_, rfl, ?_⟩
  clear henv a; intro a henv
  replace hst := hst.call hb
  clear hb
  refine seq_step rfl (op_val (v := .bool (((x.natAbs / 2 ^ j % 2 : Nat) : Int) == (0 : Int))) henv rfl (rn_bin henv rfl rfl rfl) ?_)
  clear henv a; intro a henv
  refine wpList_nil ?_
  refine th_n ?_
  refine if_split henv rfl (fun hc5 => ?_) (fun hc5 => ?_)
  · have hjq := tz_more hq hj hc5
    refine wp_skip ?_
    refine th_n ?_
    refine wp_block ?_
    refine region_seq ?_
    refine seq_step rfl (op_val (v := .int .i64 (j : Nat)) henv rfl (rn_move henv rfl) ?_)
    clear henv a; intro a henv
    refine seq_step rfl (op_val (v := .int .i64 (j + 1 : Nat)) henv rfl (rn_add henv rfl rfl (by rw [IntWalk.i64_in _ (by omega)]; omega)) ?_)
    clear henv a; intro a henv
    refine seq_step rfl (op_val (v := .int .i64 (j + 1 : Nat)) henv rfl (rn_assign henv rfl) ?_)
    clear henv a; intro a henv
    refine wpList_nil ?_
    refine bl_n ?_
    exact th_n ⟨_, (by omega), ⟨j + 1, g, rfl, henv.sub ⟨rfl, rfl, trivial⟩, hst.pick [0] [0] (by decide), (by omega)⟩⟩
  · have hjq := tz_stop hq hj hc5
    refine wp_exit ?_
    refine th_x (th_x (bl_x (th_n ?_)))
    refine wp_seq ?_
    refine region_seq ?_
    refine seq_step rfl (op_val (v := .int .i64 (j : Nat)) henv rfl (rn_move henv rfl) ?_)
    clear henv a; intro a henv
    refine seq_step rfl (op_val (v := .int .i64 (j : Nat)) henv rfl (rn_assign henv rfl) ?_)
    clear henv a; intro a henv
    refine wpList_nil ?_
    refine th_n ?_
    refine wp_ret ?_
    refine leave henv (res1 Tryd.results21 (RV.tmp henv rfl)) ?_
    subst hjq
    exact ⟨_, rfl, hq, hst.below⟩

end Go.Proofs.YtnldopjbiacbfaaDoor
