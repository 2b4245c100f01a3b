/- IntegerNames: the law's walk. Printed by pv/gen_inames.py. No condition. -/
import Derived.Test.YtnldopjbiacbfaaDoorM38
import Derived.Test.YtnldopjbiacbfaaDoorM39
import Derived.Test.YtnldopjbiacbfaaDoorM20
import Derived.Test.YtnldopjbiacbfaaDoorM41

namespace Go.Proofs.YtnldopjbiacbfaaDoor.W
open Go.RowKit Anv Go.Lib

theorem St.addT0 {w0 w : World} {own ps : List PF} (h : St w0 w own ps) (ht : Deb w0) (hw : Deb w) : St w0 w own (pfT :: ps) :=
  h.addP pfT hw (h.older pfT fun b hb => by obtain rfl : b = 0 := hb; exact ht.lt)
theorem zero_z0 {A : Option Addr} {c : Nat} {w : World} (hx : ZIn w A c 0) :
    Calls Tryd.prog 26 #[.agg #[.bool (neg 0), .slice A (zl 0) c]] w fun e w' => e = .returned (.bool true) ∧ Below w.heap.size w w' := by
  rw [neg_zero, zl_zero]; exact zero_true hx
theorem bezout_00 {A B : Option Addr} {c d : Nat} {w : World} (hx : ZIn w A c 0) (hy : ZIn w B d 0) :
    Calls Tryd.prog 71 #[.agg #[.bool (neg 0), .slice A (zl 0) c], .agg #[.bool (neg 0), .slice B (zl 0) d]] w fun e w' => ∃ v1 v2 v3, e = .returned (.tuple #[v1, v2, v3]) ∧ ZAt w' v1 0 ∧ ZAt w' v2 0 ∧ ZAt w' v3 0 ∧ Below w.heap.size w w' := bezout_z0 hx hy
theorem bits_0 {A : Option Addr} {c : Nat} {w : World} (hx : ZIn w A c 0) :
    Calls Tryd.prog 22 #[.agg #[.bool (neg 0), .slice A (zl 0) c]] w fun e w' => e = .returned (.int .i64 0) ∧ Below w.heap.size w w' := by
  have h := bits_z hx (by rw [zl_zero]; decide)
  rw [show (0 : Int).natAbs = 0 from rfl, blen_zero] at h
  exact h
theorem sign_0 {A : Option Addr} {c : Nat} {w : World} :
    Calls Tryd.prog 74 #[.agg #[.bool (neg 0), .slice A (zl 0) c]] w fun e w' => e = .returned (.int .i64 0) ∧ Below w.heap.size w w' := sign_z (z := 0)
theorem cmp_same {A B : Option Addr} {c d : Nat} {x : Int} {w : World} (hx : ZIn w A c x) (hy : ZIn w B d x) :
    Calls Tryd.prog 75 #[.agg #[.bool (neg x), .slice A (zl x) c], .agg #[.bool (neg x), .slice B (zl x) d]] w fun e w' => e = .returned (.int .i64 0) ∧ Below w.heap.size w w' := by
  have h := cmp_z hx hy
  rw [Int.sub_self] at h
  exact h
theorem zl_one : zl 1 ≤ 1 := nl_le_of_lt (k := 1) (by decide)
theorem blen_one : blen (1 : Int).natAbs = 1 := by simp [blen]; rfl
theorem pow_1 {A : Option Addr} {c n : Nat} {w : World} (hx : ZIn w A c 1) (hn : n ≤ 65536) :
    Calls Tryd.prog 73 #[.agg #[.bool (neg 1), .slice A (zl 1) c], .int .i64 (n : Nat)] w fun r w' => ∃ v, r = .returned (.tuple #[v, .int .i64 0]) ∧ ZAt w' v 1 ∧ Below w.heap.size w w' := by
  have h := pow_wee (n := n) hx (by have := zl_one; omega) (by omega) (by rw [blen_one]; decide) (fun _ => hn)
  rw [Go.Proofs.YtnldopjbiacbfaaDoor.one_pow] at h
  exact h
theorem pow_0 {A : Option Addr} {c n : Nat} {w : World} (hx : ZIn w A c 0) (h0 : 0 < n) (hn : n ≤ 9223372036854775807) :
    Calls Tryd.prog 73 #[.agg #[.bool (neg 0), .slice A (zl 0) c], .int .i64 (n : Nat)] w fun r w' => ∃ v, r = .returned (.tuple #[v, .int .i64 0]) ∧ ZAt w' v 0 ∧ Below w.heap.size w w' := by
  have hb : blen (0 : Int).natAbs = 0 := blen_zero
  have h := pow_wee (n := n) hx (by rw [zl_zero]; decide) hn (by rw [hb]; decide) (fun h1 => by rw [hb] at h1; cases h1)
  rw [Go.Proofs.YtnldopjbiacbfaaDoor.zero_pow (by omega)] at h
  exact h
theorem pow_1far {A : Option Addr} {c : Nat} {e : Int} {w : World} (hx : ZIn w A c 1) (he : 65536 < e) (h1 : e ≤ 9223372036854775807) :
    Calls Tryd.prog 73 #[.agg #[.bool (neg 1), .slice A (zl 1) c], .int .i64 e] w fun r w' => r = .returned (.tuple #[.agg #[.bool (neg 0), .slice none (zl 0) 0], .int .i64 3]) ∧ Below w.heap.size w w' := by
  rw [neg_zero, zl_zero]
  exact pow_long hx (by have := zl_one; omega) (by omega) h1 blen_one (by decide) (by simpa using he)
theorem inf1_u8 : (Tryd.prog.info? 5).map (fun i => (i.zero, i.size, i.bytes)) = some (some (.int .u8 0), 1, 1) := by kernel_rfl
theorem ones_len (n j : Nat) : (List.replicate j 49 ++ List.replicate (n - j) 0 : List Nat).length = j + (n - j) := by simp
theorem ones_step {n j : Nat} (h : j < n) : (List.replicate j 49 ++ List.replicate (n - j) 0 : List Nat).set j 49 = List.replicate (j + 1) 49 ++ List.replicate (n - (j + 1)) 0 := by
  rw [List.set_append_right _ _ (by simp), List.length_replicate, Nat.sub_self, show n - j = (n - (j + 1)) + 1 by omega, List.replicate_succ, List.set_cons_zero, List.replicate_succ' (n := j), List.append_assoc]
  rfl
theorem ones_cells (n : Nat) : ∀ i, i < n → (nums .u8 (List.replicate n 49 ++ List.replicate (n - n) 0))[i]? = some (.int .u8 (((List.replicate n (49 : UInt8)).getD i 0).toNat : Nat)) := by
  intro i hi
  rw [Nat.sub_self, List.replicate_zero, List.append_nil]
  simp [nums, List.getD, hi]
theorem nou_nums {g : Nat} {xs : List Nat} {t : TypeId} : NoU (bk g (nums .u8 xs) t) := nou_bk (List.all_eq_true.2 fun v hv => by
  simp [nums] at hv
  obtain ⟨x, _, rfl⟩ := hv
  rfl)

set_option maxRecDepth 100000 in
set_option maxHeartbeats 4000000 in
theorem names_law {w0 : World} (hT : Deb w0) :
    Calls Tryd.prog 16 #[] w0 fun e w' => e = .returned (.bool true) ∧ Below w0.heap.size w0 w' := by
  obtain ⟨n, hn⟩ : ∃ n, 65537 = n := ⟨_, rfl⟩
  have hz0 : zl 0 ≤ 1 := by rw [zl_zero]; decide
  refine enter Tryd.func16 rfl Tryd.ntmps16 rfl ?_
  intro a henv hst
  replace hst := hst.addT0 hT hT
  replace hst := hst.addZ (zin_none _) trivial
  refine wp_seq ?_
  refine region_seq ?_
  refine seq_step rfl (op_val (v := .bool false) henv rfl (rn_assign henv rfl) ?_)
  clear henv a; intro a henv
  refine wpList_nil ?_
  refine th_n ?_
  refine wp_seq ?_
  refine wp_seq ?_
  refine region_seq ?_
  refine seq_step rfl (op_call henv rfl Tryd.call17 rfl (live_true _) ?_)
  rintro e w1 ⟨rfl, hb⟩
  refine ⟨_, rfl, ?_⟩
  clear henv a; intro a henv
  replace hst := hst.call hb
  clear hb
  refine seq_step rfl (op_val (v := .bool false) henv rfl (rn_un henv rfl rfl) ?_)
  clear henv a; intro a henv
  refine wpList_nil ?_
  refine th_n ?_
  refine if_f henv rfl (rfl) ?_
  refine wp_skip ?_
  refine th_n ?_
  refine wp_seq ?_
  refine region_seq ?_
  refine seq_step rfl (op_alloc (c := #[.bool (neg 0), .slice none (zl 0) 0]) henv hst rfl zero_anvil_integer_Int zcells ?_)
  clear henv hst a; intro a w3 g2 henv hst
  refine wpList_nil ?_
  refine th_n ?_
  refine wp_seq ?_
  refine region_seq ?_
  refine seq_step rfl (op_val (v := .agg #[.bool (neg 0), .slice none (zl 0) 0]) henv rfl (rn_load0 henv ty_anvil_integer_Int rfl (hst.oat (k := 0) rfl) rfl) ?_)
  clear henv a; intro a henv
  refine seq_step rfl (op_call henv rfl Tryd.call70 rfl (limbs_z (z := 0) (show ZIn _ none 0 0 from hst.pat (k := 0) rfl) (by rw [zl_zero]; decide)) ?_)
  rintro e w7 ⟨A4, c5, rfl, hz6, -, hb⟩
  refine ⟨_, rfl, ?_⟩
  clear henv a; intro a henv
  replace hst := (hst.call hb).addZ hz6 ⟨nou_bk rfl, trivial⟩
  clear hz6
  clear hb
  refine seq_step rfl (op_val (v := .tuple #[.bool (neg 0), .slice A4 (zl 0) c5]) henv rfl (rn_move henv rfl) ?_)
  clear henv a; intro a henv
  refine seq_step rfl (op_val (v := .bool (neg 0)) henv rfl (rn_extract henv rfl rfl) ?_)
  clear henv a; intro a henv
  refine seq_step rfl (op_val (v := .slice A4 (zl 0) c5) henv rfl (rn_extract henv rfl rfl) ?_)
  clear henv a; intro a henv
  refine seq_step rfl (op_val (v := .bool (neg 0)) henv rfl (rn_assign henv rfl) ?_)
  clear henv a; intro a henv
  refine seq_step rfl (op_val (v := .slice A4 (zl 0) c5) henv rfl (rn_assign henv rfl) ?_)
  clear henv a; intro a henv
  refine wpList_nil ?_
  refine th_n ?_
  refine wp_seq ?_
  refine region_seq ?_
  refine seq_step rfl (op_val (v := .agg #[.bool (neg 0), .slice none (zl 0) 0]) henv rfl (rn_load0 henv ty_anvil_integer_Int rfl (hst.oat (k := 0) rfl) rfl) ?_)
  clear henv a; intro a henv
  refine seq_step rfl (op_val (v := .agg #[.bool (neg 0), .slice none (zl 0) 0]) henv rfl (rn_load0 henv ty_anvil_integer_Int rfl (hst.oat (k := 0) rfl) rfl) ?_)
  clear henv a; intro a henv
  refine seq_step rfl (op_call henv rfl Tryd.call71 rfl (bezout_00 (show ZIn _ none 0 0 from hst.pat (k := 1) rfl) (show ZIn _ none 0 0 from hst.pat (k := 1) rfl)) ?_)
  rintro e w17 ⟨_, _, _, rfl, ⟨A8, c9, rfl, hz10⟩, ⟨A11, c12, rfl, hz13⟩, ⟨A14, c15, rfl, hz16⟩, hb⟩
  refine ⟨_, rfl, ?_⟩
  clear henv a; intro a henv
  replace hst := (((hst.call hb).addZ hz10 ⟨nou_bk rfl, trivial⟩).addZ hz13 ⟨nou_bk rfl, trivial⟩).addZ hz16 ⟨nou_bk rfl, trivial⟩
  clear hz10 hz13 hz16
  clear hb
  refine seq_step rfl (op_val (v := .tuple #[.agg #[.bool (neg 0), .slice A8 (zl 0) c9], .agg #[.bool (neg 0), .slice A11 (zl 0) c12], .agg #[.bool (neg 0), .slice A14 (zl 0) c15]]) henv rfl (rn_move henv rfl) ?_)
  clear henv a; intro a henv
  refine seq_step rfl (op_val (v := .agg #[.bool (neg 0), .slice A8 (zl 0) c9]) henv rfl (rn_extract henv rfl rfl) ?_)
  clear henv a; intro a henv
  refine seq_step rfl (op_val (v := .agg #[.bool (neg 0), .slice A11 (zl 0) c12]) henv rfl (rn_extract henv rfl rfl) ?_)
  clear henv a; intro a henv
  refine seq_step rfl (op_val (v := .agg #[.bool (neg 0), .slice A14 (zl 0) c15]) henv rfl (rn_extract henv rfl rfl) ?_)
  clear henv a; intro a henv
  refine seq_step rfl (op_alloc (c := #[.bool (neg 0), .slice none (zl 0) 0]) henv hst rfl zero_anvil_integer_Int zcells ?_)
  clear henv hst a; intro a w19 g18 henv hst
  refine seq_step rfl (op_alloc (c := #[.bool (neg 0), .slice none (zl 0) 0]) henv hst rfl zero_anvil_integer_Int zcells ?_)
  clear henv hst a; intro a w21 g20 henv hst
  refine seq_step rfl (op_alloc (c := #[.bool (neg 0), .slice none (zl 0) 0]) henv hst rfl zero_anvil_integer_Int zcells ?_)
  clear henv hst a; intro a w23 g22 henv hst
  refine seq_step rfl (op_store (k := 2) (c' := #[.bool (neg 0), .slice A8 (zl 0) c9]) henv hst (ty_anvil_integer_Int.size) rfl rfl rfl rfl (by simp) rfl rfl ?_)
  clear henv hst a; intro a w24 henv hst
  refine seq_step rfl (op_store (k := 1) (c' := #[.bool (neg 0), .slice A11 (zl 0) c12]) henv hst (ty_anvil_integer_Int.size) rfl rfl rfl rfl (by simp) rfl rfl ?_)
  clear henv hst a; intro a w25 henv hst
  refine seq_step rfl (op_store (k := 0) (c' := #[.bool (neg 0), .slice A14 (zl 0) c15]) henv hst (ty_anvil_integer_Int.size) rfl rfl rfl rfl (by simp) rfl rfl ?_)
  clear henv hst a; intro a w26 henv hst
  refine wpList_nil ?_
  refine th_n ?_
  refine wp_seq ?_
  refine region_seq ?_
  refine seq_step rfl (op_makeN (n := 65537) (k := .u8) (bytes := 1) henv hst rfl Tryd.underlying89 inf1_u8 rfl rfl (by decide) (by decide) ?_)
  clear henv hst a; intro a w28 g27 henv hst
  rw [hn] at henv hst
  refine seq_step rfl (op_val (v := .slice (some ⟨g27, 0, none⟩) n n) henv rfl (rn_assign henv rfl) ?_)
  clear henv a; intro a henv
  refine wpList_nil ?_
  refine th_n ?_
  refine wp_seq ?_
  refine wp_seq ?_
  refine region_seq ?_
  refine seq_step rfl (op_val (v := .int .i64 0) henv rfl (rn_assign henv rfl) ?_)
  clear henv a; intro a henv
  refine wpList_nil ?_
  refine th_n ?_
  refine wp_block ?_
  rw [show List.replicate n 0 = List.replicate 0 49 ++ List.replicate (n - 0) 0 from rfl] at hst
  refine wp_loop_ghost (fun mz a w => ∃ j : Nat, n - j = mz ∧ Env 145 a [(1, .pointer (some ⟨g2, 0, none⟩)), (2, .bool (neg 0)), (3, .slice A4 (zl 0) c5), (4, .pointer (some ⟨g18, 0, none⟩)), (5, .pointer (some ⟨g20, 0, none⟩)), (6, .pointer (some ⟨g22, 0, none⟩)), (7, .slice (some ⟨g27, 0, none⟩) n n), (8, .int .i64 (j : Nat))] ∧ St w0 w [bk g27 (nums .u8 (List.replicate j 49 ++ List.replicate (n - j) 0)) 5, bk g22 #[.bool (neg 0), .slice A14 (zl 0) c15] 28, bk g20 #[.bool (neg 0), .slice A11 (zl 0) c12] 28, bk g18 #[.bool (neg 0), .slice A8 (zl 0) c9] 28, bk g2 #[.bool (neg 0), .slice none (zl 0) 0] 28] [pfZ A14 c15 0, pfZ A11 c12 0, pfZ A8 c9 0, pfZ A4 c5 0, pfZ none 0 0, pfT] ∧ j ≤ n) _ ⟨0, rfl, henv.sub ⟨rfl, rfl, rfl, rfl, rfl, rfl, rfl, rfl, trivial⟩, hst.pick [0, 1, 2, 3, 4] [0, 1, 2, 3, 4, 5] (by decide), (Nat.zero_le _)⟩ ?_
  clear henv hst a
  rintro mz a w29 ⟨j, rfl, henv, hst, hj⟩
  refine wp_seq ?_
  refine wp_seq ?_
  refine region_seq ?_
  refine seq_step rfl (op_val (v := .int .i64 (j : Nat)) henv rfl (rn_move henv rfl) ?_)
  clear henv a; intro a henv
  refine seq_step rfl (op_val (v := .slice (some ⟨g27, 0, none⟩) n n) henv rfl (rn_move henv rfl) ?_)
  clear henv a; intro a henv
  refine seq_step rfl (op_val (v := .int .i64 (n : Nat)) henv rfl (rn_len henv Tryd.underlying89 rfl) ?_)
  clear henv a; intro a henv
  refine seq_step rfl (op_val (v := .bool (decide (((j : Nat) : Int) < ((n : Nat) : Int)))) henv rfl (rn_bin henv rfl rfl rfl) ?_)
  clear henv a; intro a henv
  refine wpList_nil ?_
  refine th_n ?_
  refine if_split henv rfl (fun hc30 => ?_) (fun hc30 => ?_)
  · have hlt : j < n := by have := of_decide_eq_true hc30; omega
    refine wp_skip ?_
    refine th_n ?_
    refine wp_seq ?_
    refine wp_block ?_
    refine region_seq ?_
    refine seq_step rfl (op_val (v := .slice (some ⟨g27, 0, none⟩) n n) henv rfl (rn_move henv rfl) ?_)
    clear henv a; intro a henv
    refine seq_step rfl (op_val (v := .int .i64 (j : Nat)) henv rfl (rn_move henv rfl) ?_)
    clear henv a; intro a henv
    refine seq_step rfl (op_val (v := .pointer (some ⟨g27, j, none⟩)) henv rfl (rn_idxO (i := j) henv Tryd.underlying89 (ty_uint8.size) rfl rfl (by omega) (by omega)) ?_)
    clear henv a; intro a henv
    refine seq_step rfl (op_storeN (k := 0) (v := 49) henv hst (ty_uint8.size) rfl rfl rfl (by rw [ones_len]; omega) ?_)
    clear henv hst a; intro a w31 henv hst
    rw [ones_step hlt] at hst
    refine wpList_nil ?_
    refine bl_n (th_n ?_)
    refine region_seq ?_
    refine seq_step rfl (op_val (v := .int .i64 (j : Nat)) henv rfl (rn_move henv rfl) ?_)
    clear henv a; intro a henv
    refine seq_step rfl (op_val (v := .int .i64 (j + 1 : Nat)) henv rfl (rn_add henv rfl rfl (by rw [IntWalk.i64_in _ (by omega)]; omega)) ?_)
    clear henv a; intro a henv
    refine seq_step rfl (op_val (v := .int .i64 (j + 1 : Nat)) henv rfl (rn_assign henv rfl) ?_)
    clear henv a; intro a henv
    refine wpList_nil ?_
    exact th_n ⟨_, (by omega), ⟨j + 1, rfl, henv.sub ⟨rfl, rfl, rfl, rfl, rfl, rfl, rfl, rfl, trivial⟩, hst.pick [0, 1, 2, 3, 4] [0, 1, 2, 3, 4, 5] (by decide), (by omega)⟩⟩
  · obtain rfl : n = j := by have := of_decide_eq_false hc30; omega
    clear hc30
    refine wp_exit ?_
    refine th_x (th_x (bl_x (th_n ?_)))
    refine wp_seq ?_
    refine region_seq ?_
    refine seq_step rfl (op_val (v := .slice (some ⟨g27, 0, none⟩) n n) henv rfl (rn_move henv rfl) ?_)
    clear henv a; intro a henv
    refine seq_step rfl (op_val (v := .string ⟨(List.replicate n 49).toArray⟩) henv rfl (rn_bytesStr (s := List.replicate n 49) henv Tryd.underlying89 Tryd.underlying5 Tryd.underlying9 rfl List.length_replicate (hst.oat (k := 0) rfl) (ones_cells n)) ?_)
    clear henv a; intro a henv
    refine seq_step rfl (op_call henv rfl Tryd.call42 rfl (iread_long (d := List.replicate n 49) (by rw [List.length_replicate]; omega) (by rw [List.length_replicate]; unfold maxLen; omega)) ?_)
    rintro e w32 ⟨rfl, hb⟩
    refine ⟨_, rfl, ?_⟩
    clear henv a; intro a henv
    replace hst := hst.call hb
    replace hst := hst.addZ (zin_none _) ⟨nou_nums, nou_bk rfl, nou_bk rfl, nou_bk rfl, nou_bk rfl, trivial⟩
    clear hb
    refine seq_step rfl (op_val (v := .tuple #[.agg #[.bool (neg 0), .slice none (zl 0) 0], .agg #[.int .i64 3, .int .i64 65536]]) henv rfl (rn_move henv rfl) ?_)
    clear henv a; intro a henv
    refine seq_step rfl (op_val (v := .agg #[.bool (neg 0), .slice none (zl 0) 0]) henv rfl (rn_extract henv rfl rfl) ?_)
    clear henv a; intro a henv
    refine seq_step rfl (op_val (v := .agg #[.int .i64 3, .int .i64 65536]) henv rfl (rn_extract henv rfl rfl) ?_)
    clear henv a; intro a henv
    refine seq_step rfl (op_alloc (c := #[.bool (neg 0), .slice none (zl 0) 0]) henv hst rfl zero_anvil_integer_Int zcells ?_)
    clear henv hst a; intro a w34 g33 henv hst
    refine seq_step rfl (op_alloc (c := #[.int .i64 0, .int .i64 0]) henv hst rfl zero_anvil_api_Spot rfl ?_)
    clear henv hst a; intro a w36 g35 henv hst
    refine seq_step rfl (op_store (k := 1) (c' := #[.bool (neg 0), .slice none (zl 0) 0]) henv hst (ty_anvil_integer_Int.size) rfl rfl rfl rfl (by simp) rfl rfl ?_)
    clear henv hst a; intro a w37 henv hst
    refine seq_step rfl (op_store (k := 0) (c' := #[.int .i64 3, .int .i64 65536]) henv hst (ty_anvil_api_Spot.size) rfl rfl rfl rfl (by simp) rfl rfl ?_)
    clear henv hst a; intro a w38 henv hst
    refine wpList_nil ?_
    refine th_n ?_
    refine wp_seq ?_
    refine region_seq ?_
    refine seq_step rfl (op_call henv rfl Tryd.call72 rfl (of_z (n := (1 : Int)) (by decide) (by decide)) ?_)
    rintro e w42 ⟨_, rfl, ⟨A39, c40, rfl, hz41⟩, hb⟩
    refine ⟨_, rfl, ?_⟩
    clear henv a; intro a henv
    replace hst := (hst.call hb).addZ hz41 ⟨nou_bk rfl, nou_bk rfl, nou_nums, nou_bk rfl, nou_bk rfl, nou_bk rfl, nou_bk rfl, trivial⟩
    clear hz41
    clear hb
    refine seq_step rfl (op_call henv rfl Tryd.call73 rfl (pow_1 (n := 65536) (show ZIn _ A39 c40 1 from hst.pat (k := 0) rfl) (by decide)) ?_)
    rintro e w46 ⟨_, rfl, ⟨A43, c44, rfl, hz45⟩, hb⟩
    refine ⟨_, rfl, ?_⟩
    clear henv a; intro a henv
    replace hst := (hst.call hb).addZ hz45 ⟨nou_bk rfl, nou_bk rfl, nou_nums, nou_bk rfl, nou_bk rfl, nou_bk rfl, nou_bk rfl, trivial⟩
    clear hz45
    clear hb
    refine seq_step rfl (op_val (v := .tuple #[.agg #[.bool (neg 1), .slice A43 (zl 1) c44], .int .i64 0]) henv rfl (rn_move henv rfl) ?_)
    clear henv a; intro a henv
    refine seq_step rfl (op_val (v := .agg #[.bool (neg 1), .slice A43 (zl 1) c44]) henv rfl (rn_extract henv rfl rfl) ?_)
    clear henv a; intro a henv
    refine seq_step rfl (op_val (v := .int .i64 0) henv rfl (rn_extract henv rfl rfl) ?_)
    clear henv a; intro a henv
    refine seq_step rfl (op_alloc (c := #[.bool (neg 0), .slice none (zl 0) 0]) henv hst rfl zero_anvil_integer_Int zcells ?_)
    clear henv hst a; intro a w48 g47 henv hst
    refine seq_step rfl (op_store (k := 0) (c' := #[.bool (neg 1), .slice A43 (zl 1) c44]) henv hst (ty_anvil_integer_Int.size) rfl rfl rfl rfl (by simp) rfl rfl ?_)
    clear henv hst a; intro a w49 henv hst
    refine seq_step rfl (op_val (v := .int .i64 0) henv rfl (rn_assign henv rfl) ?_)
    clear henv a; intro a henv
    refine wpList_nil ?_
    refine th_n ?_
    refine wp_seq ?_
    refine region_seq ?_
    refine seq_step rfl (op_call henv rfl Tryd.call72 rfl (of_z (n := (1 : Int)) (by decide) (by decide)) ?_)
    rintro e w53 ⟨_, rfl, ⟨A50, c51, rfl, hz52⟩, hb⟩
    refine ⟨_, rfl, ?_⟩
    clear henv a; intro a henv
    replace hst := (hst.call hb).addZ hz52 ⟨nou_bk rfl, nou_bk rfl, nou_bk rfl, nou_nums, nou_bk rfl, nou_bk rfl, nou_bk rfl, nou_bk rfl, trivial⟩
    clear hz52
    clear hb
    refine seq_step rfl (op_call henv rfl Tryd.call73 rfl (pow_1far (e := 65537) (show ZIn _ A50 c51 1 from hst.pat (k := 0) rfl) (by decide) (by decide)) ?_)
    rintro e w54 ⟨rfl, hb⟩
    refine ⟨_, rfl, ?_⟩
    clear henv a; intro a henv
    replace hst := hst.call hb
    replace hst := hst.addZ (zin_none _) ⟨nou_bk rfl, nou_bk rfl, nou_bk rfl, nou_nums, nou_bk rfl, nou_bk rfl, nou_bk rfl, nou_bk rfl, trivial⟩
    clear hb
    refine seq_step rfl (op_val (v := .tuple #[.agg #[.bool (neg 0), .slice none (zl 0) 0], .int .i64 3]) henv rfl (rn_move henv rfl) ?_)
    clear henv a; intro a henv
    refine seq_step rfl (op_val (v := .agg #[.bool (neg 0), .slice none (zl 0) 0]) henv rfl (rn_extract henv rfl rfl) ?_)
    clear henv a; intro a henv
    refine seq_step rfl (op_val (v := .int .i64 3) henv rfl (rn_extract henv rfl rfl) ?_)
    clear henv a; intro a henv
    refine seq_step rfl (op_alloc (c := #[.bool (neg 0), .slice none (zl 0) 0]) henv hst rfl zero_anvil_integer_Int zcells ?_)
    clear henv hst a; intro a w56 g55 henv hst
    refine seq_step rfl (op_store (k := 0) (c' := #[.bool (neg 0), .slice none (zl 0) 0]) henv hst (ty_anvil_integer_Int.size) rfl rfl rfl rfl (by simp) rfl rfl ?_)
    clear henv hst a; intro a w57 henv hst
    refine seq_step rfl (op_val (v := .int .i64 3) henv rfl (rn_assign henv rfl) ?_)
    clear henv a; intro a henv
    refine wpList_nil ?_
    refine th_n ?_
    refine wp_seq ?_
    refine region_seq ?_
    refine seq_step rfl (op_val (v := .agg #[.bool (neg 0), .slice none (zl 0) 0]) henv rfl (rn_load0 henv ty_anvil_integer_Int rfl (hst.oat (k := 8) rfl) rfl) ?_)
    clear henv a; intro a henv
    refine seq_step rfl (op_call henv rfl Tryd.call73 rfl (pow_0 (n := 4611686018427387904) (show ZIn _ none 0 0 from hst.pat (k := 0) rfl) (by decide) (by decide)) ?_)
    rintro e w61 ⟨_, rfl, ⟨A58, c59, rfl, hz60⟩, hb⟩
    refine ⟨_, rfl, ?_⟩
    clear henv a; intro a henv
    replace hst := (hst.call hb).addZ hz60 ⟨nou_bk rfl, nou_bk rfl, nou_bk rfl, nou_bk rfl, nou_nums, nou_bk rfl, nou_bk rfl, nou_bk rfl, nou_bk rfl, trivial⟩
    clear hz60
    clear hb
    refine seq_step rfl (op_val (v := .tuple #[.agg #[.bool (neg 0), .slice A58 (zl 0) c59], .int .i64 0]) henv rfl (rn_move henv rfl) ?_)
    clear henv a; intro a henv
    refine seq_step rfl (op_val (v := .agg #[.bool (neg 0), .slice A58 (zl 0) c59]) henv rfl (rn_extract henv rfl rfl) ?_)
    clear henv a; intro a henv
    refine seq_step rfl (op_val (v := .int .i64 0) henv rfl (rn_extract henv rfl rfl) ?_)
    clear henv a; intro a henv
    refine seq_step rfl (op_alloc (c := #[.bool (neg 0), .slice none (zl 0) 0]) henv hst rfl zero_anvil_integer_Int zcells ?_)
    clear henv hst a; intro a w63 g62 henv hst
    refine seq_step rfl (op_store (k := 0) (c' := #[.bool (neg 0), .slice A58 (zl 0) c59]) henv hst (ty_anvil_integer_Int.size) rfl rfl rfl rfl (by simp) rfl rfl ?_)
    clear henv hst a; intro a w64 henv hst
    refine seq_step rfl (op_val (v := .int .i64 0) henv rfl (rn_assign henv rfl) ?_)
    clear henv a; intro a henv
    refine wpList_nil ?_
    refine th_n ?_
    refine wp_seq ?_
    simp only [List.append_eq, List.cons_append, List.nil_append]
    refine region_any (n := 84) (Sk [bk g62 #[.bool (neg 0), .slice A58 (zl 0) c59] 28, bk g55 #[.bool (neg 0), .slice none (zl 0) 0] 28, bk g47 #[.bool (neg 1), .slice A43 (zl 1) c44] 28, bk g35 #[.int .i64 3, .int .i64 65536] 58, bk g33 #[.bool (neg 0), .slice none (zl 0) 0] 28, bk g27 (nums .u8 (List.replicate n 49 ++ List.replicate (n - n) 0)) 5, bk g22 #[.bool (neg 0), .slice A14 (zl 0) c15] 28, bk g20 #[.bool (neg 0), .slice A11 (zl 0) c12] 28, bk g18 #[.bool (neg 0), .slice A8 (zl 0) c9] 28, bk g2 #[.bool (neg 0), .slice none (zl 0) 0] 28] [pfZ A58 c59 0, pfZ none 0 0, pfZ A50 c51 1, pfZ A43 c44 1, pfZ A39 c40 1, pfZ none 0 0, pfZ A14 c15 0, pfZ A11 c12 0, pfZ A8 c9 0, pfZ A4 c5 0, pfZ none 0 0, pfT] [] []) mixed rfl henv hst ?_
    clear henv hst; intro w65 henv hst
    refine sAny_take (i := 0) [1, 2, 3, 4, 5, 6, 7, 8, 9, 10, 11, 12, 13, 14, 15, 16, 17, 18, 19, 20, 21, 22, 23, 24, 25, 26, 27, 28, 29, 30, 31, 32, 33, 34, 35, 36, 37, 38, 39, 40, 41, 42, 43, 44, 45, 46, 47, 48, 49, 50, 51, 52, 53, 54, 55, 56, 57, 58, 59, 60, 61, 62, 63, 64, 65, 66, 67, 68, 69, 70, 71, 72, 73, 74, 75, 76, 77, 78, 79, 80, 81, 82, 83] (fun _ => True) (v := .bool true) rfl (by as_aux_lemma => kernel_rfl) (fun _ _ _ h => h) (fun _ _ _ _ => trivial) henv rfl trivial (fun w' _ => rn_move henv rfl) ?_
    clear henv a; intro a henv
    refine sAny_takeg (i := 1) [2, 3, 4, 5, 6, 7, 8, 9, 10, 11, 12, 13, 14, 15, 16, 17, 18, 19, 20, 21, 22, 23, 24, 25, 26, 27, 28, 29, 30, 31, 32, 33, 34, 35, 36, 37, 38, 39, 40, 41, 42, 43, 44, 45, 46, 47, 48, 49, 50, 51, 52, 53, 54, 55, 56, 57, 58, 59, 60, 61, 62, 63, 64, 65, 66, 67, 68, 69, 70, 71, 72, 73, 74, 75, 76, 77, 78, 79, 80, 81, 82, 83] (fun w' => w'.heap[g2]? = some (.cells #[.bool (neg 0), .slice none (zl 0) 0] 28 (0, 0))) (v := .agg #[.bool (neg 0), .slice none (zl 0) 0]) rfl (by as_aux_lemma => kernel_rfl) (fun _ _ _ h => h) (fun _ _ _ hS => hS.1.oat (k := 9) rfl) henv rfl rfl rfl rfl (hst.oat (k := 9) rfl) (fun w' hg => rn_load0 henv ty_anvil_integer_Int rfl hg rfl) ?_
    clear henv a; intro a henv
    refine sAny_oneg (i := 2) (by as_aux_lemma => kernel_rfl) rfl rfl henv rfl rfl rfl (op_call henv rfl Tryd.call74 rfl (sign_0) ?_)
    rintro e w66 ⟨rfl, hb⟩
    refine ⟨_, rfl, ?_⟩
    clear henv a; intro a henv
    replace hst := hst.call hb
    clear hb
    refine ⟨.inr ⟨hst.kn.pick [0, 1, 2, 3, 4, 5, 6, 7, 8, 9] [0, 1, 2, 3, 4, 5, 6, 7, 8, 9, 10, 11], .inr (hst.kn.pick [] [])⟩, ?_⟩
    refine sAny_takeg (i := 3) [4, 5, 6, 7, 8, 9, 10, 11, 12, 13, 14, 15, 16, 17, 18, 19, 20, 21, 22, 23, 24, 25, 26, 27, 28, 29, 30, 31, 32, 33, 34, 35, 36, 37, 38, 39, 40, 41, 42, 43, 44, 45, 46, 47, 48, 49, 50, 51, 52, 53, 54, 55, 56, 57, 58, 59, 60, 61, 62, 63, 64, 65, 66, 67, 68, 69, 70, 71, 72, 73, 74, 75, 76, 77, 78, 79, 80, 81, 82, 83] (fun _ => True) (v := .bool true) rfl (by as_aux_lemma => kernel_rfl) (fun _ _ _ h => h) (fun _ _ _ _ => trivial) henv rfl rfl rfl rfl trivial (fun w' _ => rn_bin henv rfl rfl rfl) ?_
    clear henv a; intro a henv
    refine sAny_take (i := 4) [5, 6, 7, 8, 9, 10, 11, 12, 13, 14, 15, 16, 17, 18, 19, 20, 21, 22, 23, 24, 25, 26, 27, 28, 29, 30, 31, 32, 33, 34, 35, 36, 37, 38, 39, 40, 41, 42, 43, 44, 45, 46, 47, 48, 49, 50, 51, 52, 53, 54, 55, 56, 57, 58, 59, 60, 61, 62, 63, 64, 65, 66, 67, 68, 69, 70, 71, 72, 73, 74, 75, 76, 77, 78, 79, 80, 81, 82, 83] (fun _ => True) (v := .bool true) rfl (by as_aux_lemma => kernel_rfl) (fun _ _ _ h => h) (fun _ _ _ _ => trivial) henv rfl trivial (fun w' _ => rn_pick henv rfl rfl) ?_
    clear henv a; intro a henv
    refine sAny_take (i := 5) [6, 7, 8, 9, 10, 11, 12, 13, 14, 15, 16, 17, 18, 19, 20, 21, 22, 23, 24, 25, 26, 27, 28, 29, 30, 31, 32, 33, 34, 35, 36, 37, 38, 39, 40, 41, 42, 43, 44, 45, 46, 47, 48, 49, 50, 51, 52, 53, 54, 55, 56, 57, 58, 59, 60, 61, 62, 63, 64, 65, 66, 67, 68, 69, 70, 71, 72, 73, 74, 75, 76, 77, 78, 79, 80, 81, 82, 83] (fun _ => True) (v := .bool true) rfl (by as_aux_lemma => kernel_rfl) (fun _ _ _ h => h) (fun _ _ _ _ => trivial) henv rfl trivial (fun w' _ => rn_move henv rfl) ?_
    clear henv a; intro a henv
    refine sAny_takeg (i := 6) [7, 8, 9, 10, 11, 12, 13, 14, 15, 16, 17, 18, 19, 20, 21, 22, 23, 24, 25, 26, 27, 28, 29, 30, 31, 32, 33, 34, 35, 36, 37, 38, 39, 40, 41, 42, 43, 44, 45, 46, 47, 48, 49, 50, 51, 52, 53, 54, 55, 56, 57, 58, 59, 60, 61, 62, 63, 64, 65, 66, 67, 68, 69, 70, 71, 72, 73, 74, 75, 76, 77, 78, 79, 80, 81, 82, 83] (fun _ => True) (v := .slice A4 (zl 0) c5) rfl (by as_aux_lemma => kernel_rfl) (fun _ _ _ h => h) (fun _ _ _ _ => trivial) henv rfl rfl rfl rfl trivial (fun w' _ => rn_move henv rfl) ?_
    clear henv a; intro a henv
    refine sAny_takeg (i := 7) [8, 9, 10, 11, 12, 13, 14, 15, 16, 17, 18, 19, 20, 21, 22, 23, 24, 25, 26, 27, 28, 29, 30, 31, 32, 33, 34, 35, 36, 37, 38, 39, 40, 41, 42, 43, 44, 45, 46, 47, 48, 49, 50, 51, 52, 53, 54, 55, 56, 57, 58, 59, 60, 61, 62, 63, 64, 65, 66, 67, 68, 69, 70, 71, 72, 73, 74, 75, 76, 77, 78, 79, 80, 81, 82, 83] (fun _ => True) (v := .int .i64 (zl 0 : Nat)) rfl (by as_aux_lemma => kernel_rfl) (fun _ _ _ h => h) (fun _ _ _ _ => trivial) henv rfl rfl rfl rfl trivial (fun w' _ => rn_len henv Tryd.underlying22 rfl) ?_
    clear henv a; intro a henv
    refine sAny_takeg (i := 8) [9, 10, 11, 12, 13, 14, 15, 16, 17, 18, 19, 20, 21, 22, 23, 24, 25, 26, 27, 28, 29, 30, 31, 32, 33, 34, 35, 36, 37, 38, 39, 40, 41, 42, 43, 44, 45, 46, 47, 48, 49, 50, 51, 52, 53, 54, 55, 56, 57, 58, 59, 60, 61, 62, 63, 64, 65, 66, 67, 68, 69, 70, 71, 72, 73, 74, 75, 76, 77, 78, 79, 80, 81, 82, 83] (fun _ => True) (v := .bool (((zl 0 : Nat) : Int) == (0 : Int))) rfl (by as_aux_lemma => kernel_rfl) (fun _ _ _ h => h) (fun _ _ _ _ => trivial) henv rfl rfl rfl rfl trivial (fun w' _ => rn_bin henv rfl rfl rfl) ?_
    clear henv a; intro a henv
    rw [show (((zl 0 : Nat) : Int) == (0 : Int)) = true from (by rw [zl_zero]; rfl)] at henv
    refine sAny_take (i := 9) [10, 11, 12, 13, 14, 15, 16, 17, 18, 19, 20, 21, 22, 23, 24, 25, 26, 27, 28, 29, 30, 31, 32, 33, 34, 35, 36, 37, 38, 39, 40, 41, 42, 43, 44, 45, 46, 47, 48, 49, 50, 51, 52, 53, 54, 55, 56, 57, 58, 59, 60, 61, 62, 63, 64, 65, 66, 67, 68, 69, 70, 71, 72, 73, 74, 75, 76, 77, 78, 79, 80, 81, 82, 83] (fun _ => True) (v := .bool true) rfl (by as_aux_lemma => kernel_rfl) (fun _ _ _ h => h) (fun _ _ _ _ => trivial) henv rfl trivial (fun w' _ => rn_pick henv rfl rfl) ?_
    clear henv a; intro a henv
    refine sAny_take (i := 10) [11, 12, 13, 14, 15, 16, 17, 18, 19, 20, 21, 22, 23, 24, 25, 26, 27, 28, 29, 30, 31, 32, 33, 34, 35, 36, 37, 38, 39, 40, 41, 42, 43, 44, 45, 46, 47, 48, 49, 50, 51, 52, 53, 54, 55, 56, 57, 58, 59, 60, 61, 62, 63, 64, 65, 66, 67, 68, 69, 70, 71, 72, 73, 74, 75, 76, 77, 78, 79, 80, 81, 82, 83] (fun _ => True) (v := .bool true) rfl (by as_aux_lemma => kernel_rfl) (fun _ _ _ h => h) (fun _ _ _ _ => trivial) henv rfl trivial (fun w' _ => rn_move henv rfl) ?_
    clear henv a; intro a henv
    refine sAny_takeg (i := 11) [12, 13, 14, 15, 16, 17, 18, 19, 20, 21, 22, 23, 24, 25, 26, 27, 28, 29, 30, 31, 32, 33, 34, 35, 36, 37, 38, 39, 40, 41, 42, 43, 44, 45, 46, 47, 48, 49, 50, 51, 52, 53, 54, 55, 56, 57, 58, 59, 60, 61, 62, 63, 64, 65, 66, 67, 68, 69, 70, 71, 72, 73, 74, 75, 76, 77, 78, 79, 80, 81, 82, 83] (fun w' => w'.heap[g2]? = some (.cells #[.bool (neg 0), .slice none (zl 0) 0] 28 (0, 0))) (v := .agg #[.bool (neg 0), .slice none (zl 0) 0]) rfl (by as_aux_lemma => kernel_rfl) (fun _ _ _ h => h) (fun _ _ _ hS => hS.1.oat (k := 9) rfl) henv rfl rfl rfl rfl (hst.oat (k := 9) rfl) (fun w' hg => rn_load0 henv ty_anvil_integer_Int rfl hg rfl) ?_
    clear henv a; intro a henv
    refine sAny_oneg (i := 12) (by as_aux_lemma => kernel_rfl) rfl rfl henv rfl rfl rfl (op_call henv rfl Tryd.call41 rfl (text_z (z := 0) (show ZIn _ none 0 0 from hst.pat (k := 1) rfl) (by omega)) ?_)
    rintro e w67 ⟨rfl, hb⟩
    refine ⟨_, rfl, ?_⟩
    clear henv a; intro a henv
    replace hst := hst.call hb
    clear hb
    refine ⟨.inr ⟨hst.kn.pick [0, 1, 2, 3, 4, 5, 6, 7, 8, 9] [0, 1, 2, 3, 4, 5, 6, 7, 8, 9, 10, 11], .inr (hst.kn.pick [] [])⟩, ?_⟩
    refine sAny_takeg (i := 13) [14, 15, 16, 17, 18, 19, 20, 21, 22, 23, 24, 25, 26, 27, 28, 29, 30, 31, 32, 33, 34, 35, 36, 37, 38, 39, 40, 41, 42, 43, 44, 45, 46, 47, 48, 49, 50, 51, 52, 53, 54, 55, 56, 57, 58, 59, 60, 61, 62, 63, 64, 65, 66, 67, 68, 69, 70, 71, 72, 73, 74, 75, 76, 77, 78, 79, 80, 81, 82, 83] (fun _ => True) (v := .bool (decide ((textZ (0 : Int)) = [48]))) rfl (by as_aux_lemma => kernel_rfl) (fun _ _ _ h => h) (fun _ _ _ _ => trivial) henv rfl rfl rfl rfl trivial (fun w' _ => rn_eqls (s := (textZ (0 : Int))) (t := [48]) henv rfl rfl) ?_
    clear henv a; intro a henv
    rw [show (decide ((textZ (0 : Int)) = [48])) = true from (by rfl)] at henv
    refine sAny_take (i := 14) [15, 16, 17, 18, 19, 20, 21, 22, 23, 24, 25, 26, 27, 28, 29, 30, 31, 32, 33, 34, 35, 36, 37, 38, 39, 40, 41, 42, 43, 44, 45, 46, 47, 48, 49, 50, 51, 52, 53, 54, 55, 56, 57, 58, 59, 60, 61, 62, 63, 64, 65, 66, 67, 68, 69, 70, 71, 72, 73, 74, 75, 76, 77, 78, 79, 80, 81, 82, 83] (fun _ => True) (v := .bool true) rfl (by as_aux_lemma => kernel_rfl) (fun _ _ _ h => h) (fun _ _ _ _ => trivial) henv rfl trivial (fun w' _ => rn_pick henv rfl rfl) ?_
    clear henv a; intro a henv
    refine sAny_take (i := 15) [16, 17, 18, 19, 20, 21, 22, 23, 24, 25, 26, 27, 28, 29, 30, 31, 32, 33, 34, 35, 36, 37, 38, 39, 40, 41, 42, 43, 44, 45, 46, 47, 48, 49, 50, 51, 52, 53, 54, 55, 56, 57, 58, 59, 60, 61, 62, 63, 64, 65, 66, 67, 68, 69, 70, 71, 72, 73, 74, 75, 76, 77, 78, 79, 80, 81, 82, 83] (fun _ => True) (v := .bool true) rfl (by as_aux_lemma => kernel_rfl) (fun _ _ _ h => h) (fun _ _ _ _ => trivial) henv rfl trivial (fun w' _ => rn_move henv rfl) ?_
    clear henv a; intro a henv
    refine sAny_takeg (i := 16) [17, 18, 19, 20, 21, 22, 23, 24, 25, 26, 27, 28, 29, 30, 31, 32, 33, 34, 35, 36, 37, 38, 39, 40, 41, 42, 43, 44, 45, 46, 47, 48, 49, 50, 51, 52, 53, 54, 55, 56, 57, 58, 59, 60, 61, 62, 63, 64, 65, 66, 67, 68, 69, 70, 71, 72, 73, 74, 75, 76, 77, 78, 79, 80, 81, 82, 83] (fun w' => w'.heap[g2]? = some (.cells #[.bool (neg 0), .slice none (zl 0) 0] 28 (0, 0))) (v := .agg #[.bool (neg 0), .slice none (zl 0) 0]) rfl (by as_aux_lemma => kernel_rfl) (fun _ _ _ h => h) (fun _ _ _ hS => hS.1.oat (k := 9) rfl) henv rfl rfl rfl rfl (hst.oat (k := 9) rfl) (fun w' hg => rn_load0 henv ty_anvil_integer_Int rfl hg rfl) ?_
    clear henv a; intro a henv
    refine sAny_oneg (i := 17) (by as_aux_lemma => kernel_rfl) rfl rfl henv rfl rfl rfl (op_call henv rfl Tryd.call22 rfl (bits_0 (show ZIn _ none 0 0 from hst.pat (k := 1) rfl)) ?_)
    rintro e w68 ⟨rfl, hb⟩
    refine ⟨_, rfl, ?_⟩
    clear henv a; intro a henv
    replace hst := hst.call hb
    clear hb
    refine ⟨.inr ⟨hst.kn.pick [0, 1, 2, 3, 4, 5, 6, 7, 8, 9] [0, 1, 2, 3, 4, 5, 6, 7, 8, 9, 10, 11], .inr (hst.kn.pick [] [])⟩, ?_⟩
    refine sAny_takeg (i := 18) [19, 20, 21, 22, 23, 24, 25, 26, 27, 28, 29, 30, 31, 32, 33, 34, 35, 36, 37, 38, 39, 40, 41, 42, 43, 44, 45, 46, 47, 48, 49, 50, 51, 52, 53, 54, 55, 56, 57, 58, 59, 60, 61, 62, 63, 64, 65, 66, 67, 68, 69, 70, 71, 72, 73, 74, 75, 76, 77, 78, 79, 80, 81, 82, 83] (fun _ => True) (v := .bool true) rfl (by as_aux_lemma => kernel_rfl) (fun _ _ _ h => h) (fun _ _ _ _ => trivial) henv rfl rfl rfl rfl trivial (fun w' _ => rn_bin henv rfl rfl rfl) ?_
    clear henv a; intro a henv
    refine sAny_take (i := 19) [20, 21, 22, 23, 24, 25, 26, 27, 28, 29, 30, 31, 32, 33, 34, 35, 36, 37, 38, 39, 40, 41, 42, 43, 44, 45, 46, 47, 48, 49, 50, 51, 52, 53, 54, 55, 56, 57, 58, 59, 60, 61, 62, 63, 64, 65, 66, 67, 68, 69, 70, 71, 72, 73, 74, 75, 76, 77, 78, 79, 80, 81, 82, 83] (fun _ => True) (v := .bool true) rfl (by as_aux_lemma => kernel_rfl) (fun _ _ _ h => h) (fun _ _ _ _ => trivial) henv rfl trivial (fun w' _ => rn_pick henv rfl rfl) ?_
    clear henv a; intro a henv
    refine sAny_take (i := 20) [21, 22, 23, 24, 25, 26, 27, 28, 29, 30, 31, 32, 33, 34, 35, 36, 37, 38, 39, 40, 41, 42, 43, 44, 45, 46, 47, 48, 49, 50, 51, 52, 53, 54, 55, 56, 57, 58, 59, 60, 61, 62, 63, 64, 65, 66, 67, 68, 69, 70, 71, 72, 73, 74, 75, 76, 77, 78, 79, 80, 81, 82, 83] (fun _ => True) (v := .bool true) rfl (by as_aux_lemma => kernel_rfl) (fun _ _ _ h => h) (fun _ _ _ _ => trivial) henv rfl trivial (fun w' _ => rn_move henv rfl) ?_
    clear henv a; intro a henv
    refine sAny_takeg (i := 21) [22, 23, 24, 25, 26, 27, 28, 29, 30, 31, 32, 33, 34, 35, 36, 37, 38, 39, 40, 41, 42, 43, 44, 45, 46, 47, 48, 49, 50, 51, 52, 53, 54, 55, 56, 57, 58, 59, 60, 61, 62, 63, 64, 65, 66, 67, 68, 69, 70, 71, 72, 73, 74, 75, 76, 77, 78, 79, 80, 81, 82, 83] (fun w' => w'.heap[g2]? = some (.cells #[.bool (neg 0), .slice none (zl 0) 0] 28 (0, 0))) (v := .agg #[.bool (neg 0), .slice none (zl 0) 0]) rfl (by as_aux_lemma => kernel_rfl) (fun _ _ _ h => h) (fun _ _ _ hS => hS.1.oat (k := 9) rfl) henv rfl rfl rfl rfl (hst.oat (k := 9) rfl) (fun w' hg => rn_load0 henv ty_anvil_integer_Int rfl hg rfl) ?_
    clear henv a; intro a henv
    refine sAny_oneg (i := 22) (by as_aux_lemma => kernel_rfl) rfl rfl henv rfl rfl rfl (op_call henv rfl Tryd.call20 rfl (twos_z0 (show ZIn _ none 0 0 from hst.pat (k := 1) rfl) (show Deb _ from hst.pat (k := 11) rfl)) ?_)
    rintro e w69 ⟨rfl, hb⟩
    refine ⟨_, rfl, ?_⟩
    clear henv a; intro a henv
    replace hst := hst.call hb
    clear hb
    refine ⟨.inr ⟨hst.kn.pick [0, 1, 2, 3, 4, 5, 6, 7, 8, 9] [0, 1, 2, 3, 4, 5, 6, 7, 8, 9, 10, 11], .inr (hst.kn.pick [] [])⟩, ?_⟩
    refine sAny_takeg (i := 23) [24, 25, 26, 27, 28, 29, 30, 31, 32, 33, 34, 35, 36, 37, 38, 39, 40, 41, 42, 43, 44, 45, 46, 47, 48, 49, 50, 51, 52, 53, 54, 55, 56, 57, 58, 59, 60, 61, 62, 63, 64, 65, 66, 67, 68, 69, 70, 71, 72, 73, 74, 75, 76, 77, 78, 79, 80, 81, 82, 83] (fun _ => True) (v := .bool true) rfl (by as_aux_lemma => kernel_rfl) (fun _ _ _ h => h) (fun _ _ _ _ => trivial) henv rfl rfl rfl rfl trivial (fun w' _ => rn_bin henv rfl rfl rfl) ?_
    clear henv a; intro a henv
    refine sAny_take (i := 24) [25, 26, 27, 28, 29, 30, 31, 32, 33, 34, 35, 36, 37, 38, 39, 40, 41, 42, 43, 44, 45, 46, 47, 48, 49, 50, 51, 52, 53, 54, 55, 56, 57, 58, 59, 60, 61, 62, 63, 64, 65, 66, 67, 68, 69, 70, 71, 72, 73, 74, 75, 76, 77, 78, 79, 80, 81, 82, 83] (fun _ => True) (v := .bool true) rfl (by as_aux_lemma => kernel_rfl) (fun _ _ _ h => h) (fun _ _ _ _ => trivial) henv rfl trivial (fun w' _ => rn_pick henv rfl rfl) ?_
    clear henv a; intro a henv
    refine sAny_take (i := 25) [26, 27, 28, 29, 30, 31, 32, 33, 34, 35, 36, 37, 38, 39, 40, 41, 42, 43, 44, 45, 46, 47, 48, 49, 50, 51, 52, 53, 54, 55, 56, 57, 58, 59, 60, 61, 62, 63, 64, 65, 66, 67, 68, 69, 70, 71, 72, 73, 74, 75, 76, 77, 78, 79, 80, 81, 82, 83] (fun _ => True) (v := .bool true) rfl (by as_aux_lemma => kernel_rfl) (fun _ _ _ h => h) (fun _ _ _ _ => trivial) henv rfl trivial (fun w' _ => rn_move henv rfl) ?_
    clear henv a; intro a henv
    refine sAny_takeg (i := 26) [28, 29, 30, 31, 32, 33, 34, 35, 36, 37, 38, 39, 40, 41, 42, 43, 44, 45, 46, 47, 48, 49, 50, 51, 52, 53, 54, 55, 56, 57, 58, 59, 60, 61, 62, 63, 64, 65, 66, 67, 68, 69, 70, 71, 72, 73, 74, 75, 76, 77, 78, 79, 80, 81, 82, 83] (fun w' => w'.heap[g2]? = some (.cells #[.bool (neg 0), .slice none (zl 0) 0] 28 (0, 0))) (v := .agg #[.bool (neg 0), .slice none (zl 0) 0]) rfl (by as_aux_lemma => kernel_rfl) (fun _ _ _ h => h) (fun _ _ _ hS => hS.1.oat (k := 9) rfl) henv rfl rfl rfl rfl (hst.oat (k := 9) rfl) (fun w' hg => rn_load0 henv ty_anvil_integer_Int rfl hg rfl) ?_
    clear henv a; intro a henv
    refine sAny_oneg (i := 27) (by as_aux_lemma => kernel_rfl) rfl rfl henv rfl rfl rfl (op_call henv rfl Tryd.call72 rfl (of_z (n := (0 : Int)) (by decide) (by decide)) ?_)
    rintro e w73 ⟨_, rfl, ⟨A70, c71, rfl, hz72⟩, hb⟩
    refine ⟨_, rfl, ?_⟩
    clear henv a; intro a henv
    replace hst := (hst.call hb).addZ hz72 ⟨nou_bk rfl, nou_bk rfl, nou_bk rfl, nou_bk rfl, nou_bk rfl, nou_nums, nou_bk rfl, nou_bk rfl, nou_bk rfl, nou_bk rfl, trivial⟩
    clear hz72
    clear hb
    refine ⟨.inr ⟨hst.kn.pick [0, 1, 2, 3, 4, 5, 6, 7, 8, 9] [1, 2, 3, 4, 5, 6, 7, 8, 9, 10, 11, 12], .inr (hst.kn.pick [] [])⟩, ?_⟩
    refine sAny_oneg (i := 28) (by as_aux_lemma => kernel_rfl) rfl rfl henv rfl rfl rfl (op_call henv rfl Tryd.call75 rfl (cmp_same (x := 0) (show ZIn _ none 0 0 from hst.pat (k := 2) rfl) (show ZIn _ A70 c71 0 from hst.pat (k := 0) rfl)) ?_)
    rintro e w74 ⟨rfl, hb⟩
    refine ⟨_, rfl, ?_⟩
    clear henv a; intro a henv
    replace hst := hst.call hb
    clear hb
    refine ⟨.inr ⟨hst.kn.pick [0, 1, 2, 3, 4, 5, 6, 7, 8, 9] [1, 2, 3, 4, 5, 6, 7, 8, 9, 10, 11, 12], .inr (hst.kn.pick [] [])⟩, ?_⟩
    refine sAny_takeg (i := 29) [30, 31, 32, 33, 34, 35, 36, 37, 38, 39, 40, 41, 42, 43, 44, 45, 46, 47, 48, 49, 50, 51, 52, 53, 54, 55, 56, 57, 58, 59, 60, 61, 62, 63, 64, 65, 66, 67, 68, 69, 70, 71, 72, 73, 74, 75, 76, 77, 78, 79, 80, 81, 82, 83] (fun _ => True) (v := .bool true) rfl (by as_aux_lemma => kernel_rfl) (fun _ _ _ h => h) (fun _ _ _ _ => trivial) henv rfl rfl rfl rfl trivial (fun w' _ => rn_bin henv rfl rfl rfl) ?_
    clear henv a; intro a henv
    refine sAny_take (i := 30) [31, 32, 33, 34, 35, 36, 37, 38, 39, 40, 41, 42, 43, 44, 45, 46, 47, 48, 49, 50, 51, 52, 53, 54, 55, 56, 57, 58, 59, 60, 61, 62, 63, 64, 65, 66, 67, 68, 69, 70, 71, 72, 73, 74, 75, 76, 77, 78, 79, 80, 81, 82, 83] (fun _ => True) (v := .bool true) rfl (by as_aux_lemma => kernel_rfl) (fun _ _ _ h => h) (fun _ _ _ _ => trivial) henv rfl trivial (fun w' _ => rn_pick henv rfl rfl) ?_
    clear henv a; intro a henv
    refine sAny_take (i := 31) [32, 33, 34, 35, 36, 37, 38, 39, 40, 41, 42, 43, 44, 45, 46, 47, 48, 49, 50, 51, 52, 53, 54, 55, 56, 57, 58, 59, 60, 61, 62, 63, 64, 65, 66, 67, 68, 69, 70, 71, 72, 73, 74, 75, 76, 77, 78, 79, 80, 81, 82, 83] (fun _ => True) (v := .bool true) rfl (by as_aux_lemma => kernel_rfl) (fun _ _ _ h => h) (fun _ _ _ _ => trivial) henv rfl trivial (fun w' _ => rn_move henv rfl) ?_
    clear henv a; intro a henv
    refine sAny_takeg (i := 32) [33, 34, 35, 36, 37, 38, 39, 40, 41, 42, 43, 44, 45, 46, 47, 48, 49, 50, 51, 52, 53, 54, 55, 56, 57, 58, 59, 60, 61, 62, 63, 64, 65, 66, 67, 68, 69, 70, 71, 72, 73, 74, 75, 76, 77, 78, 79, 80, 81, 82, 83] (fun w' => w'.heap[g18]? = some (.cells #[.bool (neg 0), .slice A8 (zl 0) c9] 28 (0, 0))) (v := .agg #[.bool (neg 0), .slice A8 (zl 0) c9]) rfl (by as_aux_lemma => kernel_rfl) (fun _ _ _ h => h) (fun _ _ _ hS => hS.1.oat (k := 8) rfl) henv rfl rfl rfl rfl (hst.oat (k := 8) rfl) (fun w' hg => rn_load0 henv ty_anvil_integer_Int rfl hg rfl) ?_
    clear henv a; intro a henv
    refine sAny_oneg (i := 33) (by as_aux_lemma => kernel_rfl) rfl rfl henv rfl rfl rfl (op_call henv rfl Tryd.call26 rfl (zero_z0 (show ZIn _ A8 c9 0 from hst.pat (k := 9) rfl)) ?_)
    rintro e w75 ⟨rfl, hb⟩
    refine ⟨_, rfl, ?_⟩
    clear henv a; intro a henv
    replace hst := hst.call hb
    clear hb
    refine ⟨.inr ⟨hst.kn.pick [0, 1, 2, 3, 4, 5, 6, 7, 8, 9] [1, 2, 3, 4, 5, 6, 7, 8, 9, 10, 11, 12], .inr (hst.kn.pick [] [])⟩, ?_⟩
    refine sAny_take (i := 34) [35, 36, 37, 38, 39, 40, 41, 42, 43, 44, 45, 46, 47, 48, 49, 50, 51, 52, 53, 54, 55, 56, 57, 58, 59, 60, 61, 62, 63, 64, 65, 66, 67, 68, 69, 70, 71, 72, 73, 74, 75, 76, 77, 78, 79, 80, 81, 82, 83] (fun _ => True) (v := .bool true) rfl (by as_aux_lemma => kernel_rfl) (fun _ _ _ h => h) (fun _ _ _ _ => trivial) henv rfl trivial (fun w' _ => rn_pick henv rfl rfl) ?_
    clear henv a; intro a henv
    refine sAny_take (i := 35) [36, 37, 38, 39, 40, 41, 42, 43, 44, 45, 46, 47, 48, 49, 50, 51, 52, 53, 54, 55, 56, 57, 58, 59, 60, 61, 62, 63, 64, 65, 66, 67, 68, 69, 70, 71, 72, 73, 74, 75, 76, 77, 78, 79, 80, 81, 82, 83] (fun _ => True) (v := .bool true) rfl (by as_aux_lemma => kernel_rfl) (fun _ _ _ h => h) (fun _ _ _ _ => trivial) henv rfl trivial (fun w' _ => rn_move henv rfl) ?_
    clear henv a; intro a henv
    refine sAny_takeg (i := 36) [37, 38, 39, 40, 41, 42, 43, 44, 45, 46, 47, 48, 49, 50, 51, 52, 53, 54, 55, 56, 57, 58, 59, 60, 61, 62, 63, 64, 65, 66, 67, 68, 69, 70, 71, 72, 73, 74, 75, 76, 77, 78, 79, 80, 81, 82, 83] (fun w' => w'.heap[g20]? = some (.cells #[.bool (neg 0), .slice A11 (zl 0) c12] 28 (0, 0))) (v := .agg #[.bool (neg 0), .slice A11 (zl 0) c12]) rfl (by as_aux_lemma => kernel_rfl) (fun _ _ _ h => h) (fun _ _ _ hS => hS.1.oat (k := 7) rfl) henv rfl rfl rfl rfl (hst.oat (k := 7) rfl) (fun w' hg => rn_load0 henv ty_anvil_integer_Int rfl hg rfl) ?_
    clear henv a; intro a henv
    refine sAny_oneg (i := 37) (by as_aux_lemma => kernel_rfl) rfl rfl henv rfl rfl rfl (op_call henv rfl Tryd.call26 rfl (zero_z0 (show ZIn _ A11 c12 0 from hst.pat (k := 8) rfl)) ?_)
    rintro e w76 ⟨rfl, hb⟩
    refine ⟨_, rfl, ?_⟩
    clear henv a; intro a henv
    replace hst := hst.call hb
    clear hb
    refine ⟨.inr ⟨hst.kn.pick [0, 1, 2, 3, 4, 5, 6, 7, 8, 9] [1, 2, 3, 4, 5, 6, 7, 8, 9, 10, 11, 12], .inr (hst.kn.pick [] [])⟩, ?_⟩
    refine sAny_take (i := 38) [39, 40, 41, 42, 43, 44, 45, 46, 47, 48, 49, 50, 51, 52, 53, 54, 55, 56, 57, 58, 59, 60, 61, 62, 63, 64, 65, 66, 67, 68, 69, 70, 71, 72, 73, 74, 75, 76, 77, 78, 79, 80, 81, 82, 83] (fun _ => True) (v := .bool true) rfl (by as_aux_lemma => kernel_rfl) (fun _ _ _ h => h) (fun _ _ _ _ => trivial) henv rfl trivial (fun w' _ => rn_pick henv rfl rfl) ?_
    clear henv a; intro a henv
    refine sAny_take (i := 39) [40, 41, 42, 43, 44, 45, 46, 47, 48, 49, 50, 51, 52, 53, 54, 55, 56, 57, 58, 59, 60, 61, 62, 63, 64, 65, 66, 67, 68, 69, 70, 71, 72, 73, 74, 75, 76, 77, 78, 79, 80, 81, 82, 83] (fun _ => True) (v := .bool true) rfl (by as_aux_lemma => kernel_rfl) (fun _ _ _ h => h) (fun _ _ _ _ => trivial) henv rfl trivial (fun w' _ => rn_move henv rfl) ?_
    clear henv a; intro a henv
    refine sAny_takeg (i := 40) [41, 42, 43, 44, 45, 46, 47, 48, 49, 50, 51, 52, 53, 54, 55, 56, 57, 58, 59, 60, 61, 62, 63, 64, 65, 66, 67, 68, 69, 70, 71, 72, 73, 74, 75, 76, 77, 78, 79, 80, 81, 82, 83] (fun w' => w'.heap[g22]? = some (.cells #[.bool (neg 0), .slice A14 (zl 0) c15] 28 (0, 0))) (v := .agg #[.bool (neg 0), .slice A14 (zl 0) c15]) rfl (by as_aux_lemma => kernel_rfl) (fun _ _ _ h => h) (fun _ _ _ hS => hS.1.oat (k := 6) rfl) henv rfl rfl rfl rfl (hst.oat (k := 6) rfl) (fun w' hg => rn_load0 henv ty_anvil_integer_Int rfl hg rfl) ?_
    clear henv a; intro a henv
    refine sAny_oneg (i := 41) (by as_aux_lemma => kernel_rfl) rfl rfl henv rfl rfl rfl (op_call henv rfl Tryd.call26 rfl (zero_z0 (show ZIn _ A14 c15 0 from hst.pat (k := 7) rfl)) ?_)
    rintro e w77 ⟨rfl, hb⟩
    refine ⟨_, rfl, ?_⟩
    clear henv a; intro a henv
    replace hst := hst.call hb
    clear hb
    refine ⟨.inr ⟨hst.kn.pick [0, 1, 2, 3, 4, 5, 6, 7, 8, 9] [1, 2, 3, 4, 5, 6, 7, 8, 9, 10, 11, 12], .inr (hst.kn.pick [] [])⟩, ?_⟩
    refine sAny_take (i := 42) [43, 44, 45, 46, 47, 48, 49, 50, 51, 52, 53, 54, 55, 56, 57, 58, 59, 60, 61, 62, 63, 64, 65, 66, 67, 68, 69, 70, 71, 72, 73, 74, 75, 76, 77, 78, 79, 80, 81, 82, 83] (fun _ => True) (v := .bool true) rfl (by as_aux_lemma => kernel_rfl) (fun _ _ _ h => h) (fun _ _ _ _ => trivial) henv rfl trivial (fun w' _ => rn_pick henv rfl rfl) ?_
    clear henv a; intro a henv
    refine sAny_take (i := 43) [44, 45, 46, 47, 48, 49, 50, 51, 52, 53, 54, 55, 56, 57, 58, 59, 60, 61, 62, 63, 64, 65, 66, 67, 68, 69, 70, 71, 72, 73, 74, 75, 76, 77, 78, 79, 80, 81, 82, 83] (fun _ => True) (v := .bool true) rfl (by as_aux_lemma => kernel_rfl) (fun _ _ _ h => h) (fun _ _ _ _ => trivial) henv rfl trivial (fun w' _ => rn_move henv rfl) ?_
    clear henv a; intro a henv
    refine sAny_takeg (i := 44) [45, 46, 47, 48, 49, 50, 51, 52, 53, 54, 55, 56, 57, 58, 59, 60, 61, 62, 63, 64, 65, 66, 67, 68, 69, 70, 71, 72, 73, 74, 75, 76, 77, 78, 79, 80, 81, 82, 83] (fun w' => w'.heap[g33]? = some (.cells #[.bool (neg 0), .slice none (zl 0) 0] 28 (0, 0))) (v := .agg #[.bool (neg 0), .slice none (zl 0) 0]) rfl (by as_aux_lemma => kernel_rfl) (fun _ _ _ h => h) (fun _ _ _ hS => hS.1.oat (k := 4) rfl) henv rfl rfl rfl rfl (hst.oat (k := 4) rfl) (fun w' hg => rn_load0 henv ty_anvil_integer_Int rfl hg rfl) ?_
    clear henv a; intro a henv
    refine sAny_oneg (i := 45) (by as_aux_lemma => kernel_rfl) rfl rfl henv rfl rfl rfl (op_call henv rfl Tryd.call26 rfl (zero_z0 (show ZIn _ none 0 0 from hst.pat (k := 2) rfl)) ?_)
    rintro e w78 ⟨rfl, hb⟩
    refine ⟨_, rfl, ?_⟩
    clear henv a; intro a henv
    replace hst := hst.call hb
    clear hb
    refine ⟨.inr ⟨hst.kn.pick [0, 1, 2, 3, 4, 5, 6, 7, 8, 9] [1, 2, 3, 4, 5, 6, 7, 8, 9, 10, 11, 12], .inr (hst.kn.pick [] [])⟩, ?_⟩
    refine sAny_take (i := 46) [47, 48, 49, 50, 51, 52, 53, 54, 55, 56, 57, 58, 59, 60, 61, 62, 63, 64, 65, 66, 67, 68, 69, 70, 71, 72, 73, 74, 75, 76, 77, 78, 79, 80, 81, 82, 83] (fun _ => True) (v := .bool true) rfl (by as_aux_lemma => kernel_rfl) (fun _ _ _ h => h) (fun _ _ _ _ => trivial) henv rfl trivial (fun w' _ => rn_pick henv rfl rfl) ?_
    clear henv a; intro a henv
    refine sAny_take (i := 47) [48, 49, 50, 51, 52, 53, 54, 55, 56, 57, 58, 59, 60, 61, 62, 63, 64, 65, 66, 67, 68, 69, 70, 71, 72, 73, 74, 75, 76, 77, 78, 79, 80, 81, 82, 83] (fun _ => True) (v := .bool true) rfl (by as_aux_lemma => kernel_rfl) (fun _ _ _ h => h) (fun _ _ _ _ => trivial) henv rfl trivial (fun w' _ => rn_move henv rfl) ?_
    clear henv a; intro a henv
    refine sAny_takeg (i := 48) [49, 50, 51, 52, 53, 54, 55, 56, 57, 58, 59, 60, 61, 62, 63, 64, 65, 66, 67, 68, 69, 70, 71, 72, 73, 74, 75, 76, 77, 78, 79, 80, 81, 82, 83] (fun _ => True) (v := .pointer (some ⟨g35, 0, none⟩)) rfl (by as_aux_lemma => kernel_rfl) (fun _ _ _ h => h) (fun _ _ _ _ => trivial) henv rfl rfl rfl rfl trivial (fun w' _ => rn_fieldAddr henv fd_anvil_api_Spot_0 (ty_anvil_api_Errno.size) (by decide) rfl) ?_
    clear henv a; intro a henv
    refine sAny_takeg (i := 49) [50, 51, 52, 53, 54, 55, 56, 57, 58, 59, 60, 61, 62, 63, 64, 65, 66, 67, 68, 69, 70, 71, 72, 73, 74, 75, 76, 77, 78, 79, 80, 81, 82, 83] (fun w' => w'.heap[g35]? = some (.cells #[.int .i64 3, .int .i64 65536] 58 (0, 0))) (v := .int .i64 3) rfl (by as_aux_lemma => kernel_rfl) (fun _ _ _ h => h) (fun _ _ _ hS => hS.1.oat (k := 3) rfl) henv rfl rfl rfl rfl (hst.oat (k := 3) rfl) (fun w' hg => rn_load1 henv ty_anvil_api_Errno rfl hg rfl) ?_
    clear henv a; intro a henv
    refine sAny_takeg (i := 50) [51, 52, 53, 54, 55, 56, 57, 58, 59, 60, 61, 62, 63, 64, 65, 66, 67, 68, 69, 70, 71, 72, 73, 74, 75, 76, 77, 78, 79, 80, 81, 82, 83] (fun _ => True) (v := .bool true) rfl (by as_aux_lemma => kernel_rfl) (fun _ _ _ h => h) (fun _ _ _ _ => trivial) henv rfl rfl rfl rfl trivial (fun w' _ => rn_bin henv rfl rfl rfl) ?_
    clear henv a; intro a henv
    refine sAny_take (i := 51) [52, 53, 54, 55, 56, 57, 58, 59, 60, 61, 62, 63, 64, 65, 66, 67, 68, 69, 70, 71, 72, 73, 74, 75, 76, 77, 78, 79, 80, 81, 82, 83] (fun _ => True) (v := .bool true) rfl (by as_aux_lemma => kernel_rfl) (fun _ _ _ h => h) (fun _ _ _ _ => trivial) henv rfl trivial (fun w' _ => rn_pick henv rfl rfl) ?_
    clear henv a; intro a henv
    refine sAny_take (i := 52) [53, 54, 55, 56, 57, 58, 59, 60, 61, 62, 63, 64, 65, 66, 67, 68, 69, 70, 71, 72, 73, 74, 75, 76, 77, 78, 79, 80, 81, 82, 83] (fun _ => True) (v := .bool true) rfl (by as_aux_lemma => kernel_rfl) (fun _ _ _ h => h) (fun _ _ _ _ => trivial) henv rfl trivial (fun w' _ => rn_move henv rfl) ?_
    clear henv a; intro a henv
    refine sAny_takeg (i := 53) [54, 55, 56, 57, 58, 59, 60, 61, 62, 63, 64, 65, 66, 67, 68, 69, 70, 71, 72, 73, 74, 75, 76, 77, 78, 79, 80, 81, 82, 83] (fun _ => True) (v := .pointer (some ⟨g35, 1, none⟩)) rfl (by as_aux_lemma => kernel_rfl) (fun _ _ _ h => h) (fun _ _ _ _ => trivial) henv rfl rfl rfl rfl trivial (fun w' _ => rn_fieldAddr henv fd_anvil_api_Spot_1 (ty_int.size) (by decide) rfl) ?_
    clear henv a; intro a henv
    refine sAny_takeg (i := 54) [55, 56, 57, 58, 59, 60, 61, 62, 63, 64, 65, 66, 67, 68, 69, 70, 71, 72, 73, 74, 75, 76, 77, 78, 79, 80, 81, 82, 83] (fun w' => w'.heap[g35]? = some (.cells #[.int .i64 3, .int .i64 65536] 58 (0, 0))) (v := .int .i64 65536) rfl (by as_aux_lemma => kernel_rfl) (fun _ _ _ h => h) (fun _ _ _ hS => hS.1.oat (k := 3) rfl) henv rfl rfl rfl rfl (hst.oat (k := 3) rfl) (fun w' hg => rn_load1 henv ty_int rfl hg rfl) ?_
    clear henv a; intro a henv
    refine sAny_takeg (i := 55) [56, 57, 58, 59, 60, 61, 62, 63, 64, 65, 66, 67, 68, 69, 70, 71, 72, 73, 74, 75, 76, 77, 78, 79, 80, 81, 82, 83] (fun _ => True) (v := .bool true) rfl (by as_aux_lemma => kernel_rfl) (fun _ _ _ h => h) (fun _ _ _ _ => trivial) henv rfl rfl rfl rfl trivial (fun w' _ => rn_bin henv rfl rfl rfl) ?_
    clear henv a; intro a henv
    refine sAny_take (i := 56) [57, 58, 59, 60, 61, 62, 63, 64, 65, 66, 67, 68, 69, 70, 71, 72, 73, 74, 75, 76, 77, 78, 79, 80, 81, 82, 83] (fun _ => True) (v := .bool true) rfl (by as_aux_lemma => kernel_rfl) (fun _ _ _ h => h) (fun _ _ _ _ => trivial) henv rfl trivial (fun w' _ => rn_pick henv rfl rfl) ?_
    clear henv a; intro a henv
    refine sAny_take (i := 57) [58, 59, 60, 61, 62, 63, 64, 65, 66, 67, 68, 69, 70, 71, 72, 73, 74, 75, 76, 77, 78, 79, 80, 81, 82, 83] (fun _ => True) (v := .bool true) rfl (by as_aux_lemma => kernel_rfl) (fun _ _ _ h => h) (fun _ _ _ _ => trivial) henv rfl trivial (fun w' _ => rn_move henv rfl) ?_
    clear henv a; intro a henv
    refine sAny_takeg (i := 58) [60, 61, 62, 63, 64, 65, 66, 67, 68, 69, 70, 71, 72, 73, 74, 75, 76, 77, 78, 79, 80, 81, 82, 83] (fun w' => w'.heap[g47]? = some (.cells #[.bool (neg 1), .slice A43 (zl 1) c44] 28 (0, 0))) (v := .agg #[.bool (neg 1), .slice A43 (zl 1) c44]) rfl (by as_aux_lemma => kernel_rfl) (fun _ _ _ h => h) (fun _ _ _ hS => hS.1.oat (k := 2) rfl) henv rfl rfl rfl rfl (hst.oat (k := 2) rfl) (fun w' hg => rn_load0 henv ty_anvil_integer_Int rfl hg rfl) ?_
    clear henv a; intro a henv
    refine sAny_oneg (i := 59) (by as_aux_lemma => kernel_rfl) rfl rfl henv rfl rfl rfl (op_call henv rfl Tryd.call72 rfl (of_z (n := (1 : Int)) (by decide) (by decide)) ?_)
    rintro e w82 ⟨_, rfl, ⟨A79, c80, rfl, hz81⟩, hb⟩
    refine ⟨_, rfl, ?_⟩
    clear henv a; intro a henv
    replace hst := (hst.call hb).addZ hz81 ⟨nou_bk rfl, nou_bk rfl, nou_bk rfl, nou_bk rfl, nou_bk rfl, nou_nums, nou_bk rfl, nou_bk rfl, nou_bk rfl, nou_bk rfl, trivial⟩
    clear hz81
    clear hb
    refine ⟨.inr ⟨hst.kn.pick [0, 1, 2, 3, 4, 5, 6, 7, 8, 9] [2, 3, 4, 5, 6, 7, 8, 9, 10, 11, 12, 13], .inr (hst.kn.pick [] [])⟩, ?_⟩
    refine sAny_oneg (i := 60) (by as_aux_lemma => kernel_rfl) rfl rfl henv rfl rfl rfl (op_call henv rfl Tryd.call75 rfl (cmp_same (x := 1) (show ZIn _ A43 c44 1 from hst.pat (k := 5) rfl) (show ZIn _ A79 c80 1 from hst.pat (k := 0) rfl)) ?_)
    rintro e w83 ⟨rfl, hb⟩
    refine ⟨_, rfl, ?_⟩
    clear henv a; intro a henv
    replace hst := hst.call hb
    clear hb
    refine ⟨.inr ⟨hst.kn.pick [0, 1, 2, 3, 4, 5, 6, 7, 8, 9] [2, 3, 4, 5, 6, 7, 8, 9, 10, 11, 12, 13], .inr (hst.kn.pick [] [])⟩, ?_⟩
    refine sAny_takeg (i := 61) [62, 63, 64, 65, 66, 67, 68, 69, 70, 71, 72, 73, 74, 75, 76, 77, 78, 79, 80, 81, 82, 83] (fun _ => True) (v := .bool true) rfl (by as_aux_lemma => kernel_rfl) (fun _ _ _ h => h) (fun _ _ _ _ => trivial) henv rfl rfl rfl rfl trivial (fun w' _ => rn_bin henv rfl rfl rfl) ?_
    clear henv a; intro a henv
    refine sAny_take (i := 62) [63, 64, 65, 66, 67, 68, 69, 70, 71, 72, 73, 74, 75, 76, 77, 78, 79, 80, 81, 82, 83] (fun _ => True) (v := .bool true) rfl (by as_aux_lemma => kernel_rfl) (fun _ _ _ h => h) (fun _ _ _ _ => trivial) henv rfl trivial (fun w' _ => rn_pick henv rfl rfl) ?_
    clear henv a; intro a henv
    refine sAny_take (i := 63) [64, 65, 66, 67, 68, 69, 70, 71, 72, 73, 74, 75, 76, 77, 78, 79, 80, 81, 82, 83] (fun _ => True) (v := .bool true) rfl (by as_aux_lemma => kernel_rfl) (fun _ _ _ h => h) (fun _ _ _ _ => trivial) henv rfl trivial (fun w' _ => rn_move henv rfl) ?_
    clear henv a; intro a henv
    refine sAny_takeg (i := 64) [65, 66, 67, 68, 69, 70, 71, 72, 73, 74, 75, 76, 77, 78, 79, 80, 81, 82, 83] (fun _ => True) (v := .int .i64 0) rfl (by as_aux_lemma => kernel_rfl) (fun _ _ _ h => h) (fun _ _ _ _ => trivial) henv rfl rfl rfl rfl trivial (fun w' _ => rn_move henv rfl) ?_
    clear henv a; intro a henv
    refine sAny_takeg (i := 65) [66, 67, 68, 69, 70, 71, 72, 73, 74, 75, 76, 77, 78, 79, 80, 81, 82, 83] (fun _ => True) (v := .bool true) rfl (by as_aux_lemma => kernel_rfl) (fun _ _ _ h => h) (fun _ _ _ _ => trivial) henv rfl rfl rfl rfl trivial (fun w' _ => rn_bin henv rfl rfl rfl) ?_
    clear henv a; intro a henv
    refine sAny_take (i := 66) [67, 68, 69, 70, 71, 72, 73, 74, 75, 76, 77, 78, 79, 80, 81, 82, 83] (fun _ => True) (v := .bool true) rfl (by as_aux_lemma => kernel_rfl) (fun _ _ _ h => h) (fun _ _ _ _ => trivial) henv rfl trivial (fun w' _ => rn_pick henv rfl rfl) ?_
    clear henv a; intro a henv
    refine sAny_take (i := 67) [68, 69, 70, 71, 72, 73, 74, 75, 76, 77, 78, 79, 80, 81, 82, 83] (fun _ => True) (v := .bool true) rfl (by as_aux_lemma => kernel_rfl) (fun _ _ _ h => h) (fun _ _ _ _ => trivial) henv rfl trivial (fun w' _ => rn_move henv rfl) ?_
    clear henv a; intro a henv
    refine sAny_takeg (i := 68) [69, 70, 71, 72, 73, 74, 75, 76, 77, 78, 79, 80, 81, 82, 83] (fun w' => w'.heap[g55]? = some (.cells #[.bool (neg 0), .slice none (zl 0) 0] 28 (0, 0))) (v := .agg #[.bool (neg 0), .slice none (zl 0) 0]) rfl (by as_aux_lemma => kernel_rfl) (fun _ _ _ h => h) (fun _ _ _ hS => hS.1.oat (k := 1) rfl) henv rfl rfl rfl rfl (hst.oat (k := 1) rfl) (fun w' hg => rn_load0 henv ty_anvil_integer_Int rfl hg rfl) ?_
    clear henv a; intro a henv
    refine sAny_oneg (i := 69) (by as_aux_lemma => kernel_rfl) rfl rfl henv rfl rfl rfl (op_call henv rfl Tryd.call26 rfl (zero_z0 (show ZIn _ none 0 0 from hst.pat (k := 3) rfl)) ?_)
    rintro e w84 ⟨rfl, hb⟩
    refine ⟨_, rfl, ?_⟩
    clear henv a; intro a henv
    replace hst := hst.call hb
    clear hb
    refine ⟨.inr ⟨hst.kn.pick [0, 1, 2, 3, 4, 5, 6, 7, 8, 9] [2, 3, 4, 5, 6, 7, 8, 9, 10, 11, 12, 13], .inr (hst.kn.pick [] [])⟩, ?_⟩
    refine sAny_take (i := 70) [71, 72, 73, 74, 75, 76, 77, 78, 79, 80, 81, 82, 83] (fun _ => True) (v := .bool true) rfl (by as_aux_lemma => kernel_rfl) (fun _ _ _ h => h) (fun _ _ _ _ => trivial) henv rfl trivial (fun w' _ => rn_pick henv rfl rfl) ?_
    clear henv a; intro a henv
    refine sAny_take (i := 71) [72, 73, 74, 75, 76, 77, 78, 79, 80, 81, 82, 83] (fun _ => True) (v := .bool true) rfl (by as_aux_lemma => kernel_rfl) (fun _ _ _ h => h) (fun _ _ _ _ => trivial) henv rfl trivial (fun w' _ => rn_move henv rfl) ?_
    clear henv a; intro a henv
    refine sAny_takeg (i := 72) [73, 74, 75, 76, 77, 78, 79, 80, 81, 82, 83] (fun _ => True) (v := .int .i64 3) rfl (by as_aux_lemma => kernel_rfl) (fun _ _ _ h => h) (fun _ _ _ _ => trivial) henv rfl rfl rfl rfl trivial (fun w' _ => rn_move henv rfl) ?_
    clear henv a; intro a henv
    refine sAny_takeg (i := 73) [74, 75, 76, 77, 78, 79, 80, 81, 82, 83] (fun _ => True) (v := .bool true) rfl (by as_aux_lemma => kernel_rfl) (fun _ _ _ h => h) (fun _ _ _ _ => trivial) henv rfl rfl rfl rfl trivial (fun w' _ => rn_bin henv rfl rfl rfl) ?_
    clear henv a; intro a henv
    refine sAny_take (i := 74) [75, 76, 77, 78, 79, 80, 81, 82, 83] (fun _ => True) (v := .bool true) rfl (by as_aux_lemma => kernel_rfl) (fun _ _ _ h => h) (fun _ _ _ _ => trivial) henv rfl trivial (fun w' _ => rn_pick henv rfl rfl) ?_
    clear henv a; intro a henv
    refine sAny_take (i := 75) [76, 77, 78, 79, 80, 81, 82, 83] (fun _ => True) (v := .bool true) rfl (by as_aux_lemma => kernel_rfl) (fun _ _ _ h => h) (fun _ _ _ _ => trivial) henv rfl trivial (fun w' _ => rn_move henv rfl) ?_
    clear henv a; intro a henv
    refine sAny_takeg (i := 76) [77, 78, 79, 80, 81, 82, 83] (fun w' => w'.heap[g62]? = some (.cells #[.bool (neg 0), .slice A58 (zl 0) c59] 28 (0, 0))) (v := .agg #[.bool (neg 0), .slice A58 (zl 0) c59]) rfl (by as_aux_lemma => kernel_rfl) (fun _ _ _ h => h) (fun _ _ _ hS => hS.1.oat (k := 0) rfl) henv rfl rfl rfl rfl (hst.oat (k := 0) rfl) (fun w' hg => rn_load0 henv ty_anvil_integer_Int rfl hg rfl) ?_
    clear henv a; intro a henv
    refine sAny_oneg (i := 77) (by as_aux_lemma => kernel_rfl) rfl rfl henv rfl rfl rfl (op_call henv rfl Tryd.call26 rfl (zero_z0 (show ZIn _ A58 c59 0 from hst.pat (k := 2) rfl)) ?_)
    rintro e w85 ⟨rfl, hb⟩
    refine ⟨_, rfl, ?_⟩
    clear henv a; intro a henv
    replace hst := hst.call hb
    clear hb
    refine ⟨.inr ⟨hst.kn.pick [0, 1, 2, 3, 4, 5, 6, 7, 8, 9] [2, 3, 4, 5, 6, 7, 8, 9, 10, 11, 12, 13], .inr (hst.kn.pick [] [])⟩, ?_⟩
    refine sAny_take (i := 78) [79, 80, 81, 82, 83] (fun _ => True) (v := .bool true) rfl (by as_aux_lemma => kernel_rfl) (fun _ _ _ h => h) (fun _ _ _ _ => trivial) henv rfl trivial (fun w' _ => rn_pick henv rfl rfl) ?_
    clear henv a; intro a henv
    refine sAny_take (i := 79) [80, 81, 82, 83] (fun _ => True) (v := .bool true) rfl (by as_aux_lemma => kernel_rfl) (fun _ _ _ h => h) (fun _ _ _ _ => trivial) henv rfl trivial (fun w' _ => rn_move henv rfl) ?_
    clear henv a; intro a henv
    refine sAny_takeg (i := 80) [81, 82, 83] (fun _ => True) (v := .int .i64 0) rfl (by as_aux_lemma => kernel_rfl) (fun _ _ _ h => h) (fun _ _ _ _ => trivial) henv rfl rfl rfl rfl trivial (fun w' _ => rn_move henv rfl) ?_
    clear henv a; intro a henv
    refine sAny_takeg (i := 81) [82, 83] (fun _ => True) (v := .bool true) rfl (by as_aux_lemma => kernel_rfl) (fun _ _ _ h => h) (fun _ _ _ _ => trivial) henv rfl rfl rfl rfl trivial (fun w' _ => rn_bin henv rfl rfl rfl) ?_
    clear henv a; intro a henv
    refine sAny_take (i := 82) [83] (fun _ => True) (v := .bool true) rfl (by as_aux_lemma => kernel_rfl) (fun _ _ _ h => h) (fun _ _ _ _ => trivial) henv rfl trivial (fun w' _ => rn_pick henv rfl rfl) ?_
    clear henv a; intro a henv
    refine sAny_take (i := 83) [] (fun _ => True) (v := .bool true) rfl (by as_aux_lemma => kernel_rfl) (fun _ _ _ h => h) (fun _ _ _ _ => trivial) henv rfl trivial (fun w' _ => rn_assign henv rfl) ?_
    clear henv a; intro a henv
    refine sAny_done (by as_aux_lemma => kernel_rfl) ?_ _
    refine th_n ?_
    refine wp_ret ?_
    refine leave henv (res1 Tryd.results16 (RV.tmp henv rfl)) ?_
    exact ⟨rfl, hst.below⟩

end Go.Proofs.YtnldopjbiacbfaaDoor.W
