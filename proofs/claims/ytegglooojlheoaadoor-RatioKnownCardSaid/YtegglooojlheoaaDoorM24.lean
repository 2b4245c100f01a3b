/- limb.Text. Printed by pv/gen_text.py. No condition. -/
import Derived.Test.YtegglooojlheoaaDoorM23
import Derived.Test.YtegglooojlheoaaDoorM11
import Derived.Test.YtegglooojlheoaaDoorM7
import Derived.Test.YtegglooojlheoaaDoorM16

namespace Go.Proofs.YtegglooojlheoaaDoor.W
open Go.RowKit Anv Go.Lib
set_option maxRecDepth 100000 in
set_option maxHeartbeats 4000000 in
theorem text_any {A : Option Addr} {n c : Nat} {xs : List Nat} {w0 : World} (h : U32 w0 A n c xs) (hn : n ≤ 1000000) :
    Calls Tryd.prog 150 #[.slice A n c] w0 fun e w' => e = .returned (.string ⟨(textN (val 4294967296 xs)).toArray⟩) ∧ Below w0.heap.size w0 w' := by
  obtain ⟨N, hN⟩ : ∃ N, val 4294967296 xs = N := ⟨_, rfl⟩
  have hnl : nl N ≤ 1000000 := by have h1 := val_lt h.lt; rw [h.len, hN] at h1; exact Nat.le_trans (nl_le_of_lt h1) hn
  have hd0 : N / 1000000000 ^ 0 = N := by rw [Nat.pow_zero, Nat.div_one]
  rw [hN]
  refine enter Tryd.func150 rfl Tryd.ntmps150 rfl ?_
  intro a henv hst
  replace hst := hst.addU h trivial
  clear h
  refine wp_seq ?_
  refine region_seq ?_
  refine sv (v := .string ⟨#[]⟩) henv rfl (rn_assign henv rfl) ?_
  clear henv a; intro a henv
  refine wpList_nil ?_
  refine th_n ?_
  refine wp_seq ?_
  refine region_seq ?_
  refine sv (v := .slice none 0 0) henv rfl (rn_assign henv rfl) ?_
  clear henv a; intro a henv
  refine wpList_nil ?_
  refine th_n ?_
  refine wp_seq ?_
  refine wp_seq ?_
  refine region_seq ?_
  refine sv (v := .slice A n c) henv rfl (rn_move henv rfl) ?_
  clear henv a; intro a henv
  refine seq_step rfl (op_call henv rfl Tryd.call96 rfl (norm_num (N := N) ⟨_, (show U32 _ A n c xs from hst.pat (k := 0) rfl), hN⟩ hnl) ?_)
  rintro e w3 ⟨_, rfl, ⟨A1, c2, rfl, hU, hA⟩, hb⟩
  refine ⟨_, rfl, ?_⟩
  clear henv a; intro a henv
  replace hst := hst.freshU hb hU hA
  clear hU
  clear hA
  clear hb
  refine sv (v := .slice A1 (nl N) c2) henv rfl (rn_assign henv rfl) ?_
  clear henv a; intro a henv
  refine wpList_nil ?_
  refine th_n ?_
  refine wp_block ?_
  rw [← hd0] at henv hst
  replace hst := hst.addRow 141 1
  refine wp_loop_ghost (fun mz a w => ∃ j : Nat, ∃ v : Value, ∃ A1 : Option Addr, ∃ c1 : Nat, (N / 1000000000 ^ j) = mz ∧ Env 68 a [(2, .string ⟨#[]⟩), (3, v), (4, .slice A1 (nl (N / 1000000000 ^ j)) c1)] ∧ St w0 w [rowF 141 1 v j ((pcs N j).map fun n => Value.int .u32 (n : Nat))] [pfU A1 (nl (N / 1000000000 ^ j)) c1 (L (N / 1000000000 ^ j))] ∧ (j = 0 ∨ 0 < N / 1000000000 ^ (j - 1))) _ ⟨0, _, A1, c2, rfl, henv.sub ⟨rfl, rfl, rfl, trivial⟩, hst.pick [0] [0] (by decide), (.inl rfl)⟩ ?_
  clear henv hst a
  rintro mz a w4 ⟨j, v, A1, c1, rfl, henv, hst, hj⟩
  have hnx : nl (N / 1000000000 ^ j) ≤ 1000000 := Nat.le_trans (dig_len_le (by omega) (Nat.div_le_self _ _)) hnl
  refine wp_seq ?_
  refine wp_seq ?_
  refine region_seq ?_
  revert a
  refine mA rfl rfl ?_
  refine sA (v := .int .i64 ((nl (N / 1000000000 ^ j)) : Nat)) rfl (fun _ henv => rn_len henv Tryd.underlying23 rfl) ?_
  refine sA (v := .bool (decide ((((nl (N / 1000000000 ^ j)) : Nat) : Int) > (0 : Int)))) rfl (fun _ henv => rn_bin henv rfl rfl rfl) ?_
  intro a henv
  refine wpList_nil ?_
  refine th_n ?_
  refine if_split henv rfl (fun hc5 => ?_) (fun hc5 => ?_)
  · have hx0 : 0 < N / 1000000000 ^ j := Nat.pos_of_ne_zero fun h0 => by have := of_decide_eq_true hc5; rw [h0, show nl 0 = 0 from by unfold nl; rw [L_zero]; rfl] at this; omega
    have hjb := pcs_bd hnl hx0
    refine wp_skip ?_
    refine th_n ?_
    refine wp_block ?_
    refine wp_seq ?_
    refine region_seq ?_
    refine sv (v := .slice A1 (nl (N / 1000000000 ^ j)) c1) henv rfl (rn_move henv rfl) ?_
    clear henv a; intro a henv
    refine seq_step rfl (op_call henv rfl Tryd.call159 rfl (divs_num (N := (N / 1000000000 ^ j)) (q := 1000000000) ⟨_, (show U32 _ A1 (nl (N / 1000000000 ^ j)) c1 (L (N / 1000000000 ^ j)) from hst.pat (k := 0) rfl), val_L _⟩ hnx (by decide) (by decide)) ?_)
    rintro e w8 ⟨_, rfl, ⟨A6, c7, rfl, hU, hA⟩, hb⟩
    refine ⟨_, rfl, ?_⟩
    clear henv a; intro a henv
    replace hst := hst.freshU hb hU hA
    clear hU
    clear hA
    clear hb
    revert a
    refine mA rfl rfl ?_
    refine sA (v := .slice A6 (nl (N / 1000000000 ^ j / 1000000000)) c7) rfl (fun _ henv => rn_extract henv rfl rfl) ?_
    refine sA (v := .int .u32 ((N / 1000000000 ^ j) % 1000000000 : Nat)) rfl (fun _ henv => rn_extract henv rfl rfl) ?_
    refine sA (v := .int .i64 0) rfl (fun _ henv => rn_extract henv rfl rfl) ?_
    refine aA rfl rfl ?_
    refine aA rfl rfl ?_
    refine aA rfl rfl ?_
    intro a henv
    refine wpList_nil ?_
    refine th_n ?_
    refine wp_seq ?_
    refine region_seq ?_
    revert a
    refine mA rfl rfl ?_
    refine mA rfl rfl ?_
    intro a henv
    refine seq_step rfl (op_buildSlice (z := 1) (pv := #[(0, .int .u32 ((N / 1000000000 ^ j) % 1000000000 : Nat))]) (c := #[.int .u32 ((N / 1000000000 ^ j) % 1000000000 : Nat)]) henv hst rfl Tryd.underlying23 (ty_uint32.size) zero_uint32 (by decide) (by decide) rfl (by kernel_rfl) ?_)
    clear henv hst a; intro a w10 g9 henv hst
    refine seq_step rfl (op_append (k := 1) (j := 0) henv hst rfl Tryd.underlying23 info_u32 rfl rfl rfl rfl rfl rfl rfl rfl (by unfold maxLen; omega) (by omega) ?_)
    clear henv hst a; intro a w12 v11 henv hst
    refine sv (v := v11) henv rfl (rn_assign henv rfl) ?_
    clear henv a; intro a henv
    refine wpList_nil ?_
    refine th_n ?_
    refine region_seq ?_
    revert a
    refine mA rfl rfl ?_
    refine aA rfl rfl ?_
    intro a henv
    refine wpList_nil ?_
    refine bl_n ?_
    rw [div_succ] at henv hst
    rw [pcs_succ] at hst
    exact th_n ⟨_, (by rw [← div_succ]; exact Nat.div_lt_self hx0 (by decide)), ⟨j + 1, v11, A6, c7, rfl, henv.sub ⟨rfl, rfl, rfl, trivial⟩, hst.pick [1] [0] (by decide), (.inr (by rw [Nat.add_sub_cancel]; exact hx0))⟩⟩
  · have hx0 : N / 1000000000 ^ j = 0 := by have := of_decide_eq_false hc5; exact (Nat.eq_zero_or_pos _).resolve_right fun h0 => by have := nl_pos h0; omega
    clear hnx
    obtain ⟨A2, c2, rfl, hU2, hf2⟩ := rowF_U (hst.owns (k := 0) rfl) (pcs_lt N j)
    replace hst := (hst.give (k := 0) rfl (pfU A2 j c2 (pcs N j)) hU2 hf2)
    clear hU2 hf2
    refine wp_exit ?_
    refine th_x (th_x (bl_x (th_n ?_)))
    refine wp_seq ?_
    refine wp_seq ?_
    refine region_seq ?_
    revert a
    refine mA rfl rfl ?_
    refine sA (v := .int .i64 (j : Nat)) rfl (fun _ henv => rn_len henv Tryd.underlying23 rfl) ?_
    refine sA (v := .bool (((j : Nat) : Int) == (0 : Int))) rfl (fun _ henv => rn_bin henv rfl rfl rfl) ?_
    intro a henv
    refine wpList_nil ?_
    refine th_n ?_
    refine if_split henv rfl (fun hc13 => ?_) (fun hc13 => ?_)
    · have hj0 : j = 0 := by have := eq_of_beq hc13; omega
      refine wp_seq ?_
      refine region_seq ?_
      refine sv (v := .string ⟨#[48]⟩) henv rfl (rn_assign henv rfl) ?_
      clear henv a; intro a henv
      refine wpList_nil ?_
      refine th_n ?_
      refine wp_ret ?_
      refine th_r ?_
      refine leave henv (res1 Tryd.results150 (RV.tmp henv rfl)) ?_
      subst hj0
      rw [Nat.pow_zero, Nat.div_one] at hx0
      subst hx0
      exact ⟨rfl, hst.below⟩
    · have hj0 : j ≠ 0 := by have := ne_of_beq_false hc13; omega
      have hjt : 0 < N / 1000000000 ^ (j - 1) := hj.resolve_left hj0
      have hjb : j < 32000001 := by have := pcs_bd hnl hjt; omega
      refine wp_skip ?_
      refine th_n ?_
      refine wp_seq ?_
      refine region_seq ?_
      refine seq_step rfl (op_alloc (c := #[.pointer none, .slice none 0 0]) henv hst rfl zero_strings_Builder rfl ?_)
      clear henv hst a; intro a w15 g14 henv hst
      refine wpList_nil ?_
      replace hst := hst.bld (k := 0) rfl
      refine th_n ?_
      refine wp_seq ?_
      refine wp_seq ?_
      refine region_seq ?_
      revert a
      refine mA rfl rfl ?_
      refine sA (v := .int .i64 (j : Nat)) rfl (fun _ henv => rn_len henv Tryd.underlying23 rfl) ?_
      refine sA (v := .int .i64 (((j : Nat) : Int) - (1 : Int))) rfl (fun _ henv => rn_sub henv rfl rfl (IntWalk.i64_in _ (by omega))) ?_
      refine aA rfl rfl ?_
      intro a henv
      refine wpList_nil ?_
      refine th_n ?_
      refine wp_block ?_
      replace hst : St w0 w15 [bldF g14 (.slice none 0 0) (outN N j j).length (byteCells (outN N j j))] [pfU A2 j c2 (pcs N j)] := by rw [outN_nil]; exact hst.pick [0] [0] (by decide)
      refine wp_loop_ghost (fun mz a w => ∃ k : Nat, ∃ vb : Value, k = mz ∧ Env 68 a [(3, .slice A2 j c2), (8, .pointer (some ⟨g14, 0, none⟩)), (9, .int .i64 (((k : Nat) : Int) - 1))] ∧ St w0 w [bldF g14 vb ((outN N j k).length) (byteCells (outN N j k))] [pfU A2 j c2 (pcs N j)] ∧ k ≤ j ∧ (outN N j k).length ≤ 9 * (j - k)) _ ⟨j, _, rfl, henv.sub ⟨rfl, rfl, rfl, trivial⟩, hst.pick [0] [0] (by decide), (Nat.le_refl _), (by rw [outN_nil]; exact Nat.zero_le _)⟩ ?_
      clear henv hst a
      rintro mz a w16 ⟨k, vb, rfl, henv, hst, hk, hol⟩
      refine wp_seq ?_
      refine wp_seq ?_
      refine region_seq ?_
      revert a
      refine mA rfl rfl ?_
      refine sA (v := .bool (decide (((k : Nat) : Int) - 1 ≥ (0 : Int)))) rfl (fun _ henv => rn_bin henv rfl rfl rfl) ?_
      intro a henv
      refine wpList_nil ?_
      refine th_n ?_
      refine if_split henv rfl (fun hc17 => ?_) (fun hc17 => ?_)
      · obtain ⟨i, hi⟩ : ∃ i : Nat, ((k : Nat) : Int) - 1 = (i : Nat) := ⟨k - 1, by have := of_decide_eq_true hc17; omega⟩
        rw [hi] at henv
        obtain rfl : k = i + 1 := by omega
        clear hi
        have hij : i < j := by omega
        refine wp_skip ?_
        refine th_n ?_
        refine wp_seq ?_
        refine wp_block ?_
        refine wp_seq ?_
        refine region_seq ?_
        refine seq_step rfl (op_alloc (c := #[.int .u8 0, .int .u8 0, .int .u8 0, .int .u8 0, .int .u8 0, .int .u8 0, .int .u8 0, .int .u8 0, .int .u8 0]) henv hst rfl zero__9_uint8 rfl ?_)
        clear henv hst a; intro a w19 g18 henv hst
        refine wpList_nil ?_
        refine th_n ?_
        refine wp_seq ?_
        refine region_seq ?_
        revert a
        refine mA rfl rfl ?_
        refine mA rfl rfl ?_
        refine sA (v := .pointer (some ⟨ab A2, ao A2 + i, none⟩)) rfl (fun _ henv => rn_idxU (i := i) henv Tryd.underlying23 (ty_uint32.size) rfl rfl (by omega) (show U32 _ A2 j c2 (pcs N j) from (hst.pat (k := 0) rfl))) ?_
        refine sA (v := .int .u32 ((pcs N j).getD i 0 : Nat)) rfl (fun _ henv => rn_loadU henv ty_uint32 rfl (by omega) (show U32 _ A2 j c2 (pcs N j) from (hst.pat (k := 0) rfl))) ?_
        refine aA rfl rfl ?_
        intro a henv
        refine wpList_nil ?_
        obtain ⟨X, hX⟩ : ∃ X, (pcs N j).getD i 0 = X := ⟨_, rfl⟩
        rw [hX] at henv
        have hXe : X = N / 1000000000 ^ i % 1000000000 := by rw [← hX, pcs_at hij]
        have hXl : X < 1000000000 := by rw [hXe]; exact Nat.mod_lt _ (by decide)
        clear hX
        refine th_n ?_
        refine wp_seq ?_
        refine wp_seq ?_
        refine region_seq ?_
        refine sv (v := .int .i64 8) henv rfl (rn_assign henv rfl) ?_
        clear henv a; intro a henv
        refine wpList_nil ?_
        refine th_n ?_
        refine wp_block ?_
        refine wp_loop_ghost (fun mz a w => ∃ q : Nat, q = mz ∧ Env 68 a [(3, .slice A2 j c2), (8, .pointer (some ⟨g14, 0, none⟩)), (9, .int .i64 (i : Nat)), (10, .pointer (some ⟨g18, 0, none⟩)), (11, .int .u32 (X / 10 ^ (9 - q) : Nat)), (12, .int .i64 (((q : Nat) : Int) - 1))] ∧ St w0 w [bk g18 (nums .u8 (padl X q)) 214, bldF g14 vb ((outN N j (i + 1)).length) (byteCells (outN N j (i + 1)))] [pfU A2 j c2 (pcs N j)] ∧ q ≤ 9) _ ⟨9, rfl, henv.sub ⟨rfl, rfl, rfl, rfl, (by rw [Nat.sub_self, Nat.pow_zero, Nat.div_one]; rfl), rfl, trivial⟩, hst.pick [0, 1] [0] (by decide), (Nat.le_refl _)⟩ ?_
        clear henv hst a
        rintro mz a w20 ⟨q, rfl, henv, hst, hq⟩
        refine wp_seq ?_
        refine wp_seq ?_
        refine region_seq ?_
        revert a
        refine mA rfl rfl ?_
        refine sA (v := .bool (decide (((q : Nat) : Int) - 1 ≥ (0 : Int)))) rfl (fun _ henv => rn_bin henv rfl rfl rfl) ?_
        intro a henv
        refine wpList_nil ?_
        refine th_n ?_
        refine if_split henv rfl (fun hc21 => ?_) (fun hc21 => ?_)
        · obtain ⟨m, hm⟩ : ∃ m : Nat, ((q : Nat) : Int) - 1 = (m : Nat) := ⟨q - 1, by have := of_decide_eq_true hc21; omega⟩
          rw [hm] at henv
          obtain rfl : q = m + 1 := by omega
          clear hm
          refine wp_skip ?_
          refine th_n ?_
          refine wp_seq ?_
          refine wp_block ?_
          refine wp_seq ?_
          refine region_seq ?_
          revert a
          refine mA rfl rfl ?_
          refine mA rfl rfl ?_
          refine sA (v := .int .u32 ((X / 10 ^ (9 - (m + 1))) % 10 : Nat)) rfl (fun _ henv => rn_rem henv rfl rfl (by decide) (tmod_nat (X / 10 ^ (9 - (m + 1))) 10)) ?_
          refine sA (v := .int .u32 (48 + ((X / 10 ^ (9 - (m + 1))) % 10) : Nat)) rfl (fun _ henv => rn_add henv rfl rfl (by rw [IntWalk.u32_in _ (by omega)]; omega)) ?_
          refine sA (v := .int .u8 (48 + ((X / 10 ^ (9 - (m + 1))) % 10) : Nat)) rfl (fun _ henv => rn_conv henv rfl Tryd.underlying141 Tryd.underlying5 (IntWalk.u8_in _ (by omega))) ?_
          refine sA (v := .pointer (some ⟨g18, m, none⟩)) rfl (fun _ henv => rn_idxA (i := m) henv Tryd.underlying214 (ty_uint8.size) rfl rfl (by omega) (by omega)) ?_
          intro a henv
          refine seq_step rfl (op_storeN (k := 0) (kd := .u8) (os := padl X (m + 1)) (v := 48 + X / 10 ^ (9 - (m + 1)) % 10) henv hst (ty_uint8.size) rfl rfl rfl (by rw [padl_len]; omega) ?_)
          clear henv hst a; intro a w22 henv hst
          rw [padl_set (by omega)] at hst
          refine wpList_nil ?_
          refine th_n ?_
          refine region_seq ?_
          revert a
          refine mA rfl rfl ?_
          refine sA (v := .int .u32 ((X / 10 ^ (9 - (m + 1))) / 10 : Nat)) rfl (fun _ henv => rn_quo henv rfl rfl (by decide) (by rw [show ((X / 10 ^ (9 - (m + 1)) : Nat) : Int).tdiv 10 = (((X / 10 ^ (9 - (m + 1))) / 10 : Nat) : Int) from rfl]; exact q10 hXl)) ?_
          refine aA rfl rfl ?_
          intro a henv
          refine wpList_nil ?_
          refine bl_n (th_n ?_)
          refine region_seq ?_
          revert a
          refine mA rfl rfl ?_
          refine sA (v := .int .i64 (((m : Nat) : Int) - (1 : Int))) rfl (fun _ henv => rn_sub henv rfl rfl (IntWalk.i64_in _ (by omega))) ?_
          refine aA rfl rfl ?_
          intro a henv
          refine wpList_nil ?_
          rw [show X / 10 ^ (9 - (m + 1)) / 10 = X / 10 ^ (9 - m) from (u32_ten X m).resolve_right (by omega)] at henv
          exact th_n ⟨_, (by omega), ⟨m, rfl, henv.sub ⟨rfl, rfl, rfl, rfl, rfl, rfl, trivial⟩, hst.pick [0, 1] [0] (by decide), (by omega)⟩⟩
        · obtain rfl : q = 0 := by have := of_decide_eq_false hc21; omega
          refine wp_exit ?_
          refine th_x (th_x (bl_x (th_n ?_)))
          refine wp_seq ?_
          refine region_seq ?_
          revert a
          refine sA (v := .slice (some ⟨g18, 0, none⟩) 9 9) rfl (fun _ henv => rn_sliceA henv Tryd.underlying214 (ty_uint8.size) rfl) ?_
          refine sA (v := .string ⟨(padK 9 X).toArray⟩) rfl (fun _ henv => rn_bytesStr (s := padK 9 X) henv Tryd.underlying77 Tryd.underlying5 Tryd.underlying9 rfl (padK_length 9 X) (hst.oat (k := 0) rfl) (pad_bytes X)) ?_
          refine aA rfl rfl ?_
          intro a henv
          refine wpList_nil ?_
          refine th_n ?_
          refine wp_seq ?_
          refine wp_seq ?_
          refine region_seq ?_
          revert a
          refine mA rfl rfl ?_
          refine mA rfl rfl ?_
          refine sA (v := .int .i64 (j : Nat)) rfl (fun _ henv => rn_len henv Tryd.underlying23 rfl) ?_
          refine sA (v := .int .i64 (((j : Nat) : Int) - (1 : Int))) rfl (fun _ henv => rn_sub henv rfl rfl (IntWalk.i64_in _ (by omega))) ?_
          refine sA (v := .bool (((i : Nat) : Int) == ((j : Nat) : Int) - (1 : Int))) rfl (fun _ henv => rn_bin henv rfl rfl rfl) ?_
          intro a henv
          refine wpList_nil ?_
          refine th_n ?_
          refine if_split henv rfl (fun hc23 => ?_) (fun hc23 => ?_)
          · have htop : i + 1 = j := by have := eq_of_beq hc23; omega
            refine region_seq ?_
            refine sv (v := .string ⟨(padK 9 X).toArray⟩) henv rfl (rn_move henv rfl) ?_
            clear henv a; intro a henv
            refine seq_step rfl (op_call henv rfl Tryd.call165 rfl (trim_call (padK 9 X) _) ?_)
            rintro e w24 ⟨rfl, hb⟩
            refine ⟨_, rfl, ?_⟩
            clear henv a; intro a henv
            replace hst := hst.call hb
            clear hb
            refine sv (v := .string ⟨(trimLeftB (padK 9 X) 48).toArray⟩) henv rfl (rn_assign henv rfl) ?_
            clear henv a; intro a henv
            refine wpList_nil ?_
            refine th_n ?_
            refine region_seq ?_
            refine sv (v := .string ⟨(trimLeftB (padK 9 X) 48).toArray⟩) henv rfl (rn_move henv rfl) ?_
            clear henv a; intro a henv
            refine seq_step rfl (op_write (k := 1) henv hst rfl rfl rfl rfl (by rw [ba_size]; have := padK_length 9 X; have := trimLeftB_len (padK 9 X) 48; omega) ?_)
            clear henv hst a; intro a w25 v26 henv hst
            rw [ba_size, byteCells_app, ← List.length_append] at hst
            subst htop
            rw [hXe, outN_top hx0 hjt] at hst
            have hlen : (outN N (i + 1) i).length ≤ 9 * (i + 1 - i) := by rw [← outN_top hx0 hjt, outN_nil, List.nil_append]; have := trimLeftB_len (padK 9 (N / 1000000000 ^ i % 1000000000)) 48; have := padK_length 9 (N / 1000000000 ^ i % 1000000000); omega
            refine wpList_nil ?_
            refine bl_n (th_n ?_)
            refine region_seq ?_
            revert a
            refine mA rfl rfl ?_
            refine sA (v := .int .i64 (((i : Nat) : Int) - (1 : Int))) rfl (fun _ henv => rn_sub henv rfl rfl (IntWalk.i64_in _ (by omega))) ?_
            refine aA rfl rfl ?_
            intro a henv
            refine wpList_nil ?_
            exact th_n ⟨_, (by omega), ⟨i, v26, rfl, henv.sub ⟨rfl, rfl, rfl, trivial⟩, hst.pick [1] [0] (by decide), (by omega), hlen⟩⟩
          · have htop : i + 1 < j := by have := ne_of_beq_false hc23; omega
            refine wp_skip ?_
            refine th_n ?_
            refine region_seq ?_
            refine sv (v := .string ⟨(padK 9 X).toArray⟩) henv rfl (rn_move henv rfl) ?_
            clear henv a; intro a henv
            refine seq_step rfl (op_write (k := 1) henv hst rfl rfl rfl rfl (by rw [ba_size]; have := padK_length 9 X; have := trimLeftB_len (padK 9 X) 48; omega) ?_)
            clear henv hst a; intro a w27 v28 henv hst
            rw [ba_size, byteCells_app, ← List.length_append] at hst
            rw [hXe, outN_step hjt htop] at hst
            have hlen : (outN N j i).length ≤ 9 * (j - i) := by rw [← outN_step hjt htop, List.length_append, padK_length]; omega
            refine wpList_nil ?_
            refine bl_n (th_n ?_)
            refine region_seq ?_
            revert a
            refine mA rfl rfl ?_
            refine sA (v := .int .i64 (((i : Nat) : Int) - (1 : Int))) rfl (fun _ henv => rn_sub henv rfl rfl (IntWalk.i64_in _ (by omega))) ?_
            refine aA rfl rfl ?_
            intro a henv
            refine wpList_nil ?_
            exact th_n ⟨_, (by omega), ⟨i, v28, rfl, henv.sub ⟨rfl, rfl, rfl, trivial⟩, hst.pick [1] [0] (by decide), (by omega), hlen⟩⟩
      · obtain rfl : k = 0 := by have := of_decide_eq_false hc17; omega
        refine wp_exit ?_
        refine th_x (th_x (bl_x (th_n ?_)))
        refine wp_seq ?_
        refine region_seq ?_
        refine seq_step rfl (op_bstr (k := 0) henv hst rfl rfl rfl ?_)
        clear henv hst a; intro a w29 henv hst
        refine sv (v := .string ⟨(outN N j 0).toArray⟩) henv rfl (rn_assign henv rfl) ?_
        clear henv a; intro a henv
        refine wpList_nil ?_
        refine th_n ?_
        refine wp_ret ?_
        refine leave henv (res1 Tryd.results150 (RV.tmp henv rfl)) ?_
        rw [outN_end hj0]
        exact ⟨rfl, hst.below⟩
end Go.Proofs.YtegglooojlheoaaDoor.W
