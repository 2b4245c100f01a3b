/- LimbTexts: the law's walk. Printed by pv/gen_ltexts.py. No condition. -/
import Derived.Test.YtnldopjbiacbfaaDoorM33
import Derived.Test.YtnldopjbiacbfaaDoorM40
import Derived.Test.YtnldopjbiacbfaaDoorM41

namespace Go.Proofs.YtnldopjbiacbfaaDoor.W
open Go.RowKit Anv Go.Lib

theorem cutF {P : Program} {c : Code} {K : Act → World → Prop} {Q : Exit → Act → World → Prop} {a : Act} {w : World} (M : Act → World → Prop) (h : c.wp P (Exit.then M (fun _ _ _ => False)) a w) (hK : ∀ a w, M a w → K a w) : c.wp P (Exit.then K Q) a w :=
  wp_mono h fun e a w hq => by cases e <;> first | exact hK _ _ hq | exact hq.elim
theorem tx_cases (t : List UInt8) : t = [] ∨ (∃ i, i < t.length ∧ BadAt t i ∧ ∀ j, j < i → ¬ BadAt t j) ∨ (t ≠ [] ∧ ∀ j, j < t.length → ¬ BadAt t j) := by
  by_cases h0 : t = []
  · exact .inl h0
  by_cases h : ∃ i, i < t.length ∧ BadAt t i
  · have key : ∀ n i, i ≤ n → i < t.length → BadAt t i → ∃ b, b < t.length ∧ BadAt t b ∧ ∀ j, j < b → ¬ BadAt t j := by
      intro n
      induction n with
      | zero =>
        intro i hi hl hb
        obtain rfl : i = 0 := by omega
        exact ⟨0, hl, hb, fun j hj => absurd hj (Nat.not_lt_zero _)⟩
      | succ n ih =>
        intro i hi hl hb
        by_cases h : ∃ j, j < i ∧ BadAt t j
        · obtain ⟨j, hj, hbj⟩ := h
          exact ih j (by omega) (by omega) hbj
        · exact ⟨i, hl, hb, fun j hj hbj => h ⟨j, hj, hbj⟩⟩
    obtain ⟨i, hi, hb⟩ := h
    exact .inr (.inl (key i i (Nat.le_refl _) hi hb))
  · exact .inr (.inr ⟨h0, fun j hj hb => h ⟨j, hj, hb⟩⟩)
/-- Both readers answer alike. -/
theorem rd_both {t : List UInt8} (ht : t.length ≤ 1500 ∨ 65536 < t.length) (hmx : t.length ≤ maxLen) : ∃ (R : Nat) (p q : Int), nl R ≤ 65536 ∧ ∀ w0 : World,
    (Calls Tryd.prog 65 #[.string ⟨t.toArray⟩] w0 fun e w' => ∃ v, e = .returned (.tuple #[v, .agg #[.int .i64 p, .int .i64 q]]) ∧ NumAt w0.heap.size w' v R ∧ Below w0.heap.size w0 w') ∧
    (Calls Tryd.prog 67 #[.string ⟨t.toArray⟩] w0 fun e w' => ∃ v, e = .returned (.tuple #[v, .agg #[.int .i64 p, .int .i64 q]]) ∧ NumAt w0.heap.size w' v R ∧ Below w0.heap.size w0 w') := by
  have hm : t.length ≤ 9223372036854775807 := hmx
  have h00 : nl 0 ≤ 65536 := by rw [nl_zero]; decide
  rcases ht with ht | ht
  · have ht6 : t.length ≤ 65536 := by omega
    rcases tx_cases t with h | ⟨i, hi, hb, hok⟩ | ⟨hne, hok⟩
    · exact ⟨0, 6, 0, h00, fun w0 => ⟨(read_empty h).mono fun _ _ ⟨he, hB⟩ => ⟨_, he, numAt_nil _ _, hB⟩, (t1_read_empty h).mono fun _ _ ⟨he, hB⟩ => ⟨_, he, numAt_nil _ _, hB⟩⟩⟩
    · exact ⟨0, 6, (i : Nat), h00, fun w0 => ⟨(read_bad ht6 hi hb hok).mono fun _ _ ⟨he, hB⟩ => ⟨_, he, numAt_nil _ _, hB⟩, (t1_read_bad ht6 hi hb hok).mono fun _ _ ⟨he, hB⟩ => ⟨_, he, numAt_nil _ _, hB⟩⟩⟩
    · exact ⟨numOf t, 0, 0, nl_numOf (fun c hc => (digits_of hok c hc).2) ht6, fun w0 => ⟨read_ok ht6 hne hok, t1_read_ok ht6 hne hok⟩⟩
  · exact ⟨0, 3, 65536, h00, fun w0 => ⟨(read_long ht hm).mono fun _ _ ⟨he, hB⟩ => ⟨_, he, numAt_nil _ _, hB⟩, (t1_read_long ht hm).mono fun _ _ ⟨he, hB⟩ => ⟨_, he, numAt_nil _ _, hB⟩⟩⟩
theorem dig_get {s : List UInt8} (hs : ∀ c ∈ s, 48 ≤ c.toNat ∧ c.toNat ≤ 57) {i : Nat} (hi : i < s.length) : 48 ≤ (s.getD i 0).toNat ∧ (s.getD i 0).toNat ≤ 57 := by
  have e : s.getD i 0 = s[i] := by simp [List.getD, hi]
  rw [e]
  exact hs _ (List.getElem_mem hi)
theorem dgs_clash {s : List UInt8} (hs : ∀ c ∈ s, 48 ≤ c.toNat ∧ c.toNat ≤ 57) {p : Nat} {pr : List (Fin 10)} {x : Fin 10} (hp : p ≤ s.length) (h : pr ++ [x] = dgs (s.take p)) : x.val = (s.getD pr.length 0).toNat - 48 := by
  have hl := congrArg List.length h
  rw [List.length_append, dgs_len, List.length_take, Nat.min_eq_left hp] at hl
  have hl : pr.length + 1 = p := hl
  subst hl
  rw [dgs_take_succ (by omega)] at h
  have h2 := List.append_inj_right' h rfl
  have h3 : x = dgt (s.getD pr.length 0) := by simpa using h2
  rw [h3]
  have h4 := dig_get hs (i := pr.length) (by omega)
  exact dgt_val h4.1 h4.2
theorem St.putD0 {w0 w : World} {own ps : List PF} {D : Nat} (h : St w0 w own ps) (hd : w.heap[D]? = some (.deferred (some []))) (hD : w0.heap.size ≤ D) (hc : CellsFs own) (hp : CellsFs ps) : St w0 (w.putObj D (.deferred none)) own ps :=
  h.grown (B := D) hD hc hp (grownBy_putObj' w D _) fun r e => by
    cases e
    exact ⟨Nat.le_refl _, _, hd, rfl⟩
theorem putD_other {w : World} {D E : Nat} {o o' : Obj} (h : w.heap[E]? = some o) (hne : E ≠ D) : (w.putObj D o').heap[E]? = some o :=
  ((grownBy_putObj' w D o').block E (lt_of_block h) (fun e => hne (Option.some.inj e))).trans h

set_option maxRecDepth 100000 in
set_option maxHeartbeats 4000000 in
theorem texts_short {A0 : Option Addr} {n0 c0 : Nat} {xs0 : List Nat} {t : List UInt8} {ea : Int} {w0 : World} (u0 : U32 w0 A0 n0 c0 xs0) (hn0 : n0 ≤ 160) (_hmx : t.length ≤ maxLen) (ht : t.length ≤ 1500) :
    Calls Tryd.prog 14 #[.slice A0 n0 c0, .string ⟨t.toArray⟩, .int .i64 ea] w0 fun e w' => e = .returned (.bool true) ∧ Below w0.heap.size w0 w' := by
  obtain ⟨X, hX0⟩ : ∃ z, val 4294967296 xs0 = z := ⟨_, rfl⟩
  have hl0 : nl X ≤ n0 := hX0 ▸ nl_val u0
  have hxl0 := u0.len
  have htx := textN_bd X
  obtain ⟨R, p, q, hR, hrd⟩ := rd_both (t := t) (by omega) _hmx
  refine enterM Tryd.func14 rfl Tryd.ntmps14 rfl ?_
  intro a henv hst
  replace hst := (hst.addU u0 trivial)
  clear u0
  refine wp_seq ?_
  refine region_seq ?_
  refine seq_step rfl (op_box (c := #[.int .i64 ea]) henv hst rfl rfl rfl ?_)
  clear henv hst a; intro a w2 g1 henv hst
  refine seq_step rfl (op_alloc (c := #[.bool false]) henv hst rfl zero_bool rfl ?_)
  clear henv hst a; intro a w4 g3 henv hst
  refine wpList_nil ?_
  refine th_n ?_
  refine wp_seq ?_
  refine wp_seq ?_
  refine region_seq ?_
  refine seq_step rfl (op_call henv rfl Tryd.call32 rfl (works_true _) ?_)
  rintro e w5 ⟨rfl, hb⟩
  refine ⟨_, rfl, ?_⟩
  clear henv a; intro a henv
  replace hst := hst.call hb
  clear hb
  refine seq_step rfl (op_val (v := .bool false) henv rfl (rn_un henv rfl rfl) ?_)
  clear henv a; intro a henv
  refine wpList_nil ?_
  refine th_n ?_
  refine if_f henv rfl (rfl) ?_
  refine wp_skip ?_
  refine th_n ?_
  refine wp_seq ?_
  refine wp_seq ?_
  refine region_seq ?_
  refine seq_step rfl (op_val (v := .slice A0 n0 c0) henv rfl (rn_move henv rfl) ?_)
  clear henv a; intro a henv
  refine seq_step rfl (op_buildSlice (z := 1) (pv := #[(0, .slice A0 n0 c0)]) (c := #[.slice A0 n0 c0]) henv hst rfl Tryd.underlying107 (ty__uint32.size) zero__uint32 (by decide) (by decide) rfl (by kernel_rfl) ?_)
  clear henv hst a; intro a w7 g6 henv hst
  refine seq_step rfl (op_call henv rfl Tryd.call50 rfl (long_sh (q := 1) (ls := [(A0, n0, c0)]) (hst.oat (k := 0) rfl) rfl (by decide) (by intro p hp; simp at hp; rcases hp with rfl <;> assumption)) ?_)
  rintro e w8 ⟨rfl, hb⟩
  refine ⟨_, rfl, ?_⟩
  clear henv a; intro a henv
  replace hst := hst.call hb
  clear hb
  refine seq_step rfl (op_val (v := .bool false) henv rfl (rn_move henv rfl) ?_)
  clear henv a; intro a henv
  refine seq_g rfl henv rfl rfl (op_val (v := .string ⟨t.toArray⟩) henv rfl (rn_move henv rfl) ?_)
  clear henv a; intro a henv
  refine seq_g rfl henv rfl rfl (op_val (v := .int .i64 (t.length : Nat)) henv rfl (rn_lenS henv Tryd.underlying9 rfl) ?_)
  clear henv a; intro a henv
  refine seq_g rfl henv rfl rfl (op_val (v := .bool (decide (((t.length : Nat) : Int) > (1500 : Int)))) henv rfl (rn_bin henv rfl rfl rfl) ?_)
  clear henv a; intro a henv
  rw [show (decide (((t.length : Nat) : Int) > (1500 : Int))) = false from decide_eq_false (by omega)] at henv
  refine seq_g rfl henv rfl rfl (op_val (v := .bool false) henv rfl (rn_move henv rfl) ?_)
  clear henv a; intro a henv
  refine seq_skip rfl henv rfl rfl rfl rfl ?_
  clear henv a; intro a henv
  refine seq_skip rfl henv rfl rfl rfl rfl ?_
  clear henv a; intro a henv
  refine seq_skip rfl henv rfl rfl rfl rfl ?_
  clear henv a; intro a henv
  refine seq_g rfl henv rfl rfl (op_val (v := .bool false) henv rfl (rn_pick henv rfl rfl) ?_)
  clear henv a; intro a henv
  refine seq_step rfl (op_val (v := .bool false) henv rfl (rn_pick henv rfl rfl) ?_)
  clear henv a; intro a henv
  refine wpList_nil ?_
  refine th_n ?_
  refine if_f henv rfl (rfl) ?_
  refine wp_skip ?_
  refine th_n ?_
  refine wp_seq ?_
  refine region_seq ?_
  refine seq_step rfl (op_val (v := .slice A0 n0 c0) henv rfl (rn_move henv rfl) ?_)
  clear henv a; intro a henv
  refine seq_step rfl (op_call henv rfl Tryd.call46 rfl (room_any (show U32 _ A0 n0 c0 xs0 from hst.pat (k := 0) rfl) (by omega)) ?_)
  rintro e w11 ⟨A9, c10, rfl, hU, hA, hb⟩
  refine ⟨_, rfl, ?_⟩
  clear henv a; intro a henv
  replace hst := hst.freshU2 hb hU hA (U32.pre hU hxl0) hA
  clear hU
  clear hA
  clear hb
  refine seq_step rfl (op_call henv rfl Tryd.call66 rfl (text_num (N := X) ⟨_, (show U32 _ A9 n0 c10 xs0 from hst.pat (k := 0) rfl), hX0⟩ (by omega)) ?_)
  rintro e w12 ⟨rfl, hb⟩
  refine ⟨_, rfl, ?_⟩
  clear henv a; intro a henv
  replace hst := hst.call hb
  clear hb
  refine seq_step rfl (op_alloc (c := #[.string ⟨#[]⟩]) henv hst rfl zero_string rfl ?_)
  clear henv hst a; intro a w14 g13 henv hst
  refine seq_step rfl (op_store1 (k := 0) (c' := #[.string ⟨(textN X).toArray⟩]) henv hst (ty_string.size) rfl rfl rfl (by simp) rfl rfl ?_)
  clear henv hst a; intro a w15 henv hst
  refine wpList_nil ?_
  refine th_n ?_
  refine wp_seq ?_
  refine region_seq ?_
  refine seq_step rfl (op_val (v := .string ⟨t.toArray⟩) henv rfl (rn_move henv rfl) ?_)
  clear henv a; intro a henv
  refine seq_step rfl (op_call henv rfl Tryd.call65 rfl (hrd _).1 ?_)
  rintro e w18 ⟨_, rfl, ⟨A16, c17, rfl, hU, hA⟩, hb⟩
  refine ⟨_, rfl, ?_⟩
  clear henv a; intro a henv
  replace hst := hst.freshU hb hU hA
  clear hU
  clear hA
  clear hb
  refine seq_step rfl (op_val (v := .tuple #[.slice A16 (nl R) c17, .agg #[.int .i64 p, .int .i64 q]]) henv rfl (rn_move henv rfl) ?_)
  clear henv a; intro a henv
  refine seq_step rfl (op_val (v := .slice A16 (nl R) c17) henv rfl (rn_extract henv rfl rfl) ?_)
  clear henv a; intro a henv
  refine seq_step rfl (op_val (v := .agg #[.int .i64 p, .int .i64 q]) henv rfl (rn_extract henv rfl rfl) ?_)
  clear henv a; intro a henv
  refine seq_step rfl (op_alloc (c := #[.int .i64 0, .int .i64 0]) henv hst rfl zero_anvil_api_Spot rfl ?_)
  clear henv hst a; intro a w20 g19 henv hst
  refine seq_step rfl (op_val (v := .slice A16 (nl R) c17) henv rfl (rn_assign henv rfl) ?_)
  clear henv a; intro a henv
  refine seq_step rfl (op_store (k := 0) (c' := #[.int .i64 p, .int .i64 q]) henv hst (ty_anvil_api_Spot.size) rfl rfl rfl rfl (by simp) rfl rfl ?_)
  clear henv hst a; intro a w21 henv hst
  refine wpList_nil ?_
  refine th_n ?_
  refine wp_seq ?_
  refine region_seq ?_
  refine seq_step rfl (op_val (v := .string ⟨t.toArray⟩) henv rfl (rn_move henv rfl) ?_)
  clear henv a; intro a henv
  refine seq_step rfl (op_call henv rfl Tryd.call67 rfl (hrd _).2 ?_)
  rintro e w24 ⟨_, rfl, ⟨A22, c23, rfl, hU, hA⟩, hb⟩
  refine ⟨_, rfl, ?_⟩
  clear henv a; intro a henv
  replace hst := hst.freshU hb hU hA
  clear hU
  clear hA
  clear hb
  refine seq_step rfl (op_val (v := .tuple #[.slice A22 (nl R) c23, .agg #[.int .i64 p, .int .i64 q]]) henv rfl (rn_move henv rfl) ?_)
  clear henv a; intro a henv
  refine seq_step rfl (op_val (v := .slice A22 (nl R) c23) henv rfl (rn_extract henv rfl rfl) ?_)
  clear henv a; intro a henv
  refine seq_step rfl (op_val (v := .agg #[.int .i64 p, .int .i64 q]) henv rfl (rn_extract henv rfl rfl) ?_)
  clear henv a; intro a henv
  refine seq_step rfl (op_alloc (c := #[.int .i64 0, .int .i64 0]) henv hst rfl zero_anvil_api_Spot rfl ?_)
  clear henv hst a; intro a w26 g25 henv hst
  refine seq_step rfl (op_val (v := .slice A22 (nl R) c23) henv rfl (rn_assign henv rfl) ?_)
  clear henv a; intro a henv
  refine seq_step rfl (op_store (k := 0) (c' := #[.int .i64 p, .int .i64 q]) henv hst (ty_anvil_api_Spot.size) rfl rfl rfl rfl (by simp) rfl rfl ?_)
  clear henv hst a; intro a w27 henv hst
  refine wpList_nil ?_
  refine th_n ?_
  refine wp_seq ?_
  refine wp_seq ?_
  refine cutF (fun a w => Env 89 a [(0, .slice A0 n0 c0), (1, .string ⟨t.toArray⟩), (2, .int .i64 ea), (5, .pointer (some ⟨g1, 0, none⟩)), (6, .pointer (some ⟨g3, 0, none⟩)), (15, .bool true), (16, .bool false), (17, .slice A0 n0 c0), (18, .slice (some ⟨g6, 0, none⟩) 1 1), (19, .bool false), (20, .bool false), (21, .string ⟨t.toArray⟩), (22, .int .i64 (t.length : Nat)), (23, .bool false), (24, .bool false), (25, undef), (26, undef), (27, undef), (28, .bool false), (29, .bool false), (30, .slice A0 n0 c0), (31, .slice A9 n0 c10), (32, .string ⟨(textN X).toArray⟩), (7, .pointer (some ⟨g13, 0, none⟩)), (34, .string ⟨t.toArray⟩), (35, .tuple #[.slice A16 (nl R) c17, .agg #[.int .i64 p, .int .i64 q]]), (33, .tuple #[.slice A16 (nl R) c17, .agg #[.int .i64 p, .int .i64 q]]), (36, .slice A16 (nl R) c17), (37, .agg #[.int .i64 p, .int .i64 q]), (9, .pointer (some ⟨g19, 0, none⟩)), (39, .string ⟨t.toArray⟩), (40, .tuple #[.slice A22 (nl R) c23, .agg #[.int .i64 p, .int .i64 q]]), (38, .tuple #[.slice A22 (nl R) c23, .agg #[.int .i64 p, .int .i64 q]]), (41, .slice A22 (nl R) c23), (42, .agg #[.int .i64 p, .int .i64 q]), (11, .pointer (some ⟨g25, 0, none⟩)), (57, .bool false)] ∧ St w0 w [bk g25 #[.int .i64 p, .int .i64 q] 58, bk g19 #[.int .i64 p, .int .i64 q] 58, bk g13 #[.string ⟨(textN X).toArray⟩] 9, bk g6 #[.slice A0 n0 c0] 22, bk g3 #[.bool false] 4, bk g1 #[.int .i64 ea] 3] [pfU A22 (nl R) c23 (L R), pfU A16 (nl R) c17 (L R), pfU A9 n0 c10 xs0, pfU A9 (n0 + 2) c10 (xs0 ++ [77, 78]), pfU A0 n0 c0 xs0]) ?_ ?_
  · refine region_any (n := 15) (Sk [bk g25 #[.int .i64 p, .int .i64 q] 58, bk g19 #[.int .i64 p, .int .i64 q] 58, bk g13 #[.string ⟨(textN X).toArray⟩] 9, bk g6 #[.slice A0 n0 c0] 22, bk g3 #[.bool false] 4, bk g1 #[.int .i64 ea] 3] [pfU A22 (nl R) c23 (L R), pfU A16 (nl R) c17 (L R), pfU A9 n0 c10 xs0, pfU A9 (n0 + 2) c10 (xs0 ++ [77, 78]), pfU A0 n0 c0 xs0] [] []) mixed rfl henv hst ?_
    clear henv hst; intro w28 henv hst
    refine sAny_take (i := 0) [3, 4, 5, 6, 7, 8, 9, 10, 11, 12, 13, 14] (fun w' => w'.heap[g13]? = some (.cells #[.string ⟨(textN X).toArray⟩] 9 (0, 0))) (v := .string ⟨(textN X).toArray⟩) rfl (by kernel_rfl) (fun _ _ _ h => h) (fun _ _ _ hS => hS.1.oat (k := 2) rfl) henv rfl (hst.oat (k := 2) rfl) (fun w' hg => rn_load1 henv ty_string rfl hg rfl) ?_
    clear henv a; intro a henv
    refine sAny_take (i := 1) [2, 3, 4, 5, 6, 7, 8, 9, 10, 11, 12, 13, 14] (fun _ => True) (v := .slice A0 n0 c0) rfl (by kernel_rfl) (fun _ _ _ h => h) (fun _ _ _ _ => trivial) henv rfl trivial (fun w' _ => rn_move henv rfl) ?_
    clear henv a; intro a henv
    refine sAny_one (i := 2) (by kernel_rfl) rfl rfl (op_call henv rfl Tryd.call68 rfl (t1_text (N := X) (show U32 _ A0 n0 c0 xs0 from hst.pat (k := 4) rfl) hX0 (by omega)) ?_)
    rintro e w29 ⟨rfl, hb⟩
    refine ⟨_, rfl, ?_⟩
    clear henv a; intro a henv
    replace hst := hst.call hb
    clear hb
    refine ⟨.inr ⟨hst.kn.pick [0, 1, 2, 3, 4, 5] [0, 1, 2, 3, 4], .inr (hst.kn.pick [] [])⟩, ?_⟩
    refine sAny_take (i := 3) [4, 5, 6, 7, 8, 9, 10, 11, 12, 13, 14] (fun _ => True) (v := .bool (!decide ((textN X) = (textN X)))) rfl (by kernel_rfl) (fun _ _ _ h => h) (fun _ _ _ _ => trivial) henv rfl trivial (fun w' _ => rn_neqs (s := (textN X)) (t := (textN X)) henv rfl rfl) ?_
    clear henv a; intro a henv
    rw [show (!decide ((textN X) = (textN X))) = false from (by simp)] at henv
    refine sAny_take (i := 4) [5, 6, 7, 8, 9, 10, 11, 12, 13, 14] (fun _ => True) (v := .bool false) rfl (by kernel_rfl) (fun _ _ _ h => h) (fun _ _ _ _ => trivial) henv rfl trivial (fun w' _ => rn_move henv rfl) ?_
    clear henv a; intro a henv
    refine sAny_takeg (i := 5) [7, 8, 9, 10, 11, 12, 13, 14] (fun _ => True) (v := .slice A16 (nl R) c17) rfl (by kernel_rfl) (fun _ _ _ h => h) (fun _ _ _ _ => trivial) henv rfl rfl rfl rfl trivial (fun w' _ => rn_move henv rfl) ?_
    clear henv a; intro a henv
    refine sAny_takeg (i := 6) [7, 8, 9, 10, 11, 12, 13, 14] (fun _ => True) (v := .slice A22 (nl R) c23) rfl (by kernel_rfl) (fun _ _ _ h => h) (fun _ _ _ _ => trivial) henv rfl rfl rfl rfl trivial (fun w' _ => rn_move henv rfl) ?_
    clear henv a; intro a henv
    refine sAny_oneg (i := 7) (by kernel_rfl) rfl rfl henv rfl rfl rfl (op_call henv rfl Tryd.call36 rfl (equal_u (show U32 _ A16 (nl R) c17 (L R) from hst.pat (k := 1) rfl) (show U32 _ A22 (nl R) c23 (L R) from hst.pat (k := 0) rfl)) ?_)
    rintro e w30 ⟨rfl, hb⟩
    refine ⟨_, rfl, ?_⟩
    clear henv a; intro a henv
    replace hst := hst.call hb
    clear hb
    refine ⟨.inr ⟨hst.kn.pick [0, 1, 2, 3, 4, 5] [0, 1, 2, 3, 4], .inr (hst.kn.pick [] [])⟩, ?_⟩
    rw [show (decide ((L R) = (L R))) = true from by rw [L_dec]; exact decide_eq_true (by first | rfl | omega | exact Nat.add_comm _ _ | exact Nat.mul_comm _ _ | exact Nat.add_assoc _ _ _ | exact (Nat.add_assoc _ _ _).symm | exact Nat.mul_assoc _ _ _ | exact (Nat.mul_assoc _ _ _).symm | exact Nat.mul_add _ _ _)] at henv
    refine sAny_takeg (i := 8) [9, 10, 11, 12, 13, 14] (fun _ => True) (v := .bool false) rfl (by kernel_rfl) (fun _ _ _ h => h) (fun _ _ _ _ => trivial) henv rfl rfl rfl rfl trivial (fun w' _ => rn_un henv rfl rfl) ?_
    clear henv a; intro a henv
    refine sAny_take (i := 9) [10, 11, 12, 13, 14] (fun _ => True) (v := .bool false) rfl (by kernel_rfl) (fun _ _ _ h => h) (fun _ _ _ _ => trivial) henv rfl trivial (fun w' _ => rn_pick henv rfl rfl) ?_
    clear henv a; intro a henv
    refine sAny_take (i := 10) [11, 12, 13, 14] (fun _ => True) (v := .bool false) rfl (by kernel_rfl) (fun _ _ _ h => h) (fun _ _ _ _ => trivial) henv rfl trivial (fun w' _ => rn_move henv rfl) ?_
    clear henv a; intro a henv
    refine sAny_takeg (i := 11) [13, 14] (fun w' => w'.heap[g19]? = some (.cells #[.int .i64 p, .int .i64 q] 58 (0, 0))) (v := .agg #[.int .i64 p, .int .i64 q]) rfl (by kernel_rfl) (fun _ _ _ h => h) (fun _ _ _ hS => hS.1.oat (k := 1) rfl) henv rfl rfl rfl rfl (hst.oat (k := 1) rfl) (fun w' hg => rn_load0 henv ty_anvil_api_Spot rfl hg rfl) ?_
    clear henv a; intro a henv
    refine sAny_takeg (i := 12) [13, 14] (fun w' => w'.heap[g25]? = some (.cells #[.int .i64 p, .int .i64 q] 58 (0, 0))) (v := .agg #[.int .i64 p, .int .i64 q]) rfl (by kernel_rfl) (fun _ _ _ h => h) (fun _ _ _ hS => hS.1.oat (k := 0) rfl) henv rfl rfl rfl rfl (hst.oat (k := 0) rfl) (fun w' hg => rn_load0 henv ty_anvil_api_Spot rfl hg rfl) ?_
    clear henv a; intro a henv
    refine sAny_takeg (i := 13) [14] (fun _ => True) (v := .bool (!decide ([p, q] = [p, q]))) rfl (by kernel_rfl) (fun _ _ _ h => h) (fun _ _ _ _ => trivial) henv rfl rfl rfl rfl trivial (fun w' _ => rn_neqI [p, q] [p, q] henv spotI rfl rfl rfl rfl) ?_
    clear henv a; intro a henv
    rw [show (!decide ([p, q] = [p, q])) = false from (by simp)] at henv
    refine sAny_take (i := 14) [] (fun _ => True) (v := .bool false) rfl (by kernel_rfl) (fun _ _ _ h => h) (fun _ _ _ _ => trivial) henv rfl trivial (fun w' _ => rn_pick henv rfl rfl) ?_
    clear henv a; intro a henv
    refine sAny_done (by kernel_rfl) ?_ _
    exact th_n ⟨henv.sub ⟨rfl, rfl, rfl, rfl, rfl, rfl, rfl, rfl, rfl, rfl, rfl, rfl, rfl, rfl, rfl, rfl, rfl, rfl, rfl, rfl, rfl, rfl, rfl, rfl, rfl, rfl, rfl, rfl, rfl, rfl, rfl, rfl, rfl, rfl, rfl, rfl, rfl, trivial⟩, hst.pick [0, 1, 2, 3, 4, 5] [0, 1, 2, 3, 4] (by decide)⟩
  clear henv hst a
  rintro a w31 ⟨henv, hst⟩
  refine if_f henv rfl (rfl) ?_
  refine wp_skip ?_
  refine th_n ?_
  refine wp_seq ?_
  refine region_seq ?_
  refine seq_step rfl (op_val (v := .slice A0 n0 c0) henv rfl (rn_move henv rfl) ?_)
  clear henv a; intro a henv
  refine seq_step rfl (op_call henv rfl Tryd.call46 rfl (room_any (show U32 _ A0 n0 c0 xs0 from hst.pat (k := 4) rfl) (by omega)) ?_)
  rintro e w34 ⟨A32, c33, rfl, hU, hA, hb⟩
  refine ⟨_, rfl, ?_⟩
  clear henv a; intro a henv
  replace hst := hst.freshU2 hb hU hA (U32.pre hU hxl0) hA
  clear hU
  clear hA
  clear hb
  refine seq_step rfl (op_call henv rfl Tryd.call69 rfl (digits_num (N := X) ⟨_, (show U32 _ A32 n0 c33 xs0 from hst.pat (k := 0) rfl), hX0⟩ (by omega)) ?_)
  rintro e w36 ⟨g35, rfl, hS, hge, hb⟩
  refine ⟨_, rfl, ?_⟩
  clear henv a; intro a henv
  replace hst := hst.fresh hb (bk g35 #[.string ⟨(textN X).toArray⟩] 9) hS (fun _ hb => hb ▸ hge)
  clear hS hge
  clear hb
  refine seq_step rfl (op_val (v := .func (.func 105) #[] #[.pointer (some ⟨g35, 0, none⟩)]) henv rfl (rn_assign henv rfl) ?_)
  clear henv a; intro a henv
  refine wpList_nil ?_
  refine th_n ?_
  refine wp_seq ?_
  refine region_seq ?_
  refine seq_step rfl (op_alloc (c := #[.int .i64 0]) henv hst rfl zero_int rfl ?_)
  clear henv hst a; intro a w38 g37 henv hst
  refine seq_step rfl (op_store1 (k := 0) (c' := #[.int .i64 0]) henv hst (ty_int.size) rfl rfl rfl (by simp) rfl rfl ?_)
  clear henv hst a; intro a w39 henv hst
  refine wpList_nil ?_
  refine th_n ?_
  refine wp_seq ?_
  refine wp_seq ?_
  refine region_seq ?_
  refine seq_step rfl (op_val (v := .func (.func 105) #[] #[.pointer (some ⟨g35, 0, none⟩)]) henv rfl (rn_move henv rfl) ?_)
  clear henv a; intro a henv
  refine wpList_nil ?_
  refine th_n ?_
  refine wp_block ?_
  have hsz := hst.below.size
  refine wp_range1 (α := Fin 10) (enc := fun x => .int .i64 (x.val : Nat)) henv rfl Tryd.call105 rfl (digits_stops (s := textN X) (textN_dgt _) (hst.pat (k := 0) rfl)) (walksK_t) (walksK_b) (fun pre W => St w0 W [bk g37 #[.int .i64 (pre.length : Nat)] 3, bk g25 #[.int .i64 p, .int .i64 q] 58, bk g19 #[.int .i64 p, .int .i64 q] 58, bk g13 #[.string ⟨(textN X).toArray⟩] 9, bk g6 #[.slice A0 n0 c0] 22, bk g3 #[.bool false] 4, bk g1 #[.int .i64 ea] 3] [bk g35 #[.string ⟨(textN X).toArray⟩] 9]) (fun c pre W => ∃ qz : Int, St w0 W [bk g37 #[.int .i64 qz] 3, bk g25 #[.int .i64 p, .int .i64 q] 58, bk g19 #[.int .i64 p, .int .i64 q] 58, bk g13 #[.string ⟨(textN X).toArray⟩] 9, bk g6 #[.slice A0 n0 c0] 22, bk g3 #[.bool false] 4, bk g1 #[.int .i64 ea] 3] [bk g35 #[.string ⟨(textN X).toArray⟩] 9] ∧ c = .exit 0) (fun _ _ _ _ hst hg hr => hst.grown hsz ⟨cf_bk, cf_bk, cf_bk, cf_bk, cf_bk, cf_bk, cf_bk, trivial⟩ ⟨cf_bk, trivial⟩ hg hr) (fun _ _ _ _ _ ⟨qz, hst, hc⟩ hg hr => ⟨qz, hst.grown hsz ⟨cf_bk, cf_bk, cf_bk, cf_bk, cf_bk, cf_bk, cf_bk, trivial⟩ ⟨cf_bk, trivial⟩ hg hr, hc⟩) (hst.pick [0, 1, 2, 3, 4, 5, 6] [0] (by decide)) (fun x => [(5, .pointer (some ⟨g1, 0, none⟩)), (13, .pointer (some ⟨g37, 0, none⟩))]) ?_ (KeepsWalks.refl) ?_ ?_ ?_
  · intro i pre x W K _ hK a henv
    refine wpIn_skip ?_
    exact th_n (hK _ (henv.sub ⟨rfl, rfl, trivial⟩))
  · intro i pre x a W hI henv hlt
    replace hst := (show St _ _ _ _ from hI)
    have hx := x.isLt
    replace hst := hst.addKO ⟨cf_bk, cf_bk, cf_bk, cf_bk, cf_bk, cf_bk, cf_bk, trivial⟩
    refine wpIn_block ?_
    refine wpIn_seq ?_
    refine wpIn_seq ?_
    refine region_in ?_
    refine in_step rfl (fun _ h => nomatch h) (op_val (v := .int .i64 (pre.length : Nat)) henv rfl (rn_load1 henv ty_int rfl (hst.oat (k := 0) rfl) rfl) ?_)
    clear henv a; intro a henv
    refine in_step rfl (fun _ h => nomatch h) (op_val (v := .int .i64 ea) henv rfl (rn_load1 henv ty_int rfl (hst.oat (k := 6) rfl) rfl) ?_)
    clear henv a; intro a henv
    refine in_step rfl (fun _ h => nomatch h) (op_val (v := .bool (((pre.length : Nat) : Int) == ea)) henv rfl (rn_bin henv rfl rfl rfl) ?_)
    clear henv a; intro a henv
    refine in_nil ?_
    refine th_n ?_
    refine if_splitIn henv rfl (fun hc40 => ?_) (fun hc40 => ?_)
    · refine wpIn_exit ?_
      refine th_x (bl_o rfl ?_)
      exact ⟨hst.ko (k := 0) rfl _, ⟨_, hst.pick [0, 1, 2, 3, 4, 5, 6] [1] (by decide), rfl⟩⟩
    · refine wpIn_skip ?_
      refine th_n ?_
      refine region_in ?_
      refine in_step rfl (fun _ h => nomatch h) (op_val (v := .int .i64 (pre.length : Nat)) henv rfl (rn_load1 henv ty_int rfl (hst.oat (k := 0) rfl) rfl) ?_)
      clear henv a; intro a henv
      refine in_step rfl (fun _ h => nomatch h) (op_val (v := .int .i64 (pre.length + 1 : Nat)) henv rfl (rn_add henv rfl rfl (by rw [IntWalk.i64_in _ (by omega)]; omega)) ?_)
      clear henv a; intro a henv
      refine in_step rfl (fun _ h => nomatch h) (op_store1 (k := 0) (c' := #[.int .i64 (pre.length + 1 : Nat)]) henv hst (ty_int.size) rfl rfl rfl (by simp) rfl rfl ?_)
      clear henv hst a; intro a w41 henv hst
      refine in_nil ?_
      refine bl_n ?_
      rw [snoc_len pre x] at hst
      exact ⟨hst.ko (k := 0) rfl _, hst.kw (k := 0) rfl, hst.pick [0, 1, 2, 3, 4, 5, 6] [1] (by decide)⟩
  · intro D42 xs W a hD42 hS hI hK henv
    replace hst := (show St _ _ _ _ from hI)
    replace hst := hst.addD ⟨cf_bk, cf_bk, cf_bk, cf_bk, cf_bk, cf_bk, cf_bk, trivial⟩ hK
    have hDD42 := Nat.le_trans hsz hD42
    refine bl_n (th_n ?_)
    refine wp_seq ?_
    refine region_seq ?_
    refine seq_step rfl (op_store1 (k := 0) (c' := #[.int .i64 0]) henv hst (ty_int.size) rfl rfl rfl (by simp) rfl rfl ?_)
    clear henv hst a; intro a w43 henv hst
    refine wpList_nil ?_
    refine th_n ?_
    refine wp_seq ?_
    refine wp_seq ?_
    refine region_seq ?_
    refine seq_step rfl (op_val (v := .func (.func 105) #[] #[.pointer (some ⟨g35, 0, none⟩)]) henv rfl (rn_move henv rfl) ?_)
    clear henv a; intro a henv
    refine wpList_nil ?_
    refine th_n ?_
    refine wp_block ?_
    have hDk : _ = _ := hst.pat (k := 0) rfl
    have hDlt := lt_of_block hDk
    have hsz := hst.below.size
    refine wp_range1 (α := Fin 10) (enc := fun x => .int .i64 (x.val : Nat)) henv rfl Tryd.call105 rfl (digits_stops (s := textN X) (textN_dgt _) (hst.pat (k := 1) rfl)) (walksK_t) (walksK_b) (fun pre W => St w0 W [bk g37 #[.int .i64 (pre.length : Nat)] 3, bk g25 #[.int .i64 p, .int .i64 q] 58, bk g19 #[.int .i64 p, .int .i64 q] 58, bk g13 #[.string ⟨(textN X).toArray⟩] 9, bk g6 #[.slice A0 n0 c0] 22, bk g3 #[.bool false] 4, bk g1 #[.int .i64 ea] 3] [bk g35 #[.string ⟨(textN X).toArray⟩] 9] ∧ W.heap[D42]? = some (.deferred (some []))) (fun c pre W => ∃ pr x, c = .ret ∧ pre = pr ++ [x] ∧ x.val ≠ ((textN X).getD pr.length 0).toNat - 48) (fun _ _ _ _ ⟨hst, hDk⟩ hg hr => ⟨hst.grown hsz ⟨cf_bk, cf_bk, cf_bk, cf_bk, cf_bk, cf_bk, cf_bk, trivial⟩ ⟨cf_bk, trivial⟩ hg hr, ((hg.block D42 (lt_of_block hDk) (fun e => by have := (hr _ e.symm).1; omega)).trans hDk)⟩) (fun _ _ _ _ _ h _ _ => h) ⟨hst.pick [0, 1, 2, 3, 4, 5, 6] [1] (by decide), hDk⟩ (fun x => [(6, .pointer (some ⟨g3, 0, none⟩)), (7, .pointer (some ⟨g13, 0, none⟩)), (13, .pointer (some ⟨g37, 0, none⟩)), (14, .int .i64 (x.val : Nat))]) ?_ (KeepsWalks.refl) ?_ ?_ ?_
    · intro i pre x W K _ hK a henv
      refine region_in ?_
      refine in_step rfl (fun _ h => nomatch h) (op_val (v := .int .i64 (x.val : Nat)) henv rfl (rn_assign henv rfl) ?_)
      clear henv a; intro a henv
      refine in_nil ?_
      exact th_n (hK _ (henv.sub ⟨rfl, rfl, rfl, rfl, trivial⟩))
    · intro i pre x a W hI henv hlt
      obtain ⟨hst, hDk⟩ := hI
      have hx := x.isLt
      have hd0 := dig_get (textN_dgt X) hlt
      replace hst := hst.addKO ⟨cf_bk, cf_bk, cf_bk, cf_bk, cf_bk, cf_bk, cf_bk, trivial⟩
      refine wpIn_block ?_
      refine wpIn_seq ?_
      refine wpIn_seq ?_
      refine region_in ?_
      refine in_step rfl (fun _ h => nomatch h) (op_val (v := .int .i64 (pre.length : Nat)) henv rfl (rn_load1 henv ty_int rfl (hst.oat (k := 0) rfl) rfl) ?_)
      clear henv a; intro a henv
      refine in_step rfl (fun _ h => nomatch h) (op_val (v := .string ⟨(textN X).toArray⟩) henv rfl (rn_load1 henv ty_string rfl (hst.oat (k := 3) rfl) rfl) ?_)
      clear henv a; intro a henv
      refine in_step rfl (fun _ h => nomatch h) (op_val (v := .int .i64 ((textN X).length : Nat)) henv rfl (rn_lenS henv Tryd.underlying9 rfl) ?_)
      clear henv a; intro a henv
      refine in_step rfl (fun _ h => nomatch h) (op_val (v := .bool (decide (((pre.length : Nat) : Int) ≥ (((textN X).length : Nat) : Int)))) henv rfl (rn_bin henv rfl rfl rfl) ?_)
      clear henv a; intro a henv
      rw [show (decide (((pre.length : Nat) : Int) ≥ (((textN X).length : Nat) : Int))) = false from decide_eq_false (by omega)] at henv
      refine in_step rfl (fun _ h => nomatch h) (op_val (v := .bool false) henv rfl (rn_move henv rfl) ?_)
      clear henv a; intro a henv
      refine in_g rfl henv rfl rfl (fun _ h => nomatch h) (op_val (v := .int .i64 (x.val : Nat)) henv rfl (rn_move henv rfl) ?_)
      clear henv a; intro a henv
      refine in_g rfl henv rfl rfl (fun _ h => nomatch h) (op_val (v := .string ⟨(textN X).toArray⟩) henv rfl (rn_load1 henv ty_string rfl (hst.oat (k := 3) rfl) rfl) ?_)
      clear henv a; intro a henv
      refine in_g rfl henv rfl rfl (fun _ h => nomatch h) (op_val (v := .int .i64 (pre.length : Nat)) henv rfl (rn_load1 henv ty_int rfl (hst.oat (k := 0) rfl) rfl) ?_)
      clear henv a; intro a henv
      refine in_g rfl henv rfl rfl (fun _ h => nomatch h) (op_val (v := .int .u8 (((textN X).getD pre.length 0).toNat : Nat)) henv rfl (rn_idxS (i := pre.length) henv Tryd.underlying9 rfl rfl (by omega)) ?_)
      clear henv a; intro a henv
      refine in_g rfl henv rfl rfl (fun _ h => nomatch h) (op_val (v := .int .u8 ((((textN X).getD pre.length 0).toNat) - 48 : Nat)) henv rfl (rn_sub henv rfl rfl (by rw [IntWalk.u8_in _ (by omega)]; omega)) ?_)
      clear henv a; intro a henv
      refine in_g rfl henv rfl rfl (fun _ h => nomatch h) (op_val (v := .int .i64 ((((textN X).getD pre.length 0).toNat) - 48 : Nat)) henv rfl (rn_conv henv rfl Tryd.underlying5 Tryd.underlying3 (IntWalk.i64_in _ (by omega))) ?_)
      clear henv a; intro a henv
      refine in_g rfl henv rfl rfl (fun _ h => nomatch h) (op_val (v := .bool (((x.val : Nat) : Int) != (((((textN X).getD pre.length 0).toNat) - 48 : Nat) : Int))) henv rfl (rn_bin henv rfl rfl rfl) ?_)
      clear henv a; intro a henv
      refine in_step rfl (fun _ h => nomatch h) (op_val (v := .bool (((x.val : Nat) : Int) != (((((textN X).getD pre.length 0).toNat) - 48 : Nat) : Int))) henv rfl (rn_pick henv rfl rfl) ?_)
      clear henv a; intro a henv
      refine in_nil ?_
      refine th_n ?_
      refine if_splitIn henv rfl (fun hc44 => ?_) (fun hc44 => ?_)
      · have hxd : x.val ≠ ((textN X).getD pre.length 0).toNat - 48 := by intro h0; rw [h0] at hc44; simp at hc44
        refine wpIn_seq ?_
        refine region_in ?_
        refine in_step rfl (fun _ h => nomatch h) (op_store1 (k := 5) (c' := #[.bool false]) henv hst (ty_bool.size) rfl rfl rfl (by simp) rfl rfl ?_)
        clear henv hst a; intro a w45 henv hst
        refine in_nil ?_
        refine th_n ?_
        refine wpIn_ret ?_
        refine th_r (bl_r ?_)
        exact ⟨hst.ko (k := 0) rfl _, pre, x, rfl, rfl, hxd⟩
      · refine wpIn_skip ?_
        refine th_n ?_
        refine region_in ?_
        refine in_step rfl (fun _ h => nomatch h) (op_val (v := .int .i64 (pre.length : Nat)) henv rfl (rn_load1 henv ty_int rfl (hst.oat (k := 0) rfl) rfl) ?_)
        clear henv a; intro a henv
        refine in_step rfl (fun _ h => nomatch h) (op_val (v := .int .i64 (pre.length + 1 : Nat)) henv rfl (rn_add henv rfl rfl (by rw [IntWalk.i64_in _ (by omega)]; omega)) ?_)
        clear henv a; intro a henv
        refine in_step rfl (fun _ h => nomatch h) (op_store1 (k := 0) (c' := #[.int .i64 (pre.length + 1 : Nat)]) henv hst (ty_int.size) rfl rfl rfl (by simp) rfl rfl ?_)
        clear henv hst a; intro a w46 henv hst
        refine in_nil ?_
        refine bl_n ?_
        rw [snoc_len pre x] at hst
        exact ⟨hst.ko (k := 0) rfl _, hst.kw (k := 0) rfl, ⟨hst.pick [0, 1, 2, 3, 4, 5, 6] [1] (by decide), ((show (koF W).P _ from hst.pat (k := 0) rfl).2 D42 _ hDk rfl)⟩⟩
    · intro D47 xs W a hD47 hS hI hK henv
      obtain ⟨hst, hDk⟩ := hI
      subst hS
      rw [dgs_len] at hst
      replace hst := hst.addD ⟨cf_bk, cf_bk, cf_bk, cf_bk, cf_bk, cf_bk, cf_bk, trivial⟩ hDk
      replace hst := hst.addD ⟨cf_bk, cf_bk, cf_bk, cf_bk, cf_bk, cf_bk, cf_bk, trivial⟩ hK
      have hDD47 := Nat.le_trans hsz hD47
      refine bl_n (th_n ?_)
      refine wp_seq ?_
      refine region_seq ?_
      refine seq_step rfl (op_val (v := .int .i64 ((textN X).length : Nat)) henv rfl (rn_load1 henv ty_int rfl (hst.oat (k := 0) rfl) rfl) ?_)
      clear henv a; intro a henv
      refine seq_step rfl (op_val (v := .string ⟨(textN X).toArray⟩) henv rfl (rn_load1 henv ty_string rfl (hst.oat (k := 3) rfl) rfl) ?_)
      clear henv a; intro a henv
      refine seq_step rfl (op_val (v := .int .i64 ((textN X).length : Nat)) henv rfl (rn_lenS henv Tryd.underlying9 rfl) ?_)
      clear henv a; intro a henv
      refine seq_step rfl (op_val (v := .bool ((((textN X).length : Nat) : Int) == (((textN X).length : Nat) : Int))) henv rfl (rn_bin henv rfl rfl rfl) ?_)
      clear henv a; intro a henv
      rw [show ((((textN X).length : Nat) : Int) == (((textN X).length : Nat) : Int)) = true from (by simp)] at henv
      refine seq_step rfl (op_store1 (k := 5) (c' := #[.bool true]) henv hst (ty_bool.size) rfl rfl rfl (by simp) rfl rfl ?_)
      clear henv hst a; intro a w48 henv hst
      refine wpList_nil ?_
      refine th_n ?_
      refine wp_ret ?_
      have hdD47 : _ = _ := hst.pat (k := 0) rfl
      have hdD42 : _ = _ := hst.pat (k := 1) rfl
      replace hst : St w0 _ [bk g37 #[.int .i64 ((textN X).length : Nat)] 3, bk g25 #[.int .i64 p, .int .i64 q] 58, bk g19 #[.int .i64 p, .int .i64 q] 58, bk g13 #[.string ⟨(textN X).toArray⟩] 9, bk g6 #[.slice A0 n0 c0] 22, bk g3 #[.bool true] 4, bk g1 #[.int .i64 ea] 3] [bk g35 #[.string ⟨(textN X).toArray⟩] 9] := hst.pick [0, 1, 2, 3, 4, 5, 6] [2] (by decide)
      have hneD42 : D42 ≠ D47 := by omega
      replace hst := hst.putD0 hdD47 hDD47 ⟨cf_bk, cf_bk, cf_bk, cf_bk, cf_bk, cf_bk, cf_bk, trivial⟩ ⟨cf_bk, trivial⟩
      replace hdD42 := putD_other (o' := .deferred none) hdD42 hneD42
      replace hst := hst.putD0 hdD42 hDD42 ⟨cf_bk, cf_bk, cf_bk, cf_bk, cf_bk, cf_bk, cf_bk, trivial⟩ ⟨cf_bk, trivial⟩
      refine leaveM2 henv hdD47 hdD42 (res1 Tryd.results14 (RV.cell1 henv ty_bool rfl (hst.oat (k := 5) rfl) rfl)) ?_
      exact ⟨rfl, hst.below⟩
    · intro D49 c pre W a hD49 hS hI hK henv
      obtain ⟨pr, x, _, hpx, hxd⟩ := hI; obtain ⟨p1, hp1, hp2⟩ := hS; exact absurd (dgs_clash (textN_dgt X) hp1 (hpx.symm.trans hp2)) hxd
  · intro D50 c pre W a hD50 hS hI hK henv
    obtain ⟨qz, hst, rfl⟩ := hI
    replace hst := hst.addD ⟨cf_bk, cf_bk, cf_bk, cf_bk, cf_bk, cf_bk, cf_bk, trivial⟩ hK
    have hDD50 := Nat.le_trans hsz hD50
    refine wp_exit ?_
    refine bl_x (th_n ?_)
    refine wp_seq ?_
    refine region_seq ?_
    refine seq_step rfl (op_store1 (k := 0) (c' := #[.int .i64 0]) henv hst (ty_int.size) rfl rfl rfl (by simp) rfl rfl ?_)
    clear henv hst a; intro a w51 henv hst
    refine wpList_nil ?_
    refine th_n ?_
    refine wp_seq ?_
    refine wp_seq ?_
    refine region_seq ?_
    refine seq_step rfl (op_val (v := .func (.func 105) #[] #[.pointer (some ⟨g35, 0, none⟩)]) henv rfl (rn_move henv rfl) ?_)
    clear henv a; intro a henv
    refine wpList_nil ?_
    refine th_n ?_
    refine wp_block ?_
    have hDk : _ = _ := hst.pat (k := 0) rfl
    have hDlt := lt_of_block hDk
    have hsz := hst.below.size
    refine wp_range1 (α := Fin 10) (enc := fun x => .int .i64 (x.val : Nat)) henv rfl Tryd.call105 rfl (digits_stops (s := textN X) (textN_dgt _) (hst.pat (k := 1) rfl)) (walksK_t) (walksK_b) (fun pre W => St w0 W [bk g37 #[.int .i64 (pre.length : Nat)] 3, bk g25 #[.int .i64 p, .int .i64 q] 58, bk g19 #[.int .i64 p, .int .i64 q] 58, bk g13 #[.string ⟨(textN X).toArray⟩] 9, bk g6 #[.slice A0 n0 c0] 22, bk g3 #[.bool false] 4, bk g1 #[.int .i64 ea] 3] [bk g35 #[.string ⟨(textN X).toArray⟩] 9] ∧ W.heap[D50]? = some (.deferred (some []))) (fun c pre W => ∃ pr x, c = .ret ∧ pre = pr ++ [x] ∧ x.val ≠ ((textN X).getD pr.length 0).toNat - 48) (fun _ _ _ _ ⟨hst, hDk⟩ hg hr => ⟨hst.grown hsz ⟨cf_bk, cf_bk, cf_bk, cf_bk, cf_bk, cf_bk, cf_bk, trivial⟩ ⟨cf_bk, trivial⟩ hg hr, ((hg.block D50 (lt_of_block hDk) (fun e => by have := (hr _ e.symm).1; omega)).trans hDk)⟩) (fun _ _ _ _ _ h _ _ => h) ⟨hst.pick [0, 1, 2, 3, 4, 5, 6] [1] (by decide), hDk⟩ (fun x => [(6, .pointer (some ⟨g3, 0, none⟩)), (7, .pointer (some ⟨g13, 0, none⟩)), (13, .pointer (some ⟨g37, 0, none⟩)), (14, .int .i64 (x.val : Nat))]) ?_ (KeepsWalks.refl) ?_ ?_ ?_
    · intro i pre x W K _ hK a henv
      refine region_in ?_
      refine in_step rfl (fun _ h => nomatch h) (op_val (v := .int .i64 (x.val : Nat)) henv rfl (rn_assign henv rfl) ?_)
      clear henv a; intro a henv
      refine in_nil ?_
      exact th_n (hK _ (henv.sub ⟨rfl, rfl, rfl, rfl, trivial⟩))
    · intro i pre x a W hI henv hlt
      obtain ⟨hst, hDk⟩ := hI
      have hx := x.isLt
      have hd0 := dig_get (textN_dgt X) hlt
      replace hst := hst.addKO ⟨cf_bk, cf_bk, cf_bk, cf_bk, cf_bk, cf_bk, cf_bk, trivial⟩
      refine wpIn_block ?_
      refine wpIn_seq ?_
      refine wpIn_seq ?_
      refine region_in ?_
      refine in_step rfl (fun _ h => nomatch h) (op_val (v := .int .i64 (pre.length : Nat)) henv rfl (rn_load1 henv ty_int rfl (hst.oat (k := 0) rfl) rfl) ?_)
      clear henv a; intro a henv
      refine in_step rfl (fun _ h => nomatch h) (op_val (v := .string ⟨(textN X).toArray⟩) henv rfl (rn_load1 henv ty_string rfl (hst.oat (k := 3) rfl) rfl) ?_)
      clear henv a; intro a henv
      refine in_step rfl (fun _ h => nomatch h) (op_val (v := .int .i64 ((textN X).length : Nat)) henv rfl (rn_lenS henv Tryd.underlying9 rfl) ?_)
      clear henv a; intro a henv
      refine in_step rfl (fun _ h => nomatch h) (op_val (v := .bool (decide (((pre.length : Nat) : Int) ≥ (((textN X).length : Nat) : Int)))) henv rfl (rn_bin henv rfl rfl rfl) ?_)
      clear henv a; intro a henv
      rw [show (decide (((pre.length : Nat) : Int) ≥ (((textN X).length : Nat) : Int))) = false from decide_eq_false (by omega)] at henv
      refine in_step rfl (fun _ h => nomatch h) (op_val (v := .bool false) henv rfl (rn_move henv rfl) ?_)
      clear henv a; intro a henv
      refine in_g rfl henv rfl rfl (fun _ h => nomatch h) (op_val (v := .int .i64 (x.val : Nat)) henv rfl (rn_move henv rfl) ?_)
      clear henv a; intro a henv
      refine in_g rfl henv rfl rfl (fun _ h => nomatch h) (op_val (v := .string ⟨(textN X).toArray⟩) henv rfl (rn_load1 henv ty_string rfl (hst.oat (k := 3) rfl) rfl) ?_)
      clear henv a; intro a henv
      refine in_g rfl henv rfl rfl (fun _ h => nomatch h) (op_val (v := .int .i64 (pre.length : Nat)) henv rfl (rn_load1 henv ty_int rfl (hst.oat (k := 0) rfl) rfl) ?_)
      clear henv a; intro a henv
      refine in_g rfl henv rfl rfl (fun _ h => nomatch h) (op_val (v := .int .u8 (((textN X).getD pre.length 0).toNat : Nat)) henv rfl (rn_idxS (i := pre.length) henv Tryd.underlying9 rfl rfl (by omega)) ?_)
      clear henv a; intro a henv
      refine in_g rfl henv rfl rfl (fun _ h => nomatch h) (op_val (v := .int .u8 ((((textN X).getD pre.length 0).toNat) - 48 : Nat)) henv rfl (rn_sub henv rfl rfl (by rw [IntWalk.u8_in _ (by omega)]; omega)) ?_)
      clear henv a; intro a henv
      refine in_g rfl henv rfl rfl (fun _ h => nomatch h) (op_val (v := .int .i64 ((((textN X).getD pre.length 0).toNat) - 48 : Nat)) henv rfl (rn_conv henv rfl Tryd.underlying5 Tryd.underlying3 (IntWalk.i64_in _ (by omega))) ?_)
      clear henv a; intro a henv
      refine in_g rfl henv rfl rfl (fun _ h => nomatch h) (op_val (v := .bool (((x.val : Nat) : Int) != (((((textN X).getD pre.length 0).toNat) - 48 : Nat) : Int))) henv rfl (rn_bin henv rfl rfl rfl) ?_)
      clear henv a; intro a henv
      refine in_step rfl (fun _ h => nomatch h) (op_val (v := .bool (((x.val : Nat) : Int) != (((((textN X).getD pre.length 0).toNat) - 48 : Nat) : Int))) henv rfl (rn_pick henv rfl rfl) ?_)
      clear henv a; intro a henv
      refine in_nil ?_
      refine th_n ?_
      refine if_splitIn henv rfl (fun hc52 => ?_) (fun hc52 => ?_)
      · have hxd : x.val ≠ ((textN X).getD pre.length 0).toNat - 48 := by intro h0; rw [h0] at hc52; simp at hc52
        refine wpIn_seq ?_
        refine region_in ?_
        refine in_step rfl (fun _ h => nomatch h) (op_store1 (k := 5) (c' := #[.bool false]) henv hst (ty_bool.size) rfl rfl rfl (by simp) rfl rfl ?_)
        clear henv hst a; intro a w53 henv hst
        refine in_nil ?_
        refine th_n ?_
        refine wpIn_ret ?_
        refine th_r (bl_r ?_)
        exact ⟨hst.ko (k := 0) rfl _, pre, x, rfl, rfl, hxd⟩
      · refine wpIn_skip ?_
        refine th_n ?_
        refine region_in ?_
        refine in_step rfl (fun _ h => nomatch h) (op_val (v := .int .i64 (pre.length : Nat)) henv rfl (rn_load1 henv ty_int rfl (hst.oat (k := 0) rfl) rfl) ?_)
        clear henv a; intro a henv
        refine in_step rfl (fun _ h => nomatch h) (op_val (v := .int .i64 (pre.length + 1 : Nat)) henv rfl (rn_add henv rfl rfl (by rw [IntWalk.i64_in _ (by omega)]; omega)) ?_)
        clear henv a; intro a henv
        refine in_step rfl (fun _ h => nomatch h) (op_store1 (k := 0) (c' := #[.int .i64 (pre.length + 1 : Nat)]) henv hst (ty_int.size) rfl rfl rfl (by simp) rfl rfl ?_)
        clear henv hst a; intro a w54 henv hst
        refine in_nil ?_
        refine bl_n ?_
        rw [snoc_len pre x] at hst
        exact ⟨hst.ko (k := 0) rfl _, hst.kw (k := 0) rfl, ⟨hst.pick [0, 1, 2, 3, 4, 5, 6] [1] (by decide), ((show (koF W).P _ from hst.pat (k := 0) rfl).2 D50 _ hDk rfl)⟩⟩
    · intro D55 xs W a hD55 hS hI hK henv
      obtain ⟨hst, hDk⟩ := hI
      subst hS
      rw [dgs_len] at hst
      replace hst := hst.addD ⟨cf_bk, cf_bk, cf_bk, cf_bk, cf_bk, cf_bk, cf_bk, trivial⟩ hDk
      replace hst := hst.addD ⟨cf_bk, cf_bk, cf_bk, cf_bk, cf_bk, cf_bk, cf_bk, trivial⟩ hK
      have hDD55 := Nat.le_trans hsz hD55
      refine bl_n (th_n ?_)
      refine wp_seq ?_
      refine region_seq ?_
      refine seq_step rfl (op_val (v := .int .i64 ((textN X).length : Nat)) henv rfl (rn_load1 henv ty_int rfl (hst.oat (k := 0) rfl) rfl) ?_)
      clear henv a; intro a henv
      refine seq_step rfl (op_val (v := .string ⟨(textN X).toArray⟩) henv rfl (rn_load1 henv ty_string rfl (hst.oat (k := 3) rfl) rfl) ?_)
      clear henv a; intro a henv
      refine seq_step rfl (op_val (v := .int .i64 ((textN X).length : Nat)) henv rfl (rn_lenS henv Tryd.underlying9 rfl) ?_)
      clear henv a; intro a henv
      refine seq_step rfl (op_val (v := .bool ((((textN X).length : Nat) : Int) == (((textN X).length : Nat) : Int))) henv rfl (rn_bin henv rfl rfl rfl) ?_)
      clear henv a; intro a henv
      rw [show ((((textN X).length : Nat) : Int) == (((textN X).length : Nat) : Int)) = true from (by simp)] at henv
      refine seq_step rfl (op_store1 (k := 5) (c' := #[.bool true]) henv hst (ty_bool.size) rfl rfl rfl (by simp) rfl rfl ?_)
      clear henv hst a; intro a w56 henv hst
      refine wpList_nil ?_
      refine th_n ?_
      refine wp_ret ?_
      have hdD55 : _ = _ := hst.pat (k := 0) rfl
      have hdD50 : _ = _ := hst.pat (k := 1) rfl
      replace hst : St w0 _ [bk g37 #[.int .i64 ((textN X).length : Nat)] 3, bk g25 #[.int .i64 p, .int .i64 q] 58, bk g19 #[.int .i64 p, .int .i64 q] 58, bk g13 #[.string ⟨(textN X).toArray⟩] 9, bk g6 #[.slice A0 n0 c0] 22, bk g3 #[.bool true] 4, bk g1 #[.int .i64 ea] 3] [bk g35 #[.string ⟨(textN X).toArray⟩] 9] := hst.pick [0, 1, 2, 3, 4, 5, 6] [2] (by decide)
      have hneD50 : D50 ≠ D55 := by omega
      replace hst := hst.putD0 hdD55 hDD55 ⟨cf_bk, cf_bk, cf_bk, cf_bk, cf_bk, cf_bk, cf_bk, trivial⟩ ⟨cf_bk, trivial⟩
      replace hdD50 := putD_other (o' := .deferred none) hdD50 hneD50
      replace hst := hst.putD0 hdD50 hDD50 ⟨cf_bk, cf_bk, cf_bk, cf_bk, cf_bk, cf_bk, cf_bk, trivial⟩ ⟨cf_bk, trivial⟩
      refine leaveM2 henv hdD55 hdD50 (res1 Tryd.results14 (RV.cell1 henv ty_bool rfl (hst.oat (k := 5) rfl) rfl)) ?_
      exact ⟨rfl, hst.below⟩
    · intro D57 c pre W a hD57 hS hI hK henv
      obtain ⟨pr, x, _, hpx, hxd⟩ := hI; obtain ⟨p1, hp1, hp2⟩ := hS; exact absurd (dgs_clash (textN_dgt X) hp1 (hpx.symm.trans hp2)) hxd

set_option maxRecDepth 100000 in
set_option maxHeartbeats 4000000 in
theorem texts_vlong {A0 : Option Addr} {n0 c0 : Nat} {xs0 : List Nat} {t : List UInt8} {ea : Int} {w0 : World} (u0 : U32 w0 A0 n0 c0 xs0) (hn0 : n0 ≤ 160) (_hmx : t.length ≤ maxLen) (ht : 65536 < t.length) :
    Calls Tryd.prog 14 #[.slice A0 n0 c0, .string ⟨t.toArray⟩, .int .i64 ea] w0 fun e w' => e = .returned (.bool true) ∧ Below w0.heap.size w0 w' := by
  obtain ⟨X, hX0⟩ : ∃ z, val 4294967296 xs0 = z := ⟨_, rfl⟩
  have hl0 : nl X ≤ n0 := hX0 ▸ nl_val u0
  have hxl0 := u0.len
  have htx := textN_bd X
  obtain ⟨R, p, q, hR, hrd⟩ := rd_both (t := t) (by omega) _hmx
  refine enterM Tryd.func14 rfl Tryd.ntmps14 rfl ?_
  intro a henv hst
  replace hst := (hst.addU u0 trivial)
  clear u0
  refine wp_seq ?_
  refine region_seq ?_
  refine seq_step rfl (op_box (c := #[.int .i64 ea]) henv hst rfl rfl rfl ?_)
  clear henv hst a; intro a w2 g1 henv hst
  refine seq_step rfl (op_alloc (c := #[.bool false]) henv hst rfl zero_bool rfl ?_)
  clear henv hst a; intro a w4 g3 henv hst
  refine wpList_nil ?_
  refine th_n ?_
  refine wp_seq ?_
  refine wp_seq ?_
  refine region_seq ?_
  refine seq_step rfl (op_call henv rfl Tryd.call32 rfl (works_true _) ?_)
  rintro e w5 ⟨rfl, hb⟩
  refine ⟨_, rfl, ?_⟩
  clear henv a; intro a henv
  replace hst := hst.call hb
  clear hb
  refine seq_step rfl (op_val (v := .bool false) henv rfl (rn_un henv rfl rfl) ?_)
  clear henv a; intro a henv
  refine wpList_nil ?_
  refine th_n ?_
  refine if_f henv rfl (rfl) ?_
  refine wp_skip ?_
  refine th_n ?_
  refine wp_seq ?_
  refine wp_seq ?_
  refine region_seq ?_
  refine seq_step rfl (op_val (v := .slice A0 n0 c0) henv rfl (rn_move henv rfl) ?_)
  clear henv a; intro a henv
  refine seq_step rfl (op_buildSlice (z := 1) (pv := #[(0, .slice A0 n0 c0)]) (c := #[.slice A0 n0 c0]) henv hst rfl Tryd.underlying107 (ty__uint32.size) zero__uint32 (by decide) (by decide) rfl (by kernel_rfl) ?_)
  clear henv hst a; intro a w7 g6 henv hst
  refine seq_step rfl (op_call henv rfl Tryd.call50 rfl (long_sh (q := 1) (ls := [(A0, n0, c0)]) (hst.oat (k := 0) rfl) rfl (by decide) (by intro p hp; simp at hp; rcases hp with rfl <;> assumption)) ?_)
  rintro e w8 ⟨rfl, hb⟩
  refine ⟨_, rfl, ?_⟩
  clear henv a; intro a henv
  replace hst := hst.call hb
  clear hb
  refine seq_step rfl (op_val (v := .bool false) henv rfl (rn_move henv rfl) ?_)
  clear henv a; intro a henv
  refine seq_g rfl henv rfl rfl (op_val (v := .string ⟨t.toArray⟩) henv rfl (rn_move henv rfl) ?_)
  clear henv a; intro a henv
  refine seq_g rfl henv rfl rfl (op_val (v := .int .i64 (t.length : Nat)) henv rfl (rn_lenS henv Tryd.underlying9 rfl) ?_)
  clear henv a; intro a henv
  refine seq_g rfl henv rfl rfl (op_val (v := .bool (decide (((t.length : Nat) : Int) > (1500 : Int)))) henv rfl (rn_bin henv rfl rfl rfl) ?_)
  clear henv a; intro a henv
  rw [show (decide (((t.length : Nat) : Int) > (1500 : Int))) = true from decide_eq_true (by omega)] at henv
  refine seq_g rfl henv rfl rfl (op_val (v := .bool true) henv rfl (rn_move henv rfl) ?_)
  clear henv a; intro a henv
  refine seq_g rfl henv rfl rfl (op_val (v := .string ⟨t.toArray⟩) henv rfl (rn_move henv rfl) ?_)
  clear henv a; intro a henv
  refine seq_g rfl henv rfl rfl (op_val (v := .int .i64 (t.length : Nat)) henv rfl (rn_lenS henv Tryd.underlying9 rfl) ?_)
  clear henv a; intro a henv
  refine seq_g rfl henv rfl rfl (op_val (v := .bool (decide (((t.length : Nat) : Int) ≤ (65536 : Int)))) henv rfl (rn_bin henv rfl rfl rfl) ?_)
  clear henv a; intro a henv
  rw [show (decide (((t.length : Nat) : Int) ≤ (65536 : Int))) = false from decide_eq_false (by omega)] at henv
  refine seq_g rfl henv rfl rfl (op_val (v := .bool false) henv rfl (rn_pick henv rfl rfl) ?_)
  clear henv a; intro a henv
  refine seq_step rfl (op_val (v := .bool false) henv rfl (rn_pick henv rfl rfl) ?_)
  clear henv a; intro a henv
  refine wpList_nil ?_
  refine th_n ?_
  refine if_f henv rfl (rfl) ?_
  refine wp_skip ?_
  refine th_n ?_
  refine wp_seq ?_
  refine region_seq ?_
  refine seq_step rfl (op_val (v := .slice A0 n0 c0) henv rfl (rn_move henv rfl) ?_)
  clear henv a; intro a henv
  refine seq_step rfl (op_call henv rfl Tryd.call46 rfl (room_any (show U32 _ A0 n0 c0 xs0 from hst.pat (k := 0) rfl) (by omega)) ?_)
  rintro e w11 ⟨A9, c10, rfl, hU, hA, hb⟩
  refine ⟨_, rfl, ?_⟩
  clear henv a; intro a henv
  replace hst := hst.freshU2 hb hU hA (U32.pre hU hxl0) hA
  clear hU
  clear hA
  clear hb
  refine seq_step rfl (op_call henv rfl Tryd.call66 rfl (text_num (N := X) ⟨_, (show U32 _ A9 n0 c10 xs0 from hst.pat (k := 0) rfl), hX0⟩ (by omega)) ?_)
  rintro e w12 ⟨rfl, hb⟩
  refine ⟨_, rfl, ?_⟩
  clear henv a; intro a henv
  replace hst := hst.call hb
  clear hb
  refine seq_step rfl (op_alloc (c := #[.string ⟨#[]⟩]) henv hst rfl zero_string rfl ?_)
  clear henv hst a; intro a w14 g13 henv hst
  refine seq_step rfl (op_store1 (k := 0) (c' := #[.string ⟨(textN X).toArray⟩]) henv hst (ty_string.size) rfl rfl rfl (by simp) rfl rfl ?_)
  clear henv hst a; intro a w15 henv hst
  refine wpList_nil ?_
  refine th_n ?_
  refine wp_seq ?_
  refine region_seq ?_
  refine seq_step rfl (op_val (v := .string ⟨t.toArray⟩) henv rfl (rn_move henv rfl) ?_)
  clear henv a; intro a henv
  refine seq_step rfl (op_call henv rfl Tryd.call65 rfl (hrd _).1 ?_)
  rintro e w18 ⟨_, rfl, ⟨A16, c17, rfl, hU, hA⟩, hb⟩
  refine ⟨_, rfl, ?_⟩
  clear henv a; intro a henv
  replace hst := hst.freshU hb hU hA
  clear hU
  clear hA
  clear hb
  refine seq_step rfl (op_val (v := .tuple #[.slice A16 (nl R) c17, .agg #[.int .i64 p, .int .i64 q]]) henv rfl (rn_move henv rfl) ?_)
  clear henv a; intro a henv
  refine seq_step rfl (op_val (v := .slice A16 (nl R) c17) henv rfl (rn_extract henv rfl rfl) ?_)
  clear henv a; intro a henv
  refine seq_step rfl (op_val (v := .agg #[.int .i64 p, .int .i64 q]) henv rfl (rn_extract henv rfl rfl) ?_)
  clear henv a; intro a henv
  refine seq_step rfl (op_alloc (c := #[.int .i64 0, .int .i64 0]) henv hst rfl zero_anvil_api_Spot rfl ?_)
  clear henv hst a; intro a w20 g19 henv hst
  refine seq_step rfl (op_val (v := .slice A16 (nl R) c17) henv rfl (rn_assign henv rfl) ?_)
  clear henv a; intro a henv
  refine seq_step rfl (op_store (k := 0) (c' := #[.int .i64 p, .int .i64 q]) henv hst (ty_anvil_api_Spot.size) rfl rfl rfl rfl (by simp) rfl rfl ?_)
  clear henv hst a; intro a w21 henv hst
  refine wpList_nil ?_
  refine th_n ?_
  refine wp_seq ?_
  refine region_seq ?_
  refine seq_step rfl (op_val (v := .string ⟨t.toArray⟩) henv rfl (rn_move henv rfl) ?_)
  clear henv a; intro a henv
  refine seq_step rfl (op_call henv rfl Tryd.call67 rfl (hrd _).2 ?_)
  rintro e w24 ⟨_, rfl, ⟨A22, c23, rfl, hU, hA⟩, hb⟩
  refine ⟨_, rfl, ?_⟩
  clear henv a; intro a henv
  replace hst := hst.freshU hb hU hA
  clear hU
  clear hA
  clear hb
  refine seq_step rfl (op_val (v := .tuple #[.slice A22 (nl R) c23, .agg #[.int .i64 p, .int .i64 q]]) henv rfl (rn_move henv rfl) ?_)
  clear henv a; intro a henv
  refine seq_step rfl (op_val (v := .slice A22 (nl R) c23) henv rfl (rn_extract henv rfl rfl) ?_)
  clear henv a; intro a henv
  refine seq_step rfl (op_val (v := .agg #[.int .i64 p, .int .i64 q]) henv rfl (rn_extract henv rfl rfl) ?_)
  clear henv a; intro a henv
  refine seq_step rfl (op_alloc (c := #[.int .i64 0, .int .i64 0]) henv hst rfl zero_anvil_api_Spot rfl ?_)
  clear henv hst a; intro a w26 g25 henv hst
  refine seq_step rfl (op_val (v := .slice A22 (nl R) c23) henv rfl (rn_assign henv rfl) ?_)
  clear henv a; intro a henv
  refine seq_step rfl (op_store (k := 0) (c' := #[.int .i64 p, .int .i64 q]) henv hst (ty_anvil_api_Spot.size) rfl rfl rfl rfl (by simp) rfl rfl ?_)
  clear henv hst a; intro a w27 henv hst
  refine wpList_nil ?_
  refine th_n ?_
  refine wp_seq ?_
  refine wp_seq ?_
  refine cutF (fun a w => Env 89 a [(0, .slice A0 n0 c0), (1, .string ⟨t.toArray⟩), (2, .int .i64 ea), (5, .pointer (some ⟨g1, 0, none⟩)), (6, .pointer (some ⟨g3, 0, none⟩)), (15, .bool true), (16, .bool false), (17, .slice A0 n0 c0), (18, .slice (some ⟨g6, 0, none⟩) 1 1), (19, .bool false), (20, .bool false), (21, .string ⟨t.toArray⟩), (22, .int .i64 (t.length : Nat)), (23, .bool true), (24, .bool true), (25, .string ⟨t.toArray⟩), (26, .int .i64 (t.length : Nat)), (27, .bool false), (28, .bool false), (29, .bool false), (30, .slice A0 n0 c0), (31, .slice A9 n0 c10), (32, .string ⟨(textN X).toArray⟩), (7, .pointer (some ⟨g13, 0, none⟩)), (34, .string ⟨t.toArray⟩), (35, .tuple #[.slice A16 (nl R) c17, .agg #[.int .i64 p, .int .i64 q]]), (33, .tuple #[.slice A16 (nl R) c17, .agg #[.int .i64 p, .int .i64 q]]), (36, .slice A16 (nl R) c17), (37, .agg #[.int .i64 p, .int .i64 q]), (9, .pointer (some ⟨g19, 0, none⟩)), (39, .string ⟨t.toArray⟩), (40, .tuple #[.slice A22 (nl R) c23, .agg #[.int .i64 p, .int .i64 q]]), (38, .tuple #[.slice A22 (nl R) c23, .agg #[.int .i64 p, .int .i64 q]]), (41, .slice A22 (nl R) c23), (42, .agg #[.int .i64 p, .int .i64 q]), (11, .pointer (some ⟨g25, 0, none⟩)), (57, .bool false)] ∧ St w0 w [bk g25 #[.int .i64 p, .int .i64 q] 58, bk g19 #[.int .i64 p, .int .i64 q] 58, bk g13 #[.string ⟨(textN X).toArray⟩] 9, bk g6 #[.slice A0 n0 c0] 22, bk g3 #[.bool false] 4, bk g1 #[.int .i64 ea] 3] [pfU A22 (nl R) c23 (L R), pfU A16 (nl R) c17 (L R), pfU A9 n0 c10 xs0, pfU A9 (n0 + 2) c10 (xs0 ++ [77, 78]), pfU A0 n0 c0 xs0]) ?_ ?_
  · refine region_any (n := 15) (Sk [bk g25 #[.int .i64 p, .int .i64 q] 58, bk g19 #[.int .i64 p, .int .i64 q] 58, bk g13 #[.string ⟨(textN X).toArray⟩] 9, bk g6 #[.slice A0 n0 c0] 22, bk g3 #[.bool false] 4, bk g1 #[.int .i64 ea] 3] [pfU A22 (nl R) c23 (L R), pfU A16 (nl R) c17 (L R), pfU A9 n0 c10 xs0, pfU A9 (n0 + 2) c10 (xs0 ++ [77, 78]), pfU A0 n0 c0 xs0] [] []) mixed rfl henv hst ?_
    clear henv hst; intro w28 henv hst
    refine sAny_take (i := 0) [3, 4, 5, 6, 7, 8, 9, 10, 11, 12, 13, 14] (fun w' => w'.heap[g13]? = some (.cells #[.string ⟨(textN X).toArray⟩] 9 (0, 0))) (v := .string ⟨(textN X).toArray⟩) rfl (by kernel_rfl) (fun _ _ _ h => h) (fun _ _ _ hS => hS.1.oat (k := 2) rfl) henv rfl (hst.oat (k := 2) rfl) (fun w' hg => rn_load1 henv ty_string rfl hg rfl) ?_
    clear henv a; intro a henv
    refine sAny_take (i := 1) [2, 3, 4, 5, 6, 7, 8, 9, 10, 11, 12, 13, 14] (fun _ => True) (v := .slice A0 n0 c0) rfl (by kernel_rfl) (fun _ _ _ h => h) (fun _ _ _ _ => trivial) henv rfl trivial (fun w' _ => rn_move henv rfl) ?_
    clear henv a; intro a henv
    refine sAny_one (i := 2) (by kernel_rfl) rfl rfl (op_call henv rfl Tryd.call68 rfl (t1_text (N := X) (show U32 _ A0 n0 c0 xs0 from hst.pat (k := 4) rfl) hX0 (by omega)) ?_)
    rintro e w29 ⟨rfl, hb⟩
    refine ⟨_, rfl, ?_⟩
    clear henv a; intro a henv
    replace hst := hst.call hb
    clear hb
    refine ⟨.inr ⟨hst.kn.pick [0, 1, 2, 3, 4, 5] [0, 1, 2, 3, 4], .inr (hst.kn.pick [] [])⟩, ?_⟩
    refine sAny_take (i := 3) [4, 5, 6, 7, 8, 9, 10, 11, 12, 13, 14] (fun _ => True) (v := .bool (!decide ((textN X) = (textN X)))) rfl (by kernel_rfl) (fun _ _ _ h => h) (fun _ _ _ _ => trivial) henv rfl trivial (fun w' _ => rn_neqs (s := (textN X)) (t := (textN X)) henv rfl rfl) ?_
    clear henv a; intro a henv
    rw [show (!decide ((textN X) = (textN X))) = false from (by simp)] at henv
    refine sAny_take (i := 4) [5, 6, 7, 8, 9, 10, 11, 12, 13, 14] (fun _ => True) (v := .bool false) rfl (by kernel_rfl) (fun _ _ _ h => h) (fun _ _ _ _ => trivial) henv rfl trivial (fun w' _ => rn_move henv rfl) ?_
    clear henv a; intro a henv
    refine sAny_takeg (i := 5) [7, 8, 9, 10, 11, 12, 13, 14] (fun _ => True) (v := .slice A16 (nl R) c17) rfl (by kernel_rfl) (fun _ _ _ h => h) (fun _ _ _ _ => trivial) henv rfl rfl rfl rfl trivial (fun w' _ => rn_move henv rfl) ?_
    clear henv a; intro a henv
    refine sAny_takeg (i := 6) [7, 8, 9, 10, 11, 12, 13, 14] (fun _ => True) (v := .slice A22 (nl R) c23) rfl (by kernel_rfl) (fun _ _ _ h => h) (fun _ _ _ _ => trivial) henv rfl rfl rfl rfl trivial (fun w' _ => rn_move henv rfl) ?_
    clear henv a; intro a henv
    refine sAny_oneg (i := 7) (by kernel_rfl) rfl rfl henv rfl rfl rfl (op_call henv rfl Tryd.call36 rfl (equal_u (show U32 _ A16 (nl R) c17 (L R) from hst.pat (k := 1) rfl) (show U32 _ A22 (nl R) c23 (L R) from hst.pat (k := 0) rfl)) ?_)
    rintro e w30 ⟨rfl, hb⟩
    refine ⟨_, rfl, ?_⟩
    clear henv a; intro a henv
    replace hst := hst.call hb
    clear hb
    refine ⟨.inr ⟨hst.kn.pick [0, 1, 2, 3, 4, 5] [0, 1, 2, 3, 4], .inr (hst.kn.pick [] [])⟩, ?_⟩
    rw [show (decide ((L R) = (L R))) = true from by rw [L_dec]; exact decide_eq_true (by first | rfl | omega | exact Nat.add_comm _ _ | exact Nat.mul_comm _ _ | exact Nat.add_assoc _ _ _ | exact (Nat.add_assoc _ _ _).symm | exact Nat.mul_assoc _ _ _ | exact (Nat.mul_assoc _ _ _).symm | exact Nat.mul_add _ _ _)] at henv
    refine sAny_takeg (i := 8) [9, 10, 11, 12, 13, 14] (fun _ => True) (v := .bool false) rfl (by kernel_rfl) (fun _ _ _ h => h) (fun _ _ _ _ => trivial) henv rfl rfl rfl rfl trivial (fun w' _ => rn_un henv rfl rfl) ?_
    clear henv a; intro a henv
    refine sAny_take (i := 9) [10, 11, 12, 13, 14] (fun _ => True) (v := .bool false) rfl (by kernel_rfl) (fun _ _ _ h => h) (fun _ _ _ _ => trivial) henv rfl trivial (fun w' _ => rn_pick henv rfl rfl) ?_
    clear henv a; intro a henv
    refine sAny_take (i := 10) [11, 12, 13, 14] (fun _ => True) (v := .bool false) rfl (by kernel_rfl) (fun _ _ _ h => h) (fun _ _ _ _ => trivial) henv rfl trivial (fun w' _ => rn_move henv rfl) ?_
    clear henv a; intro a henv
    refine sAny_takeg (i := 11) [13, 14] (fun w' => w'.heap[g19]? = some (.cells #[.int .i64 p, .int .i64 q] 58 (0, 0))) (v := .agg #[.int .i64 p, .int .i64 q]) rfl (by kernel_rfl) (fun _ _ _ h => h) (fun _ _ _ hS => hS.1.oat (k := 1) rfl) henv rfl rfl rfl rfl (hst.oat (k := 1) rfl) (fun w' hg => rn_load0 henv ty_anvil_api_Spot rfl hg rfl) ?_
    clear henv a; intro a henv
    refine sAny_takeg (i := 12) [13, 14] (fun w' => w'.heap[g25]? = some (.cells #[.int .i64 p, .int .i64 q] 58 (0, 0))) (v := .agg #[.int .i64 p, .int .i64 q]) rfl (by kernel_rfl) (fun _ _ _ h => h) (fun _ _ _ hS => hS.1.oat (k := 0) rfl) henv rfl rfl rfl rfl (hst.oat (k := 0) rfl) (fun w' hg => rn_load0 henv ty_anvil_api_Spot rfl hg rfl) ?_
    clear henv a; intro a henv
    refine sAny_takeg (i := 13) [14] (fun _ => True) (v := .bool (!decide ([p, q] = [p, q]))) rfl (by kernel_rfl) (fun _ _ _ h => h) (fun _ _ _ _ => trivial) henv rfl rfl rfl rfl trivial (fun w' _ => rn_neqI [p, q] [p, q] henv spotI rfl rfl rfl rfl) ?_
    clear henv a; intro a henv
    rw [show (!decide ([p, q] = [p, q])) = false from (by simp)] at henv
    refine sAny_take (i := 14) [] (fun _ => True) (v := .bool false) rfl (by kernel_rfl) (fun _ _ _ h => h) (fun _ _ _ _ => trivial) henv rfl trivial (fun w' _ => rn_pick henv rfl rfl) ?_
    clear henv a; intro a henv
    refine sAny_done (by kernel_rfl) ?_ _
    exact th_n ⟨henv.sub ⟨rfl, rfl, rfl, rfl, rfl, rfl, rfl, rfl, rfl, rfl, rfl, rfl, rfl, rfl, rfl, rfl, rfl, rfl, rfl, rfl, rfl, rfl, rfl, rfl, rfl, rfl, rfl, rfl, rfl, rfl, rfl, rfl, rfl, rfl, rfl, rfl, rfl, trivial⟩, hst.pick [0, 1, 2, 3, 4, 5] [0, 1, 2, 3, 4] (by decide)⟩
  clear henv hst a
  rintro a w31 ⟨henv, hst⟩
  refine if_f henv rfl (rfl) ?_
  refine wp_skip ?_
  refine th_n ?_
  refine wp_seq ?_
  refine region_seq ?_
  refine seq_step rfl (op_val (v := .slice A0 n0 c0) henv rfl (rn_move henv rfl) ?_)
  clear henv a; intro a henv
  refine seq_step rfl (op_call henv rfl Tryd.call46 rfl (room_any (show U32 _ A0 n0 c0 xs0 from hst.pat (k := 4) rfl) (by omega)) ?_)
  rintro e w34 ⟨A32, c33, rfl, hU, hA, hb⟩
  refine ⟨_, rfl, ?_⟩
  clear henv a; intro a henv
  replace hst := hst.freshU2 hb hU hA (U32.pre hU hxl0) hA
  clear hU
  clear hA
  clear hb
  refine seq_step rfl (op_call henv rfl Tryd.call69 rfl (digits_num (N := X) ⟨_, (show U32 _ A32 n0 c33 xs0 from hst.pat (k := 0) rfl), hX0⟩ (by omega)) ?_)
  rintro e w36 ⟨g35, rfl, hS, hge, hb⟩
  refine ⟨_, rfl, ?_⟩
  clear henv a; intro a henv
  replace hst := hst.fresh hb (bk g35 #[.string ⟨(textN X).toArray⟩] 9) hS (fun _ hb => hb ▸ hge)
  clear hS hge
  clear hb
  refine seq_step rfl (op_val (v := .func (.func 105) #[] #[.pointer (some ⟨g35, 0, none⟩)]) henv rfl (rn_assign henv rfl) ?_)
  clear henv a; intro a henv
  refine wpList_nil ?_
  refine th_n ?_
  refine wp_seq ?_
  refine region_seq ?_
  refine seq_step rfl (op_alloc (c := #[.int .i64 0]) henv hst rfl zero_int rfl ?_)
  clear henv hst a; intro a w38 g37 henv hst
  refine seq_step rfl (op_store1 (k := 0) (c' := #[.int .i64 0]) henv hst (ty_int.size) rfl rfl rfl (by simp) rfl rfl ?_)
  clear henv hst a; intro a w39 henv hst
  refine wpList_nil ?_
  refine th_n ?_
  refine wp_seq ?_
  refine wp_seq ?_
  refine region_seq ?_
  refine seq_step rfl (op_val (v := .func (.func 105) #[] #[.pointer (some ⟨g35, 0, none⟩)]) henv rfl (rn_move henv rfl) ?_)
  clear henv a; intro a henv
  refine wpList_nil ?_
  refine th_n ?_
  refine wp_block ?_
  have hsz := hst.below.size
  refine wp_range1 (α := Fin 10) (enc := fun x => .int .i64 (x.val : Nat)) henv rfl Tryd.call105 rfl (digits_stops (s := textN X) (textN_dgt _) (hst.pat (k := 0) rfl)) (walksK_t) (walksK_b) (fun pre W => St w0 W [bk g37 #[.int .i64 (pre.length : Nat)] 3, bk g25 #[.int .i64 p, .int .i64 q] 58, bk g19 #[.int .i64 p, .int .i64 q] 58, bk g13 #[.string ⟨(textN X).toArray⟩] 9, bk g6 #[.slice A0 n0 c0] 22, bk g3 #[.bool false] 4, bk g1 #[.int .i64 ea] 3] [bk g35 #[.string ⟨(textN X).toArray⟩] 9]) (fun c pre W => ∃ qz : Int, St w0 W [bk g37 #[.int .i64 qz] 3, bk g25 #[.int .i64 p, .int .i64 q] 58, bk g19 #[.int .i64 p, .int .i64 q] 58, bk g13 #[.string ⟨(textN X).toArray⟩] 9, bk g6 #[.slice A0 n0 c0] 22, bk g3 #[.bool false] 4, bk g1 #[.int .i64 ea] 3] [bk g35 #[.string ⟨(textN X).toArray⟩] 9] ∧ c = .exit 0) (fun _ _ _ _ hst hg hr => hst.grown hsz ⟨cf_bk, cf_bk, cf_bk, cf_bk, cf_bk, cf_bk, cf_bk, trivial⟩ ⟨cf_bk, trivial⟩ hg hr) (fun _ _ _ _ _ ⟨qz, hst, hc⟩ hg hr => ⟨qz, hst.grown hsz ⟨cf_bk, cf_bk, cf_bk, cf_bk, cf_bk, cf_bk, cf_bk, trivial⟩ ⟨cf_bk, trivial⟩ hg hr, hc⟩) (hst.pick [0, 1, 2, 3, 4, 5, 6] [0] (by decide)) (fun x => [(5, .pointer (some ⟨g1, 0, none⟩)), (13, .pointer (some ⟨g37, 0, none⟩))]) ?_ (KeepsWalks.refl) ?_ ?_ ?_
  · intro i pre x W K _ hK a henv
    refine wpIn_skip ?_
    exact th_n (hK _ (henv.sub ⟨rfl, rfl, trivial⟩))
  · intro i pre x a W hI henv hlt
    replace hst := (show St _ _ _ _ from hI)
    have hx := x.isLt
    replace hst := hst.addKO ⟨cf_bk, cf_bk, cf_bk, cf_bk, cf_bk, cf_bk, cf_bk, trivial⟩
    refine wpIn_block ?_
    refine wpIn_seq ?_
    refine wpIn_seq ?_
    refine region_in ?_
    refine in_step rfl (fun _ h => nomatch h) (op_val (v := .int .i64 (pre.length : Nat)) henv rfl (rn_load1 henv ty_int rfl (hst.oat (k := 0) rfl) rfl) ?_)
    clear henv a; intro a henv
    refine in_step rfl (fun _ h => nomatch h) (op_val (v := .int .i64 ea) henv rfl (rn_load1 henv ty_int rfl (hst.oat (k := 6) rfl) rfl) ?_)
    clear henv a; intro a henv
    refine in_step rfl (fun _ h => nomatch h) (op_val (v := .bool (((pre.length : Nat) : Int) == ea)) henv rfl (rn_bin henv rfl rfl rfl) ?_)
    clear henv a; intro a henv
    refine in_nil ?_
    refine th_n ?_
    refine if_splitIn henv rfl (fun hc40 => ?_) (fun hc40 => ?_)
    · refine wpIn_exit ?_
      refine th_x (bl_o rfl ?_)
      exact ⟨hst.ko (k := 0) rfl _, ⟨_, hst.pick [0, 1, 2, 3, 4, 5, 6] [1] (by decide), rfl⟩⟩
    · refine wpIn_skip ?_
      refine th_n ?_
      refine region_in ?_
      refine in_step rfl (fun _ h => nomatch h) (op_val (v := .int .i64 (pre.length : Nat)) henv rfl (rn_load1 henv ty_int rfl (hst.oat (k := 0) rfl) rfl) ?_)
      clear henv a; intro a henv
      refine in_step rfl (fun _ h => nomatch h) (op_val (v := .int .i64 (pre.length + 1 : Nat)) henv rfl (rn_add henv rfl rfl (by rw [IntWalk.i64_in _ (by omega)]; omega)) ?_)
      clear henv a; intro a henv
      refine in_step rfl (fun _ h => nomatch h) (op_store1 (k := 0) (c' := #[.int .i64 (pre.length + 1 : Nat)]) henv hst (ty_int.size) rfl rfl rfl (by simp) rfl rfl ?_)
      clear henv hst a; intro a w41 henv hst
      refine in_nil ?_
      refine bl_n ?_
      rw [snoc_len pre x] at hst
      exact ⟨hst.ko (k := 0) rfl _, hst.kw (k := 0) rfl, hst.pick [0, 1, 2, 3, 4, 5, 6] [1] (by decide)⟩
  · intro D42 xs W a hD42 hS hI hK henv
    replace hst := (show St _ _ _ _ from hI)
    replace hst := hst.addD ⟨cf_bk, cf_bk, cf_bk, cf_bk, cf_bk, cf_bk, cf_bk, trivial⟩ hK
    have hDD42 := Nat.le_trans hsz hD42
    refine bl_n (th_n ?_)
    refine wp_seq ?_
    refine region_seq ?_
    refine seq_step rfl (op_store1 (k := 0) (c' := #[.int .i64 0]) henv hst (ty_int.size) rfl rfl rfl (by simp) rfl rfl ?_)
    clear henv hst a; intro a w43 henv hst
    refine wpList_nil ?_
    refine th_n ?_
    refine wp_seq ?_
    refine wp_seq ?_
    refine region_seq ?_
    refine seq_step rfl (op_val (v := .func (.func 105) #[] #[.pointer (some ⟨g35, 0, none⟩)]) henv rfl (rn_move henv rfl) ?_)
    clear henv a; intro a henv
    refine wpList_nil ?_
    refine th_n ?_
    refine wp_block ?_
    have hDk : _ = _ := hst.pat (k := 0) rfl
    have hDlt := lt_of_block hDk
    have hsz := hst.below.size
    refine wp_range1 (α := Fin 10) (enc := fun x => .int .i64 (x.val : Nat)) henv rfl Tryd.call105 rfl (digits_stops (s := textN X) (textN_dgt _) (hst.pat (k := 1) rfl)) (walksK_t) (walksK_b) (fun pre W => St w0 W [bk g37 #[.int .i64 (pre.length : Nat)] 3, bk g25 #[.int .i64 p, .int .i64 q] 58, bk g19 #[.int .i64 p, .int .i64 q] 58, bk g13 #[.string ⟨(textN X).toArray⟩] 9, bk g6 #[.slice A0 n0 c0] 22, bk g3 #[.bool false] 4, bk g1 #[.int .i64 ea] 3] [bk g35 #[.string ⟨(textN X).toArray⟩] 9] ∧ W.heap[D42]? = some (.deferred (some []))) (fun c pre W => ∃ pr x, c = .ret ∧ pre = pr ++ [x] ∧ x.val ≠ ((textN X).getD pr.length 0).toNat - 48) (fun _ _ _ _ ⟨hst, hDk⟩ hg hr => ⟨hst.grown hsz ⟨cf_bk, cf_bk, cf_bk, cf_bk, cf_bk, cf_bk, cf_bk, trivial⟩ ⟨cf_bk, trivial⟩ hg hr, ((hg.block D42 (lt_of_block hDk) (fun e => by have := (hr _ e.symm).1; omega)).trans hDk)⟩) (fun _ _ _ _ _ h _ _ => h) ⟨hst.pick [0, 1, 2, 3, 4, 5, 6] [1] (by decide), hDk⟩ (fun x => [(6, .pointer (some ⟨g3, 0, none⟩)), (7, .pointer (some ⟨g13, 0, none⟩)), (13, .pointer (some ⟨g37, 0, none⟩)), (14, .int .i64 (x.val : Nat))]) ?_ (KeepsWalks.refl) ?_ ?_ ?_
    · intro i pre x W K _ hK a henv
      refine region_in ?_
      refine in_step rfl (fun _ h => nomatch h) (op_val (v := .int .i64 (x.val : Nat)) henv rfl (rn_assign henv rfl) ?_)
      clear henv a; intro a henv
      refine in_nil ?_
      exact th_n (hK _ (henv.sub ⟨rfl, rfl, rfl, rfl, trivial⟩))
    · intro i pre x a W hI henv hlt
      obtain ⟨hst, hDk⟩ := hI
      have hx := x.isLt
      have hd0 := dig_get (textN_dgt X) hlt
      replace hst := hst.addKO ⟨cf_bk, cf_bk, cf_bk, cf_bk, cf_bk, cf_bk, cf_bk, trivial⟩
      refine wpIn_block ?_
      refine wpIn_seq ?_
      refine wpIn_seq ?_
      refine region_in ?_
      refine in_step rfl (fun _ h => nomatch h) (op_val (v := .int .i64 (pre.length : Nat)) henv rfl (rn_load1 henv ty_int rfl (hst.oat (k := 0) rfl) rfl) ?_)
      clear henv a; intro a henv
      refine in_step rfl (fun _ h => nomatch h) (op_val (v := .string ⟨(textN X).toArray⟩) henv rfl (rn_load1 henv ty_string rfl (hst.oat (k := 3) rfl) rfl) ?_)
      clear henv a; intro a henv
      refine in_step rfl (fun _ h => nomatch h) (op_val (v := .int .i64 ((textN X).length : Nat)) henv rfl (rn_lenS henv Tryd.underlying9 rfl) ?_)
      clear henv a; intro a henv
      refine in_step rfl (fun _ h => nomatch h) (op_val (v := .bool (decide (((pre.length : Nat) : Int) ≥ (((textN X).length : Nat) : Int)))) henv rfl (rn_bin henv rfl rfl rfl) ?_)
      clear henv a; intro a henv
      rw [show (decide (((pre.length : Nat) : Int) ≥ (((textN X).length : Nat) : Int))) = false from decide_eq_false (by omega)] at henv
      refine in_step rfl (fun _ h => nomatch h) (op_val (v := .bool false) henv rfl (rn_move henv rfl) ?_)
      clear henv a; intro a henv
      refine in_g rfl henv rfl rfl (fun _ h => nomatch h) (op_val (v := .int .i64 (x.val : Nat)) henv rfl (rn_move henv rfl) ?_)
      clear henv a; intro a henv
      refine in_g rfl henv rfl rfl (fun _ h => nomatch h) (op_val (v := .string ⟨(textN X).toArray⟩) henv rfl (rn_load1 henv ty_string rfl (hst.oat (k := 3) rfl) rfl) ?_)
      clear henv a; intro a henv
      refine in_g rfl henv rfl rfl (fun _ h => nomatch h) (op_val (v := .int .i64 (pre.length : Nat)) henv rfl (rn_load1 henv ty_int rfl (hst.oat (k := 0) rfl) rfl) ?_)
      clear henv a; intro a henv
      refine in_g rfl henv rfl rfl (fun _ h => nomatch h) (op_val (v := .int .u8 (((textN X).getD pre.length 0).toNat : Nat)) henv rfl (rn_idxS (i := pre.length) henv Tryd.underlying9 rfl rfl (by omega)) ?_)
      clear henv a; intro a henv
      refine in_g rfl henv rfl rfl (fun _ h => nomatch h) (op_val (v := .int .u8 ((((textN X).getD pre.length 0).toNat) - 48 : Nat)) henv rfl (rn_sub henv rfl rfl (by rw [IntWalk.u8_in _ (by omega)]; omega)) ?_)
      clear henv a; intro a henv
      refine in_g rfl henv rfl rfl (fun _ h => nomatch h) (op_val (v := .int .i64 ((((textN X).getD pre.length 0).toNat) - 48 : Nat)) henv rfl (rn_conv henv rfl Tryd.underlying5 Tryd.underlying3 (IntWalk.i64_in _ (by omega))) ?_)
      clear henv a; intro a henv
      refine in_g rfl henv rfl rfl (fun _ h => nomatch h) (op_val (v := .bool (((x.val : Nat) : Int) != (((((textN X).getD pre.length 0).toNat) - 48 : Nat) : Int))) henv rfl (rn_bin henv rfl rfl rfl) ?_)
      clear henv a; intro a henv
      refine in_step rfl (fun _ h => nomatch h) (op_val (v := .bool (((x.val : Nat) : Int) != (((((textN X).getD pre.length 0).toNat) - 48 : Nat) : Int))) henv rfl (rn_pick henv rfl rfl) ?_)
      clear henv a; intro a henv
      refine in_nil ?_
      refine th_n ?_
      refine if_splitIn henv rfl (fun hc44 => ?_) (fun hc44 => ?_)
      · have hxd : x.val ≠ ((textN X).getD pre.length 0).toNat - 48 := by intro h0; rw [h0] at hc44; simp at hc44
        refine wpIn_seq ?_
        refine region_in ?_
        refine in_step rfl (fun _ h => nomatch h) (op_store1 (k := 5) (c' := #[.bool false]) henv hst (ty_bool.size) rfl rfl rfl (by simp) rfl rfl ?_)
        clear henv hst a; intro a w45 henv hst
        refine in_nil ?_
        refine th_n ?_
        refine wpIn_ret ?_
        refine th_r (bl_r ?_)
        exact ⟨hst.ko (k := 0) rfl _, pre, x, rfl, rfl, hxd⟩
      · refine wpIn_skip ?_
        refine th_n ?_
        refine region_in ?_
        refine in_step rfl (fun _ h => nomatch h) (op_val (v := .int .i64 (pre.length : Nat)) henv rfl (rn_load1 henv ty_int rfl (hst.oat (k := 0) rfl) rfl) ?_)
        clear henv a; intro a henv
        refine in_step rfl (fun _ h => nomatch h) (op_val (v := .int .i64 (pre.length + 1 : Nat)) henv rfl (rn_add henv rfl rfl (by rw [IntWalk.i64_in _ (by omega)]; omega)) ?_)
        clear henv a; intro a henv
        refine in_step rfl (fun _ h => nomatch h) (op_store1 (k := 0) (c' := #[.int .i64 (pre.length + 1 : Nat)]) henv hst (ty_int.size) rfl rfl rfl (by simp) rfl rfl ?_)
        clear henv hst a; intro a w46 henv hst
        refine in_nil ?_
        refine bl_n ?_
        rw [snoc_len pre x] at hst
        exact ⟨hst.ko (k := 0) rfl _, hst.kw (k := 0) rfl, ⟨hst.pick [0, 1, 2, 3, 4, 5, 6] [1] (by decide), ((show (koF W).P _ from hst.pat (k := 0) rfl).2 D42 _ hDk rfl)⟩⟩
    · intro D47 xs W a hD47 hS hI hK henv
      obtain ⟨hst, hDk⟩ := hI
      subst hS
      rw [dgs_len] at hst
      replace hst := hst.addD ⟨cf_bk, cf_bk, cf_bk, cf_bk, cf_bk, cf_bk, cf_bk, trivial⟩ hDk
      replace hst := hst.addD ⟨cf_bk, cf_bk, cf_bk, cf_bk, cf_bk, cf_bk, cf_bk, trivial⟩ hK
      have hDD47 := Nat.le_trans hsz hD47
      refine bl_n (th_n ?_)
      refine wp_seq ?_
      refine region_seq ?_
      refine seq_step rfl (op_val (v := .int .i64 ((textN X).length : Nat)) henv rfl (rn_load1 henv ty_int rfl (hst.oat (k := 0) rfl) rfl) ?_)
      clear henv a; intro a henv
      refine seq_step rfl (op_val (v := .string ⟨(textN X).toArray⟩) henv rfl (rn_load1 henv ty_string rfl (hst.oat (k := 3) rfl) rfl) ?_)
      clear henv a; intro a henv
      refine seq_step rfl (op_val (v := .int .i64 ((textN X).length : Nat)) henv rfl (rn_lenS henv Tryd.underlying9 rfl) ?_)
      clear henv a; intro a henv
      refine seq_step rfl (op_val (v := .bool ((((textN X).length : Nat) : Int) == (((textN X).length : Nat) : Int))) henv rfl (rn_bin henv rfl rfl rfl) ?_)
      clear henv a; intro a henv
      rw [show ((((textN X).length : Nat) : Int) == (((textN X).length : Nat) : Int)) = true from (by simp)] at henv
      refine seq_step rfl (op_store1 (k := 5) (c' := #[.bool true]) henv hst (ty_bool.size) rfl rfl rfl (by simp) rfl rfl ?_)
      clear henv hst a; intro a w48 henv hst
      refine wpList_nil ?_
      refine th_n ?_
      refine wp_ret ?_
      have hdD47 : _ = _ := hst.pat (k := 0) rfl
      have hdD42 : _ = _ := hst.pat (k := 1) rfl
      replace hst : St w0 _ [bk g37 #[.int .i64 ((textN X).length : Nat)] 3, bk g25 #[.int .i64 p, .int .i64 q] 58, bk g19 #[.int .i64 p, .int .i64 q] 58, bk g13 #[.string ⟨(textN X).toArray⟩] 9, bk g6 #[.slice A0 n0 c0] 22, bk g3 #[.bool true] 4, bk g1 #[.int .i64 ea] 3] [bk g35 #[.string ⟨(textN X).toArray⟩] 9] := hst.pick [0, 1, 2, 3, 4, 5, 6] [2] (by decide)
      have hneD42 : D42 ≠ D47 := by omega
      replace hst := hst.putD0 hdD47 hDD47 ⟨cf_bk, cf_bk, cf_bk, cf_bk, cf_bk, cf_bk, cf_bk, trivial⟩ ⟨cf_bk, trivial⟩
      replace hdD42 := putD_other (o' := .deferred none) hdD42 hneD42
      replace hst := hst.putD0 hdD42 hDD42 ⟨cf_bk, cf_bk, cf_bk, cf_bk, cf_bk, cf_bk, cf_bk, trivial⟩ ⟨cf_bk, trivial⟩
      refine leaveM2 henv hdD47 hdD42 (res1 Tryd.results14 (RV.cell1 henv ty_bool rfl (hst.oat (k := 5) rfl) rfl)) ?_
      exact ⟨rfl, hst.below⟩
    · intro D49 c pre W a hD49 hS hI hK henv
      obtain ⟨pr, x, _, hpx, hxd⟩ := hI; obtain ⟨p1, hp1, hp2⟩ := hS; exact absurd (dgs_clash (textN_dgt X) hp1 (hpx.symm.trans hp2)) hxd
  · intro D50 c pre W a hD50 hS hI hK henv
    obtain ⟨qz, hst, rfl⟩ := hI
    replace hst := hst.addD ⟨cf_bk, cf_bk, cf_bk, cf_bk, cf_bk, cf_bk, cf_bk, trivial⟩ hK
    have hDD50 := Nat.le_trans hsz hD50
    refine wp_exit ?_
    refine bl_x (th_n ?_)
    refine wp_seq ?_
    refine region_seq ?_
    refine seq_step rfl (op_store1 (k := 0) (c' := #[.int .i64 0]) henv hst (ty_int.size) rfl rfl rfl (by simp) rfl rfl ?_)
    clear henv hst a; intro a w51 henv hst
    refine wpList_nil ?_
    refine th_n ?_
    refine wp_seq ?_
    refine wp_seq ?_
    refine region_seq ?_
    refine seq_step rfl (op_val (v := .func (.func 105) #[] #[.pointer (some ⟨g35, 0, none⟩)]) henv rfl (rn_move henv rfl) ?_)
    clear henv a; intro a henv
    refine wpList_nil ?_
    refine th_n ?_
    refine wp_block ?_
    have hDk : _ = _ := hst.pat (k := 0) rfl
    have hDlt := lt_of_block hDk
    have hsz := hst.below.size
    refine wp_range1 (α := Fin 10) (enc := fun x => .int .i64 (x.val : Nat)) henv rfl Tryd.call105 rfl (digits_stops (s := textN X) (textN_dgt _) (hst.pat (k := 1) rfl)) (walksK_t) (walksK_b) (fun pre W => St w0 W [bk g37 #[.int .i64 (pre.length : Nat)] 3, bk g25 #[.int .i64 p, .int .i64 q] 58, bk g19 #[.int .i64 p, .int .i64 q] 58, bk g13 #[.string ⟨(textN X).toArray⟩] 9, bk g6 #[.slice A0 n0 c0] 22, bk g3 #[.bool false] 4, bk g1 #[.int .i64 ea] 3] [bk g35 #[.string ⟨(textN X).toArray⟩] 9] ∧ W.heap[D50]? = some (.deferred (some []))) (fun c pre W => ∃ pr x, c = .ret ∧ pre = pr ++ [x] ∧ x.val ≠ ((textN X).getD pr.length 0).toNat - 48) (fun _ _ _ _ ⟨hst, hDk⟩ hg hr => ⟨hst.grown hsz ⟨cf_bk, cf_bk, cf_bk, cf_bk, cf_bk, cf_bk, cf_bk, trivial⟩ ⟨cf_bk, trivial⟩ hg hr, ((hg.block D50 (lt_of_block hDk) (fun e => by have := (hr _ e.symm).1; omega)).trans hDk)⟩) (fun _ _ _ _ _ h _ _ => h) ⟨hst.pick [0, 1, 2, 3, 4, 5, 6] [1] (by decide), hDk⟩ (fun x => [(6, .pointer (some ⟨g3, 0, none⟩)), (7, .pointer (some ⟨g13, 0, none⟩)), (13, .pointer (some ⟨g37, 0, none⟩)), (14, .int .i64 (x.val : Nat))]) ?_ (KeepsWalks.refl) ?_ ?_ ?_
    · intro i pre x W K _ hK a henv
      refine region_in ?_
      refine in_step rfl (fun _ h => nomatch h) (op_val (v := .int .i64 (x.val : Nat)) henv rfl (rn_assign henv rfl) ?_)
      clear henv a; intro a henv
      refine in_nil ?_
      exact th_n (hK _ (henv.sub ⟨rfl, rfl, rfl, rfl, trivial⟩))
    · intro i pre x a W hI henv hlt
      obtain ⟨hst, hDk⟩ := hI
      have hx := x.isLt
      have hd0 := dig_get (textN_dgt X) hlt
      replace hst := hst.addKO ⟨cf_bk, cf_bk, cf_bk, cf_bk, cf_bk, cf_bk, cf_bk, trivial⟩
      refine wpIn_block ?_
      refine wpIn_seq ?_
      refine wpIn_seq ?_
      refine region_in ?_
      refine in_step rfl (fun _ h => nomatch h) (op_val (v := .int .i64 (pre.length : Nat)) henv rfl (rn_load1 henv ty_int rfl (hst.oat (k := 0) rfl) rfl) ?_)
      clear henv a; intro a henv
      refine in_step rfl (fun _ h => nomatch h) (op_val (v := .string ⟨(textN X).toArray⟩) henv rfl (rn_load1 henv ty_string rfl (hst.oat (k := 3) rfl) rfl) ?_)
      clear henv a; intro a henv
      refine in_step rfl (fun _ h => nomatch h) (op_val (v := .int .i64 ((textN X).length : Nat)) henv rfl (rn_lenS henv Tryd.underlying9 rfl) ?_)
      clear henv a; intro a henv
      refine in_step rfl (fun _ h => nomatch h) (op_val (v := .bool (decide (((pre.length : Nat) : Int) ≥ (((textN X).length : Nat) : Int)))) henv rfl (rn_bin henv rfl rfl rfl) ?_)
      clear henv a; intro a henv
      rw [show (decide (((pre.length : Nat) : Int) ≥ (((textN X).length : Nat) : Int))) = false from decide_eq_false (by omega)] at henv
      refine in_step rfl (fun _ h => nomatch h) (op_val (v := .bool false) henv rfl (rn_move henv rfl) ?_)
      clear henv a; intro a henv
      refine in_g rfl henv rfl rfl (fun _ h => nomatch h) (op_val (v := .int .i64 (x.val : Nat)) henv rfl (rn_move henv rfl) ?_)
      clear henv a; intro a henv
      refine in_g rfl henv rfl rfl (fun _ h => nomatch h) (op_val (v := .string ⟨(textN X).toArray⟩) henv rfl (rn_load1 henv ty_string rfl (hst.oat (k := 3) rfl) rfl) ?_)
      clear henv a; intro a henv
      refine in_g rfl henv rfl rfl (fun _ h => nomatch h) (op_val (v := .int .i64 (pre.length : Nat)) henv rfl (rn_load1 henv ty_int rfl (hst.oat (k := 0) rfl) rfl) ?_)
      clear henv a; intro a henv
      refine in_g rfl henv rfl rfl (fun _ h => nomatch h) (op_val (v := .int .u8 (((textN X).getD pre.length 0).toNat : Nat)) henv rfl (rn_idxS (i := pre.length) henv Tryd.underlying9 rfl rfl (by omega)) ?_)
      clear henv a; intro a henv
      refine in_g rfl henv rfl rfl (fun _ h => nomatch h) (op_val (v := .int .u8 ((((textN X).getD pre.length 0).toNat) - 48 : Nat)) henv rfl (rn_sub henv rfl rfl (by rw [IntWalk.u8_in _ (by omega)]; omega)) ?_)
      clear henv a; intro a henv
      refine in_g rfl henv rfl rfl (fun _ h => nomatch h) (op_val (v := .int .i64 ((((textN X).getD pre.length 0).toNat) - 48 : Nat)) henv rfl (rn_conv henv rfl Tryd.underlying5 Tryd.underlying3 (IntWalk.i64_in _ (by omega))) ?_)
      clear henv a; intro a henv
      refine in_g rfl henv rfl rfl (fun _ h => nomatch h) (op_val (v := .bool (((x.val : Nat) : Int) != (((((textN X).getD pre.length 0).toNat) - 48 : Nat) : Int))) henv rfl (rn_bin henv rfl rfl rfl) ?_)
      clear henv a; intro a henv
      refine in_step rfl (fun _ h => nomatch h) (op_val (v := .bool (((x.val : Nat) : Int) != (((((textN X).getD pre.length 0).toNat) - 48 : Nat) : Int))) henv rfl (rn_pick henv rfl rfl) ?_)
      clear henv a; intro a henv
      refine in_nil ?_
      refine th_n ?_
      refine if_splitIn henv rfl (fun hc52 => ?_) (fun hc52 => ?_)
      · have hxd : x.val ≠ ((textN X).getD pre.length 0).toNat - 48 := by intro h0; rw [h0] at hc52; simp at hc52
        refine wpIn_seq ?_
        refine region_in ?_
        refine in_step rfl (fun _ h => nomatch h) (op_store1 (k := 5) (c' := #[.bool false]) henv hst (ty_bool.size) rfl rfl rfl (by simp) rfl rfl ?_)
        clear henv hst a; intro a w53 henv hst
        refine in_nil ?_
        refine th_n ?_
        refine wpIn_ret ?_
        refine th_r (bl_r ?_)
        exact ⟨hst.ko (k := 0) rfl _, pre, x, rfl, rfl, hxd⟩
      · refine wpIn_skip ?_
        refine th_n ?_
        refine region_in ?_
        refine in_step rfl (fun _ h => nomatch h) (op_val (v := .int .i64 (pre.length : Nat)) henv rfl (rn_load1 henv ty_int rfl (hst.oat (k := 0) rfl) rfl) ?_)
        clear henv a; intro a henv
        refine in_step rfl (fun _ h => nomatch h) (op_val (v := .int .i64 (pre.length + 1 : Nat)) henv rfl (rn_add henv rfl rfl (by rw [IntWalk.i64_in _ (by omega)]; omega)) ?_)
        clear henv a; intro a henv
        refine in_step rfl (fun _ h => nomatch h) (op_store1 (k := 0) (c' := #[.int .i64 (pre.length + 1 : Nat)]) henv hst (ty_int.size) rfl rfl rfl (by simp) rfl rfl ?_)
        clear henv hst a; intro a w54 henv hst
        refine in_nil ?_
        refine bl_n ?_
        rw [snoc_len pre x] at hst
        exact ⟨hst.ko (k := 0) rfl _, hst.kw (k := 0) rfl, ⟨hst.pick [0, 1, 2, 3, 4, 5, 6] [1] (by decide), ((show (koF W).P _ from hst.pat (k := 0) rfl).2 D50 _ hDk rfl)⟩⟩
    · intro D55 xs W a hD55 hS hI hK henv
      obtain ⟨hst, hDk⟩ := hI
      subst hS
      rw [dgs_len] at hst
      replace hst := hst.addD ⟨cf_bk, cf_bk, cf_bk, cf_bk, cf_bk, cf_bk, cf_bk, trivial⟩ hDk
      replace hst := hst.addD ⟨cf_bk, cf_bk, cf_bk, cf_bk, cf_bk, cf_bk, cf_bk, trivial⟩ hK
      have hDD55 := Nat.le_trans hsz hD55
      refine bl_n (th_n ?_)
      refine wp_seq ?_
      refine region_seq ?_
      refine seq_step rfl (op_val (v := .int .i64 ((textN X).length : Nat)) henv rfl (rn_load1 henv ty_int rfl (hst.oat (k := 0) rfl) rfl) ?_)
      clear henv a; intro a henv
      refine seq_step rfl (op_val (v := .string ⟨(textN X).toArray⟩) henv rfl (rn_load1 henv ty_string rfl (hst.oat (k := 3) rfl) rfl) ?_)
      clear henv a; intro a henv
      refine seq_step rfl (op_val (v := .int .i64 ((textN X).length : Nat)) henv rfl (rn_lenS henv Tryd.underlying9 rfl) ?_)
      clear henv a; intro a henv
      refine seq_step rfl (op_val (v := .bool ((((textN X).length : Nat) : Int) == (((textN X).length : Nat) : Int))) henv rfl (rn_bin henv rfl rfl rfl) ?_)
      clear henv a; intro a henv
      rw [show ((((textN X).length : Nat) : Int) == (((textN X).length : Nat) : Int)) = true from (by simp)] at henv
      refine seq_step rfl (op_store1 (k := 5) (c' := #[.bool true]) henv hst (ty_bool.size) rfl rfl rfl (by simp) rfl rfl ?_)
      clear henv hst a; intro a w56 henv hst
      refine wpList_nil ?_
      refine th_n ?_
      refine wp_ret ?_
      have hdD55 : _ = _ := hst.pat (k := 0) rfl
      have hdD50 : _ = _ := hst.pat (k := 1) rfl
      replace hst : St w0 _ [bk g37 #[.int .i64 ((textN X).length : Nat)] 3, bk g25 #[.int .i64 p, .int .i64 q] 58, bk g19 #[.int .i64 p, .int .i64 q] 58, bk g13 #[.string ⟨(textN X).toArray⟩] 9, bk g6 #[.slice A0 n0 c0] 22, bk g3 #[.bool true] 4, bk g1 #[.int .i64 ea] 3] [bk g35 #[.string ⟨(textN X).toArray⟩] 9] := hst.pick [0, 1, 2, 3, 4, 5, 6] [2] (by decide)
      have hneD50 : D50 ≠ D55 := by omega
      replace hst := hst.putD0 hdD55 hDD55 ⟨cf_bk, cf_bk, cf_bk, cf_bk, cf_bk, cf_bk, cf_bk, trivial⟩ ⟨cf_bk, trivial⟩
      replace hdD50 := putD_other (o' := .deferred none) hdD50 hneD50
      replace hst := hst.putD0 hdD50 hDD50 ⟨cf_bk, cf_bk, cf_bk, cf_bk, cf_bk, cf_bk, cf_bk, trivial⟩ ⟨cf_bk, trivial⟩
      refine leaveM2 henv hdD55 hdD50 (res1 Tryd.results14 (RV.cell1 henv ty_bool rfl (hst.oat (k := 5) rfl) rfl)) ?_
      exact ⟨rfl, hst.below⟩
    · intro D57 c pre W a hD57 hS hI hK henv
      obtain ⟨pr, x, _, hpx, hxd⟩ := hI; obtain ⟨p1, hp1, hp2⟩ := hS; exact absurd (dgs_clash (textN_dgt X) hp1 (hpx.symm.trans hp2)) hxd

set_option maxRecDepth 100000 in
set_option maxHeartbeats 4000000 in
theorem texts_mid {A0 : Option Addr} {n0 c0 : Nat} {xs0 : List Nat} {t : List UInt8} {ea : Int} {w0 : World} (u0 : U32 w0 A0 n0 c0 xs0) (hn0 : n0 ≤ 160) (hb : 1500 < t.length) (hb2 : t.length ≤ 65536) :
    Calls Tryd.prog 14 #[.slice A0 n0 c0, .string ⟨t.toArray⟩, .int .i64 ea] w0 fun e w' => e = .returned (.bool true) ∧ Below w0.heap.size w0 w' := by
  obtain ⟨X, hX0⟩ : ∃ z, val 4294967296 xs0 = z := ⟨_, rfl⟩
  have hl0 : nl X ≤ n0 := hX0 ▸ nl_val u0
  have hxl0 := u0.len
  refine enterM Tryd.func14 rfl Tryd.ntmps14 rfl ?_
  intro a henv hst
  replace hst := (hst.addU u0 trivial)
  clear u0
  refine wp_seq ?_
  refine region_seq ?_
  refine seq_step rfl (op_box (c := #[.int .i64 ea]) henv hst rfl rfl rfl ?_)
  clear henv hst a; intro a w2 g1 henv hst
  refine seq_step rfl (op_alloc (c := #[.bool false]) henv hst rfl zero_bool rfl ?_)
  clear henv hst a; intro a w4 g3 henv hst
  refine wpList_nil ?_
  refine th_n ?_
  refine wp_seq ?_
  refine wp_seq ?_
  refine region_seq ?_
  refine seq_step rfl (op_call henv rfl Tryd.call32 rfl (works_true _) ?_)
  rintro e w5 ⟨rfl, hb⟩
  refine ⟨_, rfl, ?_⟩
  clear henv a; intro a henv
  replace hst := hst.call hb
  clear hb
  refine seq_step rfl (op_val (v := .bool false) henv rfl (rn_un henv rfl rfl) ?_)
  clear henv a; intro a henv
  refine wpList_nil ?_
  refine th_n ?_
  refine if_f henv rfl (rfl) ?_
  refine wp_skip ?_
  refine th_n ?_
  refine wp_seq ?_
  refine wp_seq ?_
  refine region_seq ?_
  refine seq_step rfl (op_val (v := .slice A0 n0 c0) henv rfl (rn_move henv rfl) ?_)
  clear henv a; intro a henv
  refine seq_step rfl (op_buildSlice (z := 1) (pv := #[(0, .slice A0 n0 c0)]) (c := #[.slice A0 n0 c0]) henv hst rfl Tryd.underlying107 (ty__uint32.size) zero__uint32 (by decide) (by decide) rfl (by kernel_rfl) ?_)
  clear henv hst a; intro a w7 g6 henv hst
  refine seq_step rfl (op_call henv rfl Tryd.call50 rfl (long_sh (q := 1) (ls := [(A0, n0, c0)]) (hst.oat (k := 0) rfl) rfl (by decide) (by intro p hp; simp at hp; rcases hp with rfl <;> assumption)) ?_)
  rintro e w8 ⟨rfl, hb⟩
  refine ⟨_, rfl, ?_⟩
  clear henv a; intro a henv
  replace hst := hst.call hb
  clear hb
  refine seq_step rfl (op_val (v := .bool false) henv rfl (rn_move henv rfl) ?_)
  clear henv a; intro a henv
  refine seq_g rfl henv rfl rfl (op_val (v := .string ⟨t.toArray⟩) henv rfl (rn_move henv rfl) ?_)
  clear henv a; intro a henv
  refine seq_g rfl henv rfl rfl (op_val (v := .int .i64 (t.length : Nat)) henv rfl (rn_lenS henv Tryd.underlying9 rfl) ?_)
  clear henv a; intro a henv
  refine seq_g rfl henv rfl rfl (op_val (v := .bool (decide (((t.length : Nat) : Int) > (1500 : Int)))) henv rfl (rn_bin henv rfl rfl rfl) ?_)
  clear henv a; intro a henv
  rw [show (decide (((t.length : Nat) : Int) > (1500 : Int))) = true from decide_eq_true (by omega)] at henv
  refine seq_g rfl henv rfl rfl (op_val (v := .bool true) henv rfl (rn_move henv rfl) ?_)
  clear henv a; intro a henv
  refine seq_g rfl henv rfl rfl (op_val (v := .string ⟨t.toArray⟩) henv rfl (rn_move henv rfl) ?_)
  clear henv a; intro a henv
  refine seq_g rfl henv rfl rfl (op_val (v := .int .i64 (t.length : Nat)) henv rfl (rn_lenS henv Tryd.underlying9 rfl) ?_)
  clear henv a; intro a henv
  refine seq_g rfl henv rfl rfl (op_val (v := .bool (decide (((t.length : Nat) : Int) ≤ (65536 : Int)))) henv rfl (rn_bin henv rfl rfl rfl) ?_)
  clear henv a; intro a henv
  rw [show (decide (((t.length : Nat) : Int) ≤ (65536 : Int))) = true from decide_eq_true (by omega)] at henv
  refine seq_g rfl henv rfl rfl (op_val (v := .bool true) henv rfl (rn_pick henv rfl rfl) ?_)
  clear henv a; intro a henv
  refine seq_step rfl (op_val (v := .bool true) henv rfl (rn_pick henv rfl rfl) ?_)
  clear henv a; intro a henv
  refine wpList_nil ?_
  refine th_n ?_
  refine if_t henv rfl (rfl) ?_
  refine wp_seq ?_
  refine region_seq ?_
  refine seq_step rfl (op_store1 (k := 1) (c' := #[.bool true]) henv hst (ty_bool.size) rfl rfl rfl (by simp) rfl rfl ?_)
  clear henv hst a; intro a w9 henv hst
  refine wpList_nil ?_
  refine th_n ?_
  refine wp_ret ?_
  refine th_r ?_
  refine leaveM henv (res1 Tryd.results14 (RV.cell1 henv ty_bool rfl (hst.oat (k := 1) rfl) rfl)) ?_
  exact ⟨rfl, hst.below⟩

set_option maxRecDepth 100000 in
set_option maxHeartbeats 4000000 in
theorem texts_long {A0 : Option Addr} {n0 c0 : Nat} {xs0 : List Nat} {t : List UInt8} {ea : Int} {w0 : World} (u0 : U32 w0 A0 n0 c0 xs0) (hb : 160 < n0) :
    Calls Tryd.prog 14 #[.slice A0 n0 c0, .string ⟨t.toArray⟩, .int .i64 ea] w0 fun e w' => e = .returned (.bool true) ∧ Below w0.heap.size w0 w' := by
  obtain ⟨X, hX0⟩ : ∃ z, val 4294967296 xs0 = z := ⟨_, rfl⟩
  have hl0 : nl X ≤ n0 := hX0 ▸ nl_val u0
  have hxl0 := u0.len
  refine enterM Tryd.func14 rfl Tryd.ntmps14 rfl ?_
  intro a henv hst
  replace hst := (hst.addU u0 trivial)
  clear u0
  refine wp_seq ?_
  refine region_seq ?_
  refine seq_step rfl (op_box (c := #[.int .i64 ea]) henv hst rfl rfl rfl ?_)
  clear henv hst a; intro a w2 g1 henv hst
  refine seq_step rfl (op_alloc (c := #[.bool false]) henv hst rfl zero_bool rfl ?_)
  clear henv hst a; intro a w4 g3 henv hst
  refine wpList_nil ?_
  refine th_n ?_
  refine wp_seq ?_
  refine wp_seq ?_
  refine region_seq ?_
  refine seq_step rfl (op_call henv rfl Tryd.call32 rfl (works_true _) ?_)
  rintro e w5 ⟨rfl, hb⟩
  refine ⟨_, rfl, ?_⟩
  clear henv a; intro a henv
  replace hst := hst.call hb
  clear hb
  refine seq_step rfl (op_val (v := .bool false) henv rfl (rn_un henv rfl rfl) ?_)
  clear henv a; intro a henv
  refine wpList_nil ?_
  refine th_n ?_
  refine if_f henv rfl (rfl) ?_
  refine wp_skip ?_
  refine th_n ?_
  refine wp_seq ?_
  refine wp_seq ?_
  refine region_seq ?_
  refine seq_step rfl (op_val (v := .slice A0 n0 c0) henv rfl (rn_move henv rfl) ?_)
  clear henv a; intro a henv
  refine seq_step rfl (op_buildSlice (z := 1) (pv := #[(0, .slice A0 n0 c0)]) (c := #[.slice A0 n0 c0]) henv hst rfl Tryd.underlying107 (ty__uint32.size) zero__uint32 (by decide) (by decide) rfl (by kernel_rfl) ?_)
  clear henv hst a; intro a w7 g6 henv hst
  refine seq_step rfl (op_call henv rfl Tryd.call50 rfl (long_lg (q := 1) (ls := [(A0, n0, c0)]) (hst.oat (k := 0) rfl) rfl (by decide) ⟨0, by decide, hb⟩) ?_)
  rintro e w8 ⟨rfl, hb⟩
  refine ⟨_, rfl, ?_⟩
  clear henv a; intro a henv
  replace hst := hst.call hb
  clear hb
  refine seq_step rfl (op_val (v := .bool true) henv rfl (rn_move henv rfl) ?_)
  clear henv a; intro a henv
  refine seq_skip rfl henv rfl rfl rfl rfl ?_
  clear henv a; intro a henv
  refine seq_skip rfl henv rfl rfl rfl rfl ?_
  clear henv a; intro a henv
  refine seq_skip rfl henv rfl rfl rfl rfl ?_
  clear henv a; intro a henv
  refine seq_skip rfl henv rfl rfl rfl rfl ?_
  clear henv a; intro a henv
  refine seq_skip rfl henv rfl rfl rfl rfl ?_
  clear henv a; intro a henv
  refine seq_skip rfl henv rfl rfl rfl rfl ?_
  clear henv a; intro a henv
  refine seq_skip rfl henv rfl rfl rfl rfl ?_
  clear henv a; intro a henv
  refine seq_skip rfl henv rfl rfl rfl rfl ?_
  clear henv a; intro a henv
  refine seq_step rfl (op_val (v := .bool true) henv rfl (rn_pick henv rfl rfl) ?_)
  clear henv a; intro a henv
  refine wpList_nil ?_
  refine th_n ?_
  refine if_t henv rfl (rfl) ?_
  refine wp_seq ?_
  refine region_seq ?_
  refine seq_step rfl (op_store1 (k := 1) (c' := #[.bool true]) henv hst (ty_bool.size) rfl rfl rfl (by simp) rfl rfl ?_)
  clear henv hst a; intro a w9 henv hst
  refine wpList_nil ?_
  refine th_n ?_
  refine wp_ret ?_
  refine th_r ?_
  refine leaveM henv (res1 Tryd.results14 (RV.cell1 henv ty_bool rfl (hst.oat (k := 1) rfl) rfl)) ?_
  exact ⟨rfl, hst.below⟩

theorem texts_law {A0 : Option Addr} {n0 c0 : Nat} {xs0 : List Nat} {t : List UInt8} {ea : Int} {w0 : World} (u0 : U32 w0 A0 n0 c0 xs0) (hmx : t.length ≤ maxLen) (_hi : -9223372036854775808 ≤ ea ∧ ea ≤ 9223372036854775807) :
    Calls Tryd.prog 14 #[.slice A0 n0 c0, .string ⟨t.toArray⟩, .int .i64 ea] w0 fun e w' => e = .returned (.bool true) ∧ Below w0.heap.size w0 w' := by
  rcases Nat.lt_or_ge 160 n0 with hb | hn0
  · exact texts_long u0 hb
  rcases Nat.lt_or_ge 1500 t.length with h1 | h1
  · rcases Nat.lt_or_ge 65536 t.length with h2 | h2
    · exact texts_vlong u0 hn0 hmx h2
    · exact texts_mid u0 hn0 h1 h2
  · exact texts_short u0 hn0 hmx h1

end Go.Proofs.YtnldopjbiacbfaaDoor.W
