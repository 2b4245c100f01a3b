/- ProgNeeds. Printed by pv/gen_gD.py. No condition. -/
import Derived.Test.YtbdngknpngcojaaDoorM49
import Derived.Test.YtbdngknpngcojaaDoorM15

namespace Go.Proofs.YtbdngknpngcojaaDoor.W
open Go.RowKit Anv Go.Lib
theorem countsI : IntS Tryd.prog 45 5 := ⟨by kernel_rfl, by kernel_rfl, by kernel_rfl, by kernel_rfl, by kernel_rfl⟩
section
variable {N : Nat} {dq : List Deferred} {a : Act} {l : List (Nat × Value)} {w : World} {d : Nat} {ty : TypeId} {pos : String} {af : Array Edge} {gd : Option (Nat × Bool)}
theorem rn_counts {x0 x1 x2 x3 x4 : Operand} {v0 v1 v2 v3 v4 : Int} (h : EnvD dq N a l) (h0 : evl l x0 = some (.int .i64 v0)) (h1 : evl l x1 = some (.int .i64 v1)) (h2 : evl l x2 = some (.int .i64 v2)) (h3 : evl l x3 = some (.int .i64 v3)) (h4 : evl l x4 = some (.int .i64 v4)) :
    (execOp a.eval ⟨some d, .build 45 #[(0, x0), (1, x1), (2, x2), (3, x3), (4, x4)], ty, pos, af, gd⟩).run Tryd.prog w = .ok (.value (.agg #[.int .i64 v0, .int .i64 v1, .int .i64 v2, .int .i64 v3, .int .i64 v4])) w := by
  have hz : (zeroValue 45).run Tryd.prog w = .ok (.agg #[.int .i64 0, .int .i64 0, .int .i64 0, .int .i64 0, .int .i64 0]) w := by obtain ⟨i, hi, hv⟩ := zero_anvil_prog_Counts; simp [zeroValue, typeInfo, hi, hv]
  simp [execOp, h.ev h0, h.ev h1, h.ev h2, h.ev h3, h.ev h4, Instr.build, hz, run_underlying Tryd.underlying45, Sem.run_bind, run_sizeOf ty_int.size, Instr.fill, Value.cells]
theorem rn_counts0 : (execOp a.eval ⟨some d, .build 45 #[], ty, pos, af, gd⟩).run Tryd.prog w = .ok (.value (.agg #[.int .i64 0, .int .i64 0, .int .i64 0, .int .i64 0, .int .i64 0])) w := by
  have hz : (zeroValue 45).run Tryd.prog w = .ok (.agg #[.int .i64 0, .int .i64 0, .int .i64 0, .int .i64 0, .int .i64 0]) w := by obtain ⟨i, hi, hv⟩ := zero_anvil_prog_Counts; simp [zeroValue, typeInfo, hi, hv]
  simp [execOp, Instr.build, hz, run_underlying Tryd.underlying45, Sem.run_bind, run_sizeOf ty_int.size, Instr.fill, Value.cells]
end
set_option maxRecDepth 100000 in
set_option maxHeartbeats 2000000 in
theorem g_count_bad {i g kk : Int} {A0 A1 : Option Addr} {n0 c0 n1 c1 : Nat} {es0 : List IE} {es1 : List Int} {w0 : World} (h0 : (pfRow fJ FJ 5 A0 n0 c0 es0).P w0) (h1 : (pfRow fI FI 1 A1 n1 c1 es1).P w0) (hR : Wrong i g n0 n1 es0 es1 kk) :
    Calls Tryd.prog 26 #[.agg #[.int .i64 i, .int .i64 g, .slice A0 n0 c0, .slice A1 n1 c1]] w0 fun e w' => e = .returned (.tuple #[.agg #[.int .i64 0, .int .i64 0, .int .i64 0, .int .i64 0, .int .i64 0], .int .i64 80]) ∧ Below w0.heap.size w0 w' := by
  refine enter Tryd.func26 rfl Tryd.ntmps26 rfl ?_
  intro a henv hst
  have hlen0 := h0.2.1
  have hbig0 := Nat.le_trans h0.1.cap h0.1.big
  unfold maxLen at hbig0
  have hlen1 := h1.2.1
  have hbig1 := Nat.le_trans h1.1.cap h1.1.big
  unfold maxLen at hbig1
  replace hst := hst.argRow h0
  replace hst := hst.argRow h1
  clear h0 h1
  refine wp_seq ?_
  refine region_seq ?_
  refine seq_step rfl (op_box (c := #[.int .i64 i, .int .i64 g, .slice A0 n0 c0, .slice A1 n1 c1]) henv hst rfl rfl rfl ?_)
  clear henv hst a; intro a w52 g51 henv hst
  refine seq_step rfl (op_alloc (c := #[.int .i64 0, .int .i64 0, .int .i64 0, .int .i64 0, .int .i64 0]) henv hst rfl zero_anvil_prog_Counts rfl ?_)
  clear henv hst a; intro a w54 g53 henv hst
  refine sv (v := .int .i64 0) henv rfl (rn_assign henv rfl) ?_
  clear henv a; intro a henv
  refine wpList_nil ?_
  refine th_n ?_
  refine wp_seq ?_
  refine region_seq ?_
  refine seq_step rfl (op_alloc (c := #[.int .i64 0, .int .i64 0, .int .i64 0, .int .i64 0, .int .i64 0]) henv hst rfl zero_anvil_prog_Counts rfl ?_)
  clear henv hst a; intro a w56 g55 henv hst
  refine wpList_nil ?_
  refine th_n ?_
  refine wp_seq ?_
  refine wp_seq ?_
  refine region_seq ?_
  refine sv (v := .agg #[.int .i64 i, .int .i64 g, .slice A0 n0 c0, .slice A1 n1 c1]) henv rfl (rn_load0 henv ty_anvil_api_Prog rfl (hst.oat (k := 2) rfl) rfl) ?_
  clear henv a; intro a henv
  refine seq_step rfl (op_call henv rfl Tryd.call37 rfl (g_right_bad (hst.pat (k := 1) rfl) (hst.pat (k := 0) rfl) hR) ?_)
  rintro e w57 ⟨rfl, hb⟩
  refine ⟨_, rfl, ?_⟩
  clear henv a; intro a henv
  replace hst := hst.call hb
  clear hb
  refine sv (v := .bool true) henv rfl (rn_un henv rfl rfl) ?_
  clear henv a; intro a henv
  refine wpList_nil ?_
  refine th_n ?_
  refine if_t henv rfl (rfl) ?_
  refine wp_seq ?_
  refine region_seq ?_
  refine sv (v := .agg #[.int .i64 0, .int .i64 0, .int .i64 0, .int .i64 0, .int .i64 0]) henv rfl (rn_load0 henv ty_anvil_prog_Counts rfl (hst.oat (k := 0) rfl) rfl) ?_
  clear henv a; intro a henv
  refine seq_step rfl (op_store (k := 1) (c' := #[.int .i64 0, .int .i64 0, .int .i64 0, .int .i64 0, .int .i64 0]) henv hst (ty_anvil_prog_Counts.size) rfl rfl rfl rfl (by simp) rfl rfl ?_)
  clear henv hst a; intro a w58 henv hst
  refine sv (v := .int .i64 80) henv rfl (rn_assign henv rfl) ?_
  clear henv a; intro a henv
  refine wpList_nil ?_
  refine th_n ?_
  refine wp_ret ?_
  refine th_r ?_
  refine leave henv (res2 Tryd.results26 (RV.cell henv ty_anvil_prog_Counts rfl (hst.oat (k := 1) rfl) rfl) (RV.tmp henv rfl)) ?_
  exact ⟨rfl, hst.below⟩
set_option maxRecDepth 100000 in
set_option maxHeartbeats 2000000 in
theorem g_depth_bad {i g kk : Int} {A0 A1 : Option Addr} {n0 c0 n1 c1 : Nat} {es0 : List IE} {es1 : List Int} {w0 : World} (h0 : (pfRow fJ FJ 5 A0 n0 c0 es0).P w0) (h1 : (pfRow fI FI 1 A1 n1 c1 es1).P w0) (hR : Wrong i g n0 n1 es0 es1 kk) :
    Calls Tryd.prog 25 #[.agg #[.int .i64 i, .int .i64 g, .slice A0 n0 c0, .slice A1 n1 c1]] w0 fun e w' => e = .returned (.tuple #[.int .i64 0, .int .i64 80]) ∧ Below w0.heap.size w0 w' := by
  refine enter Tryd.func25 rfl Tryd.ntmps25 rfl ?_
  intro a henv hst
  have hlen0 := h0.2.1
  have hbig0 := Nat.le_trans h0.1.cap h0.1.big
  unfold maxLen at hbig0
  have hlen1 := h1.2.1
  have hbig1 := Nat.le_trans h1.1.cap h1.1.big
  unfold maxLen at hbig1
  replace hst := hst.argRow h0
  replace hst := hst.argRow h1
  clear h0 h1
  refine wp_seq ?_
  refine region_seq ?_
  refine seq_step rfl (op_box (c := #[.int .i64 i, .int .i64 g, .slice A0 n0 c0, .slice A1 n1 c1]) henv hst rfl rfl rfl ?_)
  clear henv hst a; intro a w52 g51 henv hst
  revert a
  refine aA rfl rfl ?_
  refine aA rfl rfl ?_
  intro a henv
  refine wpList_nil ?_
  refine th_n ?_
  refine wp_seq ?_
  refine wp_seq ?_
  refine region_seq ?_
  refine sv (v := .agg #[.int .i64 i, .int .i64 g, .slice A0 n0 c0, .slice A1 n1 c1]) henv rfl (rn_load0 henv ty_anvil_api_Prog rfl (hst.oat (k := 0) rfl) rfl) ?_
  clear henv a; intro a henv
  refine seq_step rfl (op_call henv rfl Tryd.call37 rfl (g_right_bad (hst.pat (k := 1) rfl) (hst.pat (k := 0) rfl) hR) ?_)
  rintro e w53 ⟨rfl, hb⟩
  refine ⟨_, rfl, ?_⟩
  clear henv a; intro a henv
  replace hst := hst.call hb
  clear hb
  refine sv (v := .bool true) henv rfl (rn_un henv rfl rfl) ?_
  clear henv a; intro a henv
  refine wpList_nil ?_
  refine th_n ?_
  refine if_t henv rfl (rfl) ?_
  refine wp_seq ?_
  refine region_seq ?_
  revert a
  refine aA rfl rfl ?_
  refine aA rfl rfl ?_
  intro a henv
  refine wpList_nil ?_
  refine th_n ?_
  refine wp_ret ?_
  refine th_r ?_
  refine leave henv (res2 Tryd.results25 (RV.tmp henv rfl) (RV.tmp henv rfl)) ?_
  exact ⟨rfl, hst.below⟩
set_option maxRecDepth 100000 in
set_option maxHeartbeats 8000000 in
theorem gneeds_w {i g : Int} {A0 A1 : Option Addr} {n0 c0 n1 c1 : Nat} {es0 : List IE} {es1 : List Int} {w0 : World} (h0 : (pfRow fJ FJ 5 A0 n0 c0 es0).P w0) (h1 : (pfRow fI FI 1 A1 n1 c1 es1).P w0) (hv : 400 < n0 ∨ 400 < n1) :
    Calls Tryd.prog 7 #[.agg #[.int .i64 i, .int .i64 g, .slice A0 n0 c0, .slice A1 n1 c1]] w0 fun e w' => e = .returned (.bool true) ∧ Below w0.heap.size w0 w' := by
  refine enter Tryd.func7 rfl Tryd.ntmps7 rfl ?_
  intro a henv hst
  have hlen0 := h0.2.1
  have hbig0 := Nat.le_trans h0.1.cap h0.1.big
  unfold maxLen at hbig0
  have hlen1 := h1.2.1
  have hbig1 := Nat.le_trans h1.1.cap h1.1.big
  unfold maxLen at hbig1
  replace hst := hst.argRow h0
  replace hst := hst.argRow h1
  clear h0 h1
  refine wp_seq ?_
  refine region_seq ?_
  refine seq_step rfl (op_box (c := #[.int .i64 i, .int .i64 g, .slice A0 n0 c0, .slice A1 n1 c1]) henv hst rfl rfl rfl ?_)
  clear henv hst a; intro a w52 g51 henv hst
  refine sv (v := .bool false) henv rfl (rn_assign henv rfl) ?_
  clear henv a; intro a henv
  refine wpList_nil ?_
  refine th_n ?_
  refine wp_seq ?_
  refine wp_seq ?_
  refine region_seq ?_
  refine seq_step rfl (op_call henv rfl Tryd.call10 rfl g_live ?_)
  rintro e w53 ⟨rfl, hb⟩
  refine ⟨_, rfl, ?_⟩
  clear henv a; intro a henv
  replace hst := hst.call hb
  clear hb
  refine sv (v := .bool false) henv rfl (rn_un henv rfl rfl) ?_
  clear henv a; intro a henv
  refine wpList_nil ?_
  refine th_n ?_
  refine if_f henv rfl (rfl) ?_
  refine wp_skip ?_
  refine th_n ?_
  refine wp_seq ?_
  refine wp_seq ?_
  refine region_seq ?_
  refine sv (v := .agg #[.int .i64 i, .int .i64 g, .slice A0 n0 c0, .slice A1 n1 c1]) henv rfl (rn_load0 henv ty_anvil_api_Prog rfl (hst.oat (k := 0) rfl) rfl) ?_
  clear henv a; intro a henv
  refine seq_step rfl (op_call henv rfl Tryd.call13 rfl (g_long (i := i) (g := g) (A0 := A0) (n0 := n0) (c0 := c0) (A1 := A1) (n1 := n1) (c1 := c1)) ?_)
  rintro e w54 ⟨rfl, hb⟩
  refine ⟨_, rfl, ?_⟩
  clear henv a; intro a henv
  replace hst := hst.call hb
  clear hb
  rw [show (decide (400 < n0 ∨ 400 < n1)) = true from (decide_eq_true hv)] at henv
  refine wpList_nil ?_
  refine th_n ?_
  refine if_t henv rfl (rfl) ?_
  refine wp_seq ?_
  refine region_seq ?_
  refine sv (v := .bool true) henv rfl (rn_assign henv rfl) ?_
  clear henv a; intro a henv
  refine wpList_nil ?_
  refine th_n ?_
  refine wp_ret ?_
  refine th_r ?_
  refine leave henv (res1 Tryd.results7 (RV.tmp henv rfl)) ?_
  exact ⟨rfl, hst.below⟩
set_option maxRecDepth 100000 in
set_option maxHeartbeats 8000000 in
theorem gneeds_ok {i : Int} {g : Nat} {A0 A1 : Option Addr} {n0 c0 n1 c1 : Nat} {es0 : List IE} {es1 : List Int} {w0 : World} (h0 : (pfRow fJ FJ 5 A0 n0 c0 es0).P w0) (h1 : (pfRow fI FI 1 A1 n1 c1 es1).P w0) (hv : ¬ (400 < n0 ∨ 400 < n1)) (hR : Right i g n0 n1 es0 es1) :
    Calls Tryd.prog 7 #[.agg #[.int .i64 i, .int .i64 (g : Nat), .slice A0 n0 c0, .slice A1 n1 c1]] w0 fun e w' => e = .returned (.bool true) ∧ Below w0.heap.size w0 w' := by
  obtain ⟨hh1, hh2, hh3, hh4, hh5, hh6⟩ := hR.1
  refine enter Tryd.func7 rfl Tryd.ntmps7 rfl ?_
  intro a henv hst
  have hlen0 := h0.2.1
  have hbig0 := Nat.le_trans h0.1.cap h0.1.big
  unfold maxLen at hbig0
  have hlen1 := h1.2.1
  have hbig1 := Nat.le_trans h1.1.cap h1.1.big
  unfold maxLen at hbig1
  replace hst := hst.argRow h0
  replace hst := hst.argRow h1
  clear h0 h1
  have hndl : (ndF es1 es0).1.length = n0 := (ndF_len _ _).trans hlen0
  refine wp_seq ?_
  refine region_seq ?_
  refine seq_step rfl (op_box (c := #[.int .i64 i, .int .i64 (g : Nat), .slice A0 n0 c0, .slice A1 n1 c1]) henv hst rfl rfl rfl ?_)
  clear henv hst a; intro a w52 g51 henv hst
  refine sv (v := .bool false) henv rfl (rn_assign henv rfl) ?_
  clear henv a; intro a henv
  refine wpList_nil ?_
  refine th_n ?_
  refine wp_seq ?_
  refine wp_seq ?_
  refine region_seq ?_
  refine seq_step rfl (op_call henv rfl Tryd.call10 rfl g_live ?_)
  rintro e w53 ⟨rfl, hb⟩
  refine ⟨_, rfl, ?_⟩
  clear henv a; intro a henv
  replace hst := hst.call hb
  clear hb
  refine sv (v := .bool false) henv rfl (rn_un henv rfl rfl) ?_
  clear henv a; intro a henv
  refine wpList_nil ?_
  refine th_n ?_
  refine if_f henv rfl (rfl) ?_
  refine wp_skip ?_
  refine th_n ?_
  refine wp_seq ?_
  refine wp_seq ?_
  refine region_seq ?_
  refine sv (v := .agg #[.int .i64 i, .int .i64 (g : Nat), .slice A0 n0 c0, .slice A1 n1 c1]) henv rfl (rn_load0 henv ty_anvil_api_Prog rfl (hst.oat (k := 0) rfl) rfl) ?_
  clear henv a; intro a henv
  refine seq_step rfl (op_call henv rfl Tryd.call13 rfl (g_long (i := i) (g := (g : Nat)) (A0 := A0) (n0 := n0) (c0 := c0) (A1 := A1) (n1 := n1) (c1 := c1)) ?_)
  rintro e w54 ⟨rfl, hb⟩
  refine ⟨_, rfl, ?_⟩
  clear henv a; intro a henv
  replace hst := hst.call hb
  clear hb
  rw [show (decide (400 < n0 ∨ 400 < n1)) = false from (decide_eq_false hv)] at henv
  refine wpList_nil ?_
  refine th_n ?_
  refine if_f henv rfl (rfl) ?_
  refine wp_skip ?_
  refine th_n ?_
  refine wp_seq ?_
  refine region_seq ?_
  refine sv (v := .agg #[.int .i64 i, .int .i64 (g : Nat), .slice A0 n0 c0, .slice A1 n1 c1]) henv rfl (rn_load0 henv ty_anvil_api_Prog rfl (hst.oat (k := 0) rfl) rfl) ?_
  clear henv a; intro a henv
  refine seq_step rfl (op_call henv rfl Tryd.call26 rfl (g_count (hst.pat (k := 1) rfl) (hst.pat (k := 0) rfl) hR) ?_)
  rintro e w55 ⟨rfl, hb⟩
  refine ⟨_, rfl, ?_⟩
  clear henv a; intro a henv
  replace hst := hst.call hb
  clear hb
  revert a
  refine mA rfl rfl ?_
  refine sA (v := .agg #[.int .i64 ((cnN es0 n0 0 : Nat) : Int), .int .i64 ((cnN es0 n0 1 : Nat) : Int), .int .i64 ((cnN es0 n0 2 : Nat) : Int), .int .i64 ((cnN es0 n0 3 : Nat) : Int), .int .i64 ((cnN es0 n0 4 : Nat) : Int)]) rfl (fun _ henv => rn_extract henv rfl rfl) ?_
  refine sA (v := .int .i64 0) rfl (fun _ henv => rn_extract henv rfl rfl) ?_
  intro a henv
  refine seq_step rfl (op_alloc (c := #[.int .i64 0, .int .i64 0, .int .i64 0, .int .i64 0, .int .i64 0]) henv hst rfl zero_anvil_prog_Counts rfl ?_)
  clear henv hst a; intro a w57 g56 henv hst
  refine seq_step rfl (op_store (k := 0) (c' := #[.int .i64 ((cnN es0 n0 0 : Nat) : Int), .int .i64 ((cnN es0 n0 1 : Nat) : Int), .int .i64 ((cnN es0 n0 2 : Nat) : Int), .int .i64 ((cnN es0 n0 3 : Nat) : Int), .int .i64 ((cnN es0 n0 4 : Nat) : Int)]) henv hst (ty_anvil_prog_Counts.size) rfl rfl rfl rfl (by simp) rfl rfl ?_)
  clear henv hst a; intro a w58 henv hst
  refine sv (v := .int .i64 0) henv rfl (rn_assign henv rfl) ?_
  clear henv a; intro a henv
  refine wpList_nil ?_
  refine th_n ?_
  refine wp_seq ?_
  refine region_seq ?_
  refine sv (v := .agg #[.int .i64 i, .int .i64 (g : Nat), .slice A0 n0 c0, .slice A1 n1 c1]) henv rfl (rn_load0 henv ty_anvil_api_Prog rfl (hst.oat (k := 1) rfl) rfl) ?_
  clear henv a; intro a henv
  refine seq_step rfl (op_call henv rfl Tryd.call27 rfl (g_needed_ok (hst.pat (k := 1) rfl) (hst.pat (k := 0) rfl) hR) ?_)
  rintro e w61 ⟨A59, c60, rfl, hr, hb⟩
  refine ⟨_, rfl, ?_⟩
  clear henv a; intro a henv
  replace hst := hst.freshRd hb hr hndl (fun _ _ _ _ _ q => by obtain ⟨_, _, q⟩ := q; cases q)
  clear hr
  clear hb
  revert a
  refine mA rfl rfl ?_
  refine sA (v := .slice A59 n0 c60) rfl (fun _ henv => rn_extract henv rfl rfl) ?_
  refine sA (v := .int .i64 0) rfl (fun _ henv => rn_extract henv rfl rfl) ?_
  refine aA rfl rfl ?_
  refine aA rfl rfl ?_
  intro a henv
  refine wpList_nil ?_
  refine th_n ?_
  refine wp_seq ?_
  refine region_seq ?_
  refine sv (v := .agg #[.int .i64 i, .int .i64 (g : Nat), .slice A0 n0 c0, .slice A1 n1 c1]) henv rfl (rn_load0 henv ty_anvil_api_Prog rfl (hst.oat (k := 1) rfl) rfl) ?_
  clear henv a; intro a henv
  refine seq_step rfl (op_call henv rfl Tryd.call25 rfl (g_depth (hst.pat (k := 2) rfl) (hst.pat (k := 1) rfl) hR) ?_)
  rintro e w62 ⟨rfl, hb⟩
  refine ⟨_, rfl, ?_⟩
  clear henv a; intro a henv
  replace hst := hst.call hb
  clear hb
  revert a
  refine mA rfl rfl ?_
  refine sA (v := .int .i64 (dpt g es0 es1)) rfl (fun _ henv => rn_extract henv rfl rfl) ?_
  refine sA (v := .int .i64 0) rfl (fun _ henv => rn_extract henv rfl rfl) ?_
  refine aA rfl rfl ?_
  refine aA rfl rfl ?_
  intro a henv
  refine wpList_nil ?_
  refine th_n ?_
  refine wp_seq ?_
  refine region_seq ?_
  refine sv (v := .agg #[.int .i64 i, .int .i64 (g : Nat), .slice A0 n0 c0, .slice A1 n1 c1]) henv rfl (rn_load0 henv ty_anvil_api_Prog rfl (hst.oat (k := 1) rfl) rfl) ?_
  clear henv a; intro a henv
  refine seq_step rfl (op_call henv rfl Tryd.call15 rfl (r_right_ok (hst.pat (k := 2) rfl) (hst.pat (k := 1) rfl) hR) ?_)
  rintro e w63 ⟨rfl, hb⟩
  refine ⟨_, rfl, ?_⟩
  clear henv a; intro a henv
  replace hst := hst.call hb
  clear hb
  refine sv (v := .bool true) henv rfl (rn_assign henv rfl) ?_
  clear henv a; intro a henv
  refine wpList_nil ?_
  refine th_n ?_
  refine wp_seq ?_
  refine wp_seq ?_
  refine region_seq ?_
  revert a
  refine mA rfl rfl ?_
  refine sA (v := .bool false) rfl (fun _ henv => rn_un henv rfl rfl) ?_
  intro a henv
  refine wpList_nil ?_
  refine th_n ?_
  refine if_f henv rfl (rfl) ?_
  refine wp_skip ?_
  refine th_n ?_
  refine wp_seq ?_
  refine region_seq ?_
  refine sv (v := .agg #[.int .i64 i, .int .i64 (g : Nat), .slice A0 n0 c0, .slice A1 n1 c1]) henv rfl (rn_load0 henv ty_anvil_api_Prog rfl (hst.oat (k := 1) rfl) rfl) ?_
  clear henv a; intro a henv
  refine seq_step rfl (op_call henv rfl Tryd.call28 rfl (r_count (hst.pat (k := 2) rfl) (hst.pat (k := 1) rfl) hR) ?_)
  rintro e w64 ⟨rfl, hb⟩
  refine ⟨_, rfl, ?_⟩
  clear henv a; intro a henv
  replace hst := hst.call hb
  clear hb
  refine seq_step rfl (op_alloc (c := #[.int .i64 0, .int .i64 0, .int .i64 0, .int .i64 0, .int .i64 0]) henv hst rfl zero__5_int rfl ?_)
  clear henv hst a; intro a w66 g65 henv hst
  refine seq_step rfl (op_store (k := 0) (c' := #[.int .i64 ((cnN es0 n0 0 : Nat) : Int), .int .i64 ((cnN es0 n0 1 : Nat) : Int), .int .i64 ((cnN es0 n0 2 : Nat) : Int), .int .i64 ((cnN es0 n0 3 : Nat) : Int), .int .i64 ((cnN es0 n0 4 : Nat) : Int)]) henv hst (ty__5_int.size) rfl rfl rfl rfl (by simp) rfl rfl ?_)
  clear henv hst a; intro a w67 henv hst
  refine wpList_nil ?_
  refine th_n ?_
  refine wp_seq ?_
  refine region_seq ?_
  refine sv (v := .agg #[.int .i64 i, .int .i64 (g : Nat), .slice A0 n0 c0, .slice A1 n1 c1]) henv rfl (rn_load0 henv ty_anvil_api_Prog rfl (hst.oat (k := 2) rfl) rfl) ?_
  clear henv a; intro a henv
  refine seq_step rfl (op_call henv rfl Tryd.call29 rfl (r_needed (hst.pat (k := 2) rfl) (hst.pat (k := 1) rfl) hR) ?_)
  rintro e w70 ⟨A68, c69, rfl, hr, hb⟩
  refine ⟨_, rfl, ?_⟩
  clear henv a; intro a henv
  replace hst := hst.freshRd hb hr hndl (fun _ _ _ _ _ q => by obtain ⟨_, _, q⟩ := q; cases q)
  clear hr
  clear hb
  refine sv (v := .slice A68 n0 c69) henv rfl (rn_assign henv rfl) ?_
  clear henv a; intro a henv
  refine wpList_nil ?_
  refine th_n ?_
  refine wp_seq ?_
  refine wp_seq ?_
  refine region_seq ?_
  revert a
  refine sA (v := .agg #[.int .i64 ((cnN es0 n0 0 : Nat) : Int), .int .i64 ((cnN es0 n0 1 : Nat) : Int), .int .i64 ((cnN es0 n0 2 : Nat) : Int), .int .i64 ((cnN es0 n0 3 : Nat) : Int), .int .i64 ((cnN es0 n0 4 : Nat) : Int)]) rfl (fun _ henv => rn_load0 henv ty_anvil_prog_Counts rfl (hst.oat (k := 1) rfl) rfl) ?_
  refine sA (v := .pointer (some ⟨g65, 0, none⟩)) rfl (fun _ henv => rn_idxA (i := 0) henv Tryd.underlying51 (ty_int.size) rfl rfl (by omega) (by omega)) ?_
  refine sA (v := .int .i64 ((cnN es0 n0 0 : Nat) : Int)) rfl (fun _ henv => rn_load1 henv ty_int rfl (hst.oat (k := 0) rfl) rfl) ?_
  refine sA (v := .pointer (some ⟨g65, 1, none⟩)) rfl (fun _ henv => rn_idxA (i := 1) henv Tryd.underlying51 (ty_int.size) rfl rfl (by omega) (by omega)) ?_
  refine sA (v := .int .i64 ((cnN es0 n0 1 : Nat) : Int)) rfl (fun _ henv => rn_load1 henv ty_int rfl (hst.oat (k := 0) rfl) rfl) ?_
  refine sA (v := .pointer (some ⟨g65, 2, none⟩)) rfl (fun _ henv => rn_idxA (i := 2) henv Tryd.underlying51 (ty_int.size) rfl rfl (by omega) (by omega)) ?_
  refine sA (v := .int .i64 ((cnN es0 n0 2 : Nat) : Int)) rfl (fun _ henv => rn_load1 henv ty_int rfl (hst.oat (k := 0) rfl) rfl) ?_
  refine sA (v := .pointer (some ⟨g65, 3, none⟩)) rfl (fun _ henv => rn_idxA (i := 3) henv Tryd.underlying51 (ty_int.size) rfl rfl (by omega) (by omega)) ?_
  refine sA (v := .int .i64 ((cnN es0 n0 3 : Nat) : Int)) rfl (fun _ henv => rn_load1 henv ty_int rfl (hst.oat (k := 0) rfl) rfl) ?_
  refine sA (v := .pointer (some ⟨g65, 4, none⟩)) rfl (fun _ henv => rn_idxA (i := 4) henv Tryd.underlying51 (ty_int.size) rfl rfl (by omega) (by omega)) ?_
  refine sA (v := .int .i64 ((cnN es0 n0 4 : Nat) : Int)) rfl (fun _ henv => rn_load1 henv ty_int rfl (hst.oat (k := 0) rfl) rfl) ?_
  refine sA (v := .agg #[.int .i64 ((cnN es0 n0 0 : Nat) : Int), .int .i64 ((cnN es0 n0 1 : Nat) : Int), .int .i64 ((cnN es0 n0 2 : Nat) : Int), .int .i64 ((cnN es0 n0 3 : Nat) : Int), .int .i64 ((cnN es0 n0 4 : Nat) : Int)]) rfl (fun _ henv => rn_counts henv rfl rfl rfl rfl rfl) ?_
  refine sA (v := .bool (!decide ([((cnN es0 n0 0 : Nat) : Int), ((cnN es0 n0 1 : Nat) : Int), ((cnN es0 n0 2 : Nat) : Int), ((cnN es0 n0 3 : Nat) : Int), ((cnN es0 n0 4 : Nat) : Int)] = [((cnN es0 n0 0 : Nat) : Int), ((cnN es0 n0 1 : Nat) : Int), ((cnN es0 n0 2 : Nat) : Int), ((cnN es0 n0 3 : Nat) : Int), ((cnN es0 n0 4 : Nat) : Int)]))) rfl (fun _ henv => rn_neqI [((cnN es0 n0 0 : Nat) : Int), ((cnN es0 n0 1 : Nat) : Int), ((cnN es0 n0 2 : Nat) : Int), ((cnN es0 n0 3 : Nat) : Int), ((cnN es0 n0 4 : Nat) : Int)] [((cnN es0 n0 0 : Nat) : Int), ((cnN es0 n0 1 : Nat) : Int), ((cnN es0 n0 2 : Nat) : Int), ((cnN es0 n0 3 : Nat) : Int), ((cnN es0 n0 4 : Nat) : Int)] henv countsI rfl rfl rfl rfl) ?_
  intro a henv
  rw [show (!decide ([((cnN es0 n0 0 : Nat) : Int), ((cnN es0 n0 1 : Nat) : Int), ((cnN es0 n0 2 : Nat) : Int), ((cnN es0 n0 3 : Nat) : Int), ((cnN es0 n0 4 : Nat) : Int)] = [((cnN es0 n0 0 : Nat) : Int), ((cnN es0 n0 1 : Nat) : Int), ((cnN es0 n0 2 : Nat) : Int), ((cnN es0 n0 3 : Nat) : Int), ((cnN es0 n0 4 : Nat) : Int)])) = false from (by rw [decide_eq_true rfl]; rfl)] at henv
  revert a
  refine mA rfl rfl ?_
  refine gA (v := .int .i64 (dpt g es0 es1)) rfl rfl rfl rfl (fun _ henv => rn_move henv rfl) ?_
  refine gA (v := .agg #[.int .i64 i, .int .i64 (g : Nat), .slice A0 n0 c0, .slice A1 n1 c1]) rfl rfl rfl rfl (fun _ henv => rn_load0 henv ty_anvil_api_Prog rfl (hst.oat (k := 2) rfl) rfl) ?_
  intro a henv
  refine seq_g rfl henv rfl rfl (op_call henv rfl Tryd.call30 rfl (r_depth (hst.pat (k := 3) rfl) (hst.pat (k := 2) rfl) hR) ?_)
  rintro e w71 ⟨rfl, hb⟩
  refine ⟨_, rfl, ?_⟩
  clear henv a; intro a henv
  replace hst := hst.call hb
  clear hb
  refine seq_g rfl henv rfl rfl (op_val (v := .bool ((dpt g es0 es1) != (dpt g es0 es1))) henv rfl (rn_bin henv rfl rfl rfl) ?_)
  clear henv a; intro a henv
  rw [show ((dpt g es0 es1) != (dpt g es0 es1)) = false from (bne_self_eq_false _)] at henv
  revert a
  refine sA (v := .bool false) rfl (fun _ henv => rn_pick henv rfl rfl) ?_
  refine mA rfl rfl ?_
  refine gA (v := .slice A59 n0 c60) rfl rfl rfl rfl (fun _ henv => rn_move henv rfl) ?_
  refine gA (v := .int .i64 (n0 : Nat)) rfl rfl rfl rfl (fun _ henv => rn_len henv Tryd.underlying48 rfl) ?_
  refine gA (v := .slice A68 n0 c69) rfl rfl rfl rfl (fun _ henv => rn_move henv rfl) ?_
  refine gA (v := .int .i64 (n0 : Nat)) rfl rfl rfl rfl (fun _ henv => rn_len henv Tryd.underlying48 rfl) ?_
  refine gA (v := .bool (((n0 : Nat) : Int) != ((n0 : Nat) : Int))) rfl rfl rfl rfl (fun _ henv => rn_bin henv rfl rfl rfl) ?_
  intro a henv
  rw [show (((n0 : Nat) : Int) != ((n0 : Nat) : Int)) = false from (bne_self_eq_false _)] at henv
  revert a
  refine sA (v := .bool false) rfl (fun _ henv => rn_pick henv rfl rfl) ?_
  refine mA rfl rfl ?_
  refine gA (v := .int .i64 0) rfl rfl rfl rfl (fun _ henv => rn_move henv rfl) ?_
  refine gA (v := .bool false) rfl rfl rfl rfl (fun _ henv => rn_bin henv rfl rfl rfl) ?_
  refine sA (v := .bool false) rfl (fun _ henv => rn_pick henv rfl rfl) ?_
  refine mA rfl rfl ?_
  refine gA (v := .int .i64 0) rfl rfl rfl rfl (fun _ henv => rn_move henv rfl) ?_
  refine gA (v := .bool false) rfl rfl rfl rfl (fun _ henv => rn_bin henv rfl rfl rfl) ?_
  refine sA (v := .bool false) rfl (fun _ henv => rn_pick henv rfl rfl) ?_
  refine mA rfl rfl ?_
  refine gA (v := .int .i64 0) rfl rfl rfl rfl (fun _ henv => rn_move henv rfl) ?_
  refine gA (v := .bool false) rfl rfl rfl rfl (fun _ henv => rn_bin henv rfl rfl rfl) ?_
  refine sA (v := .bool false) rfl (fun _ henv => rn_pick henv rfl rfl) ?_
  refine mA rfl rfl ?_
  intro a henv
  refine seq_g rfl henv rfl rfl (op_call henv rfl Tryd.call10 rfl g_live ?_)
  rintro e w72 ⟨rfl, hb⟩
  refine ⟨_, rfl, ?_⟩
  clear henv a; intro a henv
  replace hst := hst.call hb
  clear hb
  revert a
  refine gA (v := .bool false) rfl rfl rfl rfl (fun _ henv => rn_un henv rfl rfl) ?_
  refine sA (v := .bool false) rfl (fun _ henv => rn_pick henv rfl rfl) ?_
  intro a henv
  refine wpList_nil ?_
  refine th_n ?_
  refine if_f henv rfl (rfl) ?_
  refine wp_skip ?_
  refine th_n ?_
  refine wp_seq ?_
  refine region_seq ?_
  revert a
  refine sA (v := .pointer (some ⟨g51, 0, none⟩)) rfl (fun _ henv => rn_fieldAddr henv fd_anvil_api_Prog_0 (ty_int.size) (by decide) rfl) ?_
  refine sA (v := .int .i64 i) rfl (fun _ henv => rn_load1 henv ty_int rfl (hst.oat (k := 2) rfl) rfl) ?_
  refine sA (v := .pointer (some ⟨g51, 1, none⟩)) rfl (fun _ henv => rn_fieldAddr henv fd_anvil_api_Prog_1 (ty_int.size) (by decide) rfl) ?_
  refine sA (v := .int .i64 (g : Nat)) rfl (fun _ henv => rn_load1 henv ty_int rfl (hst.oat (k := 2) rfl) rfl) ?_
  refine sA (v := .pointer (some ⟨g51, 3, none⟩)) rfl (fun _ henv => rn_fieldAddr henv fd_anvil_api_Prog_3 (ty__int.size) (by decide) rfl) ?_
  refine sA (v := .slice A1 n1 c1) rfl (fun _ henv => rn_load1 henv ty__int rfl (hst.oat (k := 2) rfl) rfl) ?_
  refine sA (v := .agg #[.int .i64 i, .int .i64 (g : Nat), .slice none 0 0, .slice A1 n1 c1]) rfl (fun _ henv => rn_prog013 henv rfl rfl rfl) ?_
  intro a henv
  refine seq_step rfl (op_alloc (c := #[.int .i64 0, .int .i64 0, .slice none 0 0, .slice none 0 0]) henv hst rfl zero_anvil_api_Prog rfl ?_)
  clear henv hst a; intro a w74 g73 henv hst
  refine seq_step rfl (op_store (k := 0) (c' := #[.int .i64 i, .int .i64 (g : Nat), .slice none 0 0, .slice A1 n1 c1]) henv hst (ty_anvil_api_Prog.size) rfl rfl rfl rfl (by simp) rfl rfl ?_)
  clear henv hst a; intro a w75 henv hst
  refine wpList_nil ?_
  refine th_n ?_
  refine wp_seq ?_
  refine wp_seq ?_
  replace hst := (hst.addRowS notU 37 5)
  replace hst : St w0 _ [rowS notU 37 5 none 0 0 (fl fJ ([])), bk g73 #[.int .i64 i, .int .i64 (g : Nat), .slice none 0 0, .slice A1 n1 c1] 25, bk g65 #[.int .i64 ((cnN es0 n0 0 : Nat) : Int), .int .i64 ((cnN es0 n0 1 : Nat) : Int), .int .i64 ((cnN es0 n0 2 : Nat) : Int), .int .i64 ((cnN es0 n0 3 : Nat) : Int), .int .i64 ((cnN es0 n0 4 : Nat) : Int)] 51, bk g56 #[.int .i64 ((cnN es0 n0 0 : Nat) : Int), .int .i64 ((cnN es0 n0 1 : Nat) : Int), .int .i64 ((cnN es0 n0 2 : Nat) : Int), .int .i64 ((cnN es0 n0 3 : Nat) : Int), .int .i64 ((cnN es0 n0 4 : Nat) : Int)] 45, bk g51 #[.int .i64 i, .int .i64 (g : Nat), .slice A0 n0 c0, .slice A1 n1 c1] 25] [pfRow fO FO 1 A68 n0 c69 ((ndF es1 es0).1), pfRow fO FO 1 A59 n0 c60 ((ndF es1 es0).1), pfRow fI FI 1 A1 n1 c1 es1, pfRow fJ FJ 5 A0 n0 c0 es0] := hst
  refine region_seq ?_
  refine sv (v := .int .i64 0) henv rfl (rn_assign henv rfl) ?_
  clear henv a; intro a henv
  refine wpList_nil ?_
  refine th_n ?_
  refine wp_block ?_
  refine wp_loop_ghost (fun mz a w => ∃ j : Nat, ∃ Bq : Option Addr, ∃ nq : Nat, ∃ dq : Nat, ∃ qs : List IE, n0 - j = mz ∧ Env 175 a [(1, .pointer (some ⟨g51, 0, none⟩)), (5, .slice A59 n0 c60), (11, .slice A68 n0 c69), (12, .pointer (some ⟨g73, 0, none⟩)), (13, .int .i64 (j : Nat))] ∧ St w0 w [rowS notU 37 5 Bq nq dq (fl fJ qs), bk g73 #[.int .i64 i, .int .i64 (g : Nat), .slice Bq nq dq, .slice A1 n1 c1] 25, bk g51 #[.int .i64 i, .int .i64 (g : Nat), .slice A0 n0 c0, .slice A1 n1 c1] 25] [pfRow fO FO 1 A68 n0 c69 ((ndF es1 es0).1), pfRow fO FO 1 A59 n0 c60 ((ndF es1 es0).1), pfRow fI FI 1 A1 n1 c1 es1, pfRow fJ FJ 5 A0 n0 c0 es0] ∧ j ≤ n0 ∧ qs ++ kpF es1 (es0.drop j) = (kpF es1 es0) ∧ qs.length = nq ∧ nq ≤ j) _ ⟨0, none, 0, 0, [], rfl, henv.sub ⟨rfl, rfl, rfl, rfl, rfl, trivial⟩, hst.pick [0, 1, 4] [0, 1, 2, 3] (by decide), (Nat.zero_le _), rfl, rfl, (Nat.le_refl _)⟩ ?_
  clear henv hst a
  rintro mz a w76 ⟨j, Bq, nq, dq, qs, rfl, henv, hst, hj, hqs, hql, hnq⟩
  refine wp_seq ?_
  refine wp_seq ?_
  refine region_seq ?_
  revert a
  refine mA rfl rfl ?_
  refine mA rfl rfl ?_
  refine sA (v := .int .i64 (n0 : Nat)) rfl (fun _ henv => rn_len henv Tryd.underlying48 rfl) ?_
  refine sA (v := .bool (decide (((j : Nat) : Int) < ((n0 : Nat) : Int)))) rfl (fun _ henv => rn_bin henv rfl rfl rfl) ?_
  intro a henv
  refine wpList_nil ?_
  refine th_n ?_
  refine if_split henv rfl (fun hc77 => ?_) (fun hc77 => ?_)
  · have hlt : j < n0 := by have := of_decide_eq_true hc77; omega
    obtain ⟨⟨a1, a2, a3, a4, a5⟩, he0⟩ : ∃ e, es0[j]? = some e := ⟨_, List.getElem?_eq_getElem (by omega)⟩
    obtain ⟨bt, hbf⟩ : ∃ bt, (ndF es1 (es0.drop (j + 1))).2 a2 = bt := ⟨_, rfl⟩
    have hbe : (ndF es1 es0).1[j]? = some bt := by rw [nd_at he0, ← hbf]
    refine wp_skip ?_
    refine th_n ?_
    refine wp_seq ?_
    refine wp_block ?_
    refine wp_seq ?_
    refine wp_seq ?_
    refine region_any (n := 9) (Sk [rowS notU 37 5 Bq nq dq (fl fJ qs), bk g73 #[.int .i64 i, .int .i64 (g : Nat), .slice Bq nq dq, .slice A1 n1 c1] 25, bk g51 #[.int .i64 i, .int .i64 (g : Nat), .slice A0 n0 c0, .slice A1 n1 c1] 25] [pfRow fO FO 1 A68 n0 c69 ((ndF es1 es0).1), pfRow fO FO 1 A59 n0 c60 ((ndF es1 es0).1), pfRow fI FI 1 A1 n1 c1 es1, pfRow fJ FJ 5 A0 n0 c0 es0] [] []) mixed rfl henv hst ?_
    clear henv hst; intro w78 henv hst
    refine tM (i := 0) [2, 3, 8] rfl (by kernel_rfl) (fun _ _ _ h => h) henv rfl rfl ?_
    clear henv a; intro a henv
    refine tM (i := 1) [2, 3, 8] rfl (by kernel_rfl) (fun _ _ _ h => h) henv rfl rfl ?_
    clear henv a; intro a henv
    refine sAny_take (i := 2) [3, 8] (fun w' => (pfRow fO FO 1 A59 n0 c60 ((ndF es1 es0).1)).P w') (v := .pointer (some ⟨ab A59, ao A59 + j * 1, none⟩)) rfl (by kernel_rfl) (fun _ _ _ h => h) (fun _ _ _ hS => hS.1.pat (k := 1) rfl) henv rfl (hst.pat (k := 1) rfl) (fun w' hg => rn_idxR (i := j) henv Tryd.underlying48 (ty_bool.size) rfl rfl (by omega) rfl (show (pfRow fO FO 1 A59 n0 c60 ((ndF es1 es0).1)).P _ from hg).1) ?_
    clear henv a; intro a henv
    refine sAny_take (i := 3) [8] (fun w' => (pfRow fO FO 1 A59 n0 c60 ((ndF es1 es0).1)).P w') (v := .bool bt) rfl (by kernel_rfl) (fun _ _ _ h => h) (fun _ _ _ hS => hS.1.pat (k := 1) rfl) henv rfl (hst.pat (k := 1) rfl) (fun w' hg => rn_loadE1 (i := j) (j := 0) (e := bt) henv ty_bool rfl rfl fO_len (by decide) (show (pfRow fO FO 1 A59 n0 c60 ((ndF es1 es0).1)).P _ from hg).1 (by omega) hbe rfl) ?_
    clear henv a; intro a henv
    refine tM (i := 4) [6, 7, 8] rfl (by kernel_rfl) (fun _ _ _ h => h) henv rfl rfl ?_
    clear henv a; intro a henv
    refine tM (i := 5) [6, 7, 8] rfl (by kernel_rfl) (fun _ _ _ h => h) henv rfl rfl ?_
    clear henv a; intro a henv
    refine sAny_take (i := 6) [7, 8] (fun w' => (pfRow fO FO 1 A68 n0 c69 ((ndF es1 es0).1)).P w') (v := .pointer (some ⟨ab A68, ao A68 + j * 1, none⟩)) rfl (by kernel_rfl) (fun _ _ _ h => h) (fun _ _ _ hS => hS.1.pat (k := 0) rfl) henv rfl (hst.pat (k := 0) rfl) (fun w' hg => rn_idxR (i := j) henv Tryd.underlying48 (ty_bool.size) rfl rfl (by omega) rfl (show (pfRow fO FO 1 A68 n0 c69 ((ndF es1 es0).1)).P _ from hg).1) ?_
    clear henv a; intro a henv
    refine sAny_take (i := 7) [8] (fun w' => (pfRow fO FO 1 A68 n0 c69 ((ndF es1 es0).1)).P w') (v := .bool bt) rfl (by kernel_rfl) (fun _ _ _ h => h) (fun _ _ _ hS => hS.1.pat (k := 0) rfl) henv rfl (hst.pat (k := 0) rfl) (fun w' hg => rn_loadE1 (i := j) (j := 0) (e := bt) henv ty_bool rfl rfl fO_len (by decide) (show (pfRow fO FO 1 A68 n0 c69 ((ndF es1 es0).1)).P _ from hg).1 (by omega) hbe rfl) ?_
    clear henv a; intro a henv
    refine tA (i := 8) [] (v := .bool (!(bt == bt))) rfl (by kernel_rfl) (fun _ _ _ h => h) henv rfl (fun _ => rn_neqb henv Tryd.underlying4 rfl rfl) ?_
    clear henv a; intro a henv
    rw [show (!(bt == bt)) = false from (by cases bt <;> rfl)] at henv
    refine sAny_done (by kernel_rfl) ?_ _
    refine th_n ?_
    refine if_f henv rfl (rfl) ?_
    refine wp_skip ?_
    refine th_n ?_
    refine wp_seq ?_
    refine region_seq ?_
    revert a
    refine mA rfl rfl ?_
    refine mA rfl rfl ?_
    refine sA (v := .pointer (some ⟨ab A59, ao A59 + j * 1, none⟩)) rfl (fun _ henv => rn_idxR (i := j) henv Tryd.underlying48 (ty_bool.size) rfl rfl (by omega) rfl (show (pfRow fO FO 1 A59 n0 c60 ((ndF es1 es0).1)).P _ from (hst.pat (k := 1) rfl)).1) ?_
    refine sA (v := .bool bt) rfl (fun _ henv => rn_loadE1 (i := j) (j := 0) (e := bt) henv ty_bool rfl rfl fO_len (by decide) (show (pfRow fO FO 1 A59 n0 c60 ((ndF es1 es0).1)).P _ from (hst.pat (k := 1) rfl)).1 (by omega) hbe rfl) ?_
    intro a henv
    refine wpList_nil ?_
    refine th_n ?_
    refine if_split henv rfl (fun hc79 => ?_) (fun hc79 => ?_)
    · obtain rfl : bt = true := hc79
      refine region_any (n := 11) (Sk [bk g51 #[.int .i64 i, .int .i64 (g : Nat), .slice A0 n0 c0, .slice A1 n1 c1] 25] [pfRow fO FO 1 A68 n0 c69 ((ndF es1 es0).1), pfRow fO FO 1 A59 n0 c60 ((ndF es1 es0).1), pfRow fI FI 1 A1 n1 c1 es1, pfRow fJ FJ 5 A0 n0 c0 es0] [10] [bk g73 #[.int .i64 i, .int .i64 (g : Nat), .slice Bq nq dq, .slice A1 n1 c1] 25]) mixed rfl henv hst ?_
      clear henv hst; intro w80 henv hst
      refine tA (i := 0) [1, 8, 9, 10] (v := .pointer (some ⟨g73, 2, none⟩)) rfl (by kernel_rfl) (fun _ _ _ h => h) henv rfl (fun _ => rn_fieldAddr henv fd_anvil_api_Prog_2 (ty__api_Instr.size) (by decide) rfl) ?_
      clear henv a; intro a henv
      refine sAny_take (i := 1) [8, 9, 10] (fun w' => w'.heap[g73]? = some (.cells #[.int .i64 i, .int .i64 (g : Nat), .slice Bq nq dq, .slice A1 n1 c1] 25 (0, 0))) (v := .slice Bq nq dq) rfl (by kernel_rfl) (fun _ _ _ h => h) (fun _ _ hj hS => (hS.two rfl hj).oat (k := 0) rfl) henv rfl (hst.oat (k := 1) rfl) (fun w' hg => rn_load1 henv ty__api_Instr rfl hg rfl) ?_
      clear henv a; intro a henv
      refine tA (i := 2) [3, 5, 6, 7, 8, 9, 10] (v := .pointer (some ⟨g51, 2, none⟩)) rfl (by kernel_rfl) (fun _ _ _ h => h) henv rfl (fun _ => rn_fieldAddr henv fd_anvil_api_Prog_2 (ty__api_Instr.size) (by decide) rfl) ?_
      clear henv a; intro a henv
      refine sAny_take (i := 3) [5, 6, 7, 8, 9, 10] (fun w' => w'.heap[g51]? = some (.cells #[.int .i64 i, .int .i64 (g : Nat), .slice A0 n0 c0, .slice A1 n1 c1] 25 (0, 0))) (v := .slice A0 n0 c0) rfl (by kernel_rfl) (fun _ _ _ h => h) (fun _ _ _ hS => hS.1.oat (k := 0) rfl) henv rfl (hst.oat (k := 2) rfl) (fun w' hg => rn_load1 henv ty__api_Instr rfl hg rfl) ?_
      clear henv a; intro a henv
      refine tM (i := 4) (rg 5 6) rfl (by kernel_rfl) (fun _ _ _ h => h) henv rfl rfl ?_
      clear henv a; intro a henv
      refine sAny_take (i := 5) [6, 7, 8, 9, 10] (fun w' => (pfRow fJ FJ 5 A0 n0 c0 es0).P w') (v := .pointer (some ⟨ab A0, ao A0 + j * 5, none⟩)) rfl (by kernel_rfl) (fun _ _ _ h => h) (fun _ _ _ hS => hS.1.pat (k := 3) rfl) henv rfl (hst.pat (k := 3) rfl) (fun w' hg => rn_idxR (i := j) henv Tryd.underlying22 (ty_anvil_api_Instr.size) rfl rfl (by omega) rfl (show (pfRow fJ FJ 5 A0 n0 c0 es0).P _ from hg).1) ?_
      clear henv a; intro a henv
      refine sAny_take (i := 6) [7, 8, 9, 10] (fun w' => (pfRow fJ FJ 5 A0 n0 c0 es0).P w') (v := .agg #[.int .i64 a1, .int .i64 a2, .int .i64 a3, .int .i64 a4, .int .i64 a5]) rfl (by kernel_rfl) (fun _ _ _ h => h) (fun _ _ _ hS => hS.1.pat (k := 3) rfl) henv rfl (hst.pat (k := 3) rfl) (fun w' hg => rn_loadE (i := j) (e := (a1, a2, a3, a4, a5)) henv ty_anvil_api_Instr rfl rfl fJ_len (show (pfRow fJ FJ 5 A0 n0 c0 es0).P _ from hg).1 (by omega) he0 rfl) ?_
      clear henv a; intro a henv
      refine sAny_one (i := 7) (by kernel_rfl) rfl rfl (op_buildSlice (z := 5) (pv := #[(0, .agg #[.int .i64 a1, .int .i64 a2, .int .i64 a3, .int .i64 a4, .int .i64 a5])]) (c := #[.int .i64 a1, .int .i64 a2, .int .i64 a3, .int .i64 a4, .int .i64 a5]) henv hst rfl Tryd.underlying22 (ty_anvil_api_Instr.size) zero_anvil_api_Instr (by decide) (by decide) rfl (by kernel_rfl) ?_)
      clear henv hst a; intro a w82 g81 henv hst
      refine ⟨.inr ⟨hst.kn.pick [3] (rg 0 4), .inr (hst.kn.pick [2] [])⟩, ?_⟩
      refine sAny_one (i := 8) (by kernel_rfl) rfl rfl (op_appendS (k := 1) (j := 0) henv hst rfl Tryd.underlying22 inf_anvil_api_Instr rfl rfl rfl rfl rfl rfl rfl rfl rfl rfl rfl (by unfold maxLen; omega) (by omega) ?_)
      clear henv hst a; intro a w85 g83 c84 henv hst
      rw [show fl fJ qs ++ (#[.int .i64 a1, .int .i64 a2, .int .i64 a3, .int .i64 a4, .int .i64 a5] : Array Value).toList = fl fJ (qs ++ [((a1, a2, a3, a4, a5) : IE)]) from fl_snoc (f := fJ) qs ((a1, a2, a3, a4, a5) : IE)] at hst
      refine ⟨.inr ⟨hst.kn.pick [3] (rg 0 4), .inr (hst.kn.pick [2] [])⟩, ?_⟩
      refine tA (i := 9) [10] (v := .pointer (some ⟨g73, 2, none⟩)) rfl (by kernel_rfl) (fun _ _ _ h => h) henv rfl (fun _ => rn_fieldAddr henv fd_anvil_api_Prog_2 (ty__api_Instr.size) (by decide) rfl) ?_
      clear henv a; intro a henv
      refine sAny_one (i := 10) (by kernel_rfl) rfl rfl (op_store1 (k := 2) (c' := #[.int .i64 i, .int .i64 (g : Nat), .slice (some ⟨g83, 0, none⟩) (nq + 1) c84, .slice A1 n1 c1]) henv hst (ty__api_Instr.size) rfl rfl rfl (by simp) rfl rfl ?_)
      clear henv hst a; intro a w86 henv hst
      refine ⟨.inr ⟨hst.kn.pick [3] (rg 0 4), .inl rfl⟩, ?_⟩
      refine sAny_done (by kernel_rfl) ?_ _
      refine bl_n (th_n ?_)
      refine region_seq ?_
      revert a
      refine mA rfl rfl ?_
      refine sA (v := .int .i64 (j + 1 : Nat)) rfl (fun _ henv => rn_add henv rfl rfl (by rw [IntWalk.i64_in _ (by omega)]; omega)) ?_
      refine aA rfl rfl ?_
      intro a henv
      refine wpList_nil ?_
      exact th_n ⟨_, (by omega), ⟨j + 1, (some ⟨g83, 0, none⟩), (nq + 1), c84, (qs ++ [((a1, a2, a3, a4, a5) : IE)]), rfl, henv.sub ⟨rfl, rfl, rfl, rfl, rfl, trivial⟩, hst.pick [1, 2, 3] [0, 1, 2, 3] (by decide), (by omega), (kp_yes hqs he0 hbf), (by rw [List.length_append, hql]; rfl), (by omega)⟩⟩
    · obtain rfl : bt = false := hc79
      refine wp_skip ?_
      refine bl_n (th_n ?_)
      refine region_seq ?_
      revert a
      refine mA rfl rfl ?_
      refine sA (v := .int .i64 (j + 1 : Nat)) rfl (fun _ henv => rn_add henv rfl rfl (by rw [IntWalk.i64_in _ (by omega)]; omega)) ?_
      refine aA rfl rfl ?_
      intro a henv
      refine wpList_nil ?_
      exact th_n ⟨_, (by omega), ⟨j + 1, Bq, nq, dq, qs, rfl, henv.sub ⟨rfl, rfl, rfl, rfl, rfl, trivial⟩, hst.pick [0, 1, 2] [0, 1, 2, 3] (by decide), (by omega), (kp_no hqs he0 hbf), hql, (by omega)⟩⟩
  · have hjn : n0 ≤ j := by have := of_decide_eq_false hc77; omega
    rw [List.drop_eq_nil_of_le (by omega), show kpF es1 [] = [] from rfl, List.append_nil] at hqs
    subst hqs
    have hRq : Right i g nq n1 (kpF es1 es0) es1 := hql ▸ right_kp hR hlen0
    have hndk : (ndF es1 (kpF es1 es0)).1.length = nq := (ndF_len _ _).trans hql
    refine wp_exit ?_
    refine th_x (th_x (bl_x (th_n ?_)))
    refine wp_seq ?_
    refine region_seq ?_
    refine sv (v := .agg #[.int .i64 i, .int .i64 (g : Nat), .slice Bq nq dq, .slice A1 n1 c1]) henv rfl (rn_load0 henv ty_anvil_api_Prog rfl (hst.oat (k := 1) rfl) rfl) ?_
    clear henv a; intro a henv
    refine seq_step rfl (op_call henv rfl Tryd.call27 rfl (g_needed_ok (g := g) ⟨rowS_rd (hst.owns (k := 0) rfl), hql, fun _ _ => trivial⟩ (hst.pat (k := 2) rfl) hRq) ?_)
    rintro e w89 ⟨A87, c88, rfl, hr, hb⟩
    refine ⟨_, rfl, ?_⟩
    clear henv a; intro a henv
    replace hst := hst.freshRd hb hr hndk (fun _ _ _ _ _ q => by obtain ⟨_, _, q⟩ := q; cases q)
    clear hr
    clear hb
    revert a
    refine mA rfl rfl ?_
    refine sA (v := .slice A87 nq c88) rfl (fun _ henv => rn_extract henv rfl rfl) ?_
    refine sA (v := .int .i64 0) rfl (fun _ henv => rn_extract henv rfl rfl) ?_
    refine aA rfl rfl ?_
    refine aA rfl rfl ?_
    intro a henv
    refine wpList_nil ?_
    refine th_n ?_
    refine wp_seq ?_
    refine wp_seq ?_
    refine region_seq ?_
    revert a
    refine mA rfl rfl ?_
    refine sA (v := .bool false) rfl (fun _ henv => rn_bin henv rfl rfl rfl) ?_
    refine mA rfl rfl ?_
    refine gA (v := .slice A87 nq c88) rfl rfl rfl rfl (fun _ henv => rn_move henv rfl) ?_
    refine gA (v := .int .i64 (nq : Nat)) rfl rfl rfl rfl (fun _ henv => rn_len henv Tryd.underlying48 rfl) ?_
    refine gA (v := .pointer (some ⟨g73, 2, none⟩)) rfl rfl rfl rfl (fun _ henv => rn_fieldAddr henv fd_anvil_api_Prog_2 (ty__api_Instr.size) (by decide) rfl) ?_
    refine gA (v := .slice Bq nq dq) rfl rfl rfl rfl (fun _ henv => rn_load1 henv ty__api_Instr rfl (hst.oat (k := 1) rfl) rfl) ?_
    refine gA (v := .int .i64 (nq : Nat)) rfl rfl rfl rfl (fun _ henv => rn_len henv Tryd.underlying22 rfl) ?_
    refine gA (v := .bool (((nq : Nat) : Int) != ((nq : Nat) : Int))) rfl rfl rfl rfl (fun _ henv => rn_bin henv rfl rfl rfl) ?_
    intro a henv
    rw [show (((nq : Nat) : Int) != ((nq : Nat) : Int)) = false from (bne_self_eq_false _)] at henv
    refine sv (v := .bool false) henv rfl (rn_pick henv rfl rfl) ?_
    clear henv a; intro a henv
    refine wpList_nil ?_
    refine th_n ?_
    refine if_f henv rfl (rfl) ?_
    refine wp_skip ?_
    refine th_n ?_
    refine wp_seq ?_
    refine wp_seq ?_
    refine region_seq ?_
    refine sv (v := .int .i64 0) henv rfl (rn_assign henv rfl) ?_
    clear henv a; intro a henv
    refine wpList_nil ?_
    refine th_n ?_
    refine wp_block ?_
    refine wp_loop_ghost (fun mz a w => ∃ m : Nat, nq - m = mz ∧ Env 175 a [(14, .slice A87 nq c88), (16, .int .i64 (m : Nat))] ∧ St w0 w [rowS notU 37 5 Bq nq dq (fl fJ (kpF es1 es0)), bk g73 #[.int .i64 i, .int .i64 (g : Nat), .slice Bq nq dq, .slice A1 n1 c1] 25, bk g51 #[.int .i64 i, .int .i64 (g : Nat), .slice A0 n0 c0, .slice A1 n1 c1] 25] [pfRow fO FO 1 A87 nq c88 ((ndF es1 (kpF es1 es0)).1), pfRow fO FO 1 A68 n0 c69 ((ndF es1 es0).1), pfRow fO FO 1 A59 n0 c60 ((ndF es1 es0).1), pfRow fI FI 1 A1 n1 c1 es1, pfRow fJ FJ 5 A0 n0 c0 es0] ∧ m ≤ nq) _ ⟨0, rfl, henv.sub ⟨rfl, rfl, trivial⟩, hst.pick [0, 1, 2] [0, 1, 2, 3, 4] (by decide), (Nat.zero_le _)⟩ ?_
    clear henv hst a
    rintro mz a w90 ⟨m, rfl, henv, hst, hm⟩
    refine wp_seq ?_
    refine wp_seq ?_
    refine region_seq ?_
    revert a
    refine mA rfl rfl ?_
    refine mA rfl rfl ?_
    refine sA (v := .int .i64 (nq : Nat)) rfl (fun _ henv => rn_len henv Tryd.underlying48 rfl) ?_
    refine sA (v := .bool (decide (((m : Nat) : Int) < ((nq : Nat) : Int)))) rfl (fun _ henv => rn_bin henv rfl rfl rfl) ?_
    intro a henv
    refine wpList_nil ?_
    refine th_n ?_
    refine if_split henv rfl (fun hc91 => ?_) (fun hc91 => ?_)
    · have hlm : m < nq := by have := of_decide_eq_true hc91; omega
      have hbm : (ndF es1 (kpF es1 es0)).1[m]? = some true := by rw [nd_kp1, List.getElem?_replicate, if_pos (by omega)]
      refine wp_skip ?_
      refine th_n ?_
      refine wp_seq ?_
      refine wp_block ?_
      refine wp_seq ?_
      refine region_seq ?_
      revert a
      refine mA rfl rfl ?_
      refine mA rfl rfl ?_
      refine sA (v := .pointer (some ⟨ab A87, ao A87 + m * 1, none⟩)) rfl (fun _ henv => rn_idxR (i := m) henv Tryd.underlying48 (ty_bool.size) rfl rfl (by omega) rfl (show (pfRow fO FO 1 A87 nq c88 ((ndF es1 (kpF es1 es0)).1)).P _ from (hst.pat (k := 0) rfl)).1) ?_
      refine sA (v := .bool true) rfl (fun _ henv => rn_loadE1 (i := m) (j := 0) (e := true) henv ty_bool rfl rfl fO_len (by decide) (show (pfRow fO FO 1 A87 nq c88 ((ndF es1 (kpF es1 es0)).1)).P _ from (hst.pat (k := 0) rfl)).1 (by omega) hbm rfl) ?_
      refine sA (v := .bool false) rfl (fun _ henv => rn_un henv rfl rfl) ?_
      intro a henv
      refine wpList_nil ?_
      refine th_n ?_
      refine if_f henv rfl (rfl) ?_
      refine wp_skip ?_
      refine bl_n (th_n ?_)
      refine region_seq ?_
      revert a
      refine mA rfl rfl ?_
      refine sA (v := .int .i64 (m + 1 : Nat)) rfl (fun _ henv => rn_add henv rfl rfl (by rw [IntWalk.i64_in _ (by omega)]; omega)) ?_
      refine aA rfl rfl ?_
      intro a henv
      refine wpList_nil ?_
      exact th_n ⟨_, (by omega), ⟨m + 1, rfl, henv.sub ⟨rfl, rfl, trivial⟩, hst.pick [0, 1, 2] [0, 1, 2, 3, 4] (by decide), (by omega)⟩⟩
    · refine wp_exit ?_
      refine th_x (th_x (bl_x (th_n ?_)))
      refine wp_seq ?_
      refine region_seq ?_
      refine sv (v := .bool true) henv rfl (rn_assign henv rfl) ?_
      clear henv a; intro a henv
      refine wpList_nil ?_
      refine th_n ?_
      refine wp_ret ?_
      refine leave henv (res1 Tryd.results7 (RV.tmp henv rfl)) ?_
      exact ⟨rfl, hst.below⟩
set_option maxRecDepth 100000 in
set_option maxHeartbeats 8000000 in
theorem gneeds_bad {i g : Int} {A0 A1 : Option Addr} {n0 c0 n1 c1 : Nat} {es0 : List IE} {es1 : List Int} {w0 : World} (h0 : (pfRow fJ FJ 5 A0 n0 c0 es0).P w0) (h1 : (pfRow fI FI 1 A1 n1 c1 es1).P w0) {kk : Int} (hv : ¬ (400 < n0 ∨ 400 < n1)) (hR : Wrong i g n0 n1 es0 es1 kk) :
    Calls Tryd.prog 7 #[.agg #[.int .i64 i, .int .i64 g, .slice A0 n0 c0, .slice A1 n1 c1]] w0 fun e w' => e = .returned (.bool true) ∧ Below w0.heap.size w0 w' := by
  refine enter Tryd.func7 rfl Tryd.ntmps7 rfl ?_
  intro a henv hst
  have hlen0 := h0.2.1
  have hbig0 := Nat.le_trans h0.1.cap h0.1.big
  unfold maxLen at hbig0
  have hlen1 := h1.2.1
  have hbig1 := Nat.le_trans h1.1.cap h1.1.big
  unfold maxLen at hbig1
  replace hst := hst.argRow h0
  replace hst := hst.argRow h1
  clear h0 h1
  refine wp_seq ?_
  refine region_seq ?_
  refine seq_step rfl (op_box (c := #[.int .i64 i, .int .i64 g, .slice A0 n0 c0, .slice A1 n1 c1]) henv hst rfl rfl rfl ?_)
  clear henv hst a; intro a w52 g51 henv hst
  refine sv (v := .bool false) henv rfl (rn_assign henv rfl) ?_
  clear henv a; intro a henv
  refine wpList_nil ?_
  refine th_n ?_
  refine wp_seq ?_
  refine wp_seq ?_
  refine region_seq ?_
  refine seq_step rfl (op_call henv rfl Tryd.call10 rfl g_live ?_)
  rintro e w53 ⟨rfl, hb⟩
  refine ⟨_, rfl, ?_⟩
  clear henv a; intro a henv
  replace hst := hst.call hb
  clear hb
  refine sv (v := .bool false) henv rfl (rn_un henv rfl rfl) ?_
  clear henv a; intro a henv
  refine wpList_nil ?_
  refine th_n ?_
  refine if_f henv rfl (rfl) ?_
  refine wp_skip ?_
  refine th_n ?_
  refine wp_seq ?_
  refine wp_seq ?_
  refine region_seq ?_
  refine sv (v := .agg #[.int .i64 i, .int .i64 g, .slice A0 n0 c0, .slice A1 n1 c1]) henv rfl (rn_load0 henv ty_anvil_api_Prog rfl (hst.oat (k := 0) rfl) rfl) ?_
  clear henv a; intro a henv
  refine seq_step rfl (op_call henv rfl Tryd.call13 rfl (g_long (i := i) (g := g) (A0 := A0) (n0 := n0) (c0 := c0) (A1 := A1) (n1 := n1) (c1 := c1)) ?_)
  rintro e w54 ⟨rfl, hb⟩
  refine ⟨_, rfl, ?_⟩
  clear henv a; intro a henv
  replace hst := hst.call hb
  clear hb
  rw [show (decide (400 < n0 ∨ 400 < n1)) = false from (decide_eq_false hv)] at henv
  refine wpList_nil ?_
  refine th_n ?_
  refine if_f henv rfl (rfl) ?_
  refine wp_skip ?_
  refine th_n ?_
  refine wp_seq ?_
  refine region_seq ?_
  refine sv (v := .agg #[.int .i64 i, .int .i64 g, .slice A0 n0 c0, .slice A1 n1 c1]) henv rfl (rn_load0 henv ty_anvil_api_Prog rfl (hst.oat (k := 0) rfl) rfl) ?_
  clear henv a; intro a henv
  refine seq_step rfl (op_call henv rfl Tryd.call26 rfl (g_count_bad (hst.pat (k := 1) rfl) (hst.pat (k := 0) rfl) hR) ?_)
  rintro e w55 ⟨rfl, hb⟩
  refine ⟨_, rfl, ?_⟩
  clear henv a; intro a henv
  replace hst := hst.call hb
  clear hb
  revert a
  refine mA rfl rfl ?_
  refine sA (v := .agg #[.int .i64 0, .int .i64 0, .int .i64 0, .int .i64 0, .int .i64 0]) rfl (fun _ henv => rn_extract henv rfl rfl) ?_
  refine sA (v := .int .i64 80) rfl (fun _ henv => rn_extract henv rfl rfl) ?_
  intro a henv
  refine seq_step rfl (op_alloc (c := #[.int .i64 0, .int .i64 0, .int .i64 0, .int .i64 0, .int .i64 0]) henv hst rfl zero_anvil_prog_Counts rfl ?_)
  clear henv hst a; intro a w57 g56 henv hst
  refine seq_step rfl (op_store (k := 0) (c' := #[.int .i64 0, .int .i64 0, .int .i64 0, .int .i64 0, .int .i64 0]) henv hst (ty_anvil_prog_Counts.size) rfl rfl rfl rfl (by simp) rfl rfl ?_)
  clear henv hst a; intro a w58 henv hst
  refine sv (v := .int .i64 80) henv rfl (rn_assign henv rfl) ?_
  clear henv a; intro a henv
  refine wpList_nil ?_
  refine th_n ?_
  refine wp_seq ?_
  refine region_seq ?_
  refine sv (v := .agg #[.int .i64 i, .int .i64 g, .slice A0 n0 c0, .slice A1 n1 c1]) henv rfl (rn_load0 henv ty_anvil_api_Prog rfl (hst.oat (k := 1) rfl) rfl) ?_
  clear henv a; intro a henv
  refine seq_step rfl (op_call henv rfl Tryd.call27 rfl (g_needed_bad (hst.pat (k := 1) rfl) (hst.pat (k := 0) rfl) hR) ?_)
  rintro e w59 ⟨rfl, hb⟩
  refine ⟨_, rfl, ?_⟩
  clear henv a; intro a henv
  replace hst := hst.call hb
  clear hb
  revert a
  refine mA rfl rfl ?_
  refine sA (v := .slice none 0 0) rfl (fun _ henv => rn_extract henv rfl rfl) ?_
  refine sA (v := .int .i64 80) rfl (fun _ henv => rn_extract henv rfl rfl) ?_
  refine aA rfl rfl ?_
  refine aA rfl rfl ?_
  intro a henv
  refine wpList_nil ?_
  refine th_n ?_
  refine wp_seq ?_
  refine region_seq ?_
  refine sv (v := .agg #[.int .i64 i, .int .i64 g, .slice A0 n0 c0, .slice A1 n1 c1]) henv rfl (rn_load0 henv ty_anvil_api_Prog rfl (hst.oat (k := 1) rfl) rfl) ?_
  clear henv a; intro a henv
  refine seq_step rfl (op_call henv rfl Tryd.call25 rfl (g_depth_bad (hst.pat (k := 1) rfl) (hst.pat (k := 0) rfl) hR) ?_)
  rintro e w60 ⟨rfl, hb⟩
  refine ⟨_, rfl, ?_⟩
  clear henv a; intro a henv
  replace hst := hst.call hb
  clear hb
  revert a
  refine mA rfl rfl ?_
  refine sA (v := .int .i64 0) rfl (fun _ henv => rn_extract henv rfl rfl) ?_
  refine sA (v := .int .i64 80) rfl (fun _ henv => rn_extract henv rfl rfl) ?_
  refine aA rfl rfl ?_
  refine aA rfl rfl ?_
  intro a henv
  refine wpList_nil ?_
  refine th_n ?_
  refine wp_seq ?_
  refine region_seq ?_
  refine sv (v := .agg #[.int .i64 i, .int .i64 g, .slice A0 n0 c0, .slice A1 n1 c1]) henv rfl (rn_load0 henv ty_anvil_api_Prog rfl (hst.oat (k := 1) rfl) rfl) ?_
  clear henv a; intro a henv
  refine seq_step rfl (op_call henv rfl Tryd.call15 rfl (r_right_bad (hst.pat (k := 1) rfl) (hst.pat (k := 0) rfl) hR) ?_)
  rintro e w61 ⟨rfl, hb⟩
  refine ⟨_, rfl, ?_⟩
  clear henv a; intro a henv
  replace hst := hst.call hb
  clear hb
  refine sv (v := .bool false) henv rfl (rn_assign henv rfl) ?_
  clear henv a; intro a henv
  refine wpList_nil ?_
  refine th_n ?_
  refine wp_seq ?_
  refine wp_seq ?_
  refine region_seq ?_
  revert a
  refine mA rfl rfl ?_
  refine sA (v := .bool true) rfl (fun _ henv => rn_un henv rfl rfl) ?_
  intro a henv
  refine wpList_nil ?_
  refine th_n ?_
  refine if_t henv rfl (rfl) ?_
  refine wp_seq ?_
  refine region_seq ?_
  revert a
  refine sA (v := .agg #[.int .i64 0, .int .i64 0, .int .i64 0, .int .i64 0, .int .i64 0]) rfl (fun _ henv => rn_load0 henv ty_anvil_prog_Counts rfl (hst.oat (k := 0) rfl) rfl) ?_
  refine sA (v := .agg #[.int .i64 0, .int .i64 0, .int .i64 0, .int .i64 0, .int .i64 0]) rfl (fun _ henv => rn_counts0) ?_
  refine sA (v := .bool (decide ([(0 : Int), (0 : Int), (0 : Int), (0 : Int), (0 : Int)] = [(0 : Int), (0 : Int), (0 : Int), (0 : Int), (0 : Int)]))) rfl (fun _ henv => rn_eqlI [(0 : Int), (0 : Int), (0 : Int), (0 : Int), (0 : Int)] [(0 : Int), (0 : Int), (0 : Int), (0 : Int), (0 : Int)] henv countsI rfl rfl rfl rfl) ?_
  intro a henv
  rw [show (decide ([(0 : Int), (0 : Int), (0 : Int), (0 : Int), (0 : Int)] = [(0 : Int), (0 : Int), (0 : Int), (0 : Int), (0 : Int)])) = true from (decide_eq_true rfl)] at henv
  revert a
  refine mA rfl rfl ?_
  refine gA (v := .slice none 0 0) rfl rfl rfl rfl (fun _ henv => rn_move henv rfl) ?_
  refine gA (v := .int .i64 0) rfl rfl rfl rfl (fun _ henv => rn_len henv Tryd.underlying48 rfl) ?_
  refine gA (v := .bool true) rfl rfl rfl rfl (fun _ henv => rn_bin henv rfl rfl rfl) ?_
  refine sA (v := .bool true) rfl (fun _ henv => rn_pick henv rfl rfl) ?_
  refine mA rfl rfl ?_
  refine gA (v := .int .i64 0) rfl rfl rfl rfl (fun _ henv => rn_move henv rfl) ?_
  refine gA (v := .bool true) rfl rfl rfl rfl (fun _ henv => rn_bin henv rfl rfl rfl) ?_
  refine sA (v := .bool true) rfl (fun _ henv => rn_pick henv rfl rfl) ?_
  refine mA rfl rfl ?_
  refine gA (v := .int .i64 80) rfl rfl rfl rfl (fun _ henv => rn_move henv rfl) ?_
  refine gA (v := .bool true) rfl rfl rfl rfl (fun _ henv => rn_bin henv rfl rfl rfl) ?_
  refine sA (v := .bool true) rfl (fun _ henv => rn_pick henv rfl rfl) ?_
  refine mA rfl rfl ?_
  refine gA (v := .int .i64 80) rfl rfl rfl rfl (fun _ henv => rn_move henv rfl) ?_
  refine gA (v := .bool true) rfl rfl rfl rfl (fun _ henv => rn_bin henv rfl rfl rfl) ?_
  refine sA (v := .bool true) rfl (fun _ henv => rn_pick henv rfl rfl) ?_
  refine mA rfl rfl ?_
  refine gA (v := .int .i64 80) rfl rfl rfl rfl (fun _ henv => rn_move henv rfl) ?_
  refine gA (v := .bool true) rfl rfl rfl rfl (fun _ henv => rn_bin henv rfl rfl rfl) ?_
  refine sA (v := .bool true) rfl (fun _ henv => rn_pick henv rfl rfl) ?_
  refine mA rfl rfl ?_
  intro a henv
  refine seq_g rfl henv rfl rfl (op_call henv rfl Tryd.call10 rfl g_live ?_)
  rintro e w62 ⟨rfl, hb⟩
  refine ⟨_, rfl, ?_⟩
  clear henv a; intro a henv
  replace hst := hst.call hb
  clear hb
  revert a
  refine sA (v := .bool true) rfl (fun _ henv => rn_pick henv rfl rfl) ?_
  refine aA rfl rfl ?_
  intro a henv
  refine wpList_nil ?_
  refine th_n ?_
  refine wp_ret ?_
  refine th_r ?_
  refine leave henv (res1 Tryd.results7 (RV.tmp henv rfl)) ?_
  exact ⟨rfl, hst.below⟩
theorem gneeds_law {i g : Int} {A0 A1 : Option Addr} {n0 c0 n1 c1 : Nat} {es0 : List IE} {es1 : List Int} {w0 : World} (h0 : (pfRow fJ FJ 5 A0 n0 c0 es0).P w0) (h1 : (pfRow fI FI 1 A1 n1 c1 es1).P w0) :
    Calls Tryd.prog 7 #[.agg #[.int .i64 i, .int .i64 g, .slice A0 n0 c0, .slice A1 n1 c1]] w0 fun e w' => e = .returned (.bool true) ∧ Below w0.heap.size w0 w' := by
  by_cases a : 400 < n0 ∨ 400 < n1
  · exact gneeds_w h0 h1 a
  rcases right_or i g n0 n1 es0 es1 with h | ⟨q, h⟩
  · obtain ⟨G, rfl⟩ : ∃ G : Nat, g = G := ⟨g.toNat, by have := h.1; unfold HeadOk at this; omega⟩
    exact gneeds_ok h0 h1 a h
  · exact gneeds_bad h0 h1 a h
end Go.Proofs.YtbdngknpngcojaaDoor.W
