/- Join; ProgJoins. Printed by pv/gen_g6.py. No condition. -/
import Derived.Test.YtbdngknpngcojaaDoorM49
import Derived.Test.YtbdngknpngcojaaDoorM15

namespace Go.Proofs.YtbdngknpngcojaaDoor.W
open Go.RowKit Anv Go.Lib
section
variable {N : Nat} {dq : List Deferred} {a : Act} {l : List (Nat × Value)} {w : World} {d : Nat} {ty : TypeId} {pos : String} {af : Array Edge} {gd : Option (Nat × Bool)}
theorem rn_prog (_h : EnvD dq N a l)  :
    (execOp a.eval ⟨some d, .build 25 #[], ty, pos, af, gd⟩).run Tryd.prog w = .ok (.value (.agg #[.int .i64 0, .int .i64 0, .slice none 0 0, .slice none 0 0])) w := by
  have hz : (zeroValue 25).run Tryd.prog w = .ok (.agg #[.int .i64 0, .int .i64 0, .slice none 0 0, .slice none 0 0]) w := by obtain ⟨i, hi, hv⟩ := zero_anvil_api_Prog; simp [zeroValue, typeInfo, hi, hv]
  simp [execOp, Instr.build, hz, run_underlying Tryd.underlying25, Sem.run_bind, run_sizeOf ty_int.size, run_sizeOf ty__api_Instr.size, run_sizeOf ty__int.size, Instr.fill, Value.cells]
theorem rn_prog012 {x0 x1 x2 : Operand} {v0 : Int} {v1 : Int} {A2 : Option Addr} {n2 c2 : Nat} (h : EnvD dq N a l) (h0 : evl l x0 = some (.int .i64 v0)) (h1 : evl l x1 = some (.int .i64 v1)) (h2 : evl l x2 = some (.slice A2 n2 c2)) :
    (execOp a.eval ⟨some d, .build 25 #[(0, x0), (1, x1), (2, x2)], ty, pos, af, gd⟩).run Tryd.prog w = .ok (.value (.agg #[.int .i64 v0, .int .i64 v1, .slice A2 n2 c2, .slice none 0 0])) w := by
  have hz : (zeroValue 25).run Tryd.prog w = .ok (.agg #[.int .i64 0, .int .i64 0, .slice none 0 0, .slice none 0 0]) w := by obtain ⟨i, hi, hv⟩ := zero_anvil_api_Prog; simp [zeroValue, typeInfo, hi, hv]
  simp [execOp, h.ev h0, h.ev h1, h.ev h2, Instr.build, hz, run_underlying Tryd.underlying25, Sem.run_bind, run_sizeOf ty_int.size, run_sizeOf ty__api_Instr.size, run_sizeOf ty__int.size, Instr.fill, Value.cells]
theorem rn_instr012 {x0 x1 x2 : Operand} {v0 v1 v2 : Int} (h : EnvD dq N a l) (h0 : evl l x0 = some (.int .i64 v0)) (h1 : evl l x1 = some (.int .i64 v1)) (h2 : evl l x2 = some (.int .i64 v2)) :
    (execOp a.eval ⟨some d, .build 37 #[(0, x0), (1, x1), (2, x2)], ty, pos, af, gd⟩).run Tryd.prog w = .ok (.value (.agg #[.int .i64 v0, .int .i64 v1, .int .i64 v2, .int .i64 0, .int .i64 0])) w := by
  have hz : (zeroValue 37).run Tryd.prog w = .ok (.agg #[.int .i64 0, .int .i64 0, .int .i64 0, .int .i64 0, .int .i64 0]) w := by obtain ⟨i, hi, hv⟩ := zero_anvil_api_Instr; simp [zeroValue, typeInfo, hi, hv]
  simp [execOp, h.ev h0, h.ev h1, h.ev h2, Instr.build, hz, run_underlying Tryd.underlying37, Sem.run_bind, run_sizeOf ty_int.size, Instr.fill, Value.cells]
end
set_option maxRecDepth 100000 in
set_option maxHeartbeats 4000000 in
theorem g_join_bad0 {i i2 g g2 : Int} {A0 A1 A2 A3 : Option Addr} {n0 c0 n1 c1 n2 c2 n3 c3 : Nat} {es0 : List IE} {es1 : List Int} {es2 : List IE} {es3 : List Int} {k : Int} {w0 : World} (h0 : (pfRow fJ FJ 5 A0 n0 c0 es0).P w0) (h1 : (pfRow fI FI 1 A1 n1 c1 es1).P w0) (h2 : (pfRow fJ FJ 5 A2 n2 c2 es2).P w0) (h3 : (pfRow fI FI 1 A3 n3 c3 es3).P w0) (hW0 : Wrong i g n0 n1 es0 es1 k) :
    Calls Tryd.prog 22 #[.agg #[.int .i64 i, .int .i64 g, .slice A0 n0 c0, .slice A1 n1 c1], .agg #[.int .i64 i2, .int .i64 g2, .slice A2 n2 c2, .slice A3 n3 c3]] w0 fun e w' => e = .returned (.tuple #[.agg #[.int .i64 0, .int .i64 0, .slice none 0 0, .slice none 0 0], .int .i64 80]) ∧ Below w0.heap.size w0 w' := by
  refine enter Tryd.func22 rfl Tryd.ntmps22 rfl ?_
  intro a henv hst
  have hlen0 := h0.2.1
  have hbig0 := Nat.le_trans h0.1.cap h0.1.big
  unfold maxLen at hbig0
  have hlen1 := h1.2.1
  have hbig1 := Nat.le_trans h1.1.cap h1.1.big
  unfold maxLen at hbig1
  have hlen2 := h2.2.1
  have hbig2 := Nat.le_trans h2.1.cap h2.1.big
  unfold maxLen at hbig2
  have hlen3 := h3.2.1
  have hbig3 := Nat.le_trans h3.1.cap h3.1.big
  unfold maxLen at hbig3
  replace hst := hst.argRow h0
  replace hst := hst.argRow h1
  replace hst := hst.argRow h2
  replace hst := hst.argRow h3
  clear h0 h1 h2 h3
  refine wp_seq ?_
  refine region_seq ?_
  refine seq_step rfl (op_box (c := #[.int .i64 i, .int .i64 g, .slice A0 n0 c0, .slice A1 n1 c1]) henv hst rfl rfl rfl ?_)
  clear henv hst a; intro a w52 g51 henv hst
  refine seq_step rfl (op_box (c := #[.int .i64 i2, .int .i64 g2, .slice A2 n2 c2, .slice A3 n3 c3]) henv hst rfl rfl rfl ?_)
  clear henv hst a; intro a w54 g53 henv hst
  refine seq_step rfl (op_alloc (c := #[.int .i64 0, .int .i64 0, .slice none 0 0, .slice none 0 0]) henv hst rfl zero_anvil_api_Prog rfl ?_)
  clear henv hst a; intro a w56 g55 henv hst
  refine sv (v := .int .i64 0) henv rfl (rn_assign henv rfl) ?_
  clear henv a; intro a henv
  refine wpList_nil ?_
  refine th_n ?_
  refine wp_seq ?_
  refine wp_block ?_
  refine wp_seq ?_
  refine region_seq ?_
  refine sv (v := .agg #[.int .i64 i, .int .i64 g, .slice A0 n0 c0, .slice A1 n1 c1]) henv rfl (rn_load0 henv ty_anvil_api_Prog rfl (hst.oat (k := 2) rfl) rfl) ?_
  clear henv a; intro a henv
  refine seq_step rfl (op_call henv rfl Tryd.call37 rfl (g_right_bad (hst.pat (k := 3) rfl) (hst.pat (k := 2) rfl) hW0) ?_)
  rintro e w57 ⟨rfl, hb⟩
  refine ⟨_, rfl, ?_⟩
  clear henv a; intro a henv
  replace hst := hst.call hb
  clear hb
  revert a
  refine sA (v := .bool true) rfl (fun _ henv => rn_un henv rfl rfl) ?_
  refine mA rfl rfl ?_
  refine kA rfl rfl rfl rfl rfl ?_
  refine kA rfl rfl rfl rfl rfl ?_
  refine kA rfl rfl rfl rfl rfl ?_
  refine sA (v := .bool true) rfl (fun _ henv => rn_pick henv rfl rfl) ?_
  refine aA rfl rfl ?_
  intro a henv
  refine wpList_nil ?_
  refine th_n ?_
  refine if_t henv rfl (rfl) ?_
  refine wp_seq ?_
  refine region_seq ?_
  refine sv (v := .agg #[.int .i64 0, .int .i64 0, .slice none 0 0, .slice none 0 0]) henv rfl (rn_prog henv) ?_
  clear henv a; intro a henv
  refine seq_step rfl (op_store (k := 0) (c' := #[.int .i64 0, .int .i64 0, .slice none 0 0, .slice none 0 0]) henv hst (ty_anvil_api_Prog.size) rfl rfl rfl rfl (by simp) rfl rfl ?_)
  clear henv hst a; intro a w58 henv hst
  refine sv (v := .int .i64 80) henv rfl (rn_assign henv rfl) ?_
  clear henv a; intro a henv
  refine wpList_nil ?_
  refine th_n ?_
  refine wp_ret ?_
  refine bl_r (th_r ?_)
  refine leave henv (res2 Tryd.results22 (RV.cell henv ty_anvil_api_Prog rfl (hst.oat (k := 0) rfl) rfl) (RV.tmp henv rfl)) ?_
  exact ⟨rfl, hst.below⟩
set_option maxRecDepth 100000 in
set_option maxHeartbeats 4000000 in
theorem g_join_bad1 {i i2 g g2 : Int} {A0 A1 A2 A3 : Option Addr} {n0 c0 n1 c1 n2 c2 n3 c3 : Nat} {es0 : List IE} {es1 : List Int} {es2 : List IE} {es3 : List Int} {k : Int} {w0 : World} (h0 : (pfRow fJ FJ 5 A0 n0 c0 es0).P w0) (h1 : (pfRow fI FI 1 A1 n1 c1 es1).P w0) (h2 : (pfRow fJ FJ 5 A2 n2 c2 es2).P w0) (h3 : (pfRow fI FI 1 A3 n3 c3 es3).P w0) (hR0 : Right i g n0 n1 es0 es1) (hW1 : Wrong i2 g2 n2 n3 es2 es3 k) :
    Calls Tryd.prog 22 #[.agg #[.int .i64 i, .int .i64 g, .slice A0 n0 c0, .slice A1 n1 c1], .agg #[.int .i64 i2, .int .i64 g2, .slice A2 n2 c2, .slice A3 n3 c3]] w0 fun e w' => e = .returned (.tuple #[.agg #[.int .i64 0, .int .i64 0, .slice none 0 0, .slice none 0 0], .int .i64 80]) ∧ Below w0.heap.size w0 w' := by
  obtain ⟨hh1, hh2, hh3, hh4, hh5, hh6⟩ := hR0.1
  refine enter Tryd.func22 rfl Tryd.ntmps22 rfl ?_
  intro a henv hst
  have hlen0 := h0.2.1
  have hbig0 := Nat.le_trans h0.1.cap h0.1.big
  unfold maxLen at hbig0
  have hlen1 := h1.2.1
  have hbig1 := Nat.le_trans h1.1.cap h1.1.big
  unfold maxLen at hbig1
  have hlen2 := h2.2.1
  have hbig2 := Nat.le_trans h2.1.cap h2.1.big
  unfold maxLen at hbig2
  have hlen3 := h3.2.1
  have hbig3 := Nat.le_trans h3.1.cap h3.1.big
  unfold maxLen at hbig3
  replace hst := hst.argRow h0
  replace hst := hst.argRow h1
  replace hst := hst.argRow h2
  replace hst := hst.argRow h3
  clear h0 h1 h2 h3
  refine wp_seq ?_
  refine region_seq ?_
  refine seq_step rfl (op_box (c := #[.int .i64 i, .int .i64 g, .slice A0 n0 c0, .slice A1 n1 c1]) henv hst rfl rfl rfl ?_)
  clear henv hst a; intro a w52 g51 henv hst
  refine seq_step rfl (op_box (c := #[.int .i64 i2, .int .i64 g2, .slice A2 n2 c2, .slice A3 n3 c3]) henv hst rfl rfl rfl ?_)
  clear henv hst a; intro a w54 g53 henv hst
  refine seq_step rfl (op_alloc (c := #[.int .i64 0, .int .i64 0, .slice none 0 0, .slice none 0 0]) henv hst rfl zero_anvil_api_Prog rfl ?_)
  clear henv hst a; intro a w56 g55 henv hst
  refine sv (v := .int .i64 0) henv rfl (rn_assign henv rfl) ?_
  clear henv a; intro a henv
  refine wpList_nil ?_
  refine th_n ?_
  refine wp_seq ?_
  refine wp_block ?_
  refine wp_seq ?_
  refine region_seq ?_
  refine sv (v := .agg #[.int .i64 i, .int .i64 g, .slice A0 n0 c0, .slice A1 n1 c1]) henv rfl (rn_load0 henv ty_anvil_api_Prog rfl (hst.oat (k := 2) rfl) rfl) ?_
  clear henv a; intro a henv
  refine seq_step rfl (op_call henv rfl Tryd.call37 rfl (g_right_ok (hst.pat (k := 3) rfl) (hst.pat (k := 2) rfl) hR0) ?_)
  rintro e w57 ⟨rfl, hb⟩
  refine ⟨_, rfl, ?_⟩
  clear henv a; intro a henv
  replace hst := hst.call hb
  clear hb
  revert a
  refine sA (v := .bool false) rfl (fun _ henv => rn_un henv rfl rfl) ?_
  refine mA rfl rfl ?_
  refine gA (v := .agg #[.int .i64 i2, .int .i64 g2, .slice A2 n2 c2, .slice A3 n3 c3]) rfl rfl rfl rfl (fun _ henv => rn_load0 henv ty_anvil_api_Prog rfl (hst.oat (k := 1) rfl) rfl) ?_
  intro a henv
  refine seq_g rfl henv rfl rfl (op_call henv rfl Tryd.call37 rfl (g_right_bad (hst.pat (k := 1) rfl) (hst.pat (k := 0) rfl) hW1) ?_)
  rintro e w58 ⟨rfl, hb⟩
  refine ⟨_, rfl, ?_⟩
  clear henv a; intro a henv
  replace hst := hst.call hb
  clear hb
  revert a
  refine gA (v := .bool true) rfl rfl rfl rfl (fun _ henv => rn_un henv rfl rfl) ?_
  refine sA (v := .bool true) rfl (fun _ henv => rn_pick henv rfl rfl) ?_
  refine aA rfl rfl ?_
  intro a henv
  refine wpList_nil ?_
  refine th_n ?_
  refine if_t henv rfl (rfl) ?_
  refine wp_seq ?_
  refine region_seq ?_
  refine sv (v := .agg #[.int .i64 0, .int .i64 0, .slice none 0 0, .slice none 0 0]) henv rfl (rn_prog henv) ?_
  clear henv a; intro a henv
  refine seq_step rfl (op_store (k := 0) (c' := #[.int .i64 0, .int .i64 0, .slice none 0 0, .slice none 0 0]) henv hst (ty_anvil_api_Prog.size) rfl rfl rfl rfl (by simp) rfl rfl ?_)
  clear henv hst a; intro a w59 henv hst
  refine sv (v := .int .i64 80) henv rfl (rn_assign henv rfl) ?_
  clear henv a; intro a henv
  refine wpList_nil ?_
  refine th_n ?_
  refine wp_ret ?_
  refine bl_r (th_r ?_)
  refine leave henv (res2 Tryd.results22 (RV.cell henv ty_anvil_api_Prog rfl (hst.oat (k := 0) rfl) rfl) (RV.tmp henv rfl)) ?_
  exact ⟨rfl, hst.below⟩
set_option maxRecDepth 100000 in
set_option maxHeartbeats 4000000 in
theorem g_join_range {i i2 : Int} {g g2 : Nat} {A0 A1 A2 A3 : Option Addr} {n0 c0 n1 c1 n2 c2 n3 c3 : Nat} {es0 : List IE} {es1 : List Int} {es2 : List IE} {es3 : List Int}  {w0 : World} (h0 : (pfRow fJ FJ 5 A0 n0 c0 es0).P w0) (h1 : (pfRow fI FI 1 A1 n1 c1 es1).P w0) (h2 : (pfRow fJ FJ 5 A2 n2 c2 es2).P w0) (h3 : (pfRow fI FI 1 A3 n3 c3 es3).P w0) (hR0 : Right i g n0 n1 es0 es1) (hR1 : Right i2 g2 n2 n3 es2 es3) (hi : i2 ≠ (n1 : Nat)) :
    Calls Tryd.prog 22 #[.agg #[.int .i64 i, .int .i64 (g : Nat), .slice A0 n0 c0, .slice A1 n1 c1], .agg #[.int .i64 i2, .int .i64 (g2 : Nat), .slice A2 n2 c2, .slice A3 n3 c3]] w0 fun e w' => e = .returned (.tuple #[.agg #[.int .i64 0, .int .i64 0, .slice none 0 0, .slice none 0 0], .int .i64 5]) ∧ Below w0.heap.size w0 w' := by
  obtain ⟨hh1, hh2, hh3, hh4, hh5, hh6⟩ := hR0.1
  obtain ⟨kk1, kk2, kk3, kk4, kk5, kk6⟩ := hR1.1
  refine enter Tryd.func22 rfl Tryd.ntmps22 rfl ?_
  intro a henv hst
  have hlen0 := h0.2.1
  have hbig0 := Nat.le_trans h0.1.cap h0.1.big
  unfold maxLen at hbig0
  have hlen1 := h1.2.1
  have hbig1 := Nat.le_trans h1.1.cap h1.1.big
  unfold maxLen at hbig1
  have hlen2 := h2.2.1
  have hbig2 := Nat.le_trans h2.1.cap h2.1.big
  unfold maxLen at hbig2
  have hlen3 := h3.2.1
  have hbig3 := Nat.le_trans h3.1.cap h3.1.big
  unfold maxLen at hbig3
  replace hst := hst.argRow h0
  replace hst := hst.argRow h1
  replace hst := hst.argRow h2
  replace hst := hst.argRow h3
  clear h0 h1 h2 h3
  refine wp_seq ?_
  refine region_seq ?_
  refine seq_step rfl (op_box (c := #[.int .i64 i, .int .i64 (g : Nat), .slice A0 n0 c0, .slice A1 n1 c1]) henv hst rfl rfl rfl ?_)
  clear henv hst a; intro a w52 g51 henv hst
  refine seq_step rfl (op_box (c := #[.int .i64 i2, .int .i64 (g2 : Nat), .slice A2 n2 c2, .slice A3 n3 c3]) henv hst rfl rfl rfl ?_)
  clear henv hst a; intro a w54 g53 henv hst
  refine seq_step rfl (op_alloc (c := #[.int .i64 0, .int .i64 0, .slice none 0 0, .slice none 0 0]) henv hst rfl zero_anvil_api_Prog rfl ?_)
  clear henv hst a; intro a w56 g55 henv hst
  refine sv (v := .int .i64 0) henv rfl (rn_assign henv rfl) ?_
  clear henv a; intro a henv
  refine wpList_nil ?_
  refine th_n ?_
  refine wp_seq ?_
  refine wp_block ?_
  refine wp_seq ?_
  refine region_seq ?_
  refine sv (v := .agg #[.int .i64 i, .int .i64 (g : Nat), .slice A0 n0 c0, .slice A1 n1 c1]) henv rfl (rn_load0 henv ty_anvil_api_Prog rfl (hst.oat (k := 2) rfl) rfl) ?_
  clear henv a; intro a henv
  refine seq_step rfl (op_call henv rfl Tryd.call37 rfl (g_right_ok (hst.pat (k := 3) rfl) (hst.pat (k := 2) rfl) hR0) ?_)
  rintro e w57 ⟨rfl, hb⟩
  refine ⟨_, rfl, ?_⟩
  clear henv a; intro a henv
  replace hst := hst.call hb
  clear hb
  revert a
  refine sA (v := .bool false) rfl (fun _ henv => rn_un henv rfl rfl) ?_
  refine mA rfl rfl ?_
  refine gA (v := .agg #[.int .i64 i2, .int .i64 (g2 : Nat), .slice A2 n2 c2, .slice A3 n3 c3]) rfl rfl rfl rfl (fun _ henv => rn_load0 henv ty_anvil_api_Prog rfl (hst.oat (k := 1) rfl) rfl) ?_
  intro a henv
  refine seq_g rfl henv rfl rfl (op_call henv rfl Tryd.call37 rfl (g_right_ok (hst.pat (k := 1) rfl) (hst.pat (k := 0) rfl) hR1) ?_)
  rintro e w58 ⟨rfl, hb⟩
  refine ⟨_, rfl, ?_⟩
  clear henv a; intro a henv
  replace hst := hst.call hb
  clear hb
  revert a
  refine gA (v := .bool false) rfl rfl rfl rfl (fun _ henv => rn_un henv rfl rfl) ?_
  refine sA (v := .bool false) rfl (fun _ henv => rn_pick henv rfl rfl) ?_
  refine aA rfl rfl ?_
  intro a henv
  refine wpList_nil ?_
  refine th_n ?_
  refine if_f henv rfl (rfl) ?_
  refine wp_seq ?_
  refine region_seq ?_
  revert a
  refine sA (v := .pointer (some ⟨g53, 0, none⟩)) rfl (fun _ henv => rn_fieldAddr henv fd_anvil_api_Prog_0 (ty_int.size) (by decide) rfl) ?_
  refine sA (v := .int .i64 i2) rfl (fun _ henv => rn_load1 henv ty_int rfl (hst.oat (k := 1) rfl) rfl) ?_
  refine sA (v := .pointer (some ⟨g51, 3, none⟩)) rfl (fun _ henv => rn_fieldAddr henv fd_anvil_api_Prog_3 (ty__int.size) (by decide) rfl) ?_
  refine sA (v := .slice A1 n1 c1) rfl (fun _ henv => rn_load1 henv ty__int rfl (hst.oat (k := 2) rfl) rfl) ?_
  refine sA (v := .int .i64 (n1 : Nat)) rfl (fun _ henv => rn_len henv Tryd.underlying23 rfl) ?_
  refine sA (v := .bool (i2 != ((n1 : Nat) : Int))) rfl (fun _ henv => rn_bin henv rfl rfl rfl) ?_
  intro a henv
  rw [show (i2 != ((n1 : Nat) : Int)) = true from (bne_iff_ne.2 hi)] at henv
  refine sv (v := .bool true) henv rfl (rn_assign henv rfl) ?_
  clear henv a; intro a henv
  refine wpList_nil ?_
  refine th_n ?_
  refine if_t henv rfl (rfl) ?_
  refine wp_seq ?_
  refine region_seq ?_
  refine sv (v := .agg #[.int .i64 0, .int .i64 0, .slice none 0 0, .slice none 0 0]) henv rfl (rn_prog henv) ?_
  clear henv a; intro a henv
  refine seq_step rfl (op_store (k := 0) (c' := #[.int .i64 0, .int .i64 0, .slice none 0 0, .slice none 0 0]) henv hst (ty_anvil_api_Prog.size) rfl rfl rfl rfl (by simp) rfl rfl ?_)
  clear henv hst a; intro a w59 henv hst
  refine sv (v := .int .i64 5) henv rfl (rn_assign henv rfl) ?_
  clear henv a; intro a henv
  refine wpList_nil ?_
  refine th_n ?_
  refine wp_ret ?_
  refine bl_r (th_r ?_)
  refine leave henv (res2 Tryd.results22 (RV.cell henv ty_anvil_api_Prog rfl (hst.oat (k := 0) rfl) rfl) (RV.tmp henv rfl)) ?_
  exact ⟨rfl, hst.below⟩
set_option maxRecDepth 100000 in
set_option maxHeartbeats 4000000 in
theorem g_join_long1 {i : Int} {g g2 : Nat} {A0 A1 A2 A3 : Option Addr} {n0 c0 n1 c1 n2 c2 n3 c3 : Nat} {es0 : List IE} {es1 : List Int} {es2 : List IE} {es3 : List Int}  {w0 : World} (h0 : (pfRow fJ FJ 5 A0 n0 c0 es0).P w0) (h1 : (pfRow fI FI 1 A1 n1 c1 es1).P w0) (h2 : (pfRow fJ FJ 5 A2 n2 c2 es2).P w0) (h3 : (pfRow fI FI 1 A3 n3 c3 es3).P w0) (hR0 : Right i g n0 n1 es0 es1) (hR1 : Right (n1 : Nat) g2 n2 n3 es2 es3) (hw : 128 < g + g2) :
    Calls Tryd.prog 22 #[.agg #[.int .i64 i, .int .i64 (g : Nat), .slice A0 n0 c0, .slice A1 n1 c1], .agg #[.int .i64 (n1 : Nat), .int .i64 (g2 : Nat), .slice A2 n2 c2, .slice A3 n3 c3]] w0 fun e w' => e = .returned (.tuple #[.agg #[.int .i64 0, .int .i64 0, .slice none 0 0, .slice none 0 0], .int .i64 3]) ∧ Below w0.heap.size w0 w' := by
  obtain ⟨hh1, hh2, hh3, hh4, hh5, hh6⟩ := hR0.1
  obtain ⟨kk1, kk2, kk3, kk4, kk5, kk6⟩ := hR1.1
  refine enter Tryd.func22 rfl Tryd.ntmps22 rfl ?_
  intro a henv hst
  have hlen0 := h0.2.1
  have hbig0 := Nat.le_trans h0.1.cap h0.1.big
  unfold maxLen at hbig0
  have hlen1 := h1.2.1
  have hbig1 := Nat.le_trans h1.1.cap h1.1.big
  unfold maxLen at hbig1
  have hlen2 := h2.2.1
  have hbig2 := Nat.le_trans h2.1.cap h2.1.big
  unfold maxLen at hbig2
  have hlen3 := h3.2.1
  have hbig3 := Nat.le_trans h3.1.cap h3.1.big
  unfold maxLen at hbig3
  replace hst := hst.argRow h0
  replace hst := hst.argRow h1
  replace hst := hst.argRow h2
  replace hst := hst.argRow h3
  clear h0 h1 h2 h3
  refine wp_seq ?_
  refine region_seq ?_
  refine seq_step rfl (op_box (c := #[.int .i64 i, .int .i64 (g : Nat), .slice A0 n0 c0, .slice A1 n1 c1]) henv hst rfl rfl rfl ?_)
  clear henv hst a; intro a w52 g51 henv hst
  refine seq_step rfl (op_box (c := #[.int .i64 (n1 : Nat), .int .i64 (g2 : Nat), .slice A2 n2 c2, .slice A3 n3 c3]) henv hst rfl rfl rfl ?_)
  clear henv hst a; intro a w54 g53 henv hst
  refine seq_step rfl (op_alloc (c := #[.int .i64 0, .int .i64 0, .slice none 0 0, .slice none 0 0]) henv hst rfl zero_anvil_api_Prog rfl ?_)
  clear henv hst a; intro a w56 g55 henv hst
  refine sv (v := .int .i64 0) henv rfl (rn_assign henv rfl) ?_
  clear henv a; intro a henv
  refine wpList_nil ?_
  refine th_n ?_
  refine wp_seq ?_
  refine wp_block ?_
  refine wp_seq ?_
  refine region_seq ?_
  refine sv (v := .agg #[.int .i64 i, .int .i64 (g : Nat), .slice A0 n0 c0, .slice A1 n1 c1]) henv rfl (rn_load0 henv ty_anvil_api_Prog rfl (hst.oat (k := 2) rfl) rfl) ?_
  clear henv a; intro a henv
  refine seq_step rfl (op_call henv rfl Tryd.call37 rfl (g_right_ok (hst.pat (k := 3) rfl) (hst.pat (k := 2) rfl) hR0) ?_)
  rintro e w57 ⟨rfl, hb⟩
  refine ⟨_, rfl, ?_⟩
  clear henv a; intro a henv
  replace hst := hst.call hb
  clear hb
  revert a
  refine sA (v := .bool false) rfl (fun _ henv => rn_un henv rfl rfl) ?_
  refine mA rfl rfl ?_
  refine gA (v := .agg #[.int .i64 (n1 : Nat), .int .i64 (g2 : Nat), .slice A2 n2 c2, .slice A3 n3 c3]) rfl rfl rfl rfl (fun _ henv => rn_load0 henv ty_anvil_api_Prog rfl (hst.oat (k := 1) rfl) rfl) ?_
  intro a henv
  refine seq_g rfl henv rfl rfl (op_call henv rfl Tryd.call37 rfl (g_right_ok (hst.pat (k := 1) rfl) (hst.pat (k := 0) rfl) hR1) ?_)
  rintro e w58 ⟨rfl, hb⟩
  refine ⟨_, rfl, ?_⟩
  clear henv a; intro a henv
  replace hst := hst.call hb
  clear hb
  revert a
  refine gA (v := .bool false) rfl rfl rfl rfl (fun _ henv => rn_un henv rfl rfl) ?_
  refine sA (v := .bool false) rfl (fun _ henv => rn_pick henv rfl rfl) ?_
  refine aA rfl rfl ?_
  intro a henv
  refine wpList_nil ?_
  refine th_n ?_
  refine if_f henv rfl (rfl) ?_
  refine wp_seq ?_
  refine region_seq ?_
  revert a
  refine sA (v := .pointer (some ⟨g53, 0, none⟩)) rfl (fun _ henv => rn_fieldAddr henv fd_anvil_api_Prog_0 (ty_int.size) (by decide) rfl) ?_
  refine sA (v := .int .i64 (n1 : Nat)) rfl (fun _ henv => rn_load1 henv ty_int rfl (hst.oat (k := 1) rfl) rfl) ?_
  refine sA (v := .pointer (some ⟨g51, 3, none⟩)) rfl (fun _ henv => rn_fieldAddr henv fd_anvil_api_Prog_3 (ty__int.size) (by decide) rfl) ?_
  refine sA (v := .slice A1 n1 c1) rfl (fun _ henv => rn_load1 henv ty__int rfl (hst.oat (k := 2) rfl) rfl) ?_
  refine sA (v := .int .i64 (n1 : Nat)) rfl (fun _ henv => rn_len henv Tryd.underlying23 rfl) ?_
  refine sA (v := .bool (((n1 : Nat) : Int) != ((n1 : Nat) : Int))) rfl (fun _ henv => rn_bin henv rfl rfl rfl) ?_
  intro a henv
  rw [show (((n1 : Nat) : Int) != ((n1 : Nat) : Int)) = false from (bne_self_eq_false _)] at henv
  refine sv (v := .bool false) henv rfl (rn_assign henv rfl) ?_
  clear henv a; intro a henv
  refine wpList_nil ?_
  refine th_n ?_
  refine if_f henv rfl (rfl) ?_
  refine wp_seq ?_
  refine region_seq ?_
  revert a
  refine sA (v := .pointer (some ⟨g51, 1, none⟩)) rfl (fun _ henv => rn_fieldAddr henv fd_anvil_api_Prog_1 (ty_int.size) (by decide) rfl) ?_
  refine sA (v := .int .i64 (g : Nat)) rfl (fun _ henv => rn_load1 henv ty_int rfl (hst.oat (k := 2) rfl) rfl) ?_
  refine sA (v := .pointer (some ⟨g53, 1, none⟩)) rfl (fun _ henv => rn_fieldAddr henv fd_anvil_api_Prog_1 (ty_int.size) (by decide) rfl) ?_
  refine sA (v := .int .i64 (g2 : Nat)) rfl (fun _ henv => rn_load1 henv ty_int rfl (hst.oat (k := 1) rfl) rfl) ?_
  refine sA (v := .int .i64 (g + g2 : Nat)) rfl (fun _ henv => rn_add henv rfl rfl (by rw [IntWalk.i64_in _ (by omega)]; omega)) ?_
  refine sA (v := .bool (decide (((g + g2 : Nat) : Int) > (128 : Int)))) rfl (fun _ henv => rn_bin henv rfl rfl rfl) ?_
  intro a henv
  rw [show (decide (((g + g2 : Nat) : Int) > (128 : Int))) = true from (decide_eq_true (by omega))] at henv
  revert a
  refine mA rfl rfl ?_
  refine kA rfl rfl rfl rfl rfl ?_
  refine kA rfl rfl rfl rfl rfl ?_
  refine kA rfl rfl rfl rfl rfl ?_
  refine kA rfl rfl rfl rfl rfl ?_
  refine kA rfl rfl rfl rfl rfl ?_
  refine kA rfl rfl rfl rfl rfl ?_
  refine kA rfl rfl rfl rfl rfl ?_
  refine kA rfl rfl rfl rfl rfl ?_
  refine kA rfl rfl rfl rfl rfl ?_
  refine kA rfl rfl rfl rfl rfl ?_
  refine kA rfl rfl rfl rfl rfl ?_
  refine sA (v := .bool true) rfl (fun _ henv => rn_pick henv rfl rfl) ?_
  refine aA rfl rfl ?_
  intro a henv
  refine wpList_nil ?_
  refine th_n ?_
  refine if_t henv rfl (rfl) ?_
  refine wp_seq ?_
  refine region_seq ?_
  refine sv (v := .agg #[.int .i64 0, .int .i64 0, .slice none 0 0, .slice none 0 0]) henv rfl (rn_prog henv) ?_
  clear henv a; intro a henv
  refine seq_step rfl (op_store (k := 0) (c' := #[.int .i64 0, .int .i64 0, .slice none 0 0, .slice none 0 0]) henv hst (ty_anvil_api_Prog.size) rfl rfl rfl rfl (by simp) rfl rfl ?_)
  clear henv hst a; intro a w59 henv hst
  refine sv (v := .int .i64 3) henv rfl (rn_assign henv rfl) ?_
  clear henv a; intro a henv
  refine wpList_nil ?_
  refine th_n ?_
  refine wp_ret ?_
  refine bl_r (th_r ?_)
  refine leave henv (res2 Tryd.results22 (RV.cell henv ty_anvil_api_Prog rfl (hst.oat (k := 0) rfl) rfl) (RV.tmp henv rfl)) ?_
  exact ⟨rfl, hst.below⟩
set_option maxRecDepth 100000 in
set_option maxHeartbeats 4000000 in
theorem g_join_long2 {i : Int} {g g2 : Nat} {A0 A1 A2 A3 : Option Addr} {n0 c0 n1 c1 n2 c2 n3 c3 : Nat} {es0 : List IE} {es1 : List Int} {es2 : List IE} {es3 : List Int}  {w0 : World} (h0 : (pfRow fJ FJ 5 A0 n0 c0 es0).P w0) (h1 : (pfRow fI FI 1 A1 n1 c1 es1).P w0) (h2 : (pfRow fJ FJ 5 A2 n2 c2 es2).P w0) (h3 : (pfRow fI FI 1 A3 n3 c3 es3).P w0) (hR0 : Right i g n0 n1 es0 es1) (hR1 : Right (n1 : Nat) g2 n2 n3 es2 es3) (hv : g + g2 ≤ 128) (hw : 16384 < n0 + n1 + n2) :
    Calls Tryd.prog 22 #[.agg #[.int .i64 i, .int .i64 (g : Nat), .slice A0 n0 c0, .slice A1 n1 c1], .agg #[.int .i64 (n1 : Nat), .int .i64 (g2 : Nat), .slice A2 n2 c2, .slice A3 n3 c3]] w0 fun e w' => e = .returned (.tuple #[.agg #[.int .i64 0, .int .i64 0, .slice none 0 0, .slice none 0 0], .int .i64 3]) ∧ Below w0.heap.size w0 w' := by
  obtain ⟨hh1, hh2, hh3, hh4, hh5, hh6⟩ := hR0.1
  obtain ⟨kk1, kk2, kk3, kk4, kk5, kk6⟩ := hR1.1
  refine enter Tryd.func22 rfl Tryd.ntmps22 rfl ?_
  intro a henv hst
  have hlen0 := h0.2.1
  have hbig0 := Nat.le_trans h0.1.cap h0.1.big
  unfold maxLen at hbig0
  have hlen1 := h1.2.1
  have hbig1 := Nat.le_trans h1.1.cap h1.1.big
  unfold maxLen at hbig1
  have hlen2 := h2.2.1
  have hbig2 := Nat.le_trans h2.1.cap h2.1.big
  unfold maxLen at hbig2
  have hlen3 := h3.2.1
  have hbig3 := Nat.le_trans h3.1.cap h3.1.big
  unfold maxLen at hbig3
  replace hst := hst.argRow h0
  replace hst := hst.argRow h1
  replace hst := hst.argRow h2
  replace hst := hst.argRow h3
  clear h0 h1 h2 h3
  refine wp_seq ?_
  refine region_seq ?_
  refine seq_step rfl (op_box (c := #[.int .i64 i, .int .i64 (g : Nat), .slice A0 n0 c0, .slice A1 n1 c1]) henv hst rfl rfl rfl ?_)
  clear henv hst a; intro a w52 g51 henv hst
  refine seq_step rfl (op_box (c := #[.int .i64 (n1 : Nat), .int .i64 (g2 : Nat), .slice A2 n2 c2, .slice A3 n3 c3]) henv hst rfl rfl rfl ?_)
  clear henv hst a; intro a w54 g53 henv hst
  refine seq_step rfl (op_alloc (c := #[.int .i64 0, .int .i64 0, .slice none 0 0, .slice none 0 0]) henv hst rfl zero_anvil_api_Prog rfl ?_)
  clear henv hst a; intro a w56 g55 henv hst
  refine sv (v := .int .i64 0) henv rfl (rn_assign henv rfl) ?_
  clear henv a; intro a henv
  refine wpList_nil ?_
  refine th_n ?_
  refine wp_seq ?_
  refine wp_block ?_
  refine wp_seq ?_
  refine region_seq ?_
  refine sv (v := .agg #[.int .i64 i, .int .i64 (g : Nat), .slice A0 n0 c0, .slice A1 n1 c1]) henv rfl (rn_load0 henv ty_anvil_api_Prog rfl (hst.oat (k := 2) rfl) rfl) ?_
  clear henv a; intro a henv
  refine seq_step rfl (op_call henv rfl Tryd.call37 rfl (g_right_ok (hst.pat (k := 3) rfl) (hst.pat (k := 2) rfl) hR0) ?_)
  rintro e w57 ⟨rfl, hb⟩
  refine ⟨_, rfl, ?_⟩
  clear henv a; intro a henv
  replace hst := hst.call hb
  clear hb
  revert a
  refine sA (v := .bool false) rfl (fun _ henv => rn_un henv rfl rfl) ?_
  refine mA rfl rfl ?_
  refine gA (v := .agg #[.int .i64 (n1 : Nat), .int .i64 (g2 : Nat), .slice A2 n2 c2, .slice A3 n3 c3]) rfl rfl rfl rfl (fun _ henv => rn_load0 henv ty_anvil_api_Prog rfl (hst.oat (k := 1) rfl) rfl) ?_
  intro a henv
  refine seq_g rfl henv rfl rfl (op_call henv rfl Tryd.call37 rfl (g_right_ok (hst.pat (k := 1) rfl) (hst.pat (k := 0) rfl) hR1) ?_)
  rintro e w58 ⟨rfl, hb⟩
  refine ⟨_, rfl, ?_⟩
  clear henv a; intro a henv
  replace hst := hst.call hb
  clear hb
  revert a
  refine gA (v := .bool false) rfl rfl rfl rfl (fun _ henv => rn_un henv rfl rfl) ?_
  refine sA (v := .bool false) rfl (fun _ henv => rn_pick henv rfl rfl) ?_
  refine aA rfl rfl ?_
  intro a henv
  refine wpList_nil ?_
  refine th_n ?_
  refine if_f henv rfl (rfl) ?_
  refine wp_seq ?_
  refine region_seq ?_
  revert a
  refine sA (v := .pointer (some ⟨g53, 0, none⟩)) rfl (fun _ henv => rn_fieldAddr henv fd_anvil_api_Prog_0 (ty_int.size) (by decide) rfl) ?_
  refine sA (v := .int .i64 (n1 : Nat)) rfl (fun _ henv => rn_load1 henv ty_int rfl (hst.oat (k := 1) rfl) rfl) ?_
  refine sA (v := .pointer (some ⟨g51, 3, none⟩)) rfl (fun _ henv => rn_fieldAddr henv fd_anvil_api_Prog_3 (ty__int.size) (by decide) rfl) ?_
  refine sA (v := .slice A1 n1 c1) rfl (fun _ henv => rn_load1 henv ty__int rfl (hst.oat (k := 2) rfl) rfl) ?_
  refine sA (v := .int .i64 (n1 : Nat)) rfl (fun _ henv => rn_len henv Tryd.underlying23 rfl) ?_
  refine sA (v := .bool (((n1 : Nat) : Int) != ((n1 : Nat) : Int))) rfl (fun _ henv => rn_bin henv rfl rfl rfl) ?_
  intro a henv
  rw [show (((n1 : Nat) : Int) != ((n1 : Nat) : Int)) = false from (bne_self_eq_false _)] at henv
  refine sv (v := .bool false) henv rfl (rn_assign henv rfl) ?_
  clear henv a; intro a henv
  refine wpList_nil ?_
  refine th_n ?_
  refine if_f henv rfl (rfl) ?_
  refine wp_seq ?_
  refine region_seq ?_
  revert a
  refine sA (v := .pointer (some ⟨g51, 1, none⟩)) rfl (fun _ henv => rn_fieldAddr henv fd_anvil_api_Prog_1 (ty_int.size) (by decide) rfl) ?_
  refine sA (v := .int .i64 (g : Nat)) rfl (fun _ henv => rn_load1 henv ty_int rfl (hst.oat (k := 2) rfl) rfl) ?_
  refine sA (v := .pointer (some ⟨g53, 1, none⟩)) rfl (fun _ henv => rn_fieldAddr henv fd_anvil_api_Prog_1 (ty_int.size) (by decide) rfl) ?_
  refine sA (v := .int .i64 (g2 : Nat)) rfl (fun _ henv => rn_load1 henv ty_int rfl (hst.oat (k := 1) rfl) rfl) ?_
  refine sA (v := .int .i64 (g + g2 : Nat)) rfl (fun _ henv => rn_add henv rfl rfl (by rw [IntWalk.i64_in _ (by omega)]; omega)) ?_
  refine sA (v := .bool (decide (((g + g2 : Nat) : Int) > (128 : Int)))) rfl (fun _ henv => rn_bin henv rfl rfl rfl) ?_
  intro a henv
  rw [show (decide (((g + g2 : Nat) : Int) > (128 : Int))) = false from (decide_eq_false (by omega))] at henv
  revert a
  refine mA rfl rfl ?_
  refine gA (v := .pointer (some ⟨g51, 2, none⟩)) rfl rfl rfl rfl (fun _ henv => rn_fieldAddr henv fd_anvil_api_Prog_2 (ty__api_Instr.size) (by decide) rfl) ?_
  refine gA (v := .slice A0 n0 c0) rfl rfl rfl rfl (fun _ henv => rn_load1 henv ty__api_Instr rfl (hst.oat (k := 2) rfl) rfl) ?_
  refine gA (v := .int .i64 (n0 : Nat)) rfl rfl rfl rfl (fun _ henv => rn_len henv Tryd.underlying22 rfl) ?_
  refine gA (v := .pointer (some ⟨g53, 0, none⟩)) rfl rfl rfl rfl (fun _ henv => rn_fieldAddr henv fd_anvil_api_Prog_0 (ty_int.size) (by decide) rfl) ?_
  refine gA (v := .int .i64 (n1 : Nat)) rfl rfl rfl rfl (fun _ henv => rn_load1 henv ty_int rfl (hst.oat (k := 1) rfl) rfl) ?_
  refine gA (v := .int .i64 (n0 + n1 : Nat)) rfl rfl rfl rfl (fun _ henv => rn_add henv rfl rfl (by rw [IntWalk.i64_in _ (by omega)]; omega)) ?_
  refine gA (v := .pointer (some ⟨g53, 2, none⟩)) rfl rfl rfl rfl (fun _ henv => rn_fieldAddr henv fd_anvil_api_Prog_2 (ty__api_Instr.size) (by decide) rfl) ?_
  refine gA (v := .slice A2 n2 c2) rfl rfl rfl rfl (fun _ henv => rn_load1 henv ty__api_Instr rfl (hst.oat (k := 1) rfl) rfl) ?_
  refine gA (v := .int .i64 (n2 : Nat)) rfl rfl rfl rfl (fun _ henv => rn_len henv Tryd.underlying22 rfl) ?_
  refine gA (v := .int .i64 ((n0 + n1) + n2 : Nat)) rfl rfl rfl rfl (fun _ henv => rn_add henv rfl rfl (by rw [IntWalk.i64_in _ (by omega)]; omega)) ?_
  refine gA (v := .bool (decide ((((n0 + n1) + n2 : Nat) : Int) > (16384 : Int)))) rfl rfl rfl rfl (fun _ henv => rn_bin henv rfl rfl rfl) ?_
  intro a henv
  rw [show (decide ((((n0 + n1) + n2 : Nat) : Int) > (16384 : Int))) = true from (decide_eq_true (by omega))] at henv
  revert a
  refine sA (v := .bool true) rfl (fun _ henv => rn_pick henv rfl rfl) ?_
  refine aA rfl rfl ?_
  intro a henv
  refine wpList_nil ?_
  refine th_n ?_
  refine if_t henv rfl (rfl) ?_
  refine wp_seq ?_
  refine region_seq ?_
  refine sv (v := .agg #[.int .i64 0, .int .i64 0, .slice none 0 0, .slice none 0 0]) henv rfl (rn_prog henv) ?_
  clear henv a; intro a henv
  refine seq_step rfl (op_store (k := 0) (c' := #[.int .i64 0, .int .i64 0, .slice none 0 0, .slice none 0 0]) henv hst (ty_anvil_api_Prog.size) rfl rfl rfl rfl (by simp) rfl rfl ?_)
  clear henv hst a; intro a w59 henv hst
  refine sv (v := .int .i64 3) henv rfl (rn_assign henv rfl) ?_
  clear henv a; intro a henv
  refine wpList_nil ?_
  refine th_n ?_
  refine wp_ret ?_
  refine bl_r (th_r ?_)
  refine leave henv (res2 Tryd.results22 (RV.cell henv ty_anvil_api_Prog rfl (hst.oat (k := 0) rfl) rfl) (RV.tmp henv rfl)) ?_
  exact ⟨rfl, hst.below⟩
set_option maxRecDepth 100000 in
set_option maxHeartbeats 4000000 in
theorem g_join_ok {i : Int} {g g2 : Nat} {A0 A1 A2 A3 : Option Addr} {n0 c0 n1 c1 n2 c2 n3 c3 : Nat} {es0 : List IE} {es1 : List Int} {es2 : List IE} {es3 : List Int}  {w0 : World} (h0 : (pfRow fJ FJ 5 A0 n0 c0 es0).P w0) (h1 : (pfRow fI FI 1 A1 n1 c1 es1).P w0) (h2 : (pfRow fJ FJ 5 A2 n2 c2 es2).P w0) (h3 : (pfRow fI FI 1 A3 n3 c3 es3).P w0) (hR0 : Right i g n0 n1 es0 es1) (hR1 : Right (n1 : Nat) g2 n2 n3 es2 es3) (hv : g + g2 ≤ 128) (hw : n0 + n1 + n2 ≤ 16384) :
    Calls Tryd.prog 22 #[.agg #[.int .i64 i, .int .i64 (g : Nat), .slice A0 n0 c0, .slice A1 n1 c1], .agg #[.int .i64 (n1 : Nat), .int .i64 (g2 : Nat), .slice A2 n2 c2, .slice A3 n3 c3]] w0 fun e w' => ∃ A c B d, e = .returned (.tuple #[.agg #[.int .i64 i, .int .i64 ((g + g2 : Nat) : Int), .slice A (n0 + n1 + n2) c, .slice B n3 d], .int .i64 0]) ∧ TwoR w0.heap.size w' A (n0 + n1 + n2) c (jnC (g : Int) es0 es1 es2) B n3 d (jnO (g : Int) es3) ∧ Below w0.heap.size w0 w' := by
  obtain ⟨hh1, hh2, hh3, hh4, hh5, hh6⟩ := hR0.1
  obtain ⟨kk1, kk2, kk3, kk4, kk5, kk6⟩ := hR1.1
  refine enter Tryd.func22 rfl Tryd.ntmps22 rfl ?_
  intro a henv hst
  have hlen0 := h0.2.1
  have hbig0 := Nat.le_trans h0.1.cap h0.1.big
  unfold maxLen at hbig0
  have hlen1 := h1.2.1
  have hbig1 := Nat.le_trans h1.1.cap h1.1.big
  unfold maxLen at hbig1
  have hlen2 := h2.2.1
  have hbig2 := Nat.le_trans h2.1.cap h2.1.big
  unfold maxLen at hbig2
  have hlen3 := h3.2.1
  have hbig3 := Nat.le_trans h3.1.cap h3.1.big
  unfold maxLen at hbig3
  replace hst := hst.argRow h0
  replace hst := hst.argRow h1
  replace hst := hst.argRow h2
  replace hst := hst.argRow h3
  clear h0 h1 h2 h3
  refine wp_seq ?_
  refine region_seq ?_
  refine seq_step rfl (op_box (c := #[.int .i64 i, .int .i64 (g : Nat), .slice A0 n0 c0, .slice A1 n1 c1]) henv hst rfl rfl rfl ?_)
  clear henv hst a; intro a w52 g51 henv hst
  refine seq_step rfl (op_box (c := #[.int .i64 (n1 : Nat), .int .i64 (g2 : Nat), .slice A2 n2 c2, .slice A3 n3 c3]) henv hst rfl rfl rfl ?_)
  clear henv hst a; intro a w54 g53 henv hst
  refine seq_step rfl (op_alloc (c := #[.int .i64 0, .int .i64 0, .slice none 0 0, .slice none 0 0]) henv hst rfl zero_anvil_api_Prog rfl ?_)
  clear henv hst a; intro a w56 g55 henv hst
  refine sv (v := .int .i64 0) henv rfl (rn_assign henv rfl) ?_
  clear henv a; intro a henv
  refine wpList_nil ?_
  refine th_n ?_
  refine wp_seq ?_
  refine wp_block ?_
  refine wp_seq ?_
  refine region_seq ?_
  refine sv (v := .agg #[.int .i64 i, .int .i64 (g : Nat), .slice A0 n0 c0, .slice A1 n1 c1]) henv rfl (rn_load0 henv ty_anvil_api_Prog rfl (hst.oat (k := 2) rfl) rfl) ?_
  clear henv a; intro a henv
  refine seq_step rfl (op_call henv rfl Tryd.call37 rfl (g_right_ok (hst.pat (k := 3) rfl) (hst.pat (k := 2) rfl) hR0) ?_)
  rintro e w57 ⟨rfl, hb⟩
  refine ⟨_, rfl, ?_⟩
  clear henv a; intro a henv
  replace hst := hst.call hb
  clear hb
  revert a
  refine sA (v := .bool false) rfl (fun _ henv => rn_un henv rfl rfl) ?_
  refine mA rfl rfl ?_
  refine gA (v := .agg #[.int .i64 (n1 : Nat), .int .i64 (g2 : Nat), .slice A2 n2 c2, .slice A3 n3 c3]) rfl rfl rfl rfl (fun _ henv => rn_load0 henv ty_anvil_api_Prog rfl (hst.oat (k := 1) rfl) rfl) ?_
  intro a henv
  refine seq_g rfl henv rfl rfl (op_call henv rfl Tryd.call37 rfl (g_right_ok (hst.pat (k := 1) rfl) (hst.pat (k := 0) rfl) hR1) ?_)
  rintro e w58 ⟨rfl, hb⟩
  refine ⟨_, rfl, ?_⟩
  clear henv a; intro a henv
  replace hst := hst.call hb
  clear hb
  revert a
  refine gA (v := .bool false) rfl rfl rfl rfl (fun _ henv => rn_un henv rfl rfl) ?_
  refine sA (v := .bool false) rfl (fun _ henv => rn_pick henv rfl rfl) ?_
  refine aA rfl rfl ?_
  intro a henv
  refine wpList_nil ?_
  refine th_n ?_
  refine if_f henv rfl (rfl) ?_
  refine wp_seq ?_
  refine region_seq ?_
  revert a
  refine sA (v := .pointer (some ⟨g53, 0, none⟩)) rfl (fun _ henv => rn_fieldAddr henv fd_anvil_api_Prog_0 (ty_int.size) (by decide) rfl) ?_
  refine sA (v := .int .i64 (n1 : Nat)) rfl (fun _ henv => rn_load1 henv ty_int rfl (hst.oat (k := 1) rfl) rfl) ?_
  refine sA (v := .pointer (some ⟨g51, 3, none⟩)) rfl (fun _ henv => rn_fieldAddr henv fd_anvil_api_Prog_3 (ty__int.size) (by decide) rfl) ?_
  refine sA (v := .slice A1 n1 c1) rfl (fun _ henv => rn_load1 henv ty__int rfl (hst.oat (k := 2) rfl) rfl) ?_
  refine sA (v := .int .i64 (n1 : Nat)) rfl (fun _ henv => rn_len henv Tryd.underlying23 rfl) ?_
  refine sA (v := .bool (((n1 : Nat) : Int) != ((n1 : Nat) : Int))) rfl (fun _ henv => rn_bin henv rfl rfl rfl) ?_
  intro a henv
  rw [show (((n1 : Nat) : Int) != ((n1 : Nat) : Int)) = false from (bne_self_eq_false _)] at henv
  refine sv (v := .bool false) henv rfl (rn_assign henv rfl) ?_
  clear henv a; intro a henv
  refine wpList_nil ?_
  refine th_n ?_
  refine if_f henv rfl (rfl) ?_
  refine wp_seq ?_
  refine region_seq ?_
  revert a
  refine sA (v := .pointer (some ⟨g51, 1, none⟩)) rfl (fun _ henv => rn_fieldAddr henv fd_anvil_api_Prog_1 (ty_int.size) (by decide) rfl) ?_
  refine sA (v := .int .i64 (g : Nat)) rfl (fun _ henv => rn_load1 henv ty_int rfl (hst.oat (k := 2) rfl) rfl) ?_
  refine sA (v := .pointer (some ⟨g53, 1, none⟩)) rfl (fun _ henv => rn_fieldAddr henv fd_anvil_api_Prog_1 (ty_int.size) (by decide) rfl) ?_
  refine sA (v := .int .i64 (g2 : Nat)) rfl (fun _ henv => rn_load1 henv ty_int rfl (hst.oat (k := 1) rfl) rfl) ?_
  refine sA (v := .int .i64 (g + g2 : Nat)) rfl (fun _ henv => rn_add henv rfl rfl (by rw [IntWalk.i64_in _ (by omega)]; omega)) ?_
  refine sA (v := .bool (decide (((g + g2 : Nat) : Int) > (128 : Int)))) rfl (fun _ henv => rn_bin henv rfl rfl rfl) ?_
  intro a henv
  rw [show (decide (((g + g2 : Nat) : Int) > (128 : Int))) = false from (decide_eq_false (by omega))] at henv
  revert a
  refine mA rfl rfl ?_
  refine gA (v := .pointer (some ⟨g51, 2, none⟩)) rfl rfl rfl rfl (fun _ henv => rn_fieldAddr henv fd_anvil_api_Prog_2 (ty__api_Instr.size) (by decide) rfl) ?_
  refine gA (v := .slice A0 n0 c0) rfl rfl rfl rfl (fun _ henv => rn_load1 henv ty__api_Instr rfl (hst.oat (k := 2) rfl) rfl) ?_
  refine gA (v := .int .i64 (n0 : Nat)) rfl rfl rfl rfl (fun _ henv => rn_len henv Tryd.underlying22 rfl) ?_
  refine gA (v := .pointer (some ⟨g53, 0, none⟩)) rfl rfl rfl rfl (fun _ henv => rn_fieldAddr henv fd_anvil_api_Prog_0 (ty_int.size) (by decide) rfl) ?_
  refine gA (v := .int .i64 (n1 : Nat)) rfl rfl rfl rfl (fun _ henv => rn_load1 henv ty_int rfl (hst.oat (k := 1) rfl) rfl) ?_
  refine gA (v := .int .i64 (n0 + n1 : Nat)) rfl rfl rfl rfl (fun _ henv => rn_add henv rfl rfl (by rw [IntWalk.i64_in _ (by omega)]; omega)) ?_
  refine gA (v := .pointer (some ⟨g53, 2, none⟩)) rfl rfl rfl rfl (fun _ henv => rn_fieldAddr henv fd_anvil_api_Prog_2 (ty__api_Instr.size) (by decide) rfl) ?_
  refine gA (v := .slice A2 n2 c2) rfl rfl rfl rfl (fun _ henv => rn_load1 henv ty__api_Instr rfl (hst.oat (k := 1) rfl) rfl) ?_
  refine gA (v := .int .i64 (n2 : Nat)) rfl rfl rfl rfl (fun _ henv => rn_len henv Tryd.underlying22 rfl) ?_
  refine gA (v := .int .i64 ((n0 + n1) + n2 : Nat)) rfl rfl rfl rfl (fun _ henv => rn_add henv rfl rfl (by rw [IntWalk.i64_in _ (by omega)]; omega)) ?_
  refine gA (v := .bool (decide ((((n0 + n1) + n2 : Nat) : Int) > (16384 : Int)))) rfl rfl rfl rfl (fun _ henv => rn_bin henv rfl rfl rfl) ?_
  intro a henv
  rw [show (decide ((((n0 + n1) + n2 : Nat) : Int) > (16384 : Int))) = false from (decide_eq_false (by omega))] at henv
  revert a
  refine sA (v := .bool false) rfl (fun _ henv => rn_pick henv rfl rfl) ?_
  refine aA rfl rfl ?_
  intro a henv
  refine wpList_nil ?_
  refine th_n ?_
  refine if_f henv rfl (rfl) ?_
  refine wp_skip ?_
  refine bl_n (th_n ?_)
  refine wp_seq ?_
  refine cut (fun a w => ∃ A60 : Option Addr, ∃ c61 : Nat, ∃ g63 : Nat, Env 118 a [(0, .agg #[.int .i64 i, .int .i64 (g : Nat), .slice A0 n0 c0, .slice A1 n1 c1]), (1, .agg #[.int .i64 (n1 : Nat), .int .i64 (g2 : Nat), .slice A2 n2 c2, .slice A3 n3 c3]), (2, .pointer (some ⟨g51, 0, none⟩)), (3, .pointer (some ⟨g53, 0, none⟩)), (4, .pointer (some ⟨g55, 0, none⟩)), (5, .int .i64 0), (14, .agg #[.int .i64 i, .int .i64 (g : Nat), .slice A0 n0 c0, .slice A1 n1 c1]), (15, .bool true), (16, .bool false), (17, .bool false), (18, .agg #[.int .i64 (n1 : Nat), .int .i64 (g2 : Nat), .slice A2 n2 c2, .slice A3 n3 c3]), (19, .bool true), (20, .bool false), (21, .bool false), (13, .bool false), (24, .pointer (some ⟨g53, 0, none⟩)), (25, .int .i64 (n1 : Nat)), (26, .pointer (some ⟨g51, 3, none⟩)), (27, .slice A1 n1 c1), (28, .int .i64 (n1 : Nat)), (29, .bool false), (23, .bool false), (32, .pointer (some ⟨g51, 1, none⟩)), (33, .int .i64 (g : Nat)), (34, .pointer (some ⟨g53, 1, none⟩)), (35, .int .i64 (g2 : Nat)), (36, .int .i64 (g + g2 : Nat)), (37, .bool false), (38, .bool false), (39, .pointer (some ⟨g51, 2, none⟩)), (40, .slice A0 n0 c0), (41, .int .i64 (n0 : Nat)), (42, .pointer (some ⟨g53, 0, none⟩)), (43, .int .i64 (n1 : Nat)), (44, .int .i64 (n0 + n1 : Nat)), (45, .pointer (some ⟨g53, 2, none⟩)), (46, .slice A2 n2 c2), (47, .int .i64 (n2 : Nat)), (48, .int .i64 ((n0 + n1) + n2 : Nat)), (49, .bool false), (50, .bool false), (31, .bool false), (6, .pointer (some ⟨g63, 0, none⟩))] ∧ St w0 w [bk g63 #[.int .i64 i, .int .i64 (g + g2 : Nat), .slice A60 n0 c61, .slice none 0 0] 25, rowS notU 37 5 A60 n0 c61 (fl fJ es0), bk g55 #[.int .i64 0, .int .i64 0, .slice none 0 0, .slice none 0 0] 25, bk g53 #[.int .i64 (n1 : Nat), .int .i64 (g2 : Nat), .slice A2 n2 c2, .slice A3 n3 c3] 25, bk g51 #[.int .i64 i, .int .i64 (g : Nat), .slice A0 n0 c0, .slice A1 n1 c1] 25] [pfEs FJ es0, pfRow fI FI 1 A3 n3 c3 es3, pfRow fJ FJ 5 A2 n2 c2 es2, pfRow fI FI 1 A1 n1 c1 es1, pfRow fJ FJ 5 A0 n0 c0 es0]) ?_ ?_
  · refine region_any (n := 13) (Sk [bk g55 #[.int .i64 0, .int .i64 0, .slice none 0 0, .slice none 0 0] 25, bk g53 #[.int .i64 (n1 : Nat), .int .i64 (g2 : Nat), .slice A2 n2 c2, .slice A3 n3 c3] 25, bk g51 #[.int .i64 i, .int .i64 (g : Nat), .slice A0 n0 c0, .slice A1 n1 c1] 25] [pfRow fI FI 1 A3 n3 c3 es3, pfRow fJ FJ 5 A2 n2 c2 es2, pfRow fI FI 1 A1 n1 c1 es1, pfRow fJ FJ 5 A0 n0 c0 es0] [12] []) mixed rfl henv hst ?_
    clear henv hst; intro w59 henv hst
    refine tA (i := 0) [1, 10, 12] (v := .pointer (some ⟨g51, 0, none⟩)) rfl (by kernel_rfl) (fun _ _ _ h => h) henv rfl (fun _ => rn_fieldAddr henv fd_anvil_api_Prog_0 (ty_int.size) (by decide) rfl) ?_
    clear henv a; intro a henv
    refine sAny_take (i := 1) [10, 12] (fun w' => w'.heap[g51]? = some (.cells #[.int .i64 i, .int .i64 (g : Nat), .slice A0 n0 c0, .slice A1 n1 c1] 25 (0, 0))) (v := .int .i64 i) rfl (by kernel_rfl) (fun _ _ _ h => h) (fun _ _ _ hS => hS.1.oat (k := 2) rfl) henv rfl (hst.oat (k := 2) rfl) (fun w' hg => rn_load1 henv ty_int rfl hg rfl) ?_
    clear henv a; intro a henv
    refine tA (i := 2) [3, 6, 10, 12] (v := .pointer (some ⟨g51, 1, none⟩)) rfl (by kernel_rfl) (fun _ _ _ h => h) henv rfl (fun _ => rn_fieldAddr henv fd_anvil_api_Prog_1 (ty_int.size) (by decide) rfl) ?_
    clear henv a; intro a henv
    refine sAny_take (i := 3) [6, 10, 12] (fun w' => w'.heap[g51]? = some (.cells #[.int .i64 i, .int .i64 (g : Nat), .slice A0 n0 c0, .slice A1 n1 c1] 25 (0, 0))) (v := .int .i64 (g : Nat)) rfl (by kernel_rfl) (fun _ _ _ h => h) (fun _ _ _ hS => hS.1.oat (k := 2) rfl) henv rfl (hst.oat (k := 2) rfl) (fun w' hg => rn_load1 henv ty_int rfl hg rfl) ?_
    clear henv a; intro a henv
    refine tA (i := 4) [5, 6, 10, 12] (v := .pointer (some ⟨g53, 1, none⟩)) rfl (by kernel_rfl) (fun _ _ _ h => h) henv rfl (fun _ => rn_fieldAddr henv fd_anvil_api_Prog_1 (ty_int.size) (by decide) rfl) ?_
    clear henv a; intro a henv
    refine sAny_take (i := 5) [6, 10, 12] (fun w' => w'.heap[g53]? = some (.cells #[.int .i64 (n1 : Nat), .int .i64 (g2 : Nat), .slice A2 n2 c2, .slice A3 n3 c3] 25 (0, 0))) (v := .int .i64 (g2 : Nat)) rfl (by kernel_rfl) (fun _ _ _ h => h) (fun _ _ _ hS => hS.1.oat (k := 1) rfl) henv rfl (hst.oat (k := 1) rfl) (fun w' hg => rn_load1 henv ty_int rfl hg rfl) ?_
    clear henv a; intro a henv
    refine tA (i := 6) [10, 12] (v := .int .i64 (g + g2 : Nat)) rfl (by kernel_rfl) (fun _ _ _ h => h) henv rfl (fun _ => rn_add henv rfl rfl (by rw [IntWalk.i64_in _ (by omega)]; omega)) ?_
    clear henv a; intro a henv
    refine tA (i := 7) [8, 9, 10, 12] (v := .pointer (some ⟨g51, 2, none⟩)) rfl (by kernel_rfl) (fun _ _ _ h => h) henv rfl (fun _ => rn_fieldAddr henv fd_anvil_api_Prog_2 (ty__api_Instr.size) (by decide) rfl) ?_
    clear henv a; intro a henv
    refine sAny_take (i := 8) [9, 10, 12] (fun w' => w'.heap[g51]? = some (.cells #[.int .i64 i, .int .i64 (g : Nat), .slice A0 n0 c0, .slice A1 n1 c1] 25 (0, 0))) (v := .slice A0 n0 c0) rfl (by kernel_rfl) (fun _ _ _ h => h) (fun _ _ _ hS => hS.1.oat (k := 2) rfl) henv rfl (hst.oat (k := 2) rfl) (fun w' hg => rn_load1 henv ty__api_Instr rfl hg rfl) ?_
    clear henv a; intro a henv
    refine sAny_all (rs := [9, 11]) (by kernel_rfl) (by simp) ?_
    simp only [List.forall_mem_cons, List.not_mem_nil, false_implies, implies_true, and_true]
    refine ⟨?_, ?_⟩
    · refine ⟨_, rfl, rfl, op_call henv rfl Tryd.call41 rfl (g_cloneJ (hst.pat (k := 3) rfl) (by omega)) ?_⟩
      rintro e w62 ⟨A60, c61, rfl, hr, hb⟩
      refine ⟨_, rfl, ?_⟩
      clear henv a; intro a henv
      replace hst := hst.freshRow hb hr (fun _ _ _ _ _ q => by obtain ⟨_, _, q⟩ := q; cases q)
      clear hr
      clear hb
      refine ⟨.inr ⟨hst.kn.pick [1, 2, 3] (rg 1 4), .inr (hst.kn.pick [] [])⟩, ?_⟩
      refine tA (i := 10) [12] (v := .agg #[.int .i64 i, .int .i64 (g + g2 : Nat), .slice A60 n0 c61, .slice none 0 0]) rfl (by kernel_rfl) (fun _ _ _ h => h) henv rfl (fun _ => rn_prog012 henv rfl rfl rfl) ?_
      clear henv a; intro a henv
      refine sAny_one (i := 11) (by kernel_rfl) rfl rfl (op_alloc (c := #[.int .i64 0, .int .i64 0, .slice none 0 0, .slice none 0 0]) henv hst rfl zero_anvil_api_Prog rfl ?_)
      clear henv hst a; intro a w64 g63 henv hst
      refine ⟨.inr ⟨hst.kn.pick [2, 3, 4] (rg 1 4), .inr (hst.kn.pick [] [])⟩, ?_⟩
      refine sAny_one (i := 12) (by kernel_rfl) rfl rfl (op_store (k := 0) (c' := #[.int .i64 i, .int .i64 (g + g2 : Nat), .slice A60 n0 c61, .slice none 0 0]) henv hst (ty_anvil_api_Prog.size) rfl rfl rfl rfl (by simp) rfl rfl ?_)
      clear henv hst a; intro a w65 henv hst
      refine ⟨.inr ⟨hst.kn.pick [2, 3, 4] (rg 1 4), .inl rfl⟩, ?_⟩
      refine sAny_done (by kernel_rfl) ?_ _
      exact th_n ⟨A60, c61, g63, henv.sub ⟨rfl, rfl, rfl, rfl, rfl, rfl, rfl, rfl, rfl, rfl, rfl, rfl, rfl, rfl, rfl, rfl, rfl, rfl, rfl, rfl, rfl, rfl, rfl, rfl, rfl, rfl, rfl, rfl, rfl, rfl, rfl, rfl, rfl, rfl, rfl, rfl, rfl, rfl, rfl, rfl, rfl, rfl, rfl, trivial⟩, hst.pick [0, 1, 2, 3, 4] [0, 1, 2, 3, 4] (by decide)⟩
    · refine ⟨_, rfl, rfl, op_alloc (c := #[.int .i64 0, .int .i64 0, .slice none 0 0, .slice none 0 0]) henv hst rfl zero_anvil_api_Prog rfl ?_⟩
      clear henv hst a; intro a w67 g66 henv hst
      refine ⟨.inr ⟨hst.kn.pick [1, 2, 3] (rg 0 4), .inr (hst.kn.pick [] [])⟩, ?_⟩
      refine sAny_one (i := 9) (by kernel_rfl) rfl rfl (op_call henv rfl Tryd.call41 rfl (g_cloneJ (hst.pat (k := 3) rfl) (by omega)) ?_)
      rintro e w70 ⟨A68, c69, rfl, hr, hb⟩
      refine ⟨_, rfl, ?_⟩
      clear henv a; intro a henv
      replace hst := hst.freshRow hb hr (fun _ _ _ _ _ q => by obtain ⟨_, _, q⟩ := q; cases q)
      clear hr
      clear hb
      refine ⟨.inr ⟨hst.kn.pick [2, 3, 4] (rg 1 4), .inr (hst.kn.pick [] [])⟩, ?_⟩
      refine tA (i := 10) [12] (v := .agg #[.int .i64 i, .int .i64 (g + g2 : Nat), .slice A68 n0 c69, .slice none 0 0]) rfl (by kernel_rfl) (fun _ _ _ h => h) henv rfl (fun _ => rn_prog012 henv rfl rfl rfl) ?_
      clear henv a; intro a henv
      refine sAny_one (i := 12) (by kernel_rfl) rfl rfl (op_store (k := 1) (c' := #[.int .i64 i, .int .i64 (g + g2 : Nat), .slice A68 n0 c69, .slice none 0 0]) henv hst (ty_anvil_api_Prog.size) rfl rfl rfl rfl (by simp) rfl rfl ?_)
      clear henv hst a; intro a w71 henv hst
      refine ⟨.inr ⟨hst.kn.pick [2, 3, 4] (rg 1 4), .inl rfl⟩, ?_⟩
      refine sAny_done (by kernel_rfl) ?_ _
      exact th_n ⟨A68, c69, g66, henv.sub ⟨rfl, rfl, rfl, rfl, rfl, rfl, rfl, rfl, rfl, rfl, rfl, rfl, rfl, rfl, rfl, rfl, rfl, rfl, rfl, rfl, rfl, rfl, rfl, rfl, rfl, rfl, rfl, rfl, rfl, rfl, rfl, rfl, rfl, rfl, rfl, rfl, rfl, rfl, rfl, rfl, rfl, rfl, rfl, trivial⟩, hst.pick [1, 0, 2, 3, 4] [0, 1, 2, 3, 4] (by decide)⟩
  clear henv hst a
  rintro a w72 ⟨A60, c61, g63, henv, hst⟩
  refine wp_seq ?_
  refine wp_seq ?_
  refine region_seq ?_
  revert a
  refine sA (v := .pointer (some ⟨g51, 3, none⟩)) rfl (fun _ henv => rn_fieldAddr henv fd_anvil_api_Prog_3 (ty__int.size) (by decide) rfl) ?_
  refine sA (v := .slice A1 n1 c1) rfl (fun _ henv => rn_load1 henv ty__int rfl (hst.oat (k := 4) rfl) rfl) ?_
  refine sA (v := .int .i64 (n1 : Nat)) rfl (fun _ henv => rn_len henv Tryd.underlying23 rfl) ?_
  refine mA rfl rfl ?_
  intro a henv
  refine wpList_nil ?_
  refine th_n ?_
  refine wp_block ?_
  refine wp_loop_ghost (fun mz a w => ∃ j : Nat, ∃ Ba : Option Addr, ∃ da : Nat, ∃ oa : List IE, n1 - j = mz ∧ Env 118 a [(2, .pointer (some ⟨g51, 0, none⟩)), (3, .pointer (some ⟨g53, 0, none⟩)), (4, .pointer (some ⟨g55, 0, none⟩)), (6, .pointer (some ⟨g63, 0, none⟩)), (64, .slice A1 n1 c1), (65, .int .i64 (n1 : Nat)), (66, .int .i64 (j : Nat))] ∧ St w0 w [bk g63 #[.int .i64 i, .int .i64 (g + g2 : Nat), .slice Ba (n0 + j) da, .slice none 0 0] 25, rowS notU 37 5 Ba (n0 + j) da (fl fJ oa), bk g55 #[.int .i64 0, .int .i64 0, .slice none 0 0, .slice none 0 0] 25, bk g53 #[.int .i64 (n1 : Nat), .int .i64 (g2 : Nat), .slice A2 n2 c2, .slice A3 n3 c3] 25, bk g51 #[.int .i64 i, .int .i64 (g : Nat), .slice A0 n0 c0, .slice A1 n1 c1] 25] [pfRow fI FI 1 A3 n3 c3 es3, pfRow fJ FJ 5 A2 n2 c2 es2, pfRow fI FI 1 A1 n1 c1 es1, pfRow fJ FJ 5 A0 n0 c0 es0] ∧ j ≤ n1 ∧ oa = es0 ++ (List.range j).map (moveI (g : Int) es1)) _ ⟨0, A60, c61, es0, rfl, henv.sub ⟨rfl, rfl, rfl, rfl, rfl, rfl, rfl, trivial⟩, hst.pick [0, 1, 2, 3, 4] [1, 2, 3, 4] (by decide), (Nat.zero_le _), (List.append_nil _).symm⟩ ?_
  clear henv hst a
  rintro mz a w73 ⟨j, Ba, da, oa, rfl, henv, hst, hj, hoa⟩
  refine wp_seq ?_
  refine region_seq ?_
  refine sv (v := .bool (decide (((j : Nat) : Int) < ((n1 : Nat) : Int)))) henv rfl (rn_bin henv rfl rfl rfl) ?_
  clear henv a; intro a henv
  refine wpList_nil ?_
  refine th_n ?_
  refine wp_seq ?_
  refine if_split henv rfl (fun hc74 => ?_) (fun hc74 => ?_)
  · have hlt : j < n1 := by have := of_decide_eq_true hc74; omega
    obtain ⟨x, hea⟩ : ∃ e, es1[j]? = some e := ⟨_, List.getElem?_eq_getElem (by omega)⟩
    refine wp_skip ?_
    refine th_n ?_
    refine wp_seq ?_
    refine wp_block ?_
    refine wp_seq ?_
    refine region_seq ?_
    revert a
    refine mA rfl rfl ?_
    refine sA (v := .pointer (some ⟨ab A1, ao A1 + j * 1, none⟩)) rfl (fun _ henv => rn_idxR (i := j) henv Tryd.underlying23 (ty_int.size) rfl rfl (by omega) rfl (show (pfRow fI FI 1 A1 n1 c1 es1).P _ from (hst.pat (k := 2) rfl)).1) ?_
    refine sA (v := .int .i64 x) rfl (fun _ henv => rn_loadE1 (i := j) (j := 0) (e := x) henv ty_int rfl rfl fI_len (by decide) (show (pfRow fI FI 1 A1 n1 c1 es1).P _ from (hst.pat (k := 2) rfl)).1 (by omega) hea rfl) ?_
    refine aA rfl rfl ?_
    refine aA rfl rfl ?_
    intro a henv
    refine wpList_nil ?_
    refine th_n ?_
    refine region_seq ?_
    revert a
    refine sA (v := .pointer (some ⟨g63, 2, none⟩)) rfl (fun _ henv => rn_fieldAddr henv fd_anvil_api_Prog_2 (ty__api_Instr.size) (by decide) rfl) ?_
    refine sA (v := .slice Ba (n0 + j) da) rfl (fun _ henv => rn_load1 henv ty__api_Instr rfl (hst.oat (k := 0) rfl) rfl) ?_
    refine sA (v := .pointer (some ⟨g51, 1, none⟩)) rfl (fun _ henv => rn_fieldAddr henv fd_anvil_api_Prog_1 (ty_int.size) (by decide) rfl) ?_
    refine sA (v := .int .i64 (g : Nat)) rfl (fun _ henv => rn_load1 henv ty_int rfl (hst.oat (k := 4) rfl) rfl) ?_
    refine mA rfl rfl ?_
    refine sA (v := .int .i64 (g + j : Nat)) rfl (fun _ henv => rn_add henv rfl rfl (by rw [IntWalk.i64_in _ (by omega)]; omega)) ?_
    refine mA rfl rfl ?_
    refine sA (v := .agg #[.int .i64 1, .int .i64 (g + j : Nat), .int .i64 x, .int .i64 0, .int .i64 0]) rfl (fun _ henv => rn_instr012 henv rfl rfl rfl) ?_
    intro a henv
    refine seq_step rfl (op_buildSlice (z := 5) (pv := #[(0, .agg #[.int .i64 1, .int .i64 (g + j : Nat), .int .i64 x, .int .i64 0, .int .i64 0])]) (c := #[.int .i64 1, .int .i64 (g + j : Nat), .int .i64 x, .int .i64 0, .int .i64 0]) henv hst rfl Tryd.underlying22 (ty_anvil_api_Instr.size) zero_anvil_api_Instr (by decide) (by decide) rfl (by kernel_rfl) ?_)
    clear henv hst a; intro a w76 g75 henv hst
    refine seq_step rfl (op_appendS (k := 2) (j := 0) henv hst rfl Tryd.underlying22 inf_anvil_api_Instr rfl rfl rfl rfl rfl rfl rfl rfl rfl rfl rfl (by unfold maxLen; omega) (by omega) ?_)
    clear henv hst a; intro a w79 g77 c78 henv hst
    rw [show fl fJ oa ++ (#[.int .i64 1, .int .i64 (g + j : Nat), .int .i64 x, .int .i64 0, .int .i64 0] : Array Value).toList = fl fJ (oa ++ [((1, (g + j : Nat), x, 0, 0) : IE)]) from fl_snoc (f := fJ) oa ((1, (g + j : Nat), x, 0, 0) : IE)] at hst
    refine sv (v := .pointer (some ⟨g63, 2, none⟩)) henv rfl (rn_fieldAddr henv fd_anvil_api_Prog_2 (ty__api_Instr.size) (by decide) rfl) ?_
    clear henv a; intro a henv
    refine seq_step rfl (op_store1 (k := 1) (c' := #[.int .i64 i, .int .i64 (g + g2 : Nat), .slice (some ⟨g77, 0, none⟩) ((n0 + j) + 1) c78, .slice none 0 0]) henv hst (ty__api_Instr.size) rfl rfl rfl (by simp) rfl rfl ?_)
    clear henv hst a; intro a w80 henv hst
    refine wpList_nil ?_
    refine bl_n (th_n ?_)
    refine region_seq ?_
    revert a
    refine sA (v := .int .i64 (j + 1 : Nat)) rfl (fun _ henv => rn_add henv rfl rfl (by rw [IntWalk.i64_in _ (by omega)]; omega)) ?_
    refine mA rfl rfl ?_
    intro a henv
    refine wpList_nil ?_
    exact th_n ⟨_, (by omega), ⟨j + 1, (some ⟨g77, 0, none⟩), c78, (oa ++ [((1, (g + j : Nat), x, 0, 0) : IE)]), rfl, henv.sub ⟨rfl, rfl, rfl, rfl, rfl, rfl, rfl, trivial⟩, hst.pick [1, 2, 3, 4, 5] [0, 1, 2, 3] (by decide), (by omega), (jn_step1n hoa hea)⟩⟩
  · obtain rfl : n1 = j := by have := of_decide_eq_false hc74; omega
    refine wp_exit ?_
    refine th_x (th_x (bl_x (th_n ?_)))
    refine wp_seq ?_
    refine wp_seq ?_
    refine region_seq ?_
    revert a
    refine sA (v := .pointer (some ⟨g53, 2, none⟩)) rfl (fun _ henv => rn_fieldAddr henv fd_anvil_api_Prog_2 (ty__api_Instr.size) (by decide) rfl) ?_
    refine sA (v := .slice A2 n2 c2) rfl (fun _ henv => rn_load1 henv ty__api_Instr rfl (hst.oat (k := 3) rfl) rfl) ?_
    refine sA (v := .int .i64 (n2 : Nat)) rfl (fun _ henv => rn_len henv Tryd.underlying22 rfl) ?_
    refine mA rfl rfl ?_
    intro a henv
    refine wpList_nil ?_
    refine th_n ?_
    refine wp_block ?_
    refine wp_loop_ghost (fun mz a w => ∃ m : Nat, ∃ Bb : Option Addr, ∃ db : Nat, ∃ ob : List IE, n2 - m = mz ∧ Env 118 a [(2, .pointer (some ⟨g51, 0, none⟩)), (3, .pointer (some ⟨g53, 0, none⟩)), (4, .pointer (some ⟨g55, 0, none⟩)), (6, .pointer (some ⟨g63, 0, none⟩)), (84, .slice A2 n2 c2), (85, .int .i64 (n2 : Nat)), (86, .int .i64 (m : Nat))] ∧ St w0 w [bk g63 #[.int .i64 i, .int .i64 (g + g2 : Nat), .slice Bb ((n0 + n1) + m) db, .slice none 0 0] 25, rowS notU 37 5 Bb ((n0 + n1) + m) db (fl fJ ob), bk g55 #[.int .i64 0, .int .i64 0, .slice none 0 0, .slice none 0 0] 25, bk g53 #[.int .i64 (n1 : Nat), .int .i64 (g2 : Nat), .slice A2 n2 c2, .slice A3 n3 c3] 25, bk g51 #[.int .i64 i, .int .i64 (g : Nat), .slice A0 n0 c0, .slice A1 n1 c1] 25] [pfRow fI FI 1 A3 n3 c3 es3, pfRow fJ FJ 5 A2 n2 c2 es2, pfRow fI FI 1 A1 n1 c1 es1, pfRow fJ FJ 5 A0 n0 c0 es0] ∧ m ≤ n2 ∧ ob = (es0 ++ (List.range es1.length).map (moveI (g : Int) es1)) ++ (es2.take m).map (mvI (g : Int))) _ ⟨0, Ba, da, oa, rfl, henv.sub ⟨rfl, rfl, rfl, rfl, rfl, rfl, rfl, trivial⟩, hst.pick [0, 1, 2, 3, 4] [0, 1, 2, 3] (by decide), (Nat.zero_le _), (by rw [hoa, hlen1]; exact (List.append_nil _).symm)⟩ ?_
    clear henv hst a
    rintro mz a w81 ⟨m, Bb, db, ob, rfl, henv, hst, hm, hob⟩
    refine wp_seq ?_
    refine region_seq ?_
    refine sv (v := .bool (decide (((m : Nat) : Int) < ((n2 : Nat) : Int)))) henv rfl (rn_bin henv rfl rfl rfl) ?_
    clear henv a; intro a henv
    refine wpList_nil ?_
    refine th_n ?_
    refine wp_seq ?_
    refine if_split henv rfl (fun hc82 => ?_) (fun hc82 => ?_)
    · have hlt : m < n2 := by have := of_decide_eq_true hc82; omega
      obtain ⟨⟨a1, a2, a3, a4, a5⟩, heb⟩ : ∃ e, es2[m]? = some e := ⟨_, List.getElem?_eq_getElem (by omega)⟩
      have hmy : May (a1, a2, a3, a4, a5) g2 := hR1.2.2 _ (List.mem_of_getElem? heb)
      have hbd : 0 ≤ a2 ∧ a2 < 128 ∧ 0 ≤ a3 ∧ a3 < 128 ∧ 0 ≤ a4 ∧ a4 < 128 := by unfold May at hmy; simp only at hmy; omega
      have hmb : mvB a1 a4 (g : Int) = mvB a1 a4 (g : Int) := rfl
      refine wp_skip ?_
      refine th_n ?_
      refine wp_seq ?_
      refine wp_block ?_
      refine wp_seq ?_
      refine region_seq ?_
      revert a
      refine sA (v := .pointer (some ⟨ab A2, ao A2 + m * 5, none⟩)) rfl (fun _ henv => rn_idxR (i := m) henv Tryd.underlying22 (ty_anvil_api_Instr.size) rfl rfl (by omega) rfl (show (pfRow fJ FJ 5 A2 n2 c2 es2).P _ from (hst.pat (k := 1) rfl)).1) ?_
      refine sA (v := .agg #[.int .i64 a1, .int .i64 a2, .int .i64 a3, .int .i64 a4, .int .i64 a5]) rfl (fun _ henv => rn_loadE (i := m) (e := (a1, a2, a3, a4, a5)) henv ty_anvil_api_Instr rfl rfl fJ_len (show (pfRow fJ FJ 5 A2 n2 c2 es2).P _ from (hst.pat (k := 1) rfl)).1 (by omega) heb rfl) ?_
      intro a henv
      refine seq_step rfl (op_alloc (c := #[.int .i64 0, .int .i64 0, .int .i64 0, .int .i64 0, .int .i64 0]) henv hst rfl zero_anvil_api_Instr rfl ?_)
      clear henv hst a; intro a w84 g83 henv hst
      refine seq_step rfl (op_store (k := 0) (c' := #[.int .i64 a1, .int .i64 a2, .int .i64 a3, .int .i64 a4, .int .i64 a5]) henv hst (ty_anvil_api_Instr.size) rfl rfl rfl rfl (by simp) rfl rfl ?_)
      clear henv hst a; intro a w85 henv hst
      refine wpList_nil ?_
      refine th_n ?_
      refine region_any (n := 10) (Sk [bk g83 #[.int .i64 a1, .int .i64 a2, .int .i64 a3, .int .i64 a4, .int .i64 a5] 37, bk g55 #[.int .i64 0, .int .i64 0, .slice none 0 0, .slice none 0 0] 25, bk g53 #[.int .i64 (n1 : Nat), .int .i64 (g2 : Nat), .slice A2 n2 c2, .slice A3 n3 c3] 25, bk g51 #[.int .i64 i, .int .i64 (g : Nat), .slice A0 n0 c0, .slice A1 n1 c1] 25] [pfRow fI FI 1 A3 n3 c3 es3, pfRow fJ FJ 5 A2 n2 c2 es2, pfRow fI FI 1 A1 n1 c1 es1, pfRow fJ FJ 5 A0 n0 c0 es0] [9] [bk g63 #[.int .i64 i, .int .i64 (g + g2 : Nat), .slice Bb ((n0 + n1) + m) db, .slice none 0 0] 25]) mixed rfl henv hst ?_
      clear henv hst; intro w86 henv hst
      refine tA (i := 0) [1, 7, 8, 9] (v := .pointer (some ⟨g63, 2, none⟩)) rfl (by kernel_rfl) (fun _ _ _ h => h) henv rfl (fun _ => rn_fieldAddr henv fd_anvil_api_Prog_2 (ty__api_Instr.size) (by decide) rfl) ?_
      clear henv a; intro a henv
      refine sAny_take (i := 1) [7, 8, 9] (fun w' => w'.heap[g63]? = some (.cells #[.int .i64 i, .int .i64 (g + g2 : Nat), .slice Bb ((n0 + n1) + m) db, .slice none 0 0] 25 (0, 0))) (v := .slice Bb ((n0 + n1) + m) db) rfl (by kernel_rfl) (fun _ _ _ h => h) (fun _ _ hj hS => (hS.two rfl hj).oat (k := 0) rfl) henv rfl (hst.oat (k := 1) rfl) (fun w' hg => rn_load1 henv ty__api_Instr rfl hg rfl) ?_
      clear henv a; intro a henv
      refine tL (i := 2) 0 0 (rg 5 5) rfl (by kernel_rfl) (fun _ _ _ h => h) henv rfl ty_anvil_api_Instr rfl hst rfl rfl rfl ?_
      clear henv a; intro a henv
      refine tA (i := 3) (rg 4 6) (v := .pointer (some ⟨g51, 1, none⟩)) rfl (by kernel_rfl) (fun _ _ _ h => h) henv rfl (fun _ => rn_fieldAddr henv fd_anvil_api_Prog_1 (ty_int.size) (by decide) rfl) ?_
      clear henv a; intro a henv
      refine sAny_take (i := 4) [5, 6, 7, 8, 9] (fun w' => w'.heap[g51]? = some (.cells #[.int .i64 i, .int .i64 (g : Nat), .slice A0 n0 c0, .slice A1 n1 c1] 25 (0, 0))) (v := .int .i64 (g : Nat)) rfl (by kernel_rfl) (fun _ _ _ h => h) (fun _ _ _ hS => hS.1.oat (k := 3) rfl) henv rfl (hst.oat (k := 5) rfl) (fun w' hg => rn_load1 henv ty_int rfl hg rfl) ?_
      clear henv a; intro a henv
      refine sAny_one (i := 5) (by kernel_rfl) rfl rfl (op_call henv rfl Tryd.call43 rfl (g_moved (op := a1) (tr := a2) (ra := a3) (rb := a4) (cn := a5) (g := ((g : Nat) : Int)) (by omega) (by omega) (by omega) (by omega)) ?_)
      rintro e w87 ⟨rfl, hb⟩
      refine ⟨_, rfl, ?_⟩
      clear henv a; intro a henv
      replace hst := hst.call hb
      clear hb
      refine ⟨.inr ⟨hst.kn.pick [0, 3, 4, 5] (rg 0 4), .inr (hst.kn.pick [1] [])⟩, ?_⟩
      refine sAny_one (i := 6) (by kernel_rfl) rfl rfl (op_buildSlice (z := 5) (pv := #[(0, .agg #[.int .i64 a1, .int .i64 (a2 + (g : Int)), .int .i64 (a3 + (g : Int)), .int .i64 (mvB a1 a4 (g : Int)), .int .i64 a5])]) (c := #[.int .i64 a1, .int .i64 (a2 + (g : Int)), .int .i64 (a3 + (g : Int)), .int .i64 (mvB a1 a4 (g : Int)), .int .i64 a5]) henv hst rfl Tryd.underlying22 (ty_anvil_api_Instr.size) zero_anvil_api_Instr (by decide) (by decide) rfl (by kernel_rfl) ?_)
      clear henv hst a; intro a w89 g88 henv hst
      refine ⟨.inr ⟨hst.kn.pick [1, 4, 5, 6] (rg 0 4), .inr (hst.kn.pick [2] [])⟩, ?_⟩
      refine sAny_one (i := 7) (by kernel_rfl) rfl rfl (op_appendS (k := 3) (j := 0) henv hst rfl Tryd.underlying22 inf_anvil_api_Instr rfl rfl rfl rfl rfl rfl rfl rfl rfl rfl rfl (by unfold maxLen; omega) (by omega) ?_)
      clear henv hst a; intro a w92 g90 c91 henv hst
      rw [show fl fJ ob ++ (#[.int .i64 a1, .int .i64 (a2 + (g : Int)), .int .i64 (a3 + (g : Int)), .int .i64 (mvB a1 a4 (g : Int)), .int .i64 a5] : Array Value).toList = fl fJ (ob ++ [((a1, (a2 + (g : Int)), (a3 + (g : Int)), (mvB a1 a4 (g : Int)), a5) : IE)]) from fl_snoc (f := fJ) ob ((a1, (a2 + (g : Int)), (a3 + (g : Int)), (mvB a1 a4 (g : Int)), a5) : IE)] at hst
      refine ⟨.inr ⟨hst.kn.pick [1, 4, 5, 6] (rg 0 4), .inr (hst.kn.pick [2] [])⟩, ?_⟩
      refine tA (i := 8) [9] (v := .pointer (some ⟨g63, 2, none⟩)) rfl (by kernel_rfl) (fun _ _ _ h => h) henv rfl (fun _ => rn_fieldAddr henv fd_anvil_api_Prog_2 (ty__api_Instr.size) (by decide) rfl) ?_
      clear henv a; intro a henv
      refine sAny_one (i := 9) (by kernel_rfl) rfl rfl (op_store1 (k := 2) (c' := #[.int .i64 i, .int .i64 (g + g2 : Nat), .slice (some ⟨g90, 0, none⟩) (((n0 + n1) + m) + 1) c91, .slice none 0 0]) henv hst (ty__api_Instr.size) rfl rfl rfl (by simp) rfl rfl ?_)
      clear henv hst a; intro a w93 henv hst
      refine ⟨.inr ⟨hst.kn.pick [1, 4, 5, 6] (rg 0 4), .inl rfl⟩, ?_⟩
      refine sAny_done (by kernel_rfl) ?_ _
      refine bl_n (th_n ?_)
      refine region_seq ?_
      revert a
      refine sA (v := .int .i64 (m + 1 : Nat)) rfl (fun _ henv => rn_add henv rfl rfl (by rw [IntWalk.i64_in _ (by omega)]; omega)) ?_
      refine mA rfl rfl ?_
      intro a henv
      refine wpList_nil ?_
      exact th_n ⟨_, (by omega), ⟨m + 1, (some ⟨g90, 0, none⟩), c91, (ob ++ [((a1, (a2 + (g : Int)), (a3 + (g : Int)), (mvB a1 a4 (g : Int)), a5) : IE)]), rfl, henv.sub ⟨rfl, rfl, rfl, rfl, rfl, rfl, rfl, trivial⟩, hst.pick [2, 3, 4, 5, 6] [0, 1, 2, 3] (by decide), (by omega), (jn_step2x hob heb hmb)⟩⟩
    · obtain rfl : n2 = m := by have := of_decide_eq_false hc82; omega
      rw [List.take_of_length_le (by omega)] at hob
      refine wp_exit ?_
      refine th_x (th_x (bl_x (th_n ?_)))
      refine wp_seq ?_
      refine wp_seq ?_
      replace hst := (hst.addRowS notU 3 1)
      replace hst : St w0 _ [rowS notU 3 1 none 0 0 (fl fI ([])), bk g63 #[.int .i64 i, .int .i64 (g + g2 : Nat), .slice Bb ((n0 + n1) + n2) db, .slice none 0 0] 25, rowS notU 37 5 Bb ((n0 + n1) + n2) db (fl fJ ob), bk g55 #[.int .i64 0, .int .i64 0, .slice none 0 0, .slice none 0 0] 25, bk g53 #[.int .i64 (n1 : Nat), .int .i64 (g2 : Nat), .slice A2 n2 c2, .slice A3 n3 c3] 25, bk g51 #[.int .i64 i, .int .i64 (g : Nat), .slice A0 n0 c0, .slice A1 n1 c1] 25] [pfRow fI FI 1 A3 n3 c3 es3, pfRow fJ FJ 5 A2 n2 c2 es2, pfRow fI FI 1 A1 n1 c1 es1, pfRow fJ FJ 5 A0 n0 c0 es0] := hst
      refine region_seq ?_
      revert a
      refine sA (v := .pointer (some ⟨g53, 3, none⟩)) rfl (fun _ henv => rn_fieldAddr henv fd_anvil_api_Prog_3 (ty__int.size) (by decide) rfl) ?_
      refine sA (v := .slice A3 n3 c3) rfl (fun _ henv => rn_load1 henv ty__int rfl (hst.oat (k := 4) rfl) rfl) ?_
      refine sA (v := .int .i64 (n3 : Nat)) rfl (fun _ henv => rn_len henv Tryd.underlying23 rfl) ?_
      refine mA rfl rfl ?_
      intro a henv
      refine wpList_nil ?_
      refine th_n ?_
      refine wp_block ?_
      refine wp_loop_ghost (fun mz a w => ∃ q : Nat, ∃ Bc : Option Addr, ∃ dc : Nat, ∃ oc : List Int, n3 - q = mz ∧ Env 118 a [(2, .pointer (some ⟨g51, 0, none⟩)), (3, .pointer (some ⟨g53, 0, none⟩)), (4, .pointer (some ⟨g55, 0, none⟩)), (6, .pointer (some ⟨g63, 0, none⟩)), (101, .slice A3 n3 c3), (102, .int .i64 (n3 : Nat)), (103, .int .i64 (q : Nat))] ∧ St w0 w [rowS notU 3 1 Bc q dc (fl fI oc), bk g63 #[.int .i64 i, .int .i64 (g + g2 : Nat), .slice Bb ((n0 + n1) + n2) db, .slice Bc q dc] 25, rowS notU 37 5 Bb ((n0 + n1) + n2) db (fl fJ ob), bk g55 #[.int .i64 0, .int .i64 0, .slice none 0 0, .slice none 0 0] 25, bk g53 #[.int .i64 (n1 : Nat), .int .i64 (g2 : Nat), .slice A2 n2 c2, .slice A3 n3 c3] 25, bk g51 #[.int .i64 i, .int .i64 (g : Nat), .slice A0 n0 c0, .slice A1 n1 c1] 25] [pfRow fI FI 1 A3 n3 c3 es3, pfRow fJ FJ 5 A2 n2 c2 es2, pfRow fI FI 1 A1 n1 c1 es1, pfRow fJ FJ 5 A0 n0 c0 es0] ∧ q ≤ n3 ∧ oc = (es3.take q).map (· + (g : Int))) _ ⟨0, none, 0, [], rfl, henv.sub ⟨rfl, rfl, rfl, rfl, rfl, rfl, rfl, trivial⟩, hst.pick [0, 1, 2, 3, 4, 5] [0, 1, 2, 3] (by decide), (Nat.zero_le _), rfl⟩ ?_
      clear henv hst a
      rintro mz a w94 ⟨q, Bc, dc, oc, rfl, henv, hst, hq, hoc⟩
      refine wp_seq ?_
      refine region_seq ?_
      refine sv (v := .bool (decide (((q : Nat) : Int) < ((n3 : Nat) : Int)))) henv rfl (rn_bin henv rfl rfl rfl) ?_
      clear henv a; intro a henv
      refine wpList_nil ?_
      refine th_n ?_
      refine wp_seq ?_
      refine if_split henv rfl (fun hc95 => ?_) (fun hc95 => ?_)
      · have hlt : q < n3 := by have := of_decide_eq_true hc95; omega
        obtain ⟨y, hec⟩ : ∃ e, es3[q]? = some e := ⟨_, List.getElem?_eq_getElem (by omega)⟩
        have hyb := hR1.2.1 y (List.mem_of_getElem? hec)
        refine wp_skip ?_
        refine th_n ?_
        refine wp_seq ?_
        refine wp_block ?_
        refine wp_seq ?_
        refine region_seq ?_
        revert a
        refine sA (v := .pointer (some ⟨ab A3, ao A3 + q * 1, none⟩)) rfl (fun _ henv => rn_idxR (i := q) henv Tryd.underlying23 (ty_int.size) rfl rfl (by omega) rfl (show (pfRow fI FI 1 A3 n3 c3 es3).P _ from (hst.pat (k := 0) rfl)).1) ?_
        refine sA (v := .int .i64 y) rfl (fun _ henv => rn_loadE1 (i := q) (j := 0) (e := y) henv ty_int rfl rfl fI_len (by decide) (show (pfRow fI FI 1 A3 n3 c3 es3).P _ from (hst.pat (k := 0) rfl)).1 (by omega) hec rfl) ?_
        refine aA rfl rfl ?_
        intro a henv
        refine wpList_nil ?_
        refine th_n ?_
        refine region_seq ?_
        revert a
        refine sA (v := .pointer (some ⟨g63, 3, none⟩)) rfl (fun _ henv => rn_fieldAddr henv fd_anvil_api_Prog_3 (ty__int.size) (by decide) rfl) ?_
        refine sA (v := .slice Bc q dc) rfl (fun _ henv => rn_load1 henv ty__int rfl (hst.oat (k := 1) rfl) rfl) ?_
        refine mA rfl rfl ?_
        refine sA (v := .pointer (some ⟨g51, 1, none⟩)) rfl (fun _ henv => rn_fieldAddr henv fd_anvil_api_Prog_1 (ty_int.size) (by decide) rfl) ?_
        refine sA (v := .int .i64 (g : Nat)) rfl (fun _ henv => rn_load1 henv ty_int rfl (hst.oat (k := 5) rfl) rfl) ?_
        refine sA (v := .int .i64 (y + ((g : Nat) : Int))) rfl (fun _ henv => rn_add henv rfl rfl (IntWalk.i64_in _ (by omega))) ?_
        intro a henv
        refine seq_step rfl (op_buildSlice (z := 1) (pv := #[(0, .int .i64 (y + ((g : Nat) : Int)))]) (c := #[.int .i64 (y + ((g : Nat) : Int))]) henv hst rfl Tryd.underlying23 (ty_int.size) zero_int (by decide) (by decide) rfl (by kernel_rfl) ?_)
        clear henv hst a; intro a w97 g96 henv hst
        refine seq_step rfl (op_appendS (k := 1) (j := 0) henv hst rfl Tryd.underlying23 inf_int rfl rfl rfl rfl rfl rfl rfl rfl rfl rfl rfl (by unfold maxLen; omega) (by omega) ?_)
        clear henv hst a; intro a w100 g98 c99 henv hst
        rw [show fl fI oc ++ (#[.int .i64 (y + ((g : Nat) : Int))] : Array Value).toList = fl fI (oc ++ [(y + ((g : Nat) : Int))]) from fl_snoc (f := fI) oc (y + ((g : Nat) : Int))] at hst
        refine sv (v := .pointer (some ⟨g63, 3, none⟩)) henv rfl (rn_fieldAddr henv fd_anvil_api_Prog_3 (ty__int.size) (by decide) rfl) ?_
        clear henv a; intro a henv
        refine seq_step rfl (op_store1 (k := 2) (c' := #[.int .i64 i, .int .i64 (g + g2 : Nat), .slice Bb ((n0 + n1) + n2) db, .slice (some ⟨g98, 0, none⟩) (q + 1) c99]) henv hst (ty__int.size) rfl rfl rfl (by simp) rfl rfl ?_)
        clear henv hst a; intro a w101 henv hst
        refine wpList_nil ?_
        refine bl_n (th_n ?_)
        refine region_seq ?_
        revert a
        refine sA (v := .int .i64 (q + 1 : Nat)) rfl (fun _ henv => rn_add henv rfl rfl (by rw [IntWalk.i64_in _ (by omega)]; omega)) ?_
        refine mA rfl rfl ?_
        intro a henv
        refine wpList_nil ?_
        exact th_n ⟨_, (by omega), ⟨q + 1, (some ⟨g98, 0, none⟩), c99, (oc ++ [(y + ((g : Nat) : Int))]), rfl, henv.sub ⟨rfl, rfl, rfl, rfl, rfl, rfl, rfl, trivial⟩, hst.pick [1, 2, 3, 4, 5, 6] [0, 1, 2, 3] (by decide), (by omega), (jn_step3 hoc hec)⟩⟩
      · obtain rfl : n3 = q := by have := of_decide_eq_false hc95; omega
        rw [List.take_of_length_le (by omega)] at hoc
        refine wp_exit ?_
        refine th_x (th_x (bl_x (th_n ?_)))
        refine wp_seq ?_
        refine region_seq ?_
        refine sv (v := .agg #[.int .i64 i, .int .i64 (g + g2 : Nat), .slice Bb ((n0 + n1) + n2) db, .slice Bc n3 dc]) henv rfl (rn_load0 henv ty_anvil_api_Prog rfl (hst.oat (k := 1) rfl) rfl) ?_
        clear henv a; intro a henv
        refine seq_step rfl (op_store (k := 3) (c' := #[.int .i64 i, .int .i64 (g + g2 : Nat), .slice Bb ((n0 + n1) + n2) db, .slice Bc n3 dc]) henv hst (ty_anvil_api_Prog.size) rfl rfl rfl rfl (by simp) rfl rfl ?_)
        clear henv hst a; intro a w102 henv hst
        refine sv (v := .int .i64 0) henv rfl (rn_assign henv rfl) ?_
        clear henv a; intro a henv
        refine wpList_nil ?_
        refine th_n ?_
        refine wp_ret ?_
        refine leave henv (res2 Tryd.results22 (RV.cell henv ty_anvil_api_Prog rfl (hst.oat (k := 3) rfl) rfl) (RV.tmp henv rfl)) ?_
        obtain rfl : ob = jnC (g : Int) es0 es1 es2 := hob
        obtain rfl : oc = jnO (g : Int) es3 := hoc
        exact ⟨_, _, _, _, rfl, ⟨newrow_of (hst.owns (k := 2) rfl) (fun b hb => hst.new _ (List.mem_of_getElem? (i := 2) rfl) b hb) rfl, newrow_of (hst.owns (k := 0) rfl) (fun b hb => hst.new _ (List.mem_of_getElem? (i := 0) rfl) b hb) rfl, fun a b ha hb hab => hst.one (k := 2) (j := 0) rfl rfl (by decide) a.block (by cases ha <;> rfl) (by cases hb <;> exact congrArg some hab.symm)⟩, hst.below⟩
set_option maxRecDepth 100000 in
set_option maxHeartbeats 4000000 in
theorem r_join_range {i i2 : Int} {g g2 : Nat} {A0 A1 A2 A3 : Option Addr} {n0 c0 n1 c1 n2 c2 n3 c3 : Nat} {es0 : List IE} {es1 : List Int} {es2 : List IE} {es3 : List Int}  {w0 : World} (h0 : (pfRow fJ FJ 5 A0 n0 c0 es0).P w0) (h1 : (pfRow fI FI 1 A1 n1 c1 es1).P w0) (h2 : (pfRow fJ FJ 5 A2 n2 c2 es2).P w0) (h3 : (pfRow fI FI 1 A3 n3 c3 es3).P w0) (hR0 : Right i g n0 n1 es0 es1) (hR1 : Right i2 g2 n2 n3 es2 es3) (hi : i2 ≠ (n1 : Nat)) :
    Calls Tryd.prog 24 #[.agg #[.int .i64 i, .int .i64 (g : Nat), .slice A0 n0 c0, .slice A1 n1 c1], .agg #[.int .i64 i2, .int .i64 (g2 : Nat), .slice A2 n2 c2, .slice A3 n3 c3]] w0 fun e w' => e = .returned (.tuple #[.agg #[.int .i64 0, .int .i64 0, .slice none 0 0, .slice none 0 0], .int .i64 5]) ∧ Below w0.heap.size w0 w' := by
  obtain ⟨hh1, hh2, hh3, hh4, hh5, hh6⟩ := hR0.1
  obtain ⟨kk1, kk2, kk3, kk4, kk5, kk6⟩ := hR1.1
  refine enter Tryd.func24 rfl Tryd.ntmps24 rfl ?_
  intro a henv hst
  have hlen0 := h0.2.1
  have hbig0 := Nat.le_trans h0.1.cap h0.1.big
  unfold maxLen at hbig0
  have hlen1 := h1.2.1
  have hbig1 := Nat.le_trans h1.1.cap h1.1.big
  unfold maxLen at hbig1
  have hlen2 := h2.2.1
  have hbig2 := Nat.le_trans h2.1.cap h2.1.big
  unfold maxLen at hbig2
  have hlen3 := h3.2.1
  have hbig3 := Nat.le_trans h3.1.cap h3.1.big
  unfold maxLen at hbig3
  replace hst := hst.argRow h0
  replace hst := hst.argRow h1
  replace hst := hst.argRow h2
  replace hst := hst.argRow h3
  clear h0 h1 h2 h3
  refine wp_seq ?_
  refine region_seq ?_
  refine seq_step rfl (op_box (c := #[.int .i64 i, .int .i64 (g : Nat), .slice A0 n0 c0, .slice A1 n1 c1]) henv hst rfl rfl rfl ?_)
  clear henv hst a; intro a w52 g51 henv hst
  refine seq_step rfl (op_box (c := #[.int .i64 i2, .int .i64 (g2 : Nat), .slice A2 n2 c2, .slice A3 n3 c3]) henv hst rfl rfl rfl ?_)
  clear henv hst a; intro a w54 g53 henv hst
  refine seq_step rfl (op_alloc (c := #[.int .i64 0, .int .i64 0, .slice none 0 0, .slice none 0 0]) henv hst rfl zero_anvil_api_Prog rfl ?_)
  clear henv hst a; intro a w56 g55 henv hst
  refine sv (v := .int .i64 0) henv rfl (rn_assign henv rfl) ?_
  clear henv a; intro a henv
  refine wpList_nil ?_
  refine th_n ?_
  refine wp_seq ?_
  refine wp_seq ?_
  refine region_seq ?_
  revert a
  refine sA (v := .pointer (some ⟨g53, 0, none⟩)) rfl (fun _ henv => rn_fieldAddr henv fd_anvil_api_Prog_0 (ty_int.size) (by decide) rfl) ?_
  refine sA (v := .int .i64 i2) rfl (fun _ henv => rn_load1 henv ty_int rfl (hst.oat (k := 1) rfl) rfl) ?_
  refine sA (v := .pointer (some ⟨g51, 3, none⟩)) rfl (fun _ henv => rn_fieldAddr henv fd_anvil_api_Prog_3 (ty__int.size) (by decide) rfl) ?_
  refine sA (v := .slice A1 n1 c1) rfl (fun _ henv => rn_load1 henv ty__int rfl (hst.oat (k := 2) rfl) rfl) ?_
  refine sA (v := .int .i64 (n1 : Nat)) rfl (fun _ henv => rn_len henv Tryd.underlying23 rfl) ?_
  refine sA (v := .bool (i2 != ((n1 : Nat) : Int))) rfl (fun _ henv => rn_bin henv rfl rfl rfl) ?_
  intro a henv
  rw [show (i2 != ((n1 : Nat) : Int)) = true from (bne_iff_ne.2 hi)] at henv
  refine wpList_nil ?_
  refine th_n ?_
  refine if_t henv rfl (rfl) ?_
  refine wp_seq ?_
  refine region_seq ?_
  refine sv (v := .agg #[.int .i64 0, .int .i64 0, .slice none 0 0, .slice none 0 0]) henv rfl (rn_prog henv) ?_
  clear henv a; intro a henv
  refine seq_step rfl (op_store (k := 0) (c' := #[.int .i64 0, .int .i64 0, .slice none 0 0, .slice none 0 0]) henv hst (ty_anvil_api_Prog.size) rfl rfl rfl rfl (by simp) rfl rfl ?_)
  clear henv hst a; intro a w57 henv hst
  refine sv (v := .int .i64 5) henv rfl (rn_assign henv rfl) ?_
  clear henv a; intro a henv
  refine wpList_nil ?_
  refine th_n ?_
  refine wp_ret ?_
  refine th_r ?_
  refine leave henv (res2 Tryd.results24 (RV.cell henv ty_anvil_api_Prog rfl (hst.oat (k := 0) rfl) rfl) (RV.tmp henv rfl)) ?_
  exact ⟨rfl, hst.below⟩
set_option maxRecDepth 100000 in
set_option maxHeartbeats 4000000 in
theorem r_join_long1 {i : Int} {g g2 : Nat} {A0 A1 A2 A3 : Option Addr} {n0 c0 n1 c1 n2 c2 n3 c3 : Nat} {es0 : List IE} {es1 : List Int} {es2 : List IE} {es3 : List Int}  {w0 : World} (h0 : (pfRow fJ FJ 5 A0 n0 c0 es0).P w0) (h1 : (pfRow fI FI 1 A1 n1 c1 es1).P w0) (h2 : (pfRow fJ FJ 5 A2 n2 c2 es2).P w0) (h3 : (pfRow fI FI 1 A3 n3 c3 es3).P w0) (hR0 : Right i g n0 n1 es0 es1) (hR1 : Right (n1 : Nat) g2 n2 n3 es2 es3) (hw : 128 < g + g2) :
    Calls Tryd.prog 24 #[.agg #[.int .i64 i, .int .i64 (g : Nat), .slice A0 n0 c0, .slice A1 n1 c1], .agg #[.int .i64 (n1 : Nat), .int .i64 (g2 : Nat), .slice A2 n2 c2, .slice A3 n3 c3]] w0 fun e w' => e = .returned (.tuple #[.agg #[.int .i64 0, .int .i64 0, .slice none 0 0, .slice none 0 0], .int .i64 3]) ∧ Below w0.heap.size w0 w' := by
  obtain ⟨hh1, hh2, hh3, hh4, hh5, hh6⟩ := hR0.1
  obtain ⟨kk1, kk2, kk3, kk4, kk5, kk6⟩ := hR1.1
  refine enter Tryd.func24 rfl Tryd.ntmps24 rfl ?_
  intro a henv hst
  have hlen0 := h0.2.1
  have hbig0 := Nat.le_trans h0.1.cap h0.1.big
  unfold maxLen at hbig0
  have hlen1 := h1.2.1
  have hbig1 := Nat.le_trans h1.1.cap h1.1.big
  unfold maxLen at hbig1
  have hlen2 := h2.2.1
  have hbig2 := Nat.le_trans h2.1.cap h2.1.big
  unfold maxLen at hbig2
  have hlen3 := h3.2.1
  have hbig3 := Nat.le_trans h3.1.cap h3.1.big
  unfold maxLen at hbig3
  replace hst := hst.argRow h0
  replace hst := hst.argRow h1
  replace hst := hst.argRow h2
  replace hst := hst.argRow h3
  clear h0 h1 h2 h3
  refine wp_seq ?_
  refine region_seq ?_
  refine seq_step rfl (op_box (c := #[.int .i64 i, .int .i64 (g : Nat), .slice A0 n0 c0, .slice A1 n1 c1]) henv hst rfl rfl rfl ?_)
  clear henv hst a; intro a w52 g51 henv hst
  refine seq_step rfl (op_box (c := #[.int .i64 (n1 : Nat), .int .i64 (g2 : Nat), .slice A2 n2 c2, .slice A3 n3 c3]) henv hst rfl rfl rfl ?_)
  clear henv hst a; intro a w54 g53 henv hst
  refine seq_step rfl (op_alloc (c := #[.int .i64 0, .int .i64 0, .slice none 0 0, .slice none 0 0]) henv hst rfl zero_anvil_api_Prog rfl ?_)
  clear henv hst a; intro a w56 g55 henv hst
  refine sv (v := .int .i64 0) henv rfl (rn_assign henv rfl) ?_
  clear henv a; intro a henv
  refine wpList_nil ?_
  refine th_n ?_
  refine wp_seq ?_
  refine wp_seq ?_
  refine region_seq ?_
  revert a
  refine sA (v := .pointer (some ⟨g53, 0, none⟩)) rfl (fun _ henv => rn_fieldAddr henv fd_anvil_api_Prog_0 (ty_int.size) (by decide) rfl) ?_
  refine sA (v := .int .i64 (n1 : Nat)) rfl (fun _ henv => rn_load1 henv ty_int rfl (hst.oat (k := 1) rfl) rfl) ?_
  refine sA (v := .pointer (some ⟨g51, 3, none⟩)) rfl (fun _ henv => rn_fieldAddr henv fd_anvil_api_Prog_3 (ty__int.size) (by decide) rfl) ?_
  refine sA (v := .slice A1 n1 c1) rfl (fun _ henv => rn_load1 henv ty__int rfl (hst.oat (k := 2) rfl) rfl) ?_
  refine sA (v := .int .i64 (n1 : Nat)) rfl (fun _ henv => rn_len henv Tryd.underlying23 rfl) ?_
  refine sA (v := .bool (((n1 : Nat) : Int) != ((n1 : Nat) : Int))) rfl (fun _ henv => rn_bin henv rfl rfl rfl) ?_
  intro a henv
  rw [show (((n1 : Nat) : Int) != ((n1 : Nat) : Int)) = false from (bne_self_eq_false _)] at henv
  refine wpList_nil ?_
  refine th_n ?_
  refine if_f henv rfl (rfl) ?_
  refine wp_skip ?_
  refine th_n ?_
  refine wp_seq ?_
  refine wp_seq ?_
  refine region_seq ?_
  revert a
  refine sA (v := .pointer (some ⟨g51, 1, none⟩)) rfl (fun _ henv => rn_fieldAddr henv fd_anvil_api_Prog_1 (ty_int.size) (by decide) rfl) ?_
  refine sA (v := .int .i64 (g : Nat)) rfl (fun _ henv => rn_load1 henv ty_int rfl (hst.oat (k := 2) rfl) rfl) ?_
  refine sA (v := .pointer (some ⟨g53, 1, none⟩)) rfl (fun _ henv => rn_fieldAddr henv fd_anvil_api_Prog_1 (ty_int.size) (by decide) rfl) ?_
  refine sA (v := .int .i64 (g2 : Nat)) rfl (fun _ henv => rn_load1 henv ty_int rfl (hst.oat (k := 1) rfl) rfl) ?_
  refine sA (v := .int .i64 (g + g2 : Nat)) rfl (fun _ henv => rn_add henv rfl rfl (by rw [IntWalk.i64_in _ (by omega)]; omega)) ?_
  refine sA (v := .bool (decide (((g + g2 : Nat) : Int) > (128 : Int)))) rfl (fun _ henv => rn_bin henv rfl rfl rfl) ?_
  intro a henv
  rw [show (decide (((g + g2 : Nat) : Int) > (128 : Int))) = true from (decide_eq_true (by omega))] at henv
  revert a
  refine mA rfl rfl ?_
  refine kA rfl rfl rfl rfl rfl ?_
  refine kA rfl rfl rfl rfl rfl ?_
  refine kA rfl rfl rfl rfl rfl ?_
  refine kA rfl rfl rfl rfl rfl ?_
  refine kA rfl rfl rfl rfl rfl ?_
  refine kA rfl rfl rfl rfl rfl ?_
  refine kA rfl rfl rfl rfl rfl ?_
  refine kA rfl rfl rfl rfl rfl ?_
  refine kA rfl rfl rfl rfl rfl ?_
  refine kA rfl rfl rfl rfl rfl ?_
  refine kA rfl rfl rfl rfl rfl ?_
  refine sA (v := .bool true) rfl (fun _ henv => rn_pick henv rfl rfl) ?_
  intro a henv
  refine wpList_nil ?_
  refine th_n ?_
  refine if_t henv rfl (rfl) ?_
  refine wp_seq ?_
  refine region_seq ?_
  refine sv (v := .agg #[.int .i64 0, .int .i64 0, .slice none 0 0, .slice none 0 0]) henv rfl (rn_prog henv) ?_
  clear henv a; intro a henv
  refine seq_step rfl (op_store (k := 0) (c' := #[.int .i64 0, .int .i64 0, .slice none 0 0, .slice none 0 0]) henv hst (ty_anvil_api_Prog.size) rfl rfl rfl rfl (by simp) rfl rfl ?_)
  clear henv hst a; intro a w57 henv hst
  refine sv (v := .int .i64 3) henv rfl (rn_assign henv rfl) ?_
  clear henv a; intro a henv
  refine wpList_nil ?_
  refine th_n ?_
  refine wp_ret ?_
  refine th_r ?_
  refine leave henv (res2 Tryd.results24 (RV.cell henv ty_anvil_api_Prog rfl (hst.oat (k := 0) rfl) rfl) (RV.tmp henv rfl)) ?_
  exact ⟨rfl, hst.below⟩
set_option maxRecDepth 100000 in
set_option maxHeartbeats 4000000 in
theorem r_join_long2 {i : Int} {g g2 : Nat} {A0 A1 A2 A3 : Option Addr} {n0 c0 n1 c1 n2 c2 n3 c3 : Nat} {es0 : List IE} {es1 : List Int} {es2 : List IE} {es3 : List Int}  {w0 : World} (h0 : (pfRow fJ FJ 5 A0 n0 c0 es0).P w0) (h1 : (pfRow fI FI 1 A1 n1 c1 es1).P w0) (h2 : (pfRow fJ FJ 5 A2 n2 c2 es2).P w0) (h3 : (pfRow fI FI 1 A3 n3 c3 es3).P w0) (hR0 : Right i g n0 n1 es0 es1) (hR1 : Right (n1 : Nat) g2 n2 n3 es2 es3) (hv : g + g2 ≤ 128) (hw : 16384 < n0 + n1 + n2) :
    Calls Tryd.prog 24 #[.agg #[.int .i64 i, .int .i64 (g : Nat), .slice A0 n0 c0, .slice A1 n1 c1], .agg #[.int .i64 (n1 : Nat), .int .i64 (g2 : Nat), .slice A2 n2 c2, .slice A3 n3 c3]] w0 fun e w' => e = .returned (.tuple #[.agg #[.int .i64 0, .int .i64 0, .slice none 0 0, .slice none 0 0], .int .i64 3]) ∧ Below w0.heap.size w0 w' := by
  obtain ⟨hh1, hh2, hh3, hh4, hh5, hh6⟩ := hR0.1
  obtain ⟨kk1, kk2, kk3, kk4, kk5, kk6⟩ := hR1.1
  refine enter Tryd.func24 rfl Tryd.ntmps24 rfl ?_
  intro a henv hst
  have hlen0 := h0.2.1
  have hbig0 := Nat.le_trans h0.1.cap h0.1.big
  unfold maxLen at hbig0
  have hlen1 := h1.2.1
  have hbig1 := Nat.le_trans h1.1.cap h1.1.big
  unfold maxLen at hbig1
  have hlen2 := h2.2.1
  have hbig2 := Nat.le_trans h2.1.cap h2.1.big
  unfold maxLen at hbig2
  have hlen3 := h3.2.1
  have hbig3 := Nat.le_trans h3.1.cap h3.1.big
  unfold maxLen at hbig3
  replace hst := hst.argRow h0
  replace hst := hst.argRow h1
  replace hst := hst.argRow h2
  replace hst := hst.argRow h3
  clear h0 h1 h2 h3
  refine wp_seq ?_
  refine region_seq ?_
  refine seq_step rfl (op_box (c := #[.int .i64 i, .int .i64 (g : Nat), .slice A0 n0 c0, .slice A1 n1 c1]) henv hst rfl rfl rfl ?_)
  clear henv hst a; intro a w52 g51 henv hst
  refine seq_step rfl (op_box (c := #[.int .i64 (n1 : Nat), .int .i64 (g2 : Nat), .slice A2 n2 c2, .slice A3 n3 c3]) henv hst rfl rfl rfl ?_)
  clear henv hst a; intro a w54 g53 henv hst
  refine seq_step rfl (op_alloc (c := #[.int .i64 0, .int .i64 0, .slice none 0 0, .slice none 0 0]) henv hst rfl zero_anvil_api_Prog rfl ?_)
  clear henv hst a; intro a w56 g55 henv hst
  refine sv (v := .int .i64 0) henv rfl (rn_assign henv rfl) ?_
  clear henv a; intro a henv
  refine wpList_nil ?_
  refine th_n ?_
  refine wp_seq ?_
  refine wp_seq ?_
  refine region_seq ?_
  revert a
  refine sA (v := .pointer (some ⟨g53, 0, none⟩)) rfl (fun _ henv => rn_fieldAddr henv fd_anvil_api_Prog_0 (ty_int.size) (by decide) rfl) ?_
  refine sA (v := .int .i64 (n1 : Nat)) rfl (fun _ henv => rn_load1 henv ty_int rfl (hst.oat (k := 1) rfl) rfl) ?_
  refine sA (v := .pointer (some ⟨g51, 3, none⟩)) rfl (fun _ henv => rn_fieldAddr henv fd_anvil_api_Prog_3 (ty__int.size) (by decide) rfl) ?_
  refine sA (v := .slice A1 n1 c1) rfl (fun _ henv => rn_load1 henv ty__int rfl (hst.oat (k := 2) rfl) rfl) ?_
  refine sA (v := .int .i64 (n1 : Nat)) rfl (fun _ henv => rn_len henv Tryd.underlying23 rfl) ?_
  refine sA (v := .bool (((n1 : Nat) : Int) != ((n1 : Nat) : Int))) rfl (fun _ henv => rn_bin henv rfl rfl rfl) ?_
  intro a henv
  rw [show (((n1 : Nat) : Int) != ((n1 : Nat) : Int)) = false from (bne_self_eq_false _)] at henv
  refine wpList_nil ?_
  refine th_n ?_
  refine if_f henv rfl (rfl) ?_
  refine wp_skip ?_
  refine th_n ?_
  refine wp_seq ?_
  refine wp_seq ?_
  refine region_seq ?_
  revert a
  refine sA (v := .pointer (some ⟨g51, 1, none⟩)) rfl (fun _ henv => rn_fieldAddr henv fd_anvil_api_Prog_1 (ty_int.size) (by decide) rfl) ?_
  refine sA (v := .int .i64 (g : Nat)) rfl (fun _ henv => rn_load1 henv ty_int rfl (hst.oat (k := 2) rfl) rfl) ?_
  refine sA (v := .pointer (some ⟨g53, 1, none⟩)) rfl (fun _ henv => rn_fieldAddr henv fd_anvil_api_Prog_1 (ty_int.size) (by decide) rfl) ?_
  refine sA (v := .int .i64 (g2 : Nat)) rfl (fun _ henv => rn_load1 henv ty_int rfl (hst.oat (k := 1) rfl) rfl) ?_
  refine sA (v := .int .i64 (g + g2 : Nat)) rfl (fun _ henv => rn_add henv rfl rfl (by rw [IntWalk.i64_in _ (by omega)]; omega)) ?_
  refine sA (v := .bool (decide (((g + g2 : Nat) : Int) > (128 : Int)))) rfl (fun _ henv => rn_bin henv rfl rfl rfl) ?_
  intro a henv
  rw [show (decide (((g + g2 : Nat) : Int) > (128 : Int))) = false from (decide_eq_false (by omega))] at henv
  revert a
  refine mA rfl rfl ?_
  refine gA (v := .pointer (some ⟨g51, 2, none⟩)) rfl rfl rfl rfl (fun _ henv => rn_fieldAddr henv fd_anvil_api_Prog_2 (ty__api_Instr.size) (by decide) rfl) ?_
  refine gA (v := .slice A0 n0 c0) rfl rfl rfl rfl (fun _ henv => rn_load1 henv ty__api_Instr rfl (hst.oat (k := 2) rfl) rfl) ?_
  refine gA (v := .int .i64 (n0 : Nat)) rfl rfl rfl rfl (fun _ henv => rn_len henv Tryd.underlying22 rfl) ?_
  refine gA (v := .pointer (some ⟨g53, 0, none⟩)) rfl rfl rfl rfl (fun _ henv => rn_fieldAddr henv fd_anvil_api_Prog_0 (ty_int.size) (by decide) rfl) ?_
  refine gA (v := .int .i64 (n1 : Nat)) rfl rfl rfl rfl (fun _ henv => rn_load1 henv ty_int rfl (hst.oat (k := 1) rfl) rfl) ?_
  refine gA (v := .int .i64 (n0 + n1 : Nat)) rfl rfl rfl rfl (fun _ henv => rn_add henv rfl rfl (by rw [IntWalk.i64_in _ (by omega)]; omega)) ?_
  refine gA (v := .pointer (some ⟨g53, 2, none⟩)) rfl rfl rfl rfl (fun _ henv => rn_fieldAddr henv fd_anvil_api_Prog_2 (ty__api_Instr.size) (by decide) rfl) ?_
  refine gA (v := .slice A2 n2 c2) rfl rfl rfl rfl (fun _ henv => rn_load1 henv ty__api_Instr rfl (hst.oat (k := 1) rfl) rfl) ?_
  refine gA (v := .int .i64 (n2 : Nat)) rfl rfl rfl rfl (fun _ henv => rn_len henv Tryd.underlying22 rfl) ?_
  refine gA (v := .int .i64 ((n0 + n1) + n2 : Nat)) rfl rfl rfl rfl (fun _ henv => rn_add henv rfl rfl (by rw [IntWalk.i64_in _ (by omega)]; omega)) ?_
  refine gA (v := .bool (decide ((((n0 + n1) + n2 : Nat) : Int) > (16384 : Int)))) rfl rfl rfl rfl (fun _ henv => rn_bin henv rfl rfl rfl) ?_
  intro a henv
  rw [show (decide ((((n0 + n1) + n2 : Nat) : Int) > (16384 : Int))) = true from (decide_eq_true (by omega))] at henv
  refine sv (v := .bool true) henv rfl (rn_pick henv rfl rfl) ?_
  clear henv a; intro a henv
  refine wpList_nil ?_
  refine th_n ?_
  refine if_t henv rfl (rfl) ?_
  refine wp_seq ?_
  refine region_seq ?_
  refine sv (v := .agg #[.int .i64 0, .int .i64 0, .slice none 0 0, .slice none 0 0]) henv rfl (rn_prog henv) ?_
  clear henv a; intro a henv
  refine seq_step rfl (op_store (k := 0) (c' := #[.int .i64 0, .int .i64 0, .slice none 0 0, .slice none 0 0]) henv hst (ty_anvil_api_Prog.size) rfl rfl rfl rfl (by simp) rfl rfl ?_)
  clear henv hst a; intro a w57 henv hst
  refine sv (v := .int .i64 3) henv rfl (rn_assign henv rfl) ?_
  clear henv a; intro a henv
  refine wpList_nil ?_
  refine th_n ?_
  refine wp_ret ?_
  refine th_r ?_
  refine leave henv (res2 Tryd.results24 (RV.cell henv ty_anvil_api_Prog rfl (hst.oat (k := 0) rfl) rfl) (RV.tmp henv rfl)) ?_
  exact ⟨rfl, hst.below⟩
set_option maxRecDepth 100000 in
set_option maxHeartbeats 4000000 in
theorem r_join_okz {i : Int} {g g2 : Nat} {A0 A1 A2 A3 : Option Addr} {c0 n1 c1 n2 c2 n3 c3 : Nat} {es0 : List IE} {es1 : List Int} {es2 : List IE} {es3 : List Int}  {w0 : World} (h0 : (pfRow fJ FJ 5 A0 0 c0 es0).P w0) (h1 : (pfRow fI FI 1 A1 n1 c1 es1).P w0) (h2 : (pfRow fJ FJ 5 A2 n2 c2 es2).P w0) (h3 : (pfRow fI FI 1 A3 n3 c3 es3).P w0) (hR0 : Right i g 0 n1 es0 es1) (hR1 : Right (n1 : Nat) g2 n2 n3 es2 es3) (hv : g + g2 ≤ 128) (hw : 0 + n1 + n2 ≤ 16384) :
    Calls Tryd.prog 24 #[.agg #[.int .i64 i, .int .i64 (g : Nat), .slice A0 0 c0, .slice A1 n1 c1], .agg #[.int .i64 (n1 : Nat), .int .i64 (g2 : Nat), .slice A2 n2 c2, .slice A3 n3 c3]] w0 fun e w' => ∃ A c B d, e = .returned (.tuple #[.agg #[.int .i64 i, .int .i64 ((g + g2 : Nat) : Int), .slice A (0 + n1 + n2) c, .slice B n3 d], .int .i64 0]) ∧ TwoR w0.heap.size w' A (0 + n1 + n2) c (jnC (g : Int) es0 es1 es2) B n3 d (jnO (g : Int) es3) ∧ Below w0.heap.size w0 w' := by
  obtain ⟨hh1, hh2, hh3, hh4, hh5, hh6⟩ := hR0.1
  obtain ⟨kk1, kk2, kk3, kk4, kk5, kk6⟩ := hR1.1
  refine enter Tryd.func24 rfl Tryd.ntmps24 rfl ?_
  intro a henv hst
  have hlen0 := h0.2.1
  have hbig0 := Nat.le_trans h0.1.cap h0.1.big
  unfold maxLen at hbig0
  have hlen1 := h1.2.1
  have hbig1 := Nat.le_trans h1.1.cap h1.1.big
  unfold maxLen at hbig1
  have hlen2 := h2.2.1
  have hbig2 := Nat.le_trans h2.1.cap h2.1.big
  unfold maxLen at hbig2
  have hlen3 := h3.2.1
  have hbig3 := Nat.le_trans h3.1.cap h3.1.big
  unfold maxLen at hbig3
  replace hst := hst.argRow h0
  replace hst := hst.argRow h1
  replace hst := hst.argRow h2
  replace hst := hst.argRow h3
  clear h0 h1 h2 h3
  refine wp_seq ?_
  refine region_seq ?_
  refine seq_step rfl (op_box (c := #[.int .i64 i, .int .i64 (g : Nat), .slice A0 0 c0, .slice A1 n1 c1]) henv hst rfl rfl rfl ?_)
  clear henv hst a; intro a w52 g51 henv hst
  refine seq_step rfl (op_box (c := #[.int .i64 (n1 : Nat), .int .i64 (g2 : Nat), .slice A2 n2 c2, .slice A3 n3 c3]) henv hst rfl rfl rfl ?_)
  clear henv hst a; intro a w54 g53 henv hst
  refine seq_step rfl (op_alloc (c := #[.int .i64 0, .int .i64 0, .slice none 0 0, .slice none 0 0]) henv hst rfl zero_anvil_api_Prog rfl ?_)
  clear henv hst a; intro a w56 g55 henv hst
  refine sv (v := .int .i64 0) henv rfl (rn_assign henv rfl) ?_
  clear henv a; intro a henv
  refine wpList_nil ?_
  refine th_n ?_
  refine wp_seq ?_
  refine wp_seq ?_
  refine region_seq ?_
  revert a
  refine sA (v := .pointer (some ⟨g53, 0, none⟩)) rfl (fun _ henv => rn_fieldAddr henv fd_anvil_api_Prog_0 (ty_int.size) (by decide) rfl) ?_
  refine sA (v := .int .i64 (n1 : Nat)) rfl (fun _ henv => rn_load1 henv ty_int rfl (hst.oat (k := 1) rfl) rfl) ?_
  refine sA (v := .pointer (some ⟨g51, 3, none⟩)) rfl (fun _ henv => rn_fieldAddr henv fd_anvil_api_Prog_3 (ty__int.size) (by decide) rfl) ?_
  refine sA (v := .slice A1 n1 c1) rfl (fun _ henv => rn_load1 henv ty__int rfl (hst.oat (k := 2) rfl) rfl) ?_
  refine sA (v := .int .i64 (n1 : Nat)) rfl (fun _ henv => rn_len henv Tryd.underlying23 rfl) ?_
  refine sA (v := .bool (((n1 : Nat) : Int) != ((n1 : Nat) : Int))) rfl (fun _ henv => rn_bin henv rfl rfl rfl) ?_
  intro a henv
  rw [show (((n1 : Nat) : Int) != ((n1 : Nat) : Int)) = false from (bne_self_eq_false _)] at henv
  refine wpList_nil ?_
  refine th_n ?_
  refine if_f henv rfl (rfl) ?_
  refine wp_skip ?_
  refine th_n ?_
  refine wp_seq ?_
  refine wp_seq ?_
  refine region_seq ?_
  revert a
  refine sA (v := .pointer (some ⟨g51, 1, none⟩)) rfl (fun _ henv => rn_fieldAddr henv fd_anvil_api_Prog_1 (ty_int.size) (by decide) rfl) ?_
  refine sA (v := .int .i64 (g : Nat)) rfl (fun _ henv => rn_load1 henv ty_int rfl (hst.oat (k := 2) rfl) rfl) ?_
  refine sA (v := .pointer (some ⟨g53, 1, none⟩)) rfl (fun _ henv => rn_fieldAddr henv fd_anvil_api_Prog_1 (ty_int.size) (by decide) rfl) ?_
  refine sA (v := .int .i64 (g2 : Nat)) rfl (fun _ henv => rn_load1 henv ty_int rfl (hst.oat (k := 1) rfl) rfl) ?_
  refine sA (v := .int .i64 (g + g2 : Nat)) rfl (fun _ henv => rn_add henv rfl rfl (by rw [IntWalk.i64_in _ (by omega)]; omega)) ?_
  refine sA (v := .bool (decide (((g + g2 : Nat) : Int) > (128 : Int)))) rfl (fun _ henv => rn_bin henv rfl rfl rfl) ?_
  intro a henv
  rw [show (decide (((g + g2 : Nat) : Int) > (128 : Int))) = false from (decide_eq_false (by omega))] at henv
  revert a
  refine mA rfl rfl ?_
  refine gA (v := .pointer (some ⟨g51, 2, none⟩)) rfl rfl rfl rfl (fun _ henv => rn_fieldAddr henv fd_anvil_api_Prog_2 (ty__api_Instr.size) (by decide) rfl) ?_
  refine gA (v := .slice A0 0 c0) rfl rfl rfl rfl (fun _ henv => rn_load1 henv ty__api_Instr rfl (hst.oat (k := 2) rfl) rfl) ?_
  refine gA (v := .int .i64 0) rfl rfl rfl rfl (fun _ henv => rn_len henv Tryd.underlying22 rfl) ?_
  refine gA (v := .pointer (some ⟨g53, 0, none⟩)) rfl rfl rfl rfl (fun _ henv => rn_fieldAddr henv fd_anvil_api_Prog_0 (ty_int.size) (by decide) rfl) ?_
  refine gA (v := .int .i64 (n1 : Nat)) rfl rfl rfl rfl (fun _ henv => rn_load1 henv ty_int rfl (hst.oat (k := 1) rfl) rfl) ?_
  refine gA (v := .int .i64 (0 + n1 : Nat)) rfl rfl rfl rfl (fun _ henv => rn_add henv rfl rfl (by rw [IntWalk.i64_in _ (by omega)]; omega)) ?_
  refine gA (v := .pointer (some ⟨g53, 2, none⟩)) rfl rfl rfl rfl (fun _ henv => rn_fieldAddr henv fd_anvil_api_Prog_2 (ty__api_Instr.size) (by decide) rfl) ?_
  refine gA (v := .slice A2 n2 c2) rfl rfl rfl rfl (fun _ henv => rn_load1 henv ty__api_Instr rfl (hst.oat (k := 1) rfl) rfl) ?_
  refine gA (v := .int .i64 (n2 : Nat)) rfl rfl rfl rfl (fun _ henv => rn_len henv Tryd.underlying22 rfl) ?_
  refine gA (v := .int .i64 ((0 + n1) + n2 : Nat)) rfl rfl rfl rfl (fun _ henv => rn_add henv rfl rfl (by rw [IntWalk.i64_in _ (by omega)]; omega)) ?_
  refine gA (v := .bool (decide ((((0 + n1) + n2 : Nat) : Int) > (16384 : Int)))) rfl rfl rfl rfl (fun _ henv => rn_bin henv rfl rfl rfl) ?_
  intro a henv
  rw [show (decide ((((0 + n1) + n2 : Nat) : Int) > (16384 : Int))) = false from (decide_eq_false (by omega))] at henv
  refine sv (v := .bool false) henv rfl (rn_pick henv rfl rfl) ?_
  clear henv a; intro a henv
  refine wpList_nil ?_
  refine th_n ?_
  refine if_f henv rfl (rfl) ?_
  refine wp_skip ?_
  refine th_n ?_
  refine wp_seq ?_
  refine region_seq ?_
  revert a
  refine sA (v := .pointer (some ⟨g51, 0, none⟩)) rfl (fun _ henv => rn_fieldAddr henv fd_anvil_api_Prog_0 (ty_int.size) (by decide) rfl) ?_
  refine sA (v := .int .i64 i) rfl (fun _ henv => rn_load1 henv ty_int rfl (hst.oat (k := 2) rfl) rfl) ?_
  refine sA (v := .pointer (some ⟨g51, 1, none⟩)) rfl (fun _ henv => rn_fieldAddr henv fd_anvil_api_Prog_1 (ty_int.size) (by decide) rfl) ?_
  refine sA (v := .int .i64 (g : Nat)) rfl (fun _ henv => rn_load1 henv ty_int rfl (hst.oat (k := 2) rfl) rfl) ?_
  refine sA (v := .pointer (some ⟨g53, 1, none⟩)) rfl (fun _ henv => rn_fieldAddr henv fd_anvil_api_Prog_1 (ty_int.size) (by decide) rfl) ?_
  refine sA (v := .int .i64 (g2 : Nat)) rfl (fun _ henv => rn_load1 henv ty_int rfl (hst.oat (k := 1) rfl) rfl) ?_
  refine sA (v := .int .i64 (g + g2 : Nat)) rfl (fun _ henv => rn_add henv rfl rfl (by rw [IntWalk.i64_in _ (by omega)]; omega)) ?_
  refine sA (v := .agg #[.int .i64 i, .int .i64 (g + g2 : Nat), .slice none 0 0, .slice none 0 0]) rfl (fun _ henv => rn_prog01 henv rfl rfl) ?_
  intro a henv
  refine seq_step rfl (op_alloc (c := #[.int .i64 0, .int .i64 0, .slice none 0 0, .slice none 0 0]) henv hst rfl zero_anvil_api_Prog rfl ?_)
  clear henv hst a; intro a w58 g57 henv hst
  refine seq_step rfl (op_store (k := 0) (c' := #[.int .i64 i, .int .i64 (g + g2 : Nat), .slice none 0 0, .slice none 0 0]) henv hst (ty_anvil_api_Prog.size) rfl rfl rfl rfl (by simp) rfl rfl ?_)
  clear henv hst a; intro a w59 henv hst
  refine wpList_nil ?_
  refine th_n ?_
  refine wp_seq ?_
  replace hst := (hst.addRowS notU 37 5)
  replace hst : St w0 _ [rowS notU 37 5 none 0 0 (fl fJ ([])), bk g57 #[.int .i64 i, .int .i64 (g + g2 : Nat), .slice none 0 0, .slice none 0 0] 25, bk g55 #[.int .i64 0, .int .i64 0, .slice none 0 0, .slice none 0 0] 25, bk g53 #[.int .i64 (n1 : Nat), .int .i64 (g2 : Nat), .slice A2 n2 c2, .slice A3 n3 c3] 25, bk g51 #[.int .i64 i, .int .i64 (g : Nat), .slice A0 0 c0, .slice A1 n1 c1] 25] [pfRow fI FI 1 A3 n3 c3 es3, pfRow fJ FJ 5 A2 n2 c2 es2, pfRow fI FI 1 A1 n1 c1 es1, pfRow fJ FJ 5 A0 0 c0 es0] := hst
  refine region_seq ?_
  revert a
  refine sA (v := .pointer (some ⟨g57, 2, none⟩)) rfl (fun _ henv => rn_fieldAddr henv fd_anvil_api_Prog_2 (ty__api_Instr.size) (by decide) rfl) ?_
  refine sA (v := .slice none 0 0) rfl (fun _ henv => rn_load1 henv ty__api_Instr rfl (hst.oat (k := 1) rfl) rfl) ?_
  refine sA (v := .pointer (some ⟨g51, 2, none⟩)) rfl (fun _ henv => rn_fieldAddr henv fd_anvil_api_Prog_2 (ty__api_Instr.size) (by decide) rfl) ?_
  refine sA (v := .slice A0 0 c0) rfl (fun _ henv => rn_load1 henv ty__api_Instr rfl (hst.oat (k := 4) rfl) rfl) ?_
  intro a henv
  refine seq_step rfl (op_appendR0 (k := 0) henv hst rfl Tryd.underlying22 (ty_anvil_api_Instr.size) rfl rfl rfl ?_)
  clear henv a; intro a henv
  refine sv (v := .pointer (some ⟨g57, 2, none⟩)) henv rfl (rn_fieldAddr henv fd_anvil_api_Prog_2 (ty__api_Instr.size) (by decide) rfl) ?_
  clear henv a; intro a henv
  refine seq_step rfl (op_store1 (k := 1) (c' := #[.int .i64 i, .int .i64 (g + g2 : Nat), .slice none 0 0, .slice none 0 0]) henv hst (ty__api_Instr.size) rfl rfl rfl (by simp) rfl rfl ?_)
  clear henv hst a; intro a w60 henv hst
  refine wpList_nil ?_
  refine th_n ?_
  refine wp_seq ?_
  refine wp_seq ?_
  refine region_seq ?_
  refine sv (v := .int .i64 0) henv rfl (rn_assign henv rfl) ?_
  clear henv a; intro a henv
  refine wpList_nil ?_
  refine th_n ?_
  refine wp_block ?_
  refine wp_loop_ghost (fun mz a w => ∃ j : Nat, ∃ Ba : Option Addr, ∃ da : Nat, ∃ oa : List IE, n1 - j = mz ∧ Env 139 a [(2, .pointer (some ⟨g51, 0, none⟩)), (3, .pointer (some ⟨g53, 0, none⟩)), (4, .pointer (some ⟨g55, 0, none⟩)), (6, .pointer (some ⟨g57, 0, none⟩)), (7, .int .i64 (j : Nat))] ∧ St w0 w [rowS notU 37 5 Ba (0 + j) da (fl fJ oa), bk g57 #[.int .i64 i, .int .i64 (g + g2 : Nat), .slice Ba (0 + j) da, .slice none 0 0] 25, bk g55 #[.int .i64 0, .int .i64 0, .slice none 0 0, .slice none 0 0] 25, bk g53 #[.int .i64 (n1 : Nat), .int .i64 (g2 : Nat), .slice A2 n2 c2, .slice A3 n3 c3] 25, bk g51 #[.int .i64 i, .int .i64 (g : Nat), .slice A0 0 c0, .slice A1 n1 c1] 25] [pfRow fI FI 1 A3 n3 c3 es3, pfRow fJ FJ 5 A2 n2 c2 es2, pfRow fI FI 1 A1 n1 c1 es1, pfRow fJ FJ 5 A0 0 c0 es0] ∧ j ≤ n1 ∧ oa = es0 ++ (List.range j).map (moveI (g : Int) es1)) _ ⟨0, none, 0, [], rfl, henv.sub ⟨rfl, rfl, rfl, rfl, rfl, trivial⟩, hst.pick [0, 1, 2, 3, 4] [0, 1, 2, 3] (by decide), (Nat.zero_le _), (by rw [List.eq_nil_of_length_eq_zero hlen0]; rfl)⟩ ?_
  clear henv hst a
  rintro mz a w61 ⟨j, Ba, da, oa, rfl, henv, hst, hj, hoa⟩
  refine wp_seq ?_
  refine wp_seq ?_
  refine region_seq ?_
  revert a
  refine mA rfl rfl ?_
  refine sA (v := .pointer (some ⟨g51, 3, none⟩)) rfl (fun _ henv => rn_fieldAddr henv fd_anvil_api_Prog_3 (ty__int.size) (by decide) rfl) ?_
  refine sA (v := .slice A1 n1 c1) rfl (fun _ henv => rn_load1 henv ty__int rfl (hst.oat (k := 4) rfl) rfl) ?_
  refine sA (v := .int .i64 (n1 : Nat)) rfl (fun _ henv => rn_len henv Tryd.underlying23 rfl) ?_
  refine sA (v := .bool (decide (((j : Nat) : Int) < ((n1 : Nat) : Int)))) rfl (fun _ henv => rn_bin henv rfl rfl rfl) ?_
  intro a henv
  refine wpList_nil ?_
  refine th_n ?_
  refine if_split henv rfl (fun hc62 => ?_) (fun hc62 => ?_)
  · have hlt : j < n1 := by have := of_decide_eq_true hc62; omega
    obtain ⟨x, hea⟩ : ∃ e, es1[j]? = some e := ⟨_, List.getElem?_eq_getElem (by omega)⟩
    refine wp_skip ?_
    refine th_n ?_
    refine wp_seq ?_
    refine wp_block ?_
    refine region_any (n := 16) (Sk [bk g55 #[.int .i64 0, .int .i64 0, .slice none 0 0, .slice none 0 0] 25, bk g53 #[.int .i64 (n1 : Nat), .int .i64 (g2 : Nat), .slice A2 n2 c2, .slice A3 n3 c3] 25, bk g51 #[.int .i64 i, .int .i64 (g : Nat), .slice A0 0 c0, .slice A1 n1 c1] 25] [pfRow fI FI 1 A3 n3 c3 es3, pfRow fJ FJ 5 A2 n2 c2 es2, pfRow fI FI 1 A1 n1 c1 es1, pfRow fJ FJ 5 A0 0 c0 es0] [15] [bk g57 #[.int .i64 i, .int .i64 (g + g2 : Nat), .slice Ba (0 + j) da, .slice none 0 0] 25]) mixed rfl henv hst ?_
    clear henv hst; intro w63 henv hst
    refine tA (i := 0) [1, 13, 14, 15] (v := .pointer (some ⟨g57, 2, none⟩)) rfl (by kernel_rfl) (fun _ _ _ h => h) henv rfl (fun _ => rn_fieldAddr henv fd_anvil_api_Prog_2 (ty__api_Instr.size) (by decide) rfl) ?_
    clear henv a; intro a henv
    refine sAny_take (i := 1) [13, 14, 15] (fun w' => w'.heap[g57]? = some (.cells #[.int .i64 i, .int .i64 (g + g2 : Nat), .slice Ba (0 + j) da, .slice none 0 0] 25 (0, 0))) (v := .slice Ba (0 + j) da) rfl (by kernel_rfl) (fun _ _ _ h => h) (fun _ _ hj hS => (hS.two rfl hj).oat (k := 0) rfl) henv rfl (hst.oat (k := 1) rfl) (fun w' hg => rn_load1 henv ty__api_Instr rfl hg rfl) ?_
    clear henv a; intro a henv
    refine tA (i := 2) [3, 5, 11, 12, 13, 14, 15] (v := .pointer (some ⟨g51, 1, none⟩)) rfl (by kernel_rfl) (fun _ _ _ h => h) henv rfl (fun _ => rn_fieldAddr henv fd_anvil_api_Prog_1 (ty_int.size) (by decide) rfl) ?_
    clear henv a; intro a henv
    refine sAny_take (i := 3) [5, 11, 12, 13, 14, 15] (fun w' => w'.heap[g51]? = some (.cells #[.int .i64 i, .int .i64 (g : Nat), .slice A0 0 c0, .slice A1 n1 c1] 25 (0, 0))) (v := .int .i64 (g : Nat)) rfl (by kernel_rfl) (fun _ _ _ h => h) (fun _ _ _ hS => hS.1.oat (k := 2) rfl) henv rfl (hst.oat (k := 4) rfl) (fun w' hg => rn_load1 henv ty_int rfl hg rfl) ?_
    clear henv a; intro a henv
    refine tM (i := 4) [5, 11, 12, 13, 14, 15] rfl (by kernel_rfl) (fun _ _ _ h => h) henv rfl rfl ?_
    clear henv a; intro a henv
    refine tA (i := 5) (rg 11 5) (v := .int .i64 (g + j : Nat)) rfl (by kernel_rfl) (fun _ _ _ h => h) henv rfl (fun _ => rn_add henv rfl rfl (by rw [IntWalk.i64_in _ (by omega)]; omega)) ?_
    clear henv a; intro a henv
    refine tA (i := 6) [7, 9, 10, 11, 12, 13, 14, 15] (v := .pointer (some ⟨g51, 3, none⟩)) rfl (by kernel_rfl) (fun _ _ _ h => h) henv rfl (fun _ => rn_fieldAddr henv fd_anvil_api_Prog_3 (ty__int.size) (by decide) rfl) ?_
    clear henv a; intro a henv
    refine sAny_take (i := 7) [9, 10, 11, 12, 13, 14, 15] (fun w' => w'.heap[g51]? = some (.cells #[.int .i64 i, .int .i64 (g : Nat), .slice A0 0 c0, .slice A1 n1 c1] 25 (0, 0))) (v := .slice A1 n1 c1) rfl (by kernel_rfl) (fun _ _ _ h => h) (fun _ _ _ hS => hS.1.oat (k := 2) rfl) henv rfl (hst.oat (k := 4) rfl) (fun w' hg => rn_load1 henv ty__int rfl hg rfl) ?_
    clear henv a; intro a henv
    refine tM (i := 8) (rg 9 7) rfl (by kernel_rfl) (fun _ _ _ h => h) henv rfl rfl ?_
    clear henv a; intro a henv
    refine sAny_take (i := 9) [10, 11, 12, 13, 14, 15] (fun w' => (pfRow fI FI 1 A1 n1 c1 es1).P w') (v := .pointer (some ⟨ab A1, ao A1 + j * 1, none⟩)) rfl (by kernel_rfl) (fun _ _ _ h => h) (fun _ _ _ hS => hS.1.pat (k := 2) rfl) henv rfl (hst.pat (k := 2) rfl) (fun w' hg => rn_idxR (i := j) henv Tryd.underlying23 (ty_int.size) rfl rfl (by omega) rfl (show (pfRow fI FI 1 A1 n1 c1 es1).P _ from hg).1) ?_
    clear henv a; intro a henv
    refine sAny_take (i := 10) [11, 12, 13, 14, 15] (fun w' => (pfRow fI FI 1 A1 n1 c1 es1).P w') (v := .int .i64 x) rfl (by kernel_rfl) (fun _ _ _ h => h) (fun _ _ _ hS => hS.1.pat (k := 2) rfl) henv rfl (hst.pat (k := 2) rfl) (fun w' hg => rn_loadE1 (i := j) (j := 0) (e := x) henv ty_int rfl rfl fI_len (by decide) (show (pfRow fI FI 1 A1 n1 c1 es1).P _ from hg).1 (by omega) hea rfl) ?_
    clear henv a; intro a henv
    refine tA (i := 11) (rg 12 4) (v := .agg #[.int .i64 1, .int .i64 (g + j : Nat), .int .i64 x, .int .i64 0, .int .i64 0]) rfl (by kernel_rfl) (fun _ _ _ h => h) henv rfl (fun _ => rn_instr012 henv rfl rfl rfl) ?_
    clear henv a; intro a henv
    refine sAny_one (i := 12) (by kernel_rfl) rfl rfl (op_buildSlice (z := 5) (pv := #[(0, .agg #[.int .i64 1, .int .i64 (g + j : Nat), .int .i64 x, .int .i64 0, .int .i64 0])]) (c := #[.int .i64 1, .int .i64 (g + j : Nat), .int .i64 x, .int .i64 0, .int .i64 0]) henv hst rfl Tryd.underlying22 (ty_anvil_api_Instr.size) zero_anvil_api_Instr (by decide) (by decide) rfl (by kernel_rfl) ?_)
    clear henv hst a; intro a w65 g64 henv hst
    refine ⟨.inr ⟨hst.kn.pick [3, 4, 5] (rg 0 4), .inr (hst.kn.pick [2] [])⟩, ?_⟩
    refine sAny_one (i := 13) (by kernel_rfl) rfl rfl (op_appendS (k := 1) (j := 0) henv hst rfl Tryd.underlying22 inf_anvil_api_Instr rfl rfl rfl rfl rfl rfl rfl rfl rfl rfl rfl (by unfold maxLen; omega) (by omega) ?_)
    clear henv hst a; intro a w68 g66 c67 henv hst
    rw [show fl fJ oa ++ (#[.int .i64 1, .int .i64 (g + j : Nat), .int .i64 x, .int .i64 0, .int .i64 0] : Array Value).toList = fl fJ (oa ++ [((1, (g + j : Nat), x, 0, 0) : IE)]) from fl_snoc (f := fJ) oa ((1, (g + j : Nat), x, 0, 0) : IE)] at hst
    refine ⟨.inr ⟨hst.kn.pick [3, 4, 5] (rg 0 4), .inr (hst.kn.pick [2] [])⟩, ?_⟩
    refine tA (i := 14) [15] (v := .pointer (some ⟨g57, 2, none⟩)) rfl (by kernel_rfl) (fun _ _ _ h => h) henv rfl (fun _ => rn_fieldAddr henv fd_anvil_api_Prog_2 (ty__api_Instr.size) (by decide) rfl) ?_
    clear henv a; intro a henv
    refine sAny_one (i := 15) (by kernel_rfl) rfl rfl (op_store1 (k := 2) (c' := #[.int .i64 i, .int .i64 (g + g2 : Nat), .slice (some ⟨g66, 0, none⟩) ((0 + j) + 1) c67, .slice none 0 0]) henv hst (ty__api_Instr.size) rfl rfl rfl (by simp) rfl rfl ?_)
    clear henv hst a; intro a w69 henv hst
    refine ⟨.inr ⟨hst.kn.pick [3, 4, 5] (rg 0 4), .inl rfl⟩, ?_⟩
    refine sAny_done (by kernel_rfl) ?_ _
    refine bl_n (th_n ?_)
    refine region_seq ?_
    revert a
    refine mA rfl rfl ?_
    refine sA (v := .int .i64 (j + 1 : Nat)) rfl (fun _ henv => rn_add henv rfl rfl (by rw [IntWalk.i64_in _ (by omega)]; omega)) ?_
    refine aA rfl rfl ?_
    intro a henv
    refine wpList_nil ?_
    exact th_n ⟨_, (by omega), ⟨j + 1, (some ⟨g66, 0, none⟩), c67, (oa ++ [((1, (g + j : Nat), x, 0, 0) : IE)]), rfl, henv.sub ⟨rfl, rfl, rfl, rfl, rfl, trivial⟩, hst.pick [1, 2, 3, 4, 5] [0, 1, 2, 3] (by decide), (by omega), (jn_step1n hoa hea)⟩⟩
  · obtain rfl : n1 = j := by have := of_decide_eq_false hc62; omega
    refine wp_exit ?_
    refine th_x (th_x (bl_x (th_n ?_)))
    refine wp_seq ?_
    refine wp_seq ?_
    refine region_seq ?_
    refine sv (v := .int .i64 0) henv rfl (rn_assign henv rfl) ?_
    clear henv a; intro a henv
    refine wpList_nil ?_
    refine th_n ?_
    refine wp_block ?_
    refine wp_loop_ghost (fun mz a w => ∃ m : Nat, ∃ Bb : Option Addr, ∃ db : Nat, ∃ ob : List IE, n2 - m = mz ∧ Env 139 a [(2, .pointer (some ⟨g51, 0, none⟩)), (3, .pointer (some ⟨g53, 0, none⟩)), (4, .pointer (some ⟨g55, 0, none⟩)), (6, .pointer (some ⟨g57, 0, none⟩)), (8, .int .i64 (m : Nat))] ∧ St w0 w [rowS notU 37 5 Bb ((0 + n1) + m) db (fl fJ ob), bk g57 #[.int .i64 i, .int .i64 (g + g2 : Nat), .slice Bb ((0 + n1) + m) db, .slice none 0 0] 25, bk g55 #[.int .i64 0, .int .i64 0, .slice none 0 0, .slice none 0 0] 25, bk g53 #[.int .i64 (n1 : Nat), .int .i64 (g2 : Nat), .slice A2 n2 c2, .slice A3 n3 c3] 25, bk g51 #[.int .i64 i, .int .i64 (g : Nat), .slice A0 0 c0, .slice A1 n1 c1] 25] [pfRow fI FI 1 A3 n3 c3 es3, pfRow fJ FJ 5 A2 n2 c2 es2, pfRow fI FI 1 A1 n1 c1 es1, pfRow fJ FJ 5 A0 0 c0 es0] ∧ m ≤ n2 ∧ ob = (es0 ++ (List.range es1.length).map (moveI (g : Int) es1)) ++ (es2.take m).map (mvI (g : Int))) _ ⟨0, Ba, da, oa, rfl, henv.sub ⟨rfl, rfl, rfl, rfl, rfl, trivial⟩, hst.pick [0, 1, 2, 3, 4] [0, 1, 2, 3] (by decide), (Nat.zero_le _), (by rw [hoa, hlen1]; exact (List.append_nil _).symm)⟩ ?_
    clear henv hst a
    rintro mz a w70 ⟨m, Bb, db, ob, rfl, henv, hst, hm, hob⟩
    refine wp_seq ?_
    refine wp_seq ?_
    refine region_seq ?_
    revert a
    refine mA rfl rfl ?_
    refine sA (v := .pointer (some ⟨g53, 2, none⟩)) rfl (fun _ henv => rn_fieldAddr henv fd_anvil_api_Prog_2 (ty__api_Instr.size) (by decide) rfl) ?_
    refine sA (v := .slice A2 n2 c2) rfl (fun _ henv => rn_load1 henv ty__api_Instr rfl (hst.oat (k := 3) rfl) rfl) ?_
    refine sA (v := .int .i64 (n2 : Nat)) rfl (fun _ henv => rn_len henv Tryd.underlying22 rfl) ?_
    refine sA (v := .bool (decide (((m : Nat) : Int) < ((n2 : Nat) : Int)))) rfl (fun _ henv => rn_bin henv rfl rfl rfl) ?_
    intro a henv
    refine wpList_nil ?_
    refine th_n ?_
    refine if_split henv rfl (fun hc71 => ?_) (fun hc71 => ?_)
    · have hlt : m < n2 := by have := of_decide_eq_true hc71; omega
      obtain ⟨⟨a1, a2, a3, a4, a5⟩, heb⟩ : ∃ e, es2[m]? = some e := ⟨_, List.getElem?_eq_getElem (by omega)⟩
      have hmy : May (a1, a2, a3, a4, a5) g2 := hR1.2.2 _ (List.mem_of_getElem? heb)
      have hbd : 0 ≤ a2 ∧ a2 < 128 ∧ 0 ≤ a3 ∧ a3 < 128 ∧ 0 ≤ a4 ∧ a4 < 128 := by unfold May at hmy; simp only at hmy; omega
      have hmb : mvB a1 a4 (g : Int) = mvB a1 a4 (g : Int) := rfl
      refine wp_skip ?_
      refine th_n ?_
      refine wp_seq ?_
      refine wp_block ?_
      refine wp_seq ?_
      refine region_seq ?_
      revert a
      refine sA (v := .pointer (some ⟨g53, 2, none⟩)) rfl (fun _ henv => rn_fieldAddr henv fd_anvil_api_Prog_2 (ty__api_Instr.size) (by decide) rfl) ?_
      refine sA (v := .slice A2 n2 c2) rfl (fun _ henv => rn_load1 henv ty__api_Instr rfl (hst.oat (k := 3) rfl) rfl) ?_
      refine mA rfl rfl ?_
      refine sA (v := .pointer (some ⟨ab A2, ao A2 + m * 5, none⟩)) rfl (fun _ henv => rn_idxR (i := m) henv Tryd.underlying22 (ty_anvil_api_Instr.size) rfl rfl (by omega) rfl (show (pfRow fJ FJ 5 A2 n2 c2 es2).P _ from (hst.pat (k := 1) rfl)).1) ?_
      refine sA (v := .agg #[.int .i64 a1, .int .i64 a2, .int .i64 a3, .int .i64 a4, .int .i64 a5]) rfl (fun _ henv => rn_loadE (i := m) (e := (a1, a2, a3, a4, a5)) henv ty_anvil_api_Instr rfl rfl fJ_len (show (pfRow fJ FJ 5 A2 n2 c2 es2).P _ from (hst.pat (k := 1) rfl)).1 (by omega) heb rfl) ?_
      intro a henv
      refine seq_step rfl (op_alloc (c := #[.int .i64 0, .int .i64 0, .int .i64 0, .int .i64 0, .int .i64 0]) henv hst rfl zero_anvil_api_Instr rfl ?_)
      clear henv hst a; intro a w73 g72 henv hst
      refine seq_step rfl (op_store (k := 0) (c' := #[.int .i64 a1, .int .i64 a2, .int .i64 a3, .int .i64 a4, .int .i64 a5]) henv hst (ty_anvil_api_Instr.size) rfl rfl rfl rfl (by simp) rfl rfl ?_)
      clear henv hst a; intro a w74 henv hst
      refine wpList_nil ?_
      refine th_n ?_
      refine wp_seq ?_
      refine region_any (n := 14) (Sk [rowS notU 37 5 Bb ((0 + n1) + m) db (fl fJ ob), bk g57 #[.int .i64 i, .int .i64 (g + g2 : Nat), .slice Bb ((0 + n1) + m) db, .slice none 0 0] 25, bk g55 #[.int .i64 0, .int .i64 0, .slice none 0 0, .slice none 0 0] 25, bk g53 #[.int .i64 (n1 : Nat), .int .i64 (g2 : Nat), .slice A2 n2 c2, .slice A3 n3 c3] 25, bk g51 #[.int .i64 i, .int .i64 (g : Nat), .slice A0 0 c0, .slice A1 n1 c1] 25] [pfRow fI FI 1 A3 n3 c3 es3, pfRow fJ FJ 5 A2 n2 c2 es2, pfRow fI FI 1 A1 n1 c1 es1, pfRow fJ FJ 5 A0 0 c0 es0] [11, 13] [bk g72 #[.int .i64 a1, .int .i64 a2, .int .i64 a3, .int .i64 a4, .int .i64 a5] 37]) mixed rfl henv hst ?_
      clear henv hst; intro w75 henv hst
      refine tA (i := 0) [1, 4, 10, 11, 12, 13] (v := .pointer (some ⟨g72, 1, none⟩)) rfl (by kernel_rfl) (fun _ _ _ h => h) henv rfl (fun _ => rn_fieldAddr henv fd_anvil_api_Instr_1 (ty_int.size) (by decide) rfl) ?_
      clear henv a; intro a henv
      refine sAny_take (i := 1) [4, 10, 11, 12, 13] (fun w' => w'.heap[g72]? = some (.cells #[.int .i64 a1, .int .i64 a2, .int .i64 a3, .int .i64 a4, .int .i64 a5] 37 (0, 0))) (v := .int .i64 a2) rfl (by kernel_rfl) (fun _ _ _ h => h) (fun _ _ hj hS => (hS.two rfl hj).oat (k := 0) rfl) henv rfl (hst.oat (k := 0) rfl) (fun w' hg => rn_load1 henv ty_int rfl hg rfl) ?_
      clear henv a; intro a henv
      refine tA (i := 2) [3, 4, 10, 11, 12, 13] (v := .pointer (some ⟨g51, 1, none⟩)) rfl (by kernel_rfl) (fun _ _ _ h => h) henv rfl (fun _ => rn_fieldAddr henv fd_anvil_api_Prog_1 (ty_int.size) (by decide) rfl) ?_
      clear henv a; intro a henv
      refine sAny_take (i := 3) [4, 10, 11, 12, 13] (fun w' => w'.heap[g51]? = some (.cells #[.int .i64 i, .int .i64 (g : Nat), .slice A0 0 c0, .slice A1 n1 c1] 25 (0, 0))) (v := .int .i64 (g : Nat)) rfl (by kernel_rfl) (fun _ _ _ h => h) (fun _ _ _ hS => hS.1.oat (k := 4) rfl) henv rfl (hst.oat (k := 5) rfl) (fun w' hg => rn_load1 henv ty_int rfl hg rfl) ?_
      clear henv a; intro a henv
      refine tA (i := 4) (rg 10 4) (v := .int .i64 (a2 + ((g : Nat) : Int))) rfl (by kernel_rfl) (fun _ _ _ h => h) henv rfl (fun _ => rn_add henv rfl rfl (IntWalk.i64_in _ (by omega))) ?_
      clear henv a; intro a henv
      refine tA (i := 5) [6, 9, 10, 11, 12, 13] (v := .pointer (some ⟨g72, 2, none⟩)) rfl (by kernel_rfl) (fun _ _ _ h => h) henv rfl (fun _ => rn_fieldAddr henv fd_anvil_api_Instr_2 (ty_int.size) (by decide) rfl) ?_
      clear henv a; intro a henv
      refine sAny_take (i := 6) [9, 10, 11, 12, 13] (fun w' => w'.heap[g72]? = some (.cells #[.int .i64 a1, .int .i64 a2, .int .i64 a3, .int .i64 a4, .int .i64 a5] 37 (0, 0))) (v := .int .i64 a3) rfl (by kernel_rfl) (fun _ _ _ h => h) (fun _ _ hj hS => (hS.two rfl hj).oat (k := 0) rfl) henv rfl (hst.oat (k := 0) rfl) (fun w' hg => rn_load1 henv ty_int rfl hg rfl) ?_
      clear henv a; intro a henv
      refine tA (i := 7) [8, 9, 12, 13] (v := .pointer (some ⟨g51, 1, none⟩)) rfl (by kernel_rfl) (fun _ _ _ h => h) henv rfl (fun _ => rn_fieldAddr henv fd_anvil_api_Prog_1 (ty_int.size) (by decide) rfl) ?_
      clear henv a; intro a henv
      refine sAny_take (i := 8) [9, 12, 13] (fun w' => w'.heap[g51]? = some (.cells #[.int .i64 i, .int .i64 (g : Nat), .slice A0 0 c0, .slice A1 n1 c1] 25 (0, 0))) (v := .int .i64 (g : Nat)) rfl (by kernel_rfl) (fun _ _ _ h => h) (fun _ _ _ hS => hS.1.oat (k := 4) rfl) henv rfl (hst.oat (k := 5) rfl) (fun w' hg => rn_load1 henv ty_int rfl hg rfl) ?_
      clear henv a; intro a henv
      refine tA (i := 9) [12, 13] (v := .int .i64 (a3 + ((g : Nat) : Int))) rfl (by kernel_rfl) (fun _ _ _ h => h) henv rfl (fun _ => rn_add henv rfl rfl (IntWalk.i64_in _ (by omega))) ?_
      clear henv a; intro a henv
      refine tA (i := 10) [11, 12, 13] (v := .pointer (some ⟨g72, 1, none⟩)) rfl (by kernel_rfl) (fun _ _ _ h => h) henv rfl (fun _ => rn_fieldAddr henv fd_anvil_api_Instr_1 (ty_int.size) (by decide) rfl) ?_
      clear henv a; intro a henv
      refine sAny_one (i := 11) (by kernel_rfl) rfl rfl (op_store1 (k := 0) (c' := #[.int .i64 a1, .int .i64 (a2 + ((g : Nat) : Int)), .int .i64 a3, .int .i64 a4, .int .i64 a5]) henv hst (ty_int.size) rfl rfl rfl (by simp) rfl rfl ?_)
      clear henv hst a; intro a w76 henv hst
      refine ⟨.inr ⟨hst.kn.pick (rg 1 5) (rg 0 4), .inl rfl⟩, ?_⟩
      refine tA (i := 12) [13] (v := .pointer (some ⟨g72, 2, none⟩)) rfl (by kernel_rfl) (fun _ _ _ h => h) henv rfl (fun _ => rn_fieldAddr henv fd_anvil_api_Instr_2 (ty_int.size) (by decide) rfl) ?_
      clear henv a; intro a henv
      refine sAny_one (i := 13) (by kernel_rfl) rfl rfl (op_store1 (k := 0) (c' := #[.int .i64 a1, .int .i64 (a2 + ((g : Nat) : Int)), .int .i64 (a3 + ((g : Nat) : Int)), .int .i64 a4, .int .i64 a5]) henv hst (ty_int.size) rfl rfl rfl (by simp) rfl rfl ?_)
      clear henv hst a; intro a w77 henv hst
      refine ⟨.inr ⟨hst.kn.pick (rg 1 5) (rg 0 4), .inl rfl⟩, ?_⟩
      refine sAny_done (by kernel_rfl) ?_ _
      refine th_n ?_
      refine wp_seq ?_
      refine wp_seq ?_
      refine region_seq ?_
      revert a
      refine sA (v := .pointer (some ⟨g72, 0, none⟩)) rfl (fun _ henv => rn_fieldAddr henv fd_anvil_api_Instr_0 (ty_int.size) (by decide) rfl) ?_
      refine sA (v := .int .i64 a1) rfl (fun _ henv => rn_load1 henv ty_int rfl (hst.oat (k := 0) rfl) rfl) ?_
      refine sA (v := .bool (a1 == (3 : Int))) rfl (fun _ henv => rn_bin henv rfl rfl rfl) ?_
      refine mA rfl rfl ?_
      intro a henv
      rcases bool_em (a1 == (3 : Int)) with hg78 | hg78
      · rw [hg78] at henv
        have hx79 := eq_of_beq hg78
        replace hmb : mvB a1 a4 (g : Int) = a4 + (g : Int) := if_pos (by omega)
        revert a
        refine kA rfl rfl rfl rfl rfl ?_
        refine kA rfl rfl rfl rfl rfl ?_
        refine kA rfl rfl rfl rfl rfl ?_
        refine sA (v := .bool true) rfl (fun _ henv => rn_pick henv rfl rfl) ?_
        intro a henv
        refine wpList_nil ?_
        refine th_n ?_
        refine if_t henv rfl (rfl) ?_
        refine region_seq ?_
        revert a
        refine sA (v := .pointer (some ⟨g72, 3, none⟩)) rfl (fun _ henv => rn_fieldAddr henv fd_anvil_api_Instr_3 (ty_int.size) (by decide) rfl) ?_
        refine sA (v := .int .i64 a4) rfl (fun _ henv => rn_load1 henv ty_int rfl (hst.oat (k := 0) rfl) rfl) ?_
        refine sA (v := .pointer (some ⟨g51, 1, none⟩)) rfl (fun _ henv => rn_fieldAddr henv fd_anvil_api_Prog_1 (ty_int.size) (by decide) rfl) ?_
        refine sA (v := .int .i64 (g : Nat)) rfl (fun _ henv => rn_load1 henv ty_int rfl (hst.oat (k := 5) rfl) rfl) ?_
        refine sA (v := .int .i64 (a4 + ((g : Nat) : Int))) rfl (fun _ henv => rn_add henv rfl rfl (IntWalk.i64_in _ (by omega))) ?_
        refine sA (v := .pointer (some ⟨g72, 3, none⟩)) rfl (fun _ henv => rn_fieldAddr henv fd_anvil_api_Instr_3 (ty_int.size) (by decide) rfl) ?_
        intro a henv
        refine seq_step rfl (op_store1 (k := 0) (c' := #[.int .i64 a1, .int .i64 (a2 + ((g : Nat) : Int)), .int .i64 (a3 + ((g : Nat) : Int)), .int .i64 (a4 + ((g : Nat) : Int)), .int .i64 a5]) henv hst (ty_int.size) rfl rfl rfl (by simp) rfl rfl ?_)
        clear henv hst a; intro a w80 henv hst
        refine wpList_nil ?_
        refine th_n ?_
        refine region_seq ?_
        revert a
        refine sA (v := .pointer (some ⟨g57, 2, none⟩)) rfl (fun _ henv => rn_fieldAddr henv fd_anvil_api_Prog_2 (ty__api_Instr.size) (by decide) rfl) ?_
        refine sA (v := .slice Bb ((0 + n1) + m) db) rfl (fun _ henv => rn_load1 henv ty__api_Instr rfl (hst.oat (k := 2) rfl) rfl) ?_
        refine sA (v := .agg #[.int .i64 a1, .int .i64 (a2 + ((g : Nat) : Int)), .int .i64 (a3 + ((g : Nat) : Int)), .int .i64 (a4 + ((g : Nat) : Int)), .int .i64 a5]) rfl (fun _ henv => rn_load0 henv ty_anvil_api_Instr rfl (hst.oat (k := 0) rfl) rfl) ?_
        intro a henv
        refine seq_step rfl (op_buildSlice (z := 5) (pv := #[(0, .agg #[.int .i64 a1, .int .i64 (a2 + ((g : Nat) : Int)), .int .i64 (a3 + ((g : Nat) : Int)), .int .i64 (a4 + ((g : Nat) : Int)), .int .i64 a5])]) (c := #[.int .i64 a1, .int .i64 (a2 + ((g : Nat) : Int)), .int .i64 (a3 + ((g : Nat) : Int)), .int .i64 (a4 + ((g : Nat) : Int)), .int .i64 a5]) henv hst rfl Tryd.underlying22 (ty_anvil_api_Instr.size) zero_anvil_api_Instr (by decide) (by decide) rfl (by kernel_rfl) ?_)
        clear henv hst a; intro a w82 g81 henv hst
        refine seq_step rfl (op_appendS (k := 2) (j := 0) henv hst rfl Tryd.underlying22 inf_anvil_api_Instr rfl rfl rfl rfl rfl rfl rfl rfl rfl rfl rfl (by unfold maxLen; omega) (by omega) ?_)
        clear henv hst a; intro a w85 g83 c84 henv hst
        rw [show fl fJ ob ++ (#[.int .i64 a1, .int .i64 (a2 + ((g : Nat) : Int)), .int .i64 (a3 + ((g : Nat) : Int)), .int .i64 (a4 + ((g : Nat) : Int)), .int .i64 a5] : Array Value).toList = fl fJ (ob ++ [((a1, a2 + ((g : Nat) : Int), a3 + ((g : Nat) : Int), a4 + ((g : Nat) : Int), a5) : IE)]) from fl_snoc (f := fJ) ob ((a1, a2 + ((g : Nat) : Int), a3 + ((g : Nat) : Int), a4 + ((g : Nat) : Int), a5) : IE)] at hst
        refine sv (v := .pointer (some ⟨g57, 2, none⟩)) henv rfl (rn_fieldAddr henv fd_anvil_api_Prog_2 (ty__api_Instr.size) (by decide) rfl) ?_
        clear henv a; intro a henv
        refine seq_step rfl (op_store1 (k := 3) (c' := #[.int .i64 i, .int .i64 (g + g2 : Nat), .slice (some ⟨g83, 0, none⟩) (((0 + n1) + m) + 1) c84, .slice none 0 0]) henv hst (ty__api_Instr.size) rfl rfl rfl (by simp) rfl rfl ?_)
        clear henv hst a; intro a w86 henv hst
        refine wpList_nil ?_
        refine bl_n (th_n ?_)
        refine region_seq ?_
        revert a
        refine mA rfl rfl ?_
        refine sA (v := .int .i64 (m + 1 : Nat)) rfl (fun _ henv => rn_add henv rfl rfl (by rw [IntWalk.i64_in _ (by omega)]; omega)) ?_
        refine aA rfl rfl ?_
        intro a henv
        refine wpList_nil ?_
        exact th_n ⟨_, (by omega), ⟨m + 1, (some ⟨g83, 0, none⟩), c84, (ob ++ [((a1, a2 + ((g : Nat) : Int), a3 + ((g : Nat) : Int), a4 + ((g : Nat) : Int), a5) : IE)]), rfl, henv.sub ⟨rfl, rfl, rfl, rfl, rfl, trivial⟩, hst.pick [2, 3, 4, 5, 6] [0, 1, 2, 3] (by decide), (by omega), (jn_step2x hob heb hmb)⟩⟩
      · rw [hg78] at henv
        have hx87 := ne_of_beq_false hg78
        revert a
        refine gA (v := .pointer (some ⟨g72, 0, none⟩)) rfl rfl rfl rfl (fun _ henv => rn_fieldAddr henv fd_anvil_api_Instr_0 (ty_int.size) (by decide) rfl) ?_
        refine gA (v := .int .i64 a1) rfl rfl rfl rfl (fun _ henv => rn_load1 henv ty_int rfl (hst.oat (k := 0) rfl) rfl) ?_
        refine gA (v := .bool (a1 == (4 : Int))) rfl rfl rfl rfl (fun _ henv => rn_bin henv rfl rfl rfl) ?_
        refine sA (v := .bool (a1 == (4 : Int))) rfl (fun _ henv => rn_pick henv rfl rfl) ?_
        intro a henv
        refine wpList_nil ?_
        refine th_n ?_
        refine if_split henv rfl (fun hc88 => ?_) (fun hc88 => ?_)
        · have hx89 := eq_of_beq hc88
          replace hmb : mvB a1 a4 (g : Int) = a4 + (g : Int) := if_pos (by omega)
          refine region_seq ?_
          revert a
          refine sA (v := .pointer (some ⟨g72, 3, none⟩)) rfl (fun _ henv => rn_fieldAddr henv fd_anvil_api_Instr_3 (ty_int.size) (by decide) rfl) ?_
          refine sA (v := .int .i64 a4) rfl (fun _ henv => rn_load1 henv ty_int rfl (hst.oat (k := 0) rfl) rfl) ?_
          refine sA (v := .pointer (some ⟨g51, 1, none⟩)) rfl (fun _ henv => rn_fieldAddr henv fd_anvil_api_Prog_1 (ty_int.size) (by decide) rfl) ?_
          refine sA (v := .int .i64 (g : Nat)) rfl (fun _ henv => rn_load1 henv ty_int rfl (hst.oat (k := 5) rfl) rfl) ?_
          refine sA (v := .int .i64 (a4 + ((g : Nat) : Int))) rfl (fun _ henv => rn_add henv rfl rfl (IntWalk.i64_in _ (by omega))) ?_
          refine sA (v := .pointer (some ⟨g72, 3, none⟩)) rfl (fun _ henv => rn_fieldAddr henv fd_anvil_api_Instr_3 (ty_int.size) (by decide) rfl) ?_
          intro a henv
          refine seq_step rfl (op_store1 (k := 0) (c' := #[.int .i64 a1, .int .i64 (a2 + ((g : Nat) : Int)), .int .i64 (a3 + ((g : Nat) : Int)), .int .i64 (a4 + ((g : Nat) : Int)), .int .i64 a5]) henv hst (ty_int.size) rfl rfl rfl (by simp) rfl rfl ?_)
          clear henv hst a; intro a w90 henv hst
          refine wpList_nil ?_
          refine th_n ?_
          refine region_seq ?_
          revert a
          refine sA (v := .pointer (some ⟨g57, 2, none⟩)) rfl (fun _ henv => rn_fieldAddr henv fd_anvil_api_Prog_2 (ty__api_Instr.size) (by decide) rfl) ?_
          refine sA (v := .slice Bb ((0 + n1) + m) db) rfl (fun _ henv => rn_load1 henv ty__api_Instr rfl (hst.oat (k := 2) rfl) rfl) ?_
          refine sA (v := .agg #[.int .i64 a1, .int .i64 (a2 + ((g : Nat) : Int)), .int .i64 (a3 + ((g : Nat) : Int)), .int .i64 (a4 + ((g : Nat) : Int)), .int .i64 a5]) rfl (fun _ henv => rn_load0 henv ty_anvil_api_Instr rfl (hst.oat (k := 0) rfl) rfl) ?_
          intro a henv
          refine seq_step rfl (op_buildSlice (z := 5) (pv := #[(0, .agg #[.int .i64 a1, .int .i64 (a2 + ((g : Nat) : Int)), .int .i64 (a3 + ((g : Nat) : Int)), .int .i64 (a4 + ((g : Nat) : Int)), .int .i64 a5])]) (c := #[.int .i64 a1, .int .i64 (a2 + ((g : Nat) : Int)), .int .i64 (a3 + ((g : Nat) : Int)), .int .i64 (a4 + ((g : Nat) : Int)), .int .i64 a5]) henv hst rfl Tryd.underlying22 (ty_anvil_api_Instr.size) zero_anvil_api_Instr (by decide) (by decide) rfl (by kernel_rfl) ?_)
          clear henv hst a; intro a w92 g91 henv hst
          refine seq_step rfl (op_appendS (k := 2) (j := 0) henv hst rfl Tryd.underlying22 inf_anvil_api_Instr rfl rfl rfl rfl rfl rfl rfl rfl rfl rfl rfl (by unfold maxLen; omega) (by omega) ?_)
          clear henv hst a; intro a w95 g93 c94 henv hst
          rw [show fl fJ ob ++ (#[.int .i64 a1, .int .i64 (a2 + ((g : Nat) : Int)), .int .i64 (a3 + ((g : Nat) : Int)), .int .i64 (a4 + ((g : Nat) : Int)), .int .i64 a5] : Array Value).toList = fl fJ (ob ++ [((a1, a2 + ((g : Nat) : Int), a3 + ((g : Nat) : Int), a4 + ((g : Nat) : Int), a5) : IE)]) from fl_snoc (f := fJ) ob ((a1, a2 + ((g : Nat) : Int), a3 + ((g : Nat) : Int), a4 + ((g : Nat) : Int), a5) : IE)] at hst
          refine sv (v := .pointer (some ⟨g57, 2, none⟩)) henv rfl (rn_fieldAddr henv fd_anvil_api_Prog_2 (ty__api_Instr.size) (by decide) rfl) ?_
          clear henv a; intro a henv
          refine seq_step rfl (op_store1 (k := 3) (c' := #[.int .i64 i, .int .i64 (g + g2 : Nat), .slice (some ⟨g93, 0, none⟩) (((0 + n1) + m) + 1) c94, .slice none 0 0]) henv hst (ty__api_Instr.size) rfl rfl rfl (by simp) rfl rfl ?_)
          clear henv hst a; intro a w96 henv hst
          refine wpList_nil ?_
          refine bl_n (th_n ?_)
          refine region_seq ?_
          revert a
          refine mA rfl rfl ?_
          refine sA (v := .int .i64 (m + 1 : Nat)) rfl (fun _ henv => rn_add henv rfl rfl (by rw [IntWalk.i64_in _ (by omega)]; omega)) ?_
          refine aA rfl rfl ?_
          intro a henv
          refine wpList_nil ?_
          exact th_n ⟨_, (by omega), ⟨m + 1, (some ⟨g93, 0, none⟩), c94, (ob ++ [((a1, a2 + ((g : Nat) : Int), a3 + ((g : Nat) : Int), a4 + ((g : Nat) : Int), a5) : IE)]), rfl, henv.sub ⟨rfl, rfl, rfl, rfl, rfl, trivial⟩, hst.pick [2, 3, 4, 5, 6] [0, 1, 2, 3] (by decide), (by omega), (jn_step2x hob heb hmb)⟩⟩
        · have hx97 := ne_of_beq_false hc88
          replace hmb : mvB a1 a4 (g : Int) = a4 := if_neg (by omega)
          refine wp_skip ?_
          refine th_n ?_
          refine region_seq ?_
          revert a
          refine sA (v := .pointer (some ⟨g57, 2, none⟩)) rfl (fun _ henv => rn_fieldAddr henv fd_anvil_api_Prog_2 (ty__api_Instr.size) (by decide) rfl) ?_
          refine sA (v := .slice Bb ((0 + n1) + m) db) rfl (fun _ henv => rn_load1 henv ty__api_Instr rfl (hst.oat (k := 2) rfl) rfl) ?_
          refine sA (v := .agg #[.int .i64 a1, .int .i64 (a2 + ((g : Nat) : Int)), .int .i64 (a3 + ((g : Nat) : Int)), .int .i64 a4, .int .i64 a5]) rfl (fun _ henv => rn_load0 henv ty_anvil_api_Instr rfl (hst.oat (k := 0) rfl) rfl) ?_
          intro a henv
          refine seq_step rfl (op_buildSlice (z := 5) (pv := #[(0, .agg #[.int .i64 a1, .int .i64 (a2 + ((g : Nat) : Int)), .int .i64 (a3 + ((g : Nat) : Int)), .int .i64 a4, .int .i64 a5])]) (c := #[.int .i64 a1, .int .i64 (a2 + ((g : Nat) : Int)), .int .i64 (a3 + ((g : Nat) : Int)), .int .i64 a4, .int .i64 a5]) henv hst rfl Tryd.underlying22 (ty_anvil_api_Instr.size) zero_anvil_api_Instr (by decide) (by decide) rfl (by kernel_rfl) ?_)
          clear henv hst a; intro a w99 g98 henv hst
          refine seq_step rfl (op_appendS (k := 2) (j := 0) henv hst rfl Tryd.underlying22 inf_anvil_api_Instr rfl rfl rfl rfl rfl rfl rfl rfl rfl rfl rfl (by unfold maxLen; omega) (by omega) ?_)
          clear henv hst a; intro a w102 g100 c101 henv hst
          rw [show fl fJ ob ++ (#[.int .i64 a1, .int .i64 (a2 + ((g : Nat) : Int)), .int .i64 (a3 + ((g : Nat) : Int)), .int .i64 a4, .int .i64 a5] : Array Value).toList = fl fJ (ob ++ [((a1, a2 + ((g : Nat) : Int), a3 + ((g : Nat) : Int), a4, a5) : IE)]) from fl_snoc (f := fJ) ob ((a1, a2 + ((g : Nat) : Int), a3 + ((g : Nat) : Int), a4, a5) : IE)] at hst
          refine sv (v := .pointer (some ⟨g57, 2, none⟩)) henv rfl (rn_fieldAddr henv fd_anvil_api_Prog_2 (ty__api_Instr.size) (by decide) rfl) ?_
          clear henv a; intro a henv
          refine seq_step rfl (op_store1 (k := 3) (c' := #[.int .i64 i, .int .i64 (g + g2 : Nat), .slice (some ⟨g100, 0, none⟩) (((0 + n1) + m) + 1) c101, .slice none 0 0]) henv hst (ty__api_Instr.size) rfl rfl rfl (by simp) rfl rfl ?_)
          clear henv hst a; intro a w103 henv hst
          refine wpList_nil ?_
          refine bl_n (th_n ?_)
          refine region_seq ?_
          revert a
          refine mA rfl rfl ?_
          refine sA (v := .int .i64 (m + 1 : Nat)) rfl (fun _ henv => rn_add henv rfl rfl (by rw [IntWalk.i64_in _ (by omega)]; omega)) ?_
          refine aA rfl rfl ?_
          intro a henv
          refine wpList_nil ?_
          exact th_n ⟨_, (by omega), ⟨m + 1, (some ⟨g100, 0, none⟩), c101, (ob ++ [((a1, a2 + ((g : Nat) : Int), a3 + ((g : Nat) : Int), a4, a5) : IE)]), rfl, henv.sub ⟨rfl, rfl, rfl, rfl, rfl, trivial⟩, hst.pick [2, 3, 4, 5, 6] [0, 1, 2, 3] (by decide), (by omega), (jn_step2x hob heb hmb)⟩⟩
    · obtain rfl : n2 = m := by have := of_decide_eq_false hc71; omega
      rw [List.take_of_length_le (by omega)] at hob
      refine wp_exit ?_
      refine th_x (th_x (bl_x (th_n ?_)))
      refine wp_seq ?_
      refine wp_seq ?_
      replace hst := (hst.addRowS notU 3 1)
      replace hst : St w0 _ [rowS notU 3 1 none 0 0 (fl fI ([])), rowS notU 37 5 Bb ((0 + n1) + n2) db (fl fJ ob), bk g57 #[.int .i64 i, .int .i64 (g + g2 : Nat), .slice Bb ((0 + n1) + n2) db, .slice none 0 0] 25, bk g55 #[.int .i64 0, .int .i64 0, .slice none 0 0, .slice none 0 0] 25, bk g53 #[.int .i64 (n1 : Nat), .int .i64 (g2 : Nat), .slice A2 n2 c2, .slice A3 n3 c3] 25, bk g51 #[.int .i64 i, .int .i64 (g : Nat), .slice A0 0 c0, .slice A1 n1 c1] 25] [pfRow fI FI 1 A3 n3 c3 es3, pfRow fJ FJ 5 A2 n2 c2 es2, pfRow fI FI 1 A1 n1 c1 es1, pfRow fJ FJ 5 A0 0 c0 es0] := hst
      refine region_seq ?_
      refine sv (v := .int .i64 0) henv rfl (rn_assign henv rfl) ?_
      clear henv a; intro a henv
      refine wpList_nil ?_
      refine th_n ?_
      refine wp_block ?_
      refine wp_loop_ghost (fun mz a w => ∃ q : Nat, ∃ Bc : Option Addr, ∃ dc : Nat, ∃ oc : List Int, n3 - q = mz ∧ Env 139 a [(2, .pointer (some ⟨g51, 0, none⟩)), (3, .pointer (some ⟨g53, 0, none⟩)), (4, .pointer (some ⟨g55, 0, none⟩)), (6, .pointer (some ⟨g57, 0, none⟩)), (10, .int .i64 (q : Nat))] ∧ St w0 w [rowS notU 3 1 Bc q dc (fl fI oc), rowS notU 37 5 Bb ((0 + n1) + n2) db (fl fJ ob), bk g57 #[.int .i64 i, .int .i64 (g + g2 : Nat), .slice Bb ((0 + n1) + n2) db, .slice Bc q dc] 25, bk g55 #[.int .i64 0, .int .i64 0, .slice none 0 0, .slice none 0 0] 25, bk g53 #[.int .i64 (n1 : Nat), .int .i64 (g2 : Nat), .slice A2 n2 c2, .slice A3 n3 c3] 25, bk g51 #[.int .i64 i, .int .i64 (g : Nat), .slice A0 0 c0, .slice A1 n1 c1] 25] [pfRow fI FI 1 A3 n3 c3 es3, pfRow fJ FJ 5 A2 n2 c2 es2, pfRow fI FI 1 A1 n1 c1 es1, pfRow fJ FJ 5 A0 0 c0 es0] ∧ q ≤ n3 ∧ oc = (es3.take q).map (· + (g : Int))) _ ⟨0, none, 0, [], rfl, henv.sub ⟨rfl, rfl, rfl, rfl, rfl, trivial⟩, hst.pick [0, 1, 2, 3, 4, 5] [0, 1, 2, 3] (by decide), (Nat.zero_le _), rfl⟩ ?_
      clear henv hst a
      rintro mz a w104 ⟨q, Bc, dc, oc, rfl, henv, hst, hq, hoc⟩
      refine wp_seq ?_
      refine wp_seq ?_
      refine region_seq ?_
      revert a
      refine mA rfl rfl ?_
      refine sA (v := .pointer (some ⟨g53, 3, none⟩)) rfl (fun _ henv => rn_fieldAddr henv fd_anvil_api_Prog_3 (ty__int.size) (by decide) rfl) ?_
      refine sA (v := .slice A3 n3 c3) rfl (fun _ henv => rn_load1 henv ty__int rfl (hst.oat (k := 4) rfl) rfl) ?_
      refine sA (v := .int .i64 (n3 : Nat)) rfl (fun _ henv => rn_len henv Tryd.underlying23 rfl) ?_
      refine sA (v := .bool (decide (((q : Nat) : Int) < ((n3 : Nat) : Int)))) rfl (fun _ henv => rn_bin henv rfl rfl rfl) ?_
      intro a henv
      refine wpList_nil ?_
      refine th_n ?_
      refine if_split henv rfl (fun hc105 => ?_) (fun hc105 => ?_)
      · have hlt : q < n3 := by have := of_decide_eq_true hc105; omega
        obtain ⟨y, hec⟩ : ∃ e, es3[q]? = some e := ⟨_, List.getElem?_eq_getElem (by omega)⟩
        have hyb := hR1.2.1 y (List.mem_of_getElem? hec)
        refine wp_skip ?_
        refine th_n ?_
        refine wp_seq ?_
        refine wp_block ?_
        refine region_any (n := 14) (Sk [bk g55 #[.int .i64 0, .int .i64 0, .slice none 0 0, .slice none 0 0] 25, bk g53 #[.int .i64 (n1 : Nat), .int .i64 (g2 : Nat), .slice A2 n2 c2, .slice A3 n3 c3] 25, bk g51 #[.int .i64 i, .int .i64 (g : Nat), .slice A0 0 c0, .slice A1 n1 c1] 25] [pfRow fI FI 1 A3 n3 c3 es3, pfRow fJ FJ 5 A2 n2 c2 es2, pfRow fI FI 1 A1 n1 c1 es1, pfRow fJ FJ 5 A0 0 c0 es0] [13] [bk g57 #[.int .i64 i, .int .i64 (g + g2 : Nat), .slice Bb ((0 + n1) + n2) db, .slice Bc q dc] 25]) mixed rfl henv hst ?_
        clear henv hst; intro w106 henv hst
        refine tA (i := 0) [1, 11, 12, 13] (v := .pointer (some ⟨g57, 3, none⟩)) rfl (by kernel_rfl) (fun _ _ _ h => h) henv rfl (fun _ => rn_fieldAddr henv fd_anvil_api_Prog_3 (ty__int.size) (by decide) rfl) ?_
        clear henv a; intro a henv
        refine sAny_take (i := 1) [11, 12, 13] (fun w' => w'.heap[g57]? = some (.cells #[.int .i64 i, .int .i64 (g + g2 : Nat), .slice Bb ((0 + n1) + n2) db, .slice Bc q dc] 25 (0, 0))) (v := .slice Bc q dc) rfl (by kernel_rfl) (fun _ _ _ h => h) (fun _ _ hj hS => (hS.two rfl hj).oat (k := 0) rfl) henv rfl (hst.oat (k := 2) rfl) (fun w' hg => rn_load1 henv ty__int rfl hg rfl) ?_
        clear henv a; intro a henv
        refine tA (i := 2) [3, 5, 6, 9, 10, 11, 12, 13] (v := .pointer (some ⟨g53, 3, none⟩)) rfl (by kernel_rfl) (fun _ _ _ h => h) henv rfl (fun _ => rn_fieldAddr henv fd_anvil_api_Prog_3 (ty__int.size) (by decide) rfl) ?_
        clear henv a; intro a henv
        refine sAny_take (i := 3) [5, 6, 9, 10, 11, 12, 13] (fun w' => w'.heap[g53]? = some (.cells #[.int .i64 (n1 : Nat), .int .i64 (g2 : Nat), .slice A2 n2 c2, .slice A3 n3 c3] 25 (0, 0))) (v := .slice A3 n3 c3) rfl (by kernel_rfl) (fun _ _ _ h => h) (fun _ _ _ hS => hS.1.oat (k := 1) rfl) henv rfl (hst.oat (k := 4) rfl) (fun w' hg => rn_load1 henv ty__int rfl hg rfl) ?_
        clear henv a; intro a henv
        refine tM (i := 4) [5, 6, 9, 10, 11, 12, 13] rfl (by kernel_rfl) (fun _ _ _ h => h) henv rfl rfl ?_
        clear henv a; intro a henv
        refine sAny_take (i := 5) [6, 9, 10, 11, 12, 13] (fun w' => (pfRow fI FI 1 A3 n3 c3 es3).P w') (v := .pointer (some ⟨ab A3, ao A3 + q * 1, none⟩)) rfl (by kernel_rfl) (fun _ _ _ h => h) (fun _ _ _ hS => hS.1.pat (k := 0) rfl) henv rfl (hst.pat (k := 0) rfl) (fun w' hg => rn_idxR (i := q) henv Tryd.underlying23 (ty_int.size) rfl rfl (by omega) rfl (show (pfRow fI FI 1 A3 n3 c3 es3).P _ from hg).1) ?_
        clear henv a; intro a henv
        refine sAny_take (i := 6) [9, 10, 11, 12, 13] (fun w' => (pfRow fI FI 1 A3 n3 c3 es3).P w') (v := .int .i64 y) rfl (by kernel_rfl) (fun _ _ _ h => h) (fun _ _ _ hS => hS.1.pat (k := 0) rfl) henv rfl (hst.pat (k := 0) rfl) (fun w' hg => rn_loadE1 (i := q) (j := 0) (e := y) henv ty_int rfl rfl fI_len (by decide) (show (pfRow fI FI 1 A3 n3 c3 es3).P _ from hg).1 (by omega) hec rfl) ?_
        clear henv a; intro a henv
        refine tA (i := 7) (rg 8 6) (v := .pointer (some ⟨g51, 1, none⟩)) rfl (by kernel_rfl) (fun _ _ _ h => h) henv rfl (fun _ => rn_fieldAddr henv fd_anvil_api_Prog_1 (ty_int.size) (by decide) rfl) ?_
        clear henv a; intro a henv
        refine sAny_take (i := 8) [9, 10, 11, 12, 13] (fun w' => w'.heap[g51]? = some (.cells #[.int .i64 i, .int .i64 (g : Nat), .slice A0 0 c0, .slice A1 n1 c1] 25 (0, 0))) (v := .int .i64 (g : Nat)) rfl (by kernel_rfl) (fun _ _ _ h => h) (fun _ _ _ hS => hS.1.oat (k := 2) rfl) henv rfl (hst.oat (k := 5) rfl) (fun w' hg => rn_load1 henv ty_int rfl hg rfl) ?_
        clear henv a; intro a henv
        refine tA (i := 9) (rg 10 4) (v := .int .i64 (y + ((g : Nat) : Int))) rfl (by kernel_rfl) (fun _ _ _ h => h) henv rfl (fun _ => rn_add henv rfl rfl (IntWalk.i64_in _ (by omega))) ?_
        clear henv a; intro a henv
        refine sAny_one (i := 10) (by kernel_rfl) rfl rfl (op_buildSlice (z := 1) (pv := #[(0, .int .i64 (y + ((g : Nat) : Int)))]) (c := #[.int .i64 (y + ((g : Nat) : Int))]) henv hst rfl Tryd.underlying23 (ty_int.size) zero_int (by decide) (by decide) rfl (by kernel_rfl) ?_)
        clear henv hst a; intro a w108 g107 henv hst
        refine ⟨.inr ⟨hst.kn.pick [4, 5, 6] (rg 0 4), .inr (hst.kn.pick [3] [])⟩, ?_⟩
        refine sAny_one (i := 11) (by kernel_rfl) rfl rfl (op_appendS (k := 1) (j := 0) henv hst rfl Tryd.underlying23 inf_int rfl rfl rfl rfl rfl rfl rfl rfl rfl rfl rfl (by unfold maxLen; omega) (by omega) ?_)
        clear henv hst a; intro a w111 g109 c110 henv hst
        rw [show fl fI oc ++ (#[.int .i64 (y + ((g : Nat) : Int))] : Array Value).toList = fl fI (oc ++ [(y + ((g : Nat) : Int))]) from fl_snoc (f := fI) oc (y + ((g : Nat) : Int))] at hst
        refine ⟨.inr ⟨hst.kn.pick [4, 5, 6] (rg 0 4), .inr (hst.kn.pick [3] [])⟩, ?_⟩
        refine tA (i := 12) [13] (v := .pointer (some ⟨g57, 3, none⟩)) rfl (by kernel_rfl) (fun _ _ _ h => h) henv rfl (fun _ => rn_fieldAddr henv fd_anvil_api_Prog_3 (ty__int.size) (by decide) rfl) ?_
        clear henv a; intro a henv
        refine sAny_one (i := 13) (by kernel_rfl) rfl rfl (op_store1 (k := 3) (c' := #[.int .i64 i, .int .i64 (g + g2 : Nat), .slice Bb ((0 + n1) + n2) db, .slice (some ⟨g109, 0, none⟩) (q + 1) c110]) henv hst (ty__int.size) rfl rfl rfl (by simp) rfl rfl ?_)
        clear henv hst a; intro a w112 henv hst
        refine ⟨.inr ⟨hst.kn.pick [4, 5, 6] (rg 0 4), .inl rfl⟩, ?_⟩
        refine sAny_done (by kernel_rfl) ?_ _
        refine bl_n (th_n ?_)
        refine region_seq ?_
        revert a
        refine mA rfl rfl ?_
        refine sA (v := .int .i64 (q + 1 : Nat)) rfl (fun _ henv => rn_add henv rfl rfl (by rw [IntWalk.i64_in _ (by omega)]; omega)) ?_
        refine aA rfl rfl ?_
        intro a henv
        refine wpList_nil ?_
        exact th_n ⟨_, (by omega), ⟨q + 1, (some ⟨g109, 0, none⟩), c110, (oc ++ [(y + ((g : Nat) : Int))]), rfl, henv.sub ⟨rfl, rfl, rfl, rfl, rfl, trivial⟩, hst.pick [1, 2, 3, 4, 5, 6] [0, 1, 2, 3] (by decide), (by omega), (jn_step3 hoc hec)⟩⟩
      · obtain rfl : n3 = q := by have := of_decide_eq_false hc105; omega
        rw [List.take_of_length_le (by omega)] at hoc
        refine wp_exit ?_
        refine th_x (th_x (bl_x (th_n ?_)))
        refine wp_seq ?_
        refine region_seq ?_
        refine sv (v := .agg #[.int .i64 i, .int .i64 (g + g2 : Nat), .slice Bb ((0 + n1) + n2) db, .slice Bc n3 dc]) henv rfl (rn_load0 henv ty_anvil_api_Prog rfl (hst.oat (k := 2) rfl) rfl) ?_
        clear henv a; intro a henv
        refine seq_step rfl (op_store (k := 3) (c' := #[.int .i64 i, .int .i64 (g + g2 : Nat), .slice Bb ((0 + n1) + n2) db, .slice Bc n3 dc]) henv hst (ty_anvil_api_Prog.size) rfl rfl rfl rfl (by simp) rfl rfl ?_)
        clear henv hst a; intro a w113 henv hst
        refine sv (v := .int .i64 0) henv rfl (rn_assign henv rfl) ?_
        clear henv a; intro a henv
        refine wpList_nil ?_
        refine th_n ?_
        refine wp_ret ?_
        refine leave henv (res2 Tryd.results24 (RV.cell henv ty_anvil_api_Prog rfl (hst.oat (k := 3) rfl) rfl) (RV.tmp henv rfl)) ?_
        obtain rfl : es0 = [] := List.eq_nil_of_length_eq_zero hlen0
        obtain rfl : ob = jnC (g : Int) [] es1 es2 := hob
        obtain rfl : oc = jnO (g : Int) es3 := hoc
        exact ⟨_, _, _, _, rfl, ⟨newrow_of (hst.owns (k := 1) rfl) (fun b hb => hst.new _ (List.mem_of_getElem? (i := 1) rfl) b hb) rfl, newrow_of (hst.owns (k := 0) rfl) (fun b hb => hst.new _ (List.mem_of_getElem? (i := 0) rfl) b hb) rfl, fun a b ha hb hab => hst.one (k := 1) (j := 0) rfl rfl (by decide) a.block (by cases ha <;> rfl) (by cases hb <;> exact congrArg some hab.symm)⟩, hst.below⟩
set_option maxRecDepth 100000 in
set_option maxHeartbeats 4000000 in
theorem r_join_okp {i : Int} {g g2 : Nat} {A0 A1 A2 A3 : Option Addr} {n0 c0 n1 c1 n2 c2 n3 c3 : Nat} {es0 : List IE} {es1 : List Int} {es2 : List IE} {es3 : List Int}  {w0 : World} (h0 : (pfRow fJ FJ 5 A0 n0 c0 es0).P w0) (h1 : (pfRow fI FI 1 A1 n1 c1 es1).P w0) (h2 : (pfRow fJ FJ 5 A2 n2 c2 es2).P w0) (h3 : (pfRow fI FI 1 A3 n3 c3 es3).P w0) (hR0 : Right i g n0 n1 es0 es1) (hR1 : Right (n1 : Nat) g2 n2 n3 es2 es3) (hv : g + g2 ≤ 128) (hw : n0 + n1 + n2 ≤ 16384) (hp0 : 0 < n0) :
    Calls Tryd.prog 24 #[.agg #[.int .i64 i, .int .i64 (g : Nat), .slice A0 n0 c0, .slice A1 n1 c1], .agg #[.int .i64 (n1 : Nat), .int .i64 (g2 : Nat), .slice A2 n2 c2, .slice A3 n3 c3]] w0 fun e w' => ∃ A c B d, e = .returned (.tuple #[.agg #[.int .i64 i, .int .i64 ((g + g2 : Nat) : Int), .slice A (n0 + n1 + n2) c, .slice B n3 d], .int .i64 0]) ∧ TwoR w0.heap.size w' A (n0 + n1 + n2) c (jnC (g : Int) es0 es1 es2) B n3 d (jnO (g : Int) es3) ∧ Below w0.heap.size w0 w' := by
  obtain ⟨hh1, hh2, hh3, hh4, hh5, hh6⟩ := hR0.1
  obtain ⟨kk1, kk2, kk3, kk4, kk5, kk6⟩ := hR1.1
  refine enter Tryd.func24 rfl Tryd.ntmps24 rfl ?_
  intro a henv hst
  have hlen0 := h0.2.1
  have hbig0 := Nat.le_trans h0.1.cap h0.1.big
  unfold maxLen at hbig0
  have hlen1 := h1.2.1
  have hbig1 := Nat.le_trans h1.1.cap h1.1.big
  unfold maxLen at hbig1
  have hlen2 := h2.2.1
  have hbig2 := Nat.le_trans h2.1.cap h2.1.big
  unfold maxLen at hbig2
  have hlen3 := h3.2.1
  have hbig3 := Nat.le_trans h3.1.cap h3.1.big
  unfold maxLen at hbig3
  replace hst := hst.argRow h0
  replace hst := hst.argRow h1
  replace hst := hst.argRow h2
  replace hst := hst.argRow h3
  clear h0 h1 h2 h3
  refine wp_seq ?_
  refine region_seq ?_
  refine seq_step rfl (op_box (c := #[.int .i64 i, .int .i64 (g : Nat), .slice A0 n0 c0, .slice A1 n1 c1]) henv hst rfl rfl rfl ?_)
  clear henv hst a; intro a w52 g51 henv hst
  refine seq_step rfl (op_box (c := #[.int .i64 (n1 : Nat), .int .i64 (g2 : Nat), .slice A2 n2 c2, .slice A3 n3 c3]) henv hst rfl rfl rfl ?_)
  clear henv hst a; intro a w54 g53 henv hst
  refine seq_step rfl (op_alloc (c := #[.int .i64 0, .int .i64 0, .slice none 0 0, .slice none 0 0]) henv hst rfl zero_anvil_api_Prog rfl ?_)
  clear henv hst a; intro a w56 g55 henv hst
  refine sv (v := .int .i64 0) henv rfl (rn_assign henv rfl) ?_
  clear henv a; intro a henv
  refine wpList_nil ?_
  refine th_n ?_
  refine wp_seq ?_
  refine wp_seq ?_
  refine region_seq ?_
  revert a
  refine sA (v := .pointer (some ⟨g53, 0, none⟩)) rfl (fun _ henv => rn_fieldAddr henv fd_anvil_api_Prog_0 (ty_int.size) (by decide) rfl) ?_
  refine sA (v := .int .i64 (n1 : Nat)) rfl (fun _ henv => rn_load1 henv ty_int rfl (hst.oat (k := 1) rfl) rfl) ?_
  refine sA (v := .pointer (some ⟨g51, 3, none⟩)) rfl (fun _ henv => rn_fieldAddr henv fd_anvil_api_Prog_3 (ty__int.size) (by decide) rfl) ?_
  refine sA (v := .slice A1 n1 c1) rfl (fun _ henv => rn_load1 henv ty__int rfl (hst.oat (k := 2) rfl) rfl) ?_
  refine sA (v := .int .i64 (n1 : Nat)) rfl (fun _ henv => rn_len henv Tryd.underlying23 rfl) ?_
  refine sA (v := .bool (((n1 : Nat) : Int) != ((n1 : Nat) : Int))) rfl (fun _ henv => rn_bin henv rfl rfl rfl) ?_
  intro a henv
  rw [show (((n1 : Nat) : Int) != ((n1 : Nat) : Int)) = false from (bne_self_eq_false _)] at henv
  refine wpList_nil ?_
  refine th_n ?_
  refine if_f henv rfl (rfl) ?_
  refine wp_skip ?_
  refine th_n ?_
  refine wp_seq ?_
  refine wp_seq ?_
  refine region_seq ?_
  revert a
  refine sA (v := .pointer (some ⟨g51, 1, none⟩)) rfl (fun _ henv => rn_fieldAddr henv fd_anvil_api_Prog_1 (ty_int.size) (by decide) rfl) ?_
  refine sA (v := .int .i64 (g : Nat)) rfl (fun _ henv => rn_load1 henv ty_int rfl (hst.oat (k := 2) rfl) rfl) ?_
  refine sA (v := .pointer (some ⟨g53, 1, none⟩)) rfl (fun _ henv => rn_fieldAddr henv fd_anvil_api_Prog_1 (ty_int.size) (by decide) rfl) ?_
  refine sA (v := .int .i64 (g2 : Nat)) rfl (fun _ henv => rn_load1 henv ty_int rfl (hst.oat (k := 1) rfl) rfl) ?_
  refine sA (v := .int .i64 (g + g2 : Nat)) rfl (fun _ henv => rn_add henv rfl rfl (by rw [IntWalk.i64_in _ (by omega)]; omega)) ?_
  refine sA (v := .bool (decide (((g + g2 : Nat) : Int) > (128 : Int)))) rfl (fun _ henv => rn_bin henv rfl rfl rfl) ?_
  intro a henv
  rw [show (decide (((g + g2 : Nat) : Int) > (128 : Int))) = false from (decide_eq_false (by omega))] at henv
  revert a
  refine mA rfl rfl ?_
  refine gA (v := .pointer (some ⟨g51, 2, none⟩)) rfl rfl rfl rfl (fun _ henv => rn_fieldAddr henv fd_anvil_api_Prog_2 (ty__api_Instr.size) (by decide) rfl) ?_
  refine gA (v := .slice A0 n0 c0) rfl rfl rfl rfl (fun _ henv => rn_load1 henv ty__api_Instr rfl (hst.oat (k := 2) rfl) rfl) ?_
  refine gA (v := .int .i64 (n0 : Nat)) rfl rfl rfl rfl (fun _ henv => rn_len henv Tryd.underlying22 rfl) ?_
  refine gA (v := .pointer (some ⟨g53, 0, none⟩)) rfl rfl rfl rfl (fun _ henv => rn_fieldAddr henv fd_anvil_api_Prog_0 (ty_int.size) (by decide) rfl) ?_
  refine gA (v := .int .i64 (n1 : Nat)) rfl rfl rfl rfl (fun _ henv => rn_load1 henv ty_int rfl (hst.oat (k := 1) rfl) rfl) ?_
  refine gA (v := .int .i64 (n0 + n1 : Nat)) rfl rfl rfl rfl (fun _ henv => rn_add henv rfl rfl (by rw [IntWalk.i64_in _ (by omega)]; omega)) ?_
  refine gA (v := .pointer (some ⟨g53, 2, none⟩)) rfl rfl rfl rfl (fun _ henv => rn_fieldAddr henv fd_anvil_api_Prog_2 (ty__api_Instr.size) (by decide) rfl) ?_
  refine gA (v := .slice A2 n2 c2) rfl rfl rfl rfl (fun _ henv => rn_load1 henv ty__api_Instr rfl (hst.oat (k := 1) rfl) rfl) ?_
  refine gA (v := .int .i64 (n2 : Nat)) rfl rfl rfl rfl (fun _ henv => rn_len henv Tryd.underlying22 rfl) ?_
  refine gA (v := .int .i64 ((n0 + n1) + n2 : Nat)) rfl rfl rfl rfl (fun _ henv => rn_add henv rfl rfl (by rw [IntWalk.i64_in _ (by omega)]; omega)) ?_
  refine gA (v := .bool (decide ((((n0 + n1) + n2 : Nat) : Int) > (16384 : Int)))) rfl rfl rfl rfl (fun _ henv => rn_bin henv rfl rfl rfl) ?_
  intro a henv
  rw [show (decide ((((n0 + n1) + n2 : Nat) : Int) > (16384 : Int))) = false from (decide_eq_false (by omega))] at henv
  refine sv (v := .bool false) henv rfl (rn_pick henv rfl rfl) ?_
  clear henv a; intro a henv
  refine wpList_nil ?_
  refine th_n ?_
  refine if_f henv rfl (rfl) ?_
  refine wp_skip ?_
  refine th_n ?_
  refine wp_seq ?_
  refine region_seq ?_
  revert a
  refine sA (v := .pointer (some ⟨g51, 0, none⟩)) rfl (fun _ henv => rn_fieldAddr henv fd_anvil_api_Prog_0 (ty_int.size) (by decide) rfl) ?_
  refine sA (v := .int .i64 i) rfl (fun _ henv => rn_load1 henv ty_int rfl (hst.oat (k := 2) rfl) rfl) ?_
  refine sA (v := .pointer (some ⟨g51, 1, none⟩)) rfl (fun _ henv => rn_fieldAddr henv fd_anvil_api_Prog_1 (ty_int.size) (by decide) rfl) ?_
  refine sA (v := .int .i64 (g : Nat)) rfl (fun _ henv => rn_load1 henv ty_int rfl (hst.oat (k := 2) rfl) rfl) ?_
  refine sA (v := .pointer (some ⟨g53, 1, none⟩)) rfl (fun _ henv => rn_fieldAddr henv fd_anvil_api_Prog_1 (ty_int.size) (by decide) rfl) ?_
  refine sA (v := .int .i64 (g2 : Nat)) rfl (fun _ henv => rn_load1 henv ty_int rfl (hst.oat (k := 1) rfl) rfl) ?_
  refine sA (v := .int .i64 (g + g2 : Nat)) rfl (fun _ henv => rn_add henv rfl rfl (by rw [IntWalk.i64_in _ (by omega)]; omega)) ?_
  refine sA (v := .agg #[.int .i64 i, .int .i64 (g + g2 : Nat), .slice none 0 0, .slice none 0 0]) rfl (fun _ henv => rn_prog01 henv rfl rfl) ?_
  intro a henv
  refine seq_step rfl (op_alloc (c := #[.int .i64 0, .int .i64 0, .slice none 0 0, .slice none 0 0]) henv hst rfl zero_anvil_api_Prog rfl ?_)
  clear henv hst a; intro a w58 g57 henv hst
  refine seq_step rfl (op_store (k := 0) (c' := #[.int .i64 i, .int .i64 (g + g2 : Nat), .slice none 0 0, .slice none 0 0]) henv hst (ty_anvil_api_Prog.size) rfl rfl rfl rfl (by simp) rfl rfl ?_)
  clear henv hst a; intro a w59 henv hst
  refine wpList_nil ?_
  refine th_n ?_
  refine wp_seq ?_
  replace hst := (hst.addRowS notU 37 5)
  replace hst : St w0 _ [rowS notU 37 5 none 0 0 (fl fJ ([])), bk g57 #[.int .i64 i, .int .i64 (g + g2 : Nat), .slice none 0 0, .slice none 0 0] 25, bk g55 #[.int .i64 0, .int .i64 0, .slice none 0 0, .slice none 0 0] 25, bk g53 #[.int .i64 (n1 : Nat), .int .i64 (g2 : Nat), .slice A2 n2 c2, .slice A3 n3 c3] 25, bk g51 #[.int .i64 i, .int .i64 (g : Nat), .slice A0 n0 c0, .slice A1 n1 c1] 25] [pfRow fI FI 1 A3 n3 c3 es3, pfRow fJ FJ 5 A2 n2 c2 es2, pfRow fI FI 1 A1 n1 c1 es1, pfRow fJ FJ 5 A0 n0 c0 es0] := hst
  refine region_seq ?_
  revert a
  refine sA (v := .pointer (some ⟨g57, 2, none⟩)) rfl (fun _ henv => rn_fieldAddr henv fd_anvil_api_Prog_2 (ty__api_Instr.size) (by decide) rfl) ?_
  refine sA (v := .slice none 0 0) rfl (fun _ henv => rn_load1 henv ty__api_Instr rfl (hst.oat (k := 1) rfl) rfl) ?_
  refine sA (v := .pointer (some ⟨g51, 2, none⟩)) rfl (fun _ henv => rn_fieldAddr henv fd_anvil_api_Prog_2 (ty__api_Instr.size) (by decide) rfl) ?_
  refine sA (v := .slice A0 n0 c0) rfl (fun _ henv => rn_load1 henv ty__api_Instr rfl (hst.oat (k := 4) rfl) rfl) ?_
  intro a henv
  refine seq_step rfl (op_appendR (k := 0) henv hst rfl Tryd.underlying22 inf_anvil_api_Instr rfl rfl rfl rfl rfl (hst.pat (k := 3) rfl).1 (fl_all (fun _ => rfl) _) (fl_all (fun _ => rfl) _) rfl (by omega) (by unfold maxLen; omega) (by omega) ?_)
  clear henv hst a; intro a w62 g60 c61 henv hst
  rw [show fl fJ ([]) ++ fl fJ es0 = fl fJ es0 from rfl] at hst
  replace hst : St w0 _ [rowS notU 37 5 (some ⟨g60, 0, none⟩) (0 + n0) c61 (fl fJ es0), bk g57 #[.int .i64 i, .int .i64 (g + g2 : Nat), .slice none 0 0, .slice none 0 0] 25, bk g55 #[.int .i64 0, .int .i64 0, .slice none 0 0, .slice none 0 0] 25, bk g53 #[.int .i64 (n1 : Nat), .int .i64 (g2 : Nat), .slice A2 n2 c2, .slice A3 n3 c3] 25, bk g51 #[.int .i64 i, .int .i64 (g : Nat), .slice A0 n0 c0, .slice A1 n1 c1] 25] [pfRow fI FI 1 A3 n3 c3 es3, pfRow fJ FJ 5 A2 n2 c2 es2, pfRow fI FI 1 A1 n1 c1 es1, pfRow fJ FJ 5 A0 n0 c0 es0] := hst
  refine sv (v := .pointer (some ⟨g57, 2, none⟩)) henv rfl (rn_fieldAddr henv fd_anvil_api_Prog_2 (ty__api_Instr.size) (by decide) rfl) ?_
  clear henv a; intro a henv
  refine seq_step rfl (op_store1 (k := 1) (c' := #[.int .i64 i, .int .i64 (g + g2 : Nat), .slice (some ⟨g60, 0, none⟩) (0 + n0) c61, .slice none 0 0]) henv hst (ty__api_Instr.size) rfl rfl rfl (by simp) rfl rfl ?_)
  clear henv hst a; intro a w63 henv hst
  refine wpList_nil ?_
  refine th_n ?_
  refine wp_seq ?_
  refine wp_seq ?_
  refine region_seq ?_
  refine sv (v := .int .i64 0) henv rfl (rn_assign henv rfl) ?_
  clear henv a; intro a henv
  refine wpList_nil ?_
  refine th_n ?_
  refine wp_block ?_
  refine wp_loop_ghost (fun mz a w => ∃ j : Nat, ∃ Ba : Option Addr, ∃ da : Nat, ∃ oa : List IE, n1 - j = mz ∧ Env 139 a [(2, .pointer (some ⟨g51, 0, none⟩)), (3, .pointer (some ⟨g53, 0, none⟩)), (4, .pointer (some ⟨g55, 0, none⟩)), (6, .pointer (some ⟨g57, 0, none⟩)), (7, .int .i64 (j : Nat))] ∧ St w0 w [rowS notU 37 5 Ba ((0 + n0) + j) da (fl fJ oa), bk g57 #[.int .i64 i, .int .i64 (g + g2 : Nat), .slice Ba ((0 + n0) + j) da, .slice none 0 0] 25, bk g55 #[.int .i64 0, .int .i64 0, .slice none 0 0, .slice none 0 0] 25, bk g53 #[.int .i64 (n1 : Nat), .int .i64 (g2 : Nat), .slice A2 n2 c2, .slice A3 n3 c3] 25, bk g51 #[.int .i64 i, .int .i64 (g : Nat), .slice A0 n0 c0, .slice A1 n1 c1] 25] [pfRow fI FI 1 A3 n3 c3 es3, pfRow fJ FJ 5 A2 n2 c2 es2, pfRow fI FI 1 A1 n1 c1 es1, pfRow fJ FJ 5 A0 n0 c0 es0] ∧ j ≤ n1 ∧ oa = es0 ++ (List.range j).map (moveI (g : Int) es1)) _ ⟨0, (some ⟨g60, 0, none⟩), c61, es0, rfl, henv.sub ⟨rfl, rfl, rfl, rfl, rfl, trivial⟩, hst.pick [0, 1, 2, 3, 4] [0, 1, 2, 3] (by decide), (Nat.zero_le _), (List.append_nil _).symm⟩ ?_
  clear henv hst a
  rintro mz a w64 ⟨j, Ba, da, oa, rfl, henv, hst, hj, hoa⟩
  refine wp_seq ?_
  refine wp_seq ?_
  refine region_seq ?_
  revert a
  refine mA rfl rfl ?_
  refine sA (v := .pointer (some ⟨g51, 3, none⟩)) rfl (fun _ henv => rn_fieldAddr henv fd_anvil_api_Prog_3 (ty__int.size) (by decide) rfl) ?_
  refine sA (v := .slice A1 n1 c1) rfl (fun _ henv => rn_load1 henv ty__int rfl (hst.oat (k := 4) rfl) rfl) ?_
  refine sA (v := .int .i64 (n1 : Nat)) rfl (fun _ henv => rn_len henv Tryd.underlying23 rfl) ?_
  refine sA (v := .bool (decide (((j : Nat) : Int) < ((n1 : Nat) : Int)))) rfl (fun _ henv => rn_bin henv rfl rfl rfl) ?_
  intro a henv
  refine wpList_nil ?_
  refine th_n ?_
  refine if_split henv rfl (fun hc65 => ?_) (fun hc65 => ?_)
  · have hlt : j < n1 := by have := of_decide_eq_true hc65; omega
    obtain ⟨x, hea⟩ : ∃ e, es1[j]? = some e := ⟨_, List.getElem?_eq_getElem (by omega)⟩
    refine wp_skip ?_
    refine th_n ?_
    refine wp_seq ?_
    refine wp_block ?_
    refine region_any (n := 16) (Sk [bk g55 #[.int .i64 0, .int .i64 0, .slice none 0 0, .slice none 0 0] 25, bk g53 #[.int .i64 (n1 : Nat), .int .i64 (g2 : Nat), .slice A2 n2 c2, .slice A3 n3 c3] 25, bk g51 #[.int .i64 i, .int .i64 (g : Nat), .slice A0 n0 c0, .slice A1 n1 c1] 25] [pfRow fI FI 1 A3 n3 c3 es3, pfRow fJ FJ 5 A2 n2 c2 es2, pfRow fI FI 1 A1 n1 c1 es1, pfRow fJ FJ 5 A0 n0 c0 es0] [15] [bk g57 #[.int .i64 i, .int .i64 (g + g2 : Nat), .slice Ba ((0 + n0) + j) da, .slice none 0 0] 25]) mixed rfl henv hst ?_
    clear henv hst; intro w66 henv hst
    refine tA (i := 0) [1, 13, 14, 15] (v := .pointer (some ⟨g57, 2, none⟩)) rfl (by kernel_rfl) (fun _ _ _ h => h) henv rfl (fun _ => rn_fieldAddr henv fd_anvil_api_Prog_2 (ty__api_Instr.size) (by decide) rfl) ?_
    clear henv a; intro a henv
    refine sAny_take (i := 1) [13, 14, 15] (fun w' => w'.heap[g57]? = some (.cells #[.int .i64 i, .int .i64 (g + g2 : Nat), .slice Ba ((0 + n0) + j) da, .slice none 0 0] 25 (0, 0))) (v := .slice Ba ((0 + n0) + j) da) rfl (by kernel_rfl) (fun _ _ _ h => h) (fun _ _ hj hS => (hS.two rfl hj).oat (k := 0) rfl) henv rfl (hst.oat (k := 1) rfl) (fun w' hg => rn_load1 henv ty__api_Instr rfl hg rfl) ?_
    clear henv a; intro a henv
    refine tA (i := 2) [3, 5, 11, 12, 13, 14, 15] (v := .pointer (some ⟨g51, 1, none⟩)) rfl (by kernel_rfl) (fun _ _ _ h => h) henv rfl (fun _ => rn_fieldAddr henv fd_anvil_api_Prog_1 (ty_int.size) (by decide) rfl) ?_
    clear henv a; intro a henv
    refine sAny_take (i := 3) [5, 11, 12, 13, 14, 15] (fun w' => w'.heap[g51]? = some (.cells #[.int .i64 i, .int .i64 (g : Nat), .slice A0 n0 c0, .slice A1 n1 c1] 25 (0, 0))) (v := .int .i64 (g : Nat)) rfl (by kernel_rfl) (fun _ _ _ h => h) (fun _ _ _ hS => hS.1.oat (k := 2) rfl) henv rfl (hst.oat (k := 4) rfl) (fun w' hg => rn_load1 henv ty_int rfl hg rfl) ?_
    clear henv a; intro a henv
    refine tM (i := 4) [5, 11, 12, 13, 14, 15] rfl (by kernel_rfl) (fun _ _ _ h => h) henv rfl rfl ?_
    clear henv a; intro a henv
    refine tA (i := 5) (rg 11 5) (v := .int .i64 (g + j : Nat)) rfl (by kernel_rfl) (fun _ _ _ h => h) henv rfl (fun _ => rn_add henv rfl rfl (by rw [IntWalk.i64_in _ (by omega)]; omega)) ?_
    clear henv a; intro a henv
    refine tA (i := 6) [7, 9, 10, 11, 12, 13, 14, 15] (v := .pointer (some ⟨g51, 3, none⟩)) rfl (by kernel_rfl) (fun _ _ _ h => h) henv rfl (fun _ => rn_fieldAddr henv fd_anvil_api_Prog_3 (ty__int.size) (by decide) rfl) ?_
    clear henv a; intro a henv
    refine sAny_take (i := 7) [9, 10, 11, 12, 13, 14, 15] (fun w' => w'.heap[g51]? = some (.cells #[.int .i64 i, .int .i64 (g : Nat), .slice A0 n0 c0, .slice A1 n1 c1] 25 (0, 0))) (v := .slice A1 n1 c1) rfl (by kernel_rfl) (fun _ _ _ h => h) (fun _ _ _ hS => hS.1.oat (k := 2) rfl) henv rfl (hst.oat (k := 4) rfl) (fun w' hg => rn_load1 henv ty__int rfl hg rfl) ?_
    clear henv a; intro a henv
    refine tM (i := 8) (rg 9 7) rfl (by kernel_rfl) (fun _ _ _ h => h) henv rfl rfl ?_
    clear henv a; intro a henv
    refine sAny_take (i := 9) [10, 11, 12, 13, 14, 15] (fun w' => (pfRow fI FI 1 A1 n1 c1 es1).P w') (v := .pointer (some ⟨ab A1, ao A1 + j * 1, none⟩)) rfl (by kernel_rfl) (fun _ _ _ h => h) (fun _ _ _ hS => hS.1.pat (k := 2) rfl) henv rfl (hst.pat (k := 2) rfl) (fun w' hg => rn_idxR (i := j) henv Tryd.underlying23 (ty_int.size) rfl rfl (by omega) rfl (show (pfRow fI FI 1 A1 n1 c1 es1).P _ from hg).1) ?_
    clear henv a; intro a henv
    refine sAny_take (i := 10) [11, 12, 13, 14, 15] (fun w' => (pfRow fI FI 1 A1 n1 c1 es1).P w') (v := .int .i64 x) rfl (by kernel_rfl) (fun _ _ _ h => h) (fun _ _ _ hS => hS.1.pat (k := 2) rfl) henv rfl (hst.pat (k := 2) rfl) (fun w' hg => rn_loadE1 (i := j) (j := 0) (e := x) henv ty_int rfl rfl fI_len (by decide) (show (pfRow fI FI 1 A1 n1 c1 es1).P _ from hg).1 (by omega) hea rfl) ?_
    clear henv a; intro a henv
    refine tA (i := 11) (rg 12 4) (v := .agg #[.int .i64 1, .int .i64 (g + j : Nat), .int .i64 x, .int .i64 0, .int .i64 0]) rfl (by kernel_rfl) (fun _ _ _ h => h) henv rfl (fun _ => rn_instr012 henv rfl rfl rfl) ?_
    clear henv a; intro a henv
    refine sAny_one (i := 12) (by kernel_rfl) rfl rfl (op_buildSlice (z := 5) (pv := #[(0, .agg #[.int .i64 1, .int .i64 (g + j : Nat), .int .i64 x, .int .i64 0, .int .i64 0])]) (c := #[.int .i64 1, .int .i64 (g + j : Nat), .int .i64 x, .int .i64 0, .int .i64 0]) henv hst rfl Tryd.underlying22 (ty_anvil_api_Instr.size) zero_anvil_api_Instr (by decide) (by decide) rfl (by kernel_rfl) ?_)
    clear henv hst a; intro a w68 g67 henv hst
    refine ⟨.inr ⟨hst.kn.pick [3, 4, 5] (rg 0 4), .inr (hst.kn.pick [2] [])⟩, ?_⟩
    refine sAny_one (i := 13) (by kernel_rfl) rfl rfl (op_appendS (k := 1) (j := 0) henv hst rfl Tryd.underlying22 inf_anvil_api_Instr rfl rfl rfl rfl rfl rfl rfl rfl rfl rfl rfl (by unfold maxLen; omega) (by omega) ?_)
    clear henv hst a; intro a w71 g69 c70 henv hst
    rw [show fl fJ oa ++ (#[.int .i64 1, .int .i64 (g + j : Nat), .int .i64 x, .int .i64 0, .int .i64 0] : Array Value).toList = fl fJ (oa ++ [((1, (g + j : Nat), x, 0, 0) : IE)]) from fl_snoc (f := fJ) oa ((1, (g + j : Nat), x, 0, 0) : IE)] at hst
    refine ⟨.inr ⟨hst.kn.pick [3, 4, 5] (rg 0 4), .inr (hst.kn.pick [2] [])⟩, ?_⟩
    refine tA (i := 14) [15] (v := .pointer (some ⟨g57, 2, none⟩)) rfl (by kernel_rfl) (fun _ _ _ h => h) henv rfl (fun _ => rn_fieldAddr henv fd_anvil_api_Prog_2 (ty__api_Instr.size) (by decide) rfl) ?_
    clear henv a; intro a henv
    refine sAny_one (i := 15) (by kernel_rfl) rfl rfl (op_store1 (k := 2) (c' := #[.int .i64 i, .int .i64 (g + g2 : Nat), .slice (some ⟨g69, 0, none⟩) (((0 + n0) + j) + 1) c70, .slice none 0 0]) henv hst (ty__api_Instr.size) rfl rfl rfl (by simp) rfl rfl ?_)
    clear henv hst a; intro a w72 henv hst
    refine ⟨.inr ⟨hst.kn.pick [3, 4, 5] (rg 0 4), .inl rfl⟩, ?_⟩
    refine sAny_done (by kernel_rfl) ?_ _
    refine bl_n (th_n ?_)
    refine region_seq ?_
    revert a
    refine mA rfl rfl ?_
    refine sA (v := .int .i64 (j + 1 : Nat)) rfl (fun _ henv => rn_add henv rfl rfl (by rw [IntWalk.i64_in _ (by omega)]; omega)) ?_
    refine aA rfl rfl ?_
    intro a henv
    refine wpList_nil ?_
    exact th_n ⟨_, (by omega), ⟨j + 1, (some ⟨g69, 0, none⟩), c70, (oa ++ [((1, (g + j : Nat), x, 0, 0) : IE)]), rfl, henv.sub ⟨rfl, rfl, rfl, rfl, rfl, trivial⟩, hst.pick [1, 2, 3, 4, 5] [0, 1, 2, 3] (by decide), (by omega), (jn_step1n hoa hea)⟩⟩
  · obtain rfl : n1 = j := by have := of_decide_eq_false hc65; omega
    refine wp_exit ?_
    refine th_x (th_x (bl_x (th_n ?_)))
    refine wp_seq ?_
    refine wp_seq ?_
    refine region_seq ?_
    refine sv (v := .int .i64 0) henv rfl (rn_assign henv rfl) ?_
    clear henv a; intro a henv
    refine wpList_nil ?_
    refine th_n ?_
    refine wp_block ?_
    refine wp_loop_ghost (fun mz a w => ∃ m : Nat, ∃ Bb : Option Addr, ∃ db : Nat, ∃ ob : List IE, n2 - m = mz ∧ Env 139 a [(2, .pointer (some ⟨g51, 0, none⟩)), (3, .pointer (some ⟨g53, 0, none⟩)), (4, .pointer (some ⟨g55, 0, none⟩)), (6, .pointer (some ⟨g57, 0, none⟩)), (8, .int .i64 (m : Nat))] ∧ St w0 w [rowS notU 37 5 Bb (((0 + n0) + n1) + m) db (fl fJ ob), bk g57 #[.int .i64 i, .int .i64 (g + g2 : Nat), .slice Bb (((0 + n0) + n1) + m) db, .slice none 0 0] 25, bk g55 #[.int .i64 0, .int .i64 0, .slice none 0 0, .slice none 0 0] 25, bk g53 #[.int .i64 (n1 : Nat), .int .i64 (g2 : Nat), .slice A2 n2 c2, .slice A3 n3 c3] 25, bk g51 #[.int .i64 i, .int .i64 (g : Nat), .slice A0 n0 c0, .slice A1 n1 c1] 25] [pfRow fI FI 1 A3 n3 c3 es3, pfRow fJ FJ 5 A2 n2 c2 es2, pfRow fI FI 1 A1 n1 c1 es1, pfRow fJ FJ 5 A0 n0 c0 es0] ∧ m ≤ n2 ∧ ob = (es0 ++ (List.range es1.length).map (moveI (g : Int) es1)) ++ (es2.take m).map (mvI (g : Int))) _ ⟨0, Ba, da, oa, rfl, henv.sub ⟨rfl, rfl, rfl, rfl, rfl, trivial⟩, hst.pick [0, 1, 2, 3, 4] [0, 1, 2, 3] (by decide), (Nat.zero_le _), (by rw [hoa, hlen1]; exact (List.append_nil _).symm)⟩ ?_
    clear henv hst a
    rintro mz a w73 ⟨m, Bb, db, ob, rfl, henv, hst, hm, hob⟩
    refine wp_seq ?_
    refine wp_seq ?_
    refine region_seq ?_
    revert a
    refine mA rfl rfl ?_
    refine sA (v := .pointer (some ⟨g53, 2, none⟩)) rfl (fun _ henv => rn_fieldAddr henv fd_anvil_api_Prog_2 (ty__api_Instr.size) (by decide) rfl) ?_
    refine sA (v := .slice A2 n2 c2) rfl (fun _ henv => rn_load1 henv ty__api_Instr rfl (hst.oat (k := 3) rfl) rfl) ?_
    refine sA (v := .int .i64 (n2 : Nat)) rfl (fun _ henv => rn_len henv Tryd.underlying22 rfl) ?_
    refine sA (v := .bool (decide (((m : Nat) : Int) < ((n2 : Nat) : Int)))) rfl (fun _ henv => rn_bin henv rfl rfl rfl) ?_
    intro a henv
    refine wpList_nil ?_
    refine th_n ?_
    refine if_split henv rfl (fun hc74 => ?_) (fun hc74 => ?_)
    · have hlt : m < n2 := by have := of_decide_eq_true hc74; omega
      obtain ⟨⟨a1, a2, a3, a4, a5⟩, heb⟩ : ∃ e, es2[m]? = some e := ⟨_, List.getElem?_eq_getElem (by omega)⟩
      have hmy : May (a1, a2, a3, a4, a5) g2 := hR1.2.2 _ (List.mem_of_getElem? heb)
      have hbd : 0 ≤ a2 ∧ a2 < 128 ∧ 0 ≤ a3 ∧ a3 < 128 ∧ 0 ≤ a4 ∧ a4 < 128 := by unfold May at hmy; simp only at hmy; omega
      have hmb : mvB a1 a4 (g : Int) = mvB a1 a4 (g : Int) := rfl
      refine wp_skip ?_
      refine th_n ?_
      refine wp_seq ?_
      refine wp_block ?_
      refine wp_seq ?_
      refine region_seq ?_
      revert a
      refine sA (v := .pointer (some ⟨g53, 2, none⟩)) rfl (fun _ henv => rn_fieldAddr henv fd_anvil_api_Prog_2 (ty__api_Instr.size) (by decide) rfl) ?_
      refine sA (v := .slice A2 n2 c2) rfl (fun _ henv => rn_load1 henv ty__api_Instr rfl (hst.oat (k := 3) rfl) rfl) ?_
      refine mA rfl rfl ?_
      refine sA (v := .pointer (some ⟨ab A2, ao A2 + m * 5, none⟩)) rfl (fun _ henv => rn_idxR (i := m) henv Tryd.underlying22 (ty_anvil_api_Instr.size) rfl rfl (by omega) rfl (show (pfRow fJ FJ 5 A2 n2 c2 es2).P _ from (hst.pat (k := 1) rfl)).1) ?_
      refine sA (v := .agg #[.int .i64 a1, .int .i64 a2, .int .i64 a3, .int .i64 a4, .int .i64 a5]) rfl (fun _ henv => rn_loadE (i := m) (e := (a1, a2, a3, a4, a5)) henv ty_anvil_api_Instr rfl rfl fJ_len (show (pfRow fJ FJ 5 A2 n2 c2 es2).P _ from (hst.pat (k := 1) rfl)).1 (by omega) heb rfl) ?_
      intro a henv
      refine seq_step rfl (op_alloc (c := #[.int .i64 0, .int .i64 0, .int .i64 0, .int .i64 0, .int .i64 0]) henv hst rfl zero_anvil_api_Instr rfl ?_)
      clear henv hst a; intro a w76 g75 henv hst
      refine seq_step rfl (op_store (k := 0) (c' := #[.int .i64 a1, .int .i64 a2, .int .i64 a3, .int .i64 a4, .int .i64 a5]) henv hst (ty_anvil_api_Instr.size) rfl rfl rfl rfl (by simp) rfl rfl ?_)
      clear henv hst a; intro a w77 henv hst
      refine wpList_nil ?_
      refine th_n ?_
      refine wp_seq ?_
      refine region_any (n := 14) (Sk [rowS notU 37 5 Bb (((0 + n0) + n1) + m) db (fl fJ ob), bk g57 #[.int .i64 i, .int .i64 (g + g2 : Nat), .slice Bb (((0 + n0) + n1) + m) db, .slice none 0 0] 25, bk g55 #[.int .i64 0, .int .i64 0, .slice none 0 0, .slice none 0 0] 25, bk g53 #[.int .i64 (n1 : Nat), .int .i64 (g2 : Nat), .slice A2 n2 c2, .slice A3 n3 c3] 25, bk g51 #[.int .i64 i, .int .i64 (g : Nat), .slice A0 n0 c0, .slice A1 n1 c1] 25] [pfRow fI FI 1 A3 n3 c3 es3, pfRow fJ FJ 5 A2 n2 c2 es2, pfRow fI FI 1 A1 n1 c1 es1, pfRow fJ FJ 5 A0 n0 c0 es0] [11, 13] [bk g75 #[.int .i64 a1, .int .i64 a2, .int .i64 a3, .int .i64 a4, .int .i64 a5] 37]) mixed rfl henv hst ?_
      clear henv hst; intro w78 henv hst
      refine tA (i := 0) [1, 4, 10, 11, 12, 13] (v := .pointer (some ⟨g75, 1, none⟩)) rfl (by kernel_rfl) (fun _ _ _ h => h) henv rfl (fun _ => rn_fieldAddr henv fd_anvil_api_Instr_1 (ty_int.size) (by decide) rfl) ?_
      clear henv a; intro a henv
      refine sAny_take (i := 1) [4, 10, 11, 12, 13] (fun w' => w'.heap[g75]? = some (.cells #[.int .i64 a1, .int .i64 a2, .int .i64 a3, .int .i64 a4, .int .i64 a5] 37 (0, 0))) (v := .int .i64 a2) rfl (by kernel_rfl) (fun _ _ _ h => h) (fun _ _ hj hS => (hS.two rfl hj).oat (k := 0) rfl) henv rfl (hst.oat (k := 0) rfl) (fun w' hg => rn_load1 henv ty_int rfl hg rfl) ?_
      clear henv a; intro a henv
      refine tA (i := 2) [3, 4, 10, 11, 12, 13] (v := .pointer (some ⟨g51, 1, none⟩)) rfl (by kernel_rfl) (fun _ _ _ h => h) henv rfl (fun _ => rn_fieldAddr henv fd_anvil_api_Prog_1 (ty_int.size) (by decide) rfl) ?_
      clear henv a; intro a henv
      refine sAny_take (i := 3) [4, 10, 11, 12, 13] (fun w' => w'.heap[g51]? = some (.cells #[.int .i64 i, .int .i64 (g : Nat), .slice A0 n0 c0, .slice A1 n1 c1] 25 (0, 0))) (v := .int .i64 (g : Nat)) rfl (by kernel_rfl) (fun _ _ _ h => h) (fun _ _ _ hS => hS.1.oat (k := 4) rfl) henv rfl (hst.oat (k := 5) rfl) (fun w' hg => rn_load1 henv ty_int rfl hg rfl) ?_
      clear henv a; intro a henv
      refine tA (i := 4) (rg 10 4) (v := .int .i64 (a2 + ((g : Nat) : Int))) rfl (by kernel_rfl) (fun _ _ _ h => h) henv rfl (fun _ => rn_add henv rfl rfl (IntWalk.i64_in _ (by omega))) ?_
      clear henv a; intro a henv
      refine tA (i := 5) [6, 9, 10, 11, 12, 13] (v := .pointer (some ⟨g75, 2, none⟩)) rfl (by kernel_rfl) (fun _ _ _ h => h) henv rfl (fun _ => rn_fieldAddr henv fd_anvil_api_Instr_2 (ty_int.size) (by decide) rfl) ?_
      clear henv a; intro a henv
      refine sAny_take (i := 6) [9, 10, 11, 12, 13] (fun w' => w'.heap[g75]? = some (.cells #[.int .i64 a1, .int .i64 a2, .int .i64 a3, .int .i64 a4, .int .i64 a5] 37 (0, 0))) (v := .int .i64 a3) rfl (by kernel_rfl) (fun _ _ _ h => h) (fun _ _ hj hS => (hS.two rfl hj).oat (k := 0) rfl) henv rfl (hst.oat (k := 0) rfl) (fun w' hg => rn_load1 henv ty_int rfl hg rfl) ?_
      clear henv a; intro a henv
      refine tA (i := 7) [8, 9, 12, 13] (v := .pointer (some ⟨g51, 1, none⟩)) rfl (by kernel_rfl) (fun _ _ _ h => h) henv rfl (fun _ => rn_fieldAddr henv fd_anvil_api_Prog_1 (ty_int.size) (by decide) rfl) ?_
      clear henv a; intro a henv
      refine sAny_take (i := 8) [9, 12, 13] (fun w' => w'.heap[g51]? = some (.cells #[.int .i64 i, .int .i64 (g : Nat), .slice A0 n0 c0, .slice A1 n1 c1] 25 (0, 0))) (v := .int .i64 (g : Nat)) rfl (by kernel_rfl) (fun _ _ _ h => h) (fun _ _ _ hS => hS.1.oat (k := 4) rfl) henv rfl (hst.oat (k := 5) rfl) (fun w' hg => rn_load1 henv ty_int rfl hg rfl) ?_
      clear henv a; intro a henv
      refine tA (i := 9) [12, 13] (v := .int .i64 (a3 + ((g : Nat) : Int))) rfl (by kernel_rfl) (fun _ _ _ h => h) henv rfl (fun _ => rn_add henv rfl rfl (IntWalk.i64_in _ (by omega))) ?_
      clear henv a; intro a henv
      refine tA (i := 10) [11, 12, 13] (v := .pointer (some ⟨g75, 1, none⟩)) rfl (by kernel_rfl) (fun _ _ _ h => h) henv rfl (fun _ => rn_fieldAddr henv fd_anvil_api_Instr_1 (ty_int.size) (by decide) rfl) ?_
      clear henv a; intro a henv
      refine sAny_one (i := 11) (by kernel_rfl) rfl rfl (op_store1 (k := 0) (c' := #[.int .i64 a1, .int .i64 (a2 + ((g : Nat) : Int)), .int .i64 a3, .int .i64 a4, .int .i64 a5]) henv hst (ty_int.size) rfl rfl rfl (by simp) rfl rfl ?_)
      clear henv hst a; intro a w79 henv hst
      refine ⟨.inr ⟨hst.kn.pick (rg 1 5) (rg 0 4), .inl rfl⟩, ?_⟩
      refine tA (i := 12) [13] (v := .pointer (some ⟨g75, 2, none⟩)) rfl (by kernel_rfl) (fun _ _ _ h => h) henv rfl (fun _ => rn_fieldAddr henv fd_anvil_api_Instr_2 (ty_int.size) (by decide) rfl) ?_
      clear henv a; intro a henv
      refine sAny_one (i := 13) (by kernel_rfl) rfl rfl (op_store1 (k := 0) (c' := #[.int .i64 a1, .int .i64 (a2 + ((g : Nat) : Int)), .int .i64 (a3 + ((g : Nat) : Int)), .int .i64 a4, .int .i64 a5]) henv hst (ty_int.size) rfl rfl rfl (by simp) rfl rfl ?_)
      clear henv hst a; intro a w80 henv hst
      refine ⟨.inr ⟨hst.kn.pick (rg 1 5) (rg 0 4), .inl rfl⟩, ?_⟩
      refine sAny_done (by kernel_rfl) ?_ _
      refine th_n ?_
      refine wp_seq ?_
      refine wp_seq ?_
      refine region_seq ?_
      revert a
      refine sA (v := .pointer (some ⟨g75, 0, none⟩)) rfl (fun _ henv => rn_fieldAddr henv fd_anvil_api_Instr_0 (ty_int.size) (by decide) rfl) ?_
      refine sA (v := .int .i64 a1) rfl (fun _ henv => rn_load1 henv ty_int rfl (hst.oat (k := 0) rfl) rfl) ?_
      refine sA (v := .bool (a1 == (3 : Int))) rfl (fun _ henv => rn_bin henv rfl rfl rfl) ?_
      refine mA rfl rfl ?_
      intro a henv
      rcases bool_em (a1 == (3 : Int)) with hg81 | hg81
      · rw [hg81] at henv
        have hx82 := eq_of_beq hg81
        replace hmb : mvB a1 a4 (g : Int) = a4 + (g : Int) := if_pos (by omega)
        revert a
        refine kA rfl rfl rfl rfl rfl ?_
        refine kA rfl rfl rfl rfl rfl ?_
        refine kA rfl rfl rfl rfl rfl ?_
        refine sA (v := .bool true) rfl (fun _ henv => rn_pick henv rfl rfl) ?_
        intro a henv
        refine wpList_nil ?_
        refine th_n ?_
        refine if_t henv rfl (rfl) ?_
        refine region_seq ?_
        revert a
        refine sA (v := .pointer (some ⟨g75, 3, none⟩)) rfl (fun _ henv => rn_fieldAddr henv fd_anvil_api_Instr_3 (ty_int.size) (by decide) rfl) ?_
        refine sA (v := .int .i64 a4) rfl (fun _ henv => rn_load1 henv ty_int rfl (hst.oat (k := 0) rfl) rfl) ?_
        refine sA (v := .pointer (some ⟨g51, 1, none⟩)) rfl (fun _ henv => rn_fieldAddr henv fd_anvil_api_Prog_1 (ty_int.size) (by decide) rfl) ?_
        refine sA (v := .int .i64 (g : Nat)) rfl (fun _ henv => rn_load1 henv ty_int rfl (hst.oat (k := 5) rfl) rfl) ?_
        refine sA (v := .int .i64 (a4 + ((g : Nat) : Int))) rfl (fun _ henv => rn_add henv rfl rfl (IntWalk.i64_in _ (by omega))) ?_
        refine sA (v := .pointer (some ⟨g75, 3, none⟩)) rfl (fun _ henv => rn_fieldAddr henv fd_anvil_api_Instr_3 (ty_int.size) (by decide) rfl) ?_
        intro a henv
        refine seq_step rfl (op_store1 (k := 0) (c' := #[.int .i64 a1, .int .i64 (a2 + ((g : Nat) : Int)), .int .i64 (a3 + ((g : Nat) : Int)), .int .i64 (a4 + ((g : Nat) : Int)), .int .i64 a5]) henv hst (ty_int.size) rfl rfl rfl (by simp) rfl rfl ?_)
        clear henv hst a; intro a w83 henv hst
        refine wpList_nil ?_
        refine th_n ?_
        refine region_seq ?_
        revert a
        refine sA (v := .pointer (some ⟨g57, 2, none⟩)) rfl (fun _ henv => rn_fieldAddr henv fd_anvil_api_Prog_2 (ty__api_Instr.size) (by decide) rfl) ?_
        refine sA (v := .slice Bb (((0 + n0) + n1) + m) db) rfl (fun _ henv => rn_load1 henv ty__api_Instr rfl (hst.oat (k := 2) rfl) rfl) ?_
        refine sA (v := .agg #[.int .i64 a1, .int .i64 (a2 + ((g : Nat) : Int)), .int .i64 (a3 + ((g : Nat) : Int)), .int .i64 (a4 + ((g : Nat) : Int)), .int .i64 a5]) rfl (fun _ henv => rn_load0 henv ty_anvil_api_Instr rfl (hst.oat (k := 0) rfl) rfl) ?_
        intro a henv
        refine seq_step rfl (op_buildSlice (z := 5) (pv := #[(0, .agg #[.int .i64 a1, .int .i64 (a2 + ((g : Nat) : Int)), .int .i64 (a3 + ((g : Nat) : Int)), .int .i64 (a4 + ((g : Nat) : Int)), .int .i64 a5])]) (c := #[.int .i64 a1, .int .i64 (a2 + ((g : Nat) : Int)), .int .i64 (a3 + ((g : Nat) : Int)), .int .i64 (a4 + ((g : Nat) : Int)), .int .i64 a5]) henv hst rfl Tryd.underlying22 (ty_anvil_api_Instr.size) zero_anvil_api_Instr (by decide) (by decide) rfl (by kernel_rfl) ?_)
        clear henv hst a; intro a w85 g84 henv hst
        refine seq_step rfl (op_appendS (k := 2) (j := 0) henv hst rfl Tryd.underlying22 inf_anvil_api_Instr rfl rfl rfl rfl rfl rfl rfl rfl rfl rfl rfl (by unfold maxLen; omega) (by omega) ?_)
        clear henv hst a; intro a w88 g86 c87 henv hst
        rw [show fl fJ ob ++ (#[.int .i64 a1, .int .i64 (a2 + ((g : Nat) : Int)), .int .i64 (a3 + ((g : Nat) : Int)), .int .i64 (a4 + ((g : Nat) : Int)), .int .i64 a5] : Array Value).toList = fl fJ (ob ++ [((a1, a2 + ((g : Nat) : Int), a3 + ((g : Nat) : Int), a4 + ((g : Nat) : Int), a5) : IE)]) from fl_snoc (f := fJ) ob ((a1, a2 + ((g : Nat) : Int), a3 + ((g : Nat) : Int), a4 + ((g : Nat) : Int), a5) : IE)] at hst
        refine sv (v := .pointer (some ⟨g57, 2, none⟩)) henv rfl (rn_fieldAddr henv fd_anvil_api_Prog_2 (ty__api_Instr.size) (by decide) rfl) ?_
        clear henv a; intro a henv
        refine seq_step rfl (op_store1 (k := 3) (c' := #[.int .i64 i, .int .i64 (g + g2 : Nat), .slice (some ⟨g86, 0, none⟩) ((((0 + n0) + n1) + m) + 1) c87, .slice none 0 0]) henv hst (ty__api_Instr.size) rfl rfl rfl (by simp) rfl rfl ?_)
        clear henv hst a; intro a w89 henv hst
        refine wpList_nil ?_
        refine bl_n (th_n ?_)
        refine region_seq ?_
        revert a
        refine mA rfl rfl ?_
        refine sA (v := .int .i64 (m + 1 : Nat)) rfl (fun _ henv => rn_add henv rfl rfl (by rw [IntWalk.i64_in _ (by omega)]; omega)) ?_
        refine aA rfl rfl ?_
        intro a henv
        refine wpList_nil ?_
        exact th_n ⟨_, (by omega), ⟨m + 1, (some ⟨g86, 0, none⟩), c87, (ob ++ [((a1, a2 + ((g : Nat) : Int), a3 + ((g : Nat) : Int), a4 + ((g : Nat) : Int), a5) : IE)]), rfl, henv.sub ⟨rfl, rfl, rfl, rfl, rfl, trivial⟩, hst.pick [2, 3, 4, 5, 6] [0, 1, 2, 3] (by decide), (by omega), (jn_step2x hob heb hmb)⟩⟩
      · rw [hg81] at henv
        have hx90 := ne_of_beq_false hg81
        revert a
        refine gA (v := .pointer (some ⟨g75, 0, none⟩)) rfl rfl rfl rfl (fun _ henv => rn_fieldAddr henv fd_anvil_api_Instr_0 (ty_int.size) (by decide) rfl) ?_
        refine gA (v := .int .i64 a1) rfl rfl rfl rfl (fun _ henv => rn_load1 henv ty_int rfl (hst.oat (k := 0) rfl) rfl) ?_
        refine gA (v := .bool (a1 == (4 : Int))) rfl rfl rfl rfl (fun _ henv => rn_bin henv rfl rfl rfl) ?_
        refine sA (v := .bool (a1 == (4 : Int))) rfl (fun _ henv => rn_pick henv rfl rfl) ?_
        intro a henv
        refine wpList_nil ?_
        refine th_n ?_
        refine if_split henv rfl (fun hc91 => ?_) (fun hc91 => ?_)
        · have hx92 := eq_of_beq hc91
          replace hmb : mvB a1 a4 (g : Int) = a4 + (g : Int) := if_pos (by omega)
          refine region_seq ?_
          revert a
          refine sA (v := .pointer (some ⟨g75, 3, none⟩)) rfl (fun _ henv => rn_fieldAddr henv fd_anvil_api_Instr_3 (ty_int.size) (by decide) rfl) ?_
          refine sA (v := .int .i64 a4) rfl (fun _ henv => rn_load1 henv ty_int rfl (hst.oat (k := 0) rfl) rfl) ?_
          refine sA (v := .pointer (some ⟨g51, 1, none⟩)) rfl (fun _ henv => rn_fieldAddr henv fd_anvil_api_Prog_1 (ty_int.size) (by decide) rfl) ?_
          refine sA (v := .int .i64 (g : Nat)) rfl (fun _ henv => rn_load1 henv ty_int rfl (hst.oat (k := 5) rfl) rfl) ?_
          refine sA (v := .int .i64 (a4 + ((g : Nat) : Int))) rfl (fun _ henv => rn_add henv rfl rfl (IntWalk.i64_in _ (by omega))) ?_
          refine sA (v := .pointer (some ⟨g75, 3, none⟩)) rfl (fun _ henv => rn_fieldAddr henv fd_anvil_api_Instr_3 (ty_int.size) (by decide) rfl) ?_
          intro a henv
          refine seq_step rfl (op_store1 (k := 0) (c' := #[.int .i64 a1, .int .i64 (a2 + ((g : Nat) : Int)), .int .i64 (a3 + ((g : Nat) : Int)), .int .i64 (a4 + ((g : Nat) : Int)), .int .i64 a5]) henv hst (ty_int.size) rfl rfl rfl (by simp) rfl rfl ?_)
          clear henv hst a; intro a w93 henv hst
          refine wpList_nil ?_
          refine th_n ?_
          refine region_seq ?_
          revert a
          refine sA (v := .pointer (some ⟨g57, 2, none⟩)) rfl (fun _ henv => rn_fieldAddr henv fd_anvil_api_Prog_2 (ty__api_Instr.size) (by decide) rfl) ?_
          refine sA (v := .slice Bb (((0 + n0) + n1) + m) db) rfl (fun _ henv => rn_load1 henv ty__api_Instr rfl (hst.oat (k := 2) rfl) rfl) ?_
          refine sA (v := .agg #[.int .i64 a1, .int .i64 (a2 + ((g : Nat) : Int)), .int .i64 (a3 + ((g : Nat) : Int)), .int .i64 (a4 + ((g : Nat) : Int)), .int .i64 a5]) rfl (fun _ henv => rn_load0 henv ty_anvil_api_Instr rfl (hst.oat (k := 0) rfl) rfl) ?_
          intro a henv
          refine seq_step rfl (op_buildSlice (z := 5) (pv := #[(0, .agg #[.int .i64 a1, .int .i64 (a2 + ((g : Nat) : Int)), .int .i64 (a3 + ((g : Nat) : Int)), .int .i64 (a4 + ((g : Nat) : Int)), .int .i64 a5])]) (c := #[.int .i64 a1, .int .i64 (a2 + ((g : Nat) : Int)), .int .i64 (a3 + ((g : Nat) : Int)), .int .i64 (a4 + ((g : Nat) : Int)), .int .i64 a5]) henv hst rfl Tryd.underlying22 (ty_anvil_api_Instr.size) zero_anvil_api_Instr (by decide) (by decide) rfl (by kernel_rfl) ?_)
          clear henv hst a; intro a w95 g94 henv hst
          refine seq_step rfl (op_appendS (k := 2) (j := 0) henv hst rfl Tryd.underlying22 inf_anvil_api_Instr rfl rfl rfl rfl rfl rfl rfl rfl rfl rfl rfl (by unfold maxLen; omega) (by omega) ?_)
          clear henv hst a; intro a w98 g96 c97 henv hst
          rw [show fl fJ ob ++ (#[.int .i64 a1, .int .i64 (a2 + ((g : Nat) : Int)), .int .i64 (a3 + ((g : Nat) : Int)), .int .i64 (a4 + ((g : Nat) : Int)), .int .i64 a5] : Array Value).toList = fl fJ (ob ++ [((a1, a2 + ((g : Nat) : Int), a3 + ((g : Nat) : Int), a4 + ((g : Nat) : Int), a5) : IE)]) from fl_snoc (f := fJ) ob ((a1, a2 + ((g : Nat) : Int), a3 + ((g : Nat) : Int), a4 + ((g : Nat) : Int), a5) : IE)] at hst
          refine sv (v := .pointer (some ⟨g57, 2, none⟩)) henv rfl (rn_fieldAddr henv fd_anvil_api_Prog_2 (ty__api_Instr.size) (by decide) rfl) ?_
          clear henv a; intro a henv
          refine seq_step rfl (op_store1 (k := 3) (c' := #[.int .i64 i, .int .i64 (g + g2 : Nat), .slice (some ⟨g96, 0, none⟩) ((((0 + n0) + n1) + m) + 1) c97, .slice none 0 0]) henv hst (ty__api_Instr.size) rfl rfl rfl (by simp) rfl rfl ?_)
          clear henv hst a; intro a w99 henv hst
          refine wpList_nil ?_
          refine bl_n (th_n ?_)
          refine region_seq ?_
          revert a
          refine mA rfl rfl ?_
          refine sA (v := .int .i64 (m + 1 : Nat)) rfl (fun _ henv => rn_add henv rfl rfl (by rw [IntWalk.i64_in _ (by omega)]; omega)) ?_
          refine aA rfl rfl ?_
          intro a henv
          refine wpList_nil ?_
          exact th_n ⟨_, (by omega), ⟨m + 1, (some ⟨g96, 0, none⟩), c97, (ob ++ [((a1, a2 + ((g : Nat) : Int), a3 + ((g : Nat) : Int), a4 + ((g : Nat) : Int), a5) : IE)]), rfl, henv.sub ⟨rfl, rfl, rfl, rfl, rfl, trivial⟩, hst.pick [2, 3, 4, 5, 6] [0, 1, 2, 3] (by decide), (by omega), (jn_step2x hob heb hmb)⟩⟩
        · have hx100 := ne_of_beq_false hc91
          replace hmb : mvB a1 a4 (g : Int) = a4 := if_neg (by omega)
          refine wp_skip ?_
          refine th_n ?_
          refine region_seq ?_
          revert a
          refine sA (v := .pointer (some ⟨g57, 2, none⟩)) rfl (fun _ henv => rn_fieldAddr henv fd_anvil_api_Prog_2 (ty__api_Instr.size) (by decide) rfl) ?_
          refine sA (v := .slice Bb (((0 + n0) + n1) + m) db) rfl (fun _ henv => rn_load1 henv ty__api_Instr rfl (hst.oat (k := 2) rfl) rfl) ?_
          refine sA (v := .agg #[.int .i64 a1, .int .i64 (a2 + ((g : Nat) : Int)), .int .i64 (a3 + ((g : Nat) : Int)), .int .i64 a4, .int .i64 a5]) rfl (fun _ henv => rn_load0 henv ty_anvil_api_Instr rfl (hst.oat (k := 0) rfl) rfl) ?_
          intro a henv
          refine seq_step rfl (op_buildSlice (z := 5) (pv := #[(0, .agg #[.int .i64 a1, .int .i64 (a2 + ((g : Nat) : Int)), .int .i64 (a3 + ((g : Nat) : Int)), .int .i64 a4, .int .i64 a5])]) (c := #[.int .i64 a1, .int .i64 (a2 + ((g : Nat) : Int)), .int .i64 (a3 + ((g : Nat) : Int)), .int .i64 a4, .int .i64 a5]) henv hst rfl Tryd.underlying22 (ty_anvil_api_Instr.size) zero_anvil_api_Instr (by decide) (by decide) rfl (by kernel_rfl) ?_)
          clear henv hst a; intro a w102 g101 henv hst
          refine seq_step rfl (op_appendS (k := 2) (j := 0) henv hst rfl Tryd.underlying22 inf_anvil_api_Instr rfl rfl rfl rfl rfl rfl rfl rfl rfl rfl rfl (by unfold maxLen; omega) (by omega) ?_)
          clear henv hst a; intro a w105 g103 c104 henv hst
          rw [show fl fJ ob ++ (#[.int .i64 a1, .int .i64 (a2 + ((g : Nat) : Int)), .int .i64 (a3 + ((g : Nat) : Int)), .int .i64 a4, .int .i64 a5] : Array Value).toList = fl fJ (ob ++ [((a1, a2 + ((g : Nat) : Int), a3 + ((g : Nat) : Int), a4, a5) : IE)]) from fl_snoc (f := fJ) ob ((a1, a2 + ((g : Nat) : Int), a3 + ((g : Nat) : Int), a4, a5) : IE)] at hst
          refine sv (v := .pointer (some ⟨g57, 2, none⟩)) henv rfl (rn_fieldAddr henv fd_anvil_api_Prog_2 (ty__api_Instr.size) (by decide) rfl) ?_
          clear henv a; intro a henv
          refine seq_step rfl (op_store1 (k := 3) (c' := #[.int .i64 i, .int .i64 (g + g2 : Nat), .slice (some ⟨g103, 0, none⟩) ((((0 + n0) + n1) + m) + 1) c104, .slice none 0 0]) henv hst (ty__api_Instr.size) rfl rfl rfl (by simp) rfl rfl ?_)
          clear henv hst a; intro a w106 henv hst
          refine wpList_nil ?_
          refine bl_n (th_n ?_)
          refine region_seq ?_
          revert a
          refine mA rfl rfl ?_
          refine sA (v := .int .i64 (m + 1 : Nat)) rfl (fun _ henv => rn_add henv rfl rfl (by rw [IntWalk.i64_in _ (by omega)]; omega)) ?_
          refine aA rfl rfl ?_
          intro a henv
          refine wpList_nil ?_
          exact th_n ⟨_, (by omega), ⟨m + 1, (some ⟨g103, 0, none⟩), c104, (ob ++ [((a1, a2 + ((g : Nat) : Int), a3 + ((g : Nat) : Int), a4, a5) : IE)]), rfl, henv.sub ⟨rfl, rfl, rfl, rfl, rfl, trivial⟩, hst.pick [2, 3, 4, 5, 6] [0, 1, 2, 3] (by decide), (by omega), (jn_step2x hob heb hmb)⟩⟩
    · obtain rfl : n2 = m := by have := of_decide_eq_false hc74; omega
      rw [List.take_of_length_le (by omega)] at hob
      refine wp_exit ?_
      refine th_x (th_x (bl_x (th_n ?_)))
      refine wp_seq ?_
      refine wp_seq ?_
      replace hst := (hst.addRowS notU 3 1)
      replace hst : St w0 _ [rowS notU 3 1 none 0 0 (fl fI ([])), rowS notU 37 5 Bb (((0 + n0) + n1) + n2) db (fl fJ ob), bk g57 #[.int .i64 i, .int .i64 (g + g2 : Nat), .slice Bb (((0 + n0) + n1) + n2) db, .slice none 0 0] 25, bk g55 #[.int .i64 0, .int .i64 0, .slice none 0 0, .slice none 0 0] 25, bk g53 #[.int .i64 (n1 : Nat), .int .i64 (g2 : Nat), .slice A2 n2 c2, .slice A3 n3 c3] 25, bk g51 #[.int .i64 i, .int .i64 (g : Nat), .slice A0 n0 c0, .slice A1 n1 c1] 25] [pfRow fI FI 1 A3 n3 c3 es3, pfRow fJ FJ 5 A2 n2 c2 es2, pfRow fI FI 1 A1 n1 c1 es1, pfRow fJ FJ 5 A0 n0 c0 es0] := hst
      refine region_seq ?_
      refine sv (v := .int .i64 0) henv rfl (rn_assign henv rfl) ?_
      clear henv a; intro a henv
      refine wpList_nil ?_
      refine th_n ?_
      refine wp_block ?_
      refine wp_loop_ghost (fun mz a w => ∃ q : Nat, ∃ Bc : Option Addr, ∃ dc : Nat, ∃ oc : List Int, n3 - q = mz ∧ Env 139 a [(2, .pointer (some ⟨g51, 0, none⟩)), (3, .pointer (some ⟨g53, 0, none⟩)), (4, .pointer (some ⟨g55, 0, none⟩)), (6, .pointer (some ⟨g57, 0, none⟩)), (10, .int .i64 (q : Nat))] ∧ St w0 w [rowS notU 3 1 Bc q dc (fl fI oc), rowS notU 37 5 Bb (((0 + n0) + n1) + n2) db (fl fJ ob), bk g57 #[.int .i64 i, .int .i64 (g + g2 : Nat), .slice Bb (((0 + n0) + n1) + n2) db, .slice Bc q dc] 25, bk g55 #[.int .i64 0, .int .i64 0, .slice none 0 0, .slice none 0 0] 25, bk g53 #[.int .i64 (n1 : Nat), .int .i64 (g2 : Nat), .slice A2 n2 c2, .slice A3 n3 c3] 25, bk g51 #[.int .i64 i, .int .i64 (g : Nat), .slice A0 n0 c0, .slice A1 n1 c1] 25] [pfRow fI FI 1 A3 n3 c3 es3, pfRow fJ FJ 5 A2 n2 c2 es2, pfRow fI FI 1 A1 n1 c1 es1, pfRow fJ FJ 5 A0 n0 c0 es0] ∧ q ≤ n3 ∧ oc = (es3.take q).map (· + (g : Int))) _ ⟨0, none, 0, [], rfl, henv.sub ⟨rfl, rfl, rfl, rfl, rfl, trivial⟩, hst.pick [0, 1, 2, 3, 4, 5] [0, 1, 2, 3] (by decide), (Nat.zero_le _), rfl⟩ ?_
      clear henv hst a
      rintro mz a w107 ⟨q, Bc, dc, oc, rfl, henv, hst, hq, hoc⟩
      refine wp_seq ?_
      refine wp_seq ?_
      refine region_seq ?_
      revert a
      refine mA rfl rfl ?_
      refine sA (v := .pointer (some ⟨g53, 3, none⟩)) rfl (fun _ henv => rn_fieldAddr henv fd_anvil_api_Prog_3 (ty__int.size) (by decide) rfl) ?_
      refine sA (v := .slice A3 n3 c3) rfl (fun _ henv => rn_load1 henv ty__int rfl (hst.oat (k := 4) rfl) rfl) ?_
      refine sA (v := .int .i64 (n3 : Nat)) rfl (fun _ henv => rn_len henv Tryd.underlying23 rfl) ?_
      refine sA (v := .bool (decide (((q : Nat) : Int) < ((n3 : Nat) : Int)))) rfl (fun _ henv => rn_bin henv rfl rfl rfl) ?_
      intro a henv
      refine wpList_nil ?_
      refine th_n ?_
      refine if_split henv rfl (fun hc108 => ?_) (fun hc108 => ?_)
      · have hlt : q < n3 := by have := of_decide_eq_true hc108; omega
        obtain ⟨y, hec⟩ : ∃ e, es3[q]? = some e := ⟨_, List.getElem?_eq_getElem (by omega)⟩
        have hyb := hR1.2.1 y (List.mem_of_getElem? hec)
        refine wp_skip ?_
        refine th_n ?_
        refine wp_seq ?_
        refine wp_block ?_
        refine region_any (n := 14) (Sk [bk g55 #[.int .i64 0, .int .i64 0, .slice none 0 0, .slice none 0 0] 25, bk g53 #[.int .i64 (n1 : Nat), .int .i64 (g2 : Nat), .slice A2 n2 c2, .slice A3 n3 c3] 25, bk g51 #[.int .i64 i, .int .i64 (g : Nat), .slice A0 n0 c0, .slice A1 n1 c1] 25] [pfRow fI FI 1 A3 n3 c3 es3, pfRow fJ FJ 5 A2 n2 c2 es2, pfRow fI FI 1 A1 n1 c1 es1, pfRow fJ FJ 5 A0 n0 c0 es0] [13] [bk g57 #[.int .i64 i, .int .i64 (g + g2 : Nat), .slice Bb (((0 + n0) + n1) + n2) db, .slice Bc q dc] 25]) mixed rfl henv hst ?_
        clear henv hst; intro w109 henv hst
        refine tA (i := 0) [1, 11, 12, 13] (v := .pointer (some ⟨g57, 3, none⟩)) rfl (by kernel_rfl) (fun _ _ _ h => h) henv rfl (fun _ => rn_fieldAddr henv fd_anvil_api_Prog_3 (ty__int.size) (by decide) rfl) ?_
        clear henv a; intro a henv
        refine sAny_take (i := 1) [11, 12, 13] (fun w' => w'.heap[g57]? = some (.cells #[.int .i64 i, .int .i64 (g + g2 : Nat), .slice Bb (((0 + n0) + n1) + n2) db, .slice Bc q dc] 25 (0, 0))) (v := .slice Bc q dc) rfl (by kernel_rfl) (fun _ _ _ h => h) (fun _ _ hj hS => (hS.two rfl hj).oat (k := 0) rfl) henv rfl (hst.oat (k := 2) rfl) (fun w' hg => rn_load1 henv ty__int rfl hg rfl) ?_
        clear henv a; intro a henv
        refine tA (i := 2) [3, 5, 6, 9, 10, 11, 12, 13] (v := .pointer (some ⟨g53, 3, none⟩)) rfl (by kernel_rfl) (fun _ _ _ h => h) henv rfl (fun _ => rn_fieldAddr henv fd_anvil_api_Prog_3 (ty__int.size) (by decide) rfl) ?_
        clear henv a; intro a henv
        refine sAny_take (i := 3) [5, 6, 9, 10, 11, 12, 13] (fun w' => w'.heap[g53]? = some (.cells #[.int .i64 (n1 : Nat), .int .i64 (g2 : Nat), .slice A2 n2 c2, .slice A3 n3 c3] 25 (0, 0))) (v := .slice A3 n3 c3) rfl (by kernel_rfl) (fun _ _ _ h => h) (fun _ _ _ hS => hS.1.oat (k := 1) rfl) henv rfl (hst.oat (k := 4) rfl) (fun w' hg => rn_load1 henv ty__int rfl hg rfl) ?_
        clear henv a; intro a henv
        refine tM (i := 4) [5, 6, 9, 10, 11, 12, 13] rfl (by kernel_rfl) (fun _ _ _ h => h) henv rfl rfl ?_
        clear henv a; intro a henv
        refine sAny_take (i := 5) [6, 9, 10, 11, 12, 13] (fun w' => (pfRow fI FI 1 A3 n3 c3 es3).P w') (v := .pointer (some ⟨ab A3, ao A3 + q * 1, none⟩)) rfl (by kernel_rfl) (fun _ _ _ h => h) (fun _ _ _ hS => hS.1.pat (k := 0) rfl) henv rfl (hst.pat (k := 0) rfl) (fun w' hg => rn_idxR (i := q) henv Tryd.underlying23 (ty_int.size) rfl rfl (by omega) rfl (show (pfRow fI FI 1 A3 n3 c3 es3).P _ from hg).1) ?_
        clear henv a; intro a henv
        refine sAny_take (i := 6) [9, 10, 11, 12, 13] (fun w' => (pfRow fI FI 1 A3 n3 c3 es3).P w') (v := .int .i64 y) rfl (by kernel_rfl) (fun _ _ _ h => h) (fun _ _ _ hS => hS.1.pat (k := 0) rfl) henv rfl (hst.pat (k := 0) rfl) (fun w' hg => rn_loadE1 (i := q) (j := 0) (e := y) henv ty_int rfl rfl fI_len (by decide) (show (pfRow fI FI 1 A3 n3 c3 es3).P _ from hg).1 (by omega) hec rfl) ?_
        clear henv a; intro a henv
        refine tA (i := 7) (rg 8 6) (v := .pointer (some ⟨g51, 1, none⟩)) rfl (by kernel_rfl) (fun _ _ _ h => h) henv rfl (fun _ => rn_fieldAddr henv fd_anvil_api_Prog_1 (ty_int.size) (by decide) rfl) ?_
        clear henv a; intro a henv
        refine sAny_take (i := 8) [9, 10, 11, 12, 13] (fun w' => w'.heap[g51]? = some (.cells #[.int .i64 i, .int .i64 (g : Nat), .slice A0 n0 c0, .slice A1 n1 c1] 25 (0, 0))) (v := .int .i64 (g : Nat)) rfl (by kernel_rfl) (fun _ _ _ h => h) (fun _ _ _ hS => hS.1.oat (k := 2) rfl) henv rfl (hst.oat (k := 5) rfl) (fun w' hg => rn_load1 henv ty_int rfl hg rfl) ?_
        clear henv a; intro a henv
        refine tA (i := 9) (rg 10 4) (v := .int .i64 (y + ((g : Nat) : Int))) rfl (by kernel_rfl) (fun _ _ _ h => h) henv rfl (fun _ => rn_add henv rfl rfl (IntWalk.i64_in _ (by omega))) ?_
        clear henv a; intro a henv
        refine sAny_one (i := 10) (by kernel_rfl) rfl rfl (op_buildSlice (z := 1) (pv := #[(0, .int .i64 (y + ((g : Nat) : Int)))]) (c := #[.int .i64 (y + ((g : Nat) : Int))]) henv hst rfl Tryd.underlying23 (ty_int.size) zero_int (by decide) (by decide) rfl (by kernel_rfl) ?_)
        clear henv hst a; intro a w111 g110 henv hst
        refine ⟨.inr ⟨hst.kn.pick [4, 5, 6] (rg 0 4), .inr (hst.kn.pick [3] [])⟩, ?_⟩
        refine sAny_one (i := 11) (by kernel_rfl) rfl rfl (op_appendS (k := 1) (j := 0) henv hst rfl Tryd.underlying23 inf_int rfl rfl rfl rfl rfl rfl rfl rfl rfl rfl rfl (by unfold maxLen; omega) (by omega) ?_)
        clear henv hst a; intro a w114 g112 c113 henv hst
        rw [show fl fI oc ++ (#[.int .i64 (y + ((g : Nat) : Int))] : Array Value).toList = fl fI (oc ++ [(y + ((g : Nat) : Int))]) from fl_snoc (f := fI) oc (y + ((g : Nat) : Int))] at hst
        refine ⟨.inr ⟨hst.kn.pick [4, 5, 6] (rg 0 4), .inr (hst.kn.pick [3] [])⟩, ?_⟩
        refine tA (i := 12) [13] (v := .pointer (some ⟨g57, 3, none⟩)) rfl (by kernel_rfl) (fun _ _ _ h => h) henv rfl (fun _ => rn_fieldAddr henv fd_anvil_api_Prog_3 (ty__int.size) (by decide) rfl) ?_
        clear henv a; intro a henv
        refine sAny_one (i := 13) (by kernel_rfl) rfl rfl (op_store1 (k := 3) (c' := #[.int .i64 i, .int .i64 (g + g2 : Nat), .slice Bb (((0 + n0) + n1) + n2) db, .slice (some ⟨g112, 0, none⟩) (q + 1) c113]) henv hst (ty__int.size) rfl rfl rfl (by simp) rfl rfl ?_)
        clear henv hst a; intro a w115 henv hst
        refine ⟨.inr ⟨hst.kn.pick [4, 5, 6] (rg 0 4), .inl rfl⟩, ?_⟩
        refine sAny_done (by kernel_rfl) ?_ _
        refine bl_n (th_n ?_)
        refine region_seq ?_
        revert a
        refine mA rfl rfl ?_
        refine sA (v := .int .i64 (q + 1 : Nat)) rfl (fun _ henv => rn_add henv rfl rfl (by rw [IntWalk.i64_in _ (by omega)]; omega)) ?_
        refine aA rfl rfl ?_
        intro a henv
        refine wpList_nil ?_
        exact th_n ⟨_, (by omega), ⟨q + 1, (some ⟨g112, 0, none⟩), c113, (oc ++ [(y + ((g : Nat) : Int))]), rfl, henv.sub ⟨rfl, rfl, rfl, rfl, rfl, trivial⟩, hst.pick [1, 2, 3, 4, 5, 6] [0, 1, 2, 3] (by decide), (by omega), (jn_step3 hoc hec)⟩⟩
      · obtain rfl : n3 = q := by have := of_decide_eq_false hc108; omega
        rw [List.take_of_length_le (by omega)] at hoc
        refine wp_exit ?_
        refine th_x (th_x (bl_x (th_n ?_)))
        refine wp_seq ?_
        refine region_seq ?_
        refine sv (v := .agg #[.int .i64 i, .int .i64 (g + g2 : Nat), .slice Bb (((0 + n0) + n1) + n2) db, .slice Bc n3 dc]) henv rfl (rn_load0 henv ty_anvil_api_Prog rfl (hst.oat (k := 2) rfl) rfl) ?_
        clear henv a; intro a henv
        refine seq_step rfl (op_store (k := 3) (c' := #[.int .i64 i, .int .i64 (g + g2 : Nat), .slice Bb (((0 + n0) + n1) + n2) db, .slice Bc n3 dc]) henv hst (ty_anvil_api_Prog.size) rfl rfl rfl rfl (by simp) rfl rfl ?_)
        clear henv hst a; intro a w116 henv hst
        refine sv (v := .int .i64 0) henv rfl (rn_assign henv rfl) ?_
        clear henv a; intro a henv
        refine wpList_nil ?_
        refine th_n ?_
        refine wp_ret ?_
        refine leave henv (res2 Tryd.results24 (RV.cell henv ty_anvil_api_Prog rfl (hst.oat (k := 3) rfl) rfl) (RV.tmp henv rfl)) ?_
        obtain rfl : ob = jnC (g : Int) es0 es1 es2 := hob
        obtain rfl : oc = jnO (g : Int) es3 := hoc
        exact ⟨_, _, _, _, by rw [Nat.zero_add n0], ⟨newrow_of (hst.owns (k := 1) rfl) (fun b hb => hst.new _ (List.mem_of_getElem? (i := 1) rfl) b hb) (congrArg (fun k => k + n1 + n2) (Nat.zero_add n0)), newrow_of (hst.owns (k := 0) rfl) (fun b hb => hst.new _ (List.mem_of_getElem? (i := 0) rfl) b hb) rfl, fun a b ha hb hab => hst.one (k := 1) (j := 0) rfl rfl (by decide) a.block (by cases ha <;> rfl) (by cases hb <;> exact congrArg some hab.symm)⟩, hst.below⟩
theorem r_join_ok {i : Int} {g g2 : Nat} {A0 A1 A2 A3 : Option Addr} {n0 c0 n1 c1 n2 c2 n3 c3 : Nat} {es0 : List IE} {es1 : List Int} {es2 : List IE} {es3 : List Int} {w0 : World} (h0 : (pfRow fJ FJ 5 A0 n0 c0 es0).P w0) (h1 : (pfRow fI FI 1 A1 n1 c1 es1).P w0) (h2 : (pfRow fJ FJ 5 A2 n2 c2 es2).P w0) (h3 : (pfRow fI FI 1 A3 n3 c3 es3).P w0) (hR0 : Right i g n0 n1 es0 es1) (hR1 : Right (n1 : Nat) g2 n2 n3 es2 es3) (hv : g + g2 ≤ 128) (hw : n0 + n1 + n2 ≤ 16384) :
    Calls Tryd.prog 24 #[.agg #[.int .i64 i, .int .i64 (g : Nat), .slice A0 n0 c0, .slice A1 n1 c1], .agg #[.int .i64 (n1 : Nat), .int .i64 (g2 : Nat), .slice A2 n2 c2, .slice A3 n3 c3]] w0 fun e w' => ∃ A c B d, e = .returned (.tuple #[.agg #[.int .i64 i, .int .i64 ((g + g2 : Nat) : Int), .slice A (n0 + n1 + n2) c, .slice B n3 d], .int .i64 0]) ∧ TwoR w0.heap.size w' A (n0 + n1 + n2) c (jnC (g : Int) es0 es1 es2) B n3 d (jnO (g : Int) es3) ∧ Below w0.heap.size w0 w' := by
  rcases Nat.eq_zero_or_pos n0 with a | a
  · subst a
    exact r_join_okz h0 h1 h2 h3 hR0 hR1 hv hw
  · exact r_join_okp h0 h1 h2 h3 hR0 hR1 hv hw a
set_option maxRecDepth 100000 in
set_option maxHeartbeats 4000000 in
theorem gjoins_w0 {i i2 g g2 : Int} {A0 A1 A2 A3 : Option Addr} {n0 c0 n1 c1 n2 c2 n3 c3 : Nat} {es0 : List IE} {es1 : List Int} {es2 : List IE} {es3 : List Int} {w0 : World} (h0 : (pfRow fJ FJ 5 A0 n0 c0 es0).P w0) (h1 : (pfRow fI FI 1 A1 n1 c1 es1).P w0) (h2 : (pfRow fJ FJ 5 A2 n2 c2 es2).P w0) (h3 : (pfRow fI FI 1 A3 n3 c3 es3).P w0) (hw4 : 400 < n0 ∨ 400 < n1) :
    Calls Tryd.prog 6 #[.agg #[.int .i64 i, .int .i64 g, .slice A0 n0 c0, .slice A1 n1 c1], .agg #[.int .i64 i2, .int .i64 g2, .slice A2 n2 c2, .slice A3 n3 c3]] w0 fun e w' => e = .returned (.bool true) ∧ Below w0.heap.size w0 w' := by
  refine enter Tryd.func6 rfl Tryd.ntmps6 rfl ?_
  intro a henv hst
  have hlen0 := h0.2.1
  have hbig0 := Nat.le_trans h0.1.cap h0.1.big
  unfold maxLen at hbig0
  have hlen1 := h1.2.1
  have hbig1 := Nat.le_trans h1.1.cap h1.1.big
  unfold maxLen at hbig1
  have hlen2 := h2.2.1
  have hbig2 := Nat.le_trans h2.1.cap h2.1.big
  unfold maxLen at hbig2
  have hlen3 := h3.2.1
  have hbig3 := Nat.le_trans h3.1.cap h3.1.big
  unfold maxLen at hbig3
  replace hst := hst.argRow h0
  replace hst := hst.argRow h1
  replace hst := hst.argRow h2
  replace hst := hst.argRow h3
  clear h0 h1 h2 h3
  refine wp_seq ?_
  refine region_seq ?_
  refine seq_step rfl (op_box (c := #[.int .i64 i, .int .i64 g, .slice A0 n0 c0, .slice A1 n1 c1]) henv hst rfl rfl rfl ?_)
  clear henv hst a; intro a w52 g51 henv hst
  refine seq_step rfl (op_box (c := #[.int .i64 i2, .int .i64 g2, .slice A2 n2 c2, .slice A3 n3 c3]) henv hst rfl rfl rfl ?_)
  clear henv hst a; intro a w54 g53 henv hst
  refine sv (v := .bool false) henv rfl (rn_assign henv rfl) ?_
  clear henv a; intro a henv
  refine wpList_nil ?_
  refine th_n ?_
  refine wp_seq ?_
  refine wp_seq ?_
  refine region_seq ?_
  refine seq_step rfl (op_call henv rfl Tryd.call10 rfl g_live ?_)
  rintro e w55 ⟨rfl, hb⟩
  refine ⟨_, rfl, ?_⟩
  clear henv a; intro a henv
  replace hst := hst.call hb
  clear hb
  refine sv (v := .bool false) henv rfl (rn_un henv rfl rfl) ?_
  clear henv a; intro a henv
  refine wpList_nil ?_
  refine th_n ?_
  refine if_f henv rfl (rfl) ?_
  refine wp_skip ?_
  refine th_n ?_
  refine wp_seq ?_
  refine wp_seq ?_
  refine region_seq ?_
  refine sv (v := .agg #[.int .i64 i, .int .i64 g, .slice A0 n0 c0, .slice A1 n1 c1]) henv rfl (rn_load0 henv ty_anvil_api_Prog rfl (hst.oat (k := 1) rfl) rfl) ?_
  clear henv a; intro a henv
  refine seq_step rfl (op_call henv rfl Tryd.call13 rfl (g_long (i := i) (g := g) (A0 := A0) (n0 := n0) (c0 := c0) (A1 := A1) (n1 := n1) (c1 := c1)) ?_)
  rintro e w56 ⟨rfl, hb⟩
  refine ⟨_, rfl, ?_⟩
  clear henv a; intro a henv
  replace hst := hst.call hb
  clear hb
  rw [show (decide (400 < n0 ∨ 400 < n1)) = true from (decide_eq_true hw4)] at henv
  revert a
  refine mA rfl rfl ?_
  refine kA rfl rfl rfl rfl rfl ?_
  refine kA rfl rfl rfl rfl rfl ?_
  refine sA (v := .bool true) rfl (fun _ henv => rn_pick henv rfl rfl) ?_
  intro a henv
  refine wpList_nil ?_
  refine th_n ?_
  refine if_t henv rfl (rfl) ?_
  refine wp_seq ?_
  refine region_seq ?_
  refine sv (v := .bool true) henv rfl (rn_assign henv rfl) ?_
  clear henv a; intro a henv
  refine wpList_nil ?_
  refine th_n ?_
  refine wp_ret ?_
  refine th_r ?_
  refine leave henv (res1 Tryd.results6 (RV.tmp henv rfl)) ?_
  exact ⟨rfl, hst.below⟩
set_option maxRecDepth 100000 in
set_option maxHeartbeats 4000000 in
theorem gjoins_w1 {i i2 g g2 : Int} {A0 A1 A2 A3 : Option Addr} {n0 c0 n1 c1 n2 c2 n3 c3 : Nat} {es0 : List IE} {es1 : List Int} {es2 : List IE} {es3 : List Int} {w0 : World} (h0 : (pfRow fJ FJ 5 A0 n0 c0 es0).P w0) (h1 : (pfRow fI FI 1 A1 n1 c1 es1).P w0) (h2 : (pfRow fJ FJ 5 A2 n2 c2 es2).P w0) (h3 : (pfRow fI FI 1 A3 n3 c3 es3).P w0) (hv0 : ¬ (400 < n0 ∨ 400 < n1)) (hw4 : 400 < n2 ∨ 400 < n3) :
    Calls Tryd.prog 6 #[.agg #[.int .i64 i, .int .i64 g, .slice A0 n0 c0, .slice A1 n1 c1], .agg #[.int .i64 i2, .int .i64 g2, .slice A2 n2 c2, .slice A3 n3 c3]] w0 fun e w' => e = .returned (.bool true) ∧ Below w0.heap.size w0 w' := by
  refine enter Tryd.func6 rfl Tryd.ntmps6 rfl ?_
  intro a henv hst
  have hlen0 := h0.2.1
  have hbig0 := Nat.le_trans h0.1.cap h0.1.big
  unfold maxLen at hbig0
  have hlen1 := h1.2.1
  have hbig1 := Nat.le_trans h1.1.cap h1.1.big
  unfold maxLen at hbig1
  have hlen2 := h2.2.1
  have hbig2 := Nat.le_trans h2.1.cap h2.1.big
  unfold maxLen at hbig2
  have hlen3 := h3.2.1
  have hbig3 := Nat.le_trans h3.1.cap h3.1.big
  unfold maxLen at hbig3
  replace hst := hst.argRow h0
  replace hst := hst.argRow h1
  replace hst := hst.argRow h2
  replace hst := hst.argRow h3
  clear h0 h1 h2 h3
  refine wp_seq ?_
  refine region_seq ?_
  refine seq_step rfl (op_box (c := #[.int .i64 i, .int .i64 g, .slice A0 n0 c0, .slice A1 n1 c1]) henv hst rfl rfl rfl ?_)
  clear henv hst a; intro a w52 g51 henv hst
  refine seq_step rfl (op_box (c := #[.int .i64 i2, .int .i64 g2, .slice A2 n2 c2, .slice A3 n3 c3]) henv hst rfl rfl rfl ?_)
  clear henv hst a; intro a w54 g53 henv hst
  refine sv (v := .bool false) henv rfl (rn_assign henv rfl) ?_
  clear henv a; intro a henv
  refine wpList_nil ?_
  refine th_n ?_
  refine wp_seq ?_
  refine wp_seq ?_
  refine region_seq ?_
  refine seq_step rfl (op_call henv rfl Tryd.call10 rfl g_live ?_)
  rintro e w55 ⟨rfl, hb⟩
  refine ⟨_, rfl, ?_⟩
  clear henv a; intro a henv
  replace hst := hst.call hb
  clear hb
  refine sv (v := .bool false) henv rfl (rn_un henv rfl rfl) ?_
  clear henv a; intro a henv
  refine wpList_nil ?_
  refine th_n ?_
  refine if_f henv rfl (rfl) ?_
  refine wp_skip ?_
  refine th_n ?_
  refine wp_seq ?_
  refine wp_seq ?_
  refine region_seq ?_
  refine sv (v := .agg #[.int .i64 i, .int .i64 g, .slice A0 n0 c0, .slice A1 n1 c1]) henv rfl (rn_load0 henv ty_anvil_api_Prog rfl (hst.oat (k := 1) rfl) rfl) ?_
  clear henv a; intro a henv
  refine seq_step rfl (op_call henv rfl Tryd.call13 rfl (g_long (i := i) (g := g) (A0 := A0) (n0 := n0) (c0 := c0) (A1 := A1) (n1 := n1) (c1 := c1)) ?_)
  rintro e w56 ⟨rfl, hb⟩
  refine ⟨_, rfl, ?_⟩
  clear henv a; intro a henv
  replace hst := hst.call hb
  clear hb
  rw [show (decide (400 < n0 ∨ 400 < n1)) = false from (decide_eq_false hv0)] at henv
  revert a
  refine mA rfl rfl ?_
  refine gA (v := .agg #[.int .i64 i2, .int .i64 g2, .slice A2 n2 c2, .slice A3 n3 c3]) rfl rfl rfl rfl (fun _ henv => rn_load0 henv ty_anvil_api_Prog rfl (hst.oat (k := 0) rfl) rfl) ?_
  intro a henv
  refine seq_g rfl henv rfl rfl (op_call henv rfl Tryd.call13 rfl (g_long (i := i2) (g := g2) (A0 := A2) (n0 := n2) (c0 := c2) (A1 := A3) (n1 := n3) (c1 := c3)) ?_)
  rintro e w57 ⟨rfl, hb⟩
  refine ⟨_, rfl, ?_⟩
  clear henv a; intro a henv
  replace hst := hst.call hb
  clear hb
  rw [show (decide (400 < n2 ∨ 400 < n3)) = true from (decide_eq_true hw4)] at henv
  refine sv (v := .bool true) henv rfl (rn_pick henv rfl rfl) ?_
  clear henv a; intro a henv
  refine wpList_nil ?_
  refine th_n ?_
  refine if_t henv rfl (rfl) ?_
  refine wp_seq ?_
  refine region_seq ?_
  refine sv (v := .bool true) henv rfl (rn_assign henv rfl) ?_
  clear henv a; intro a henv
  refine wpList_nil ?_
  refine th_n ?_
  refine wp_ret ?_
  refine th_r ?_
  refine leave henv (res1 Tryd.results6 (RV.tmp henv rfl)) ?_
  exact ⟨rfl, hst.below⟩
set_option maxRecDepth 100000 in
set_option maxHeartbeats 4000000 in
theorem gjoins_bad00 {i i2 g g2 : Int} {A0 A1 A2 A3 : Option Addr} {n0 c0 n1 c1 n2 c2 n3 c3 : Nat} {es0 : List IE} {es1 : List Int} {es2 : List IE} {es3 : List Int} {w0 : World} (h0 : (pfRow fJ FJ 5 A0 n0 c0 es0).P w0) (h1 : (pfRow fI FI 1 A1 n1 c1 es1).P w0) (h2 : (pfRow fJ FJ 5 A2 n2 c2 es2).P w0) (h3 : (pfRow fI FI 1 A3 n3 c3 es3).P w0) {k k2 : Int} (hv0 : ¬ (400 < n0 ∨ 400 < n1)) (hv2 : ¬ (400 < n2 ∨ 400 < n3)) (hW0 : Wrong i g n0 n1 es0 es1 k) (hW1 : Wrong i2 g2 n2 n3 es2 es3 k2) :
    Calls Tryd.prog 6 #[.agg #[.int .i64 i, .int .i64 g, .slice A0 n0 c0, .slice A1 n1 c1], .agg #[.int .i64 i2, .int .i64 g2, .slice A2 n2 c2, .slice A3 n3 c3]] w0 fun e w' => e = .returned (.bool true) ∧ Below w0.heap.size w0 w' := by
  refine enter Tryd.func6 rfl Tryd.ntmps6 rfl ?_
  intro a henv hst
  have hlen0 := h0.2.1
  have hbig0 := Nat.le_trans h0.1.cap h0.1.big
  unfold maxLen at hbig0
  have hlen1 := h1.2.1
  have hbig1 := Nat.le_trans h1.1.cap h1.1.big
  unfold maxLen at hbig1
  have hlen2 := h2.2.1
  have hbig2 := Nat.le_trans h2.1.cap h2.1.big
  unfold maxLen at hbig2
  have hlen3 := h3.2.1
  have hbig3 := Nat.le_trans h3.1.cap h3.1.big
  unfold maxLen at hbig3
  replace hst := hst.argRow h0
  replace hst := hst.argRow h1
  replace hst := hst.argRow h2
  replace hst := hst.argRow h3
  clear h0 h1 h2 h3
  refine wp_seq ?_
  refine region_seq ?_
  refine seq_step rfl (op_box (c := #[.int .i64 i, .int .i64 g, .slice A0 n0 c0, .slice A1 n1 c1]) henv hst rfl rfl rfl ?_)
  clear henv hst a; intro a w52 g51 henv hst
  refine seq_step rfl (op_box (c := #[.int .i64 i2, .int .i64 g2, .slice A2 n2 c2, .slice A3 n3 c3]) henv hst rfl rfl rfl ?_)
  clear henv hst a; intro a w54 g53 henv hst
  refine sv (v := .bool false) henv rfl (rn_assign henv rfl) ?_
  clear henv a; intro a henv
  refine wpList_nil ?_
  refine th_n ?_
  refine wp_seq ?_
  refine wp_seq ?_
  refine region_seq ?_
  refine seq_step rfl (op_call henv rfl Tryd.call10 rfl g_live ?_)
  rintro e w55 ⟨rfl, hb⟩
  refine ⟨_, rfl, ?_⟩
  clear henv a; intro a henv
  replace hst := hst.call hb
  clear hb
  refine sv (v := .bool false) henv rfl (rn_un henv rfl rfl) ?_
  clear henv a; intro a henv
  refine wpList_nil ?_
  refine th_n ?_
  refine if_f henv rfl (rfl) ?_
  refine wp_skip ?_
  refine th_n ?_
  refine wp_seq ?_
  refine wp_seq ?_
  refine region_seq ?_
  refine sv (v := .agg #[.int .i64 i, .int .i64 g, .slice A0 n0 c0, .slice A1 n1 c1]) henv rfl (rn_load0 henv ty_anvil_api_Prog rfl (hst.oat (k := 1) rfl) rfl) ?_
  clear henv a; intro a henv
  refine seq_step rfl (op_call henv rfl Tryd.call13 rfl (g_long (i := i) (g := g) (A0 := A0) (n0 := n0) (c0 := c0) (A1 := A1) (n1 := n1) (c1 := c1)) ?_)
  rintro e w56 ⟨rfl, hb⟩
  refine ⟨_, rfl, ?_⟩
  clear henv a; intro a henv
  replace hst := hst.call hb
  clear hb
  rw [show (decide (400 < n0 ∨ 400 < n1)) = false from (decide_eq_false hv0)] at henv
  revert a
  refine mA rfl rfl ?_
  refine gA (v := .agg #[.int .i64 i2, .int .i64 g2, .slice A2 n2 c2, .slice A3 n3 c3]) rfl rfl rfl rfl (fun _ henv => rn_load0 henv ty_anvil_api_Prog rfl (hst.oat (k := 0) rfl) rfl) ?_
  intro a henv
  refine seq_g rfl henv rfl rfl (op_call henv rfl Tryd.call13 rfl (g_long (i := i2) (g := g2) (A0 := A2) (n0 := n2) (c0 := c2) (A1 := A3) (n1 := n3) (c1 := c3)) ?_)
  rintro e w57 ⟨rfl, hb⟩
  refine ⟨_, rfl, ?_⟩
  clear henv a; intro a henv
  replace hst := hst.call hb
  clear hb
  rw [show (decide (400 < n2 ∨ 400 < n3)) = false from (decide_eq_false hv2)] at henv
  refine sv (v := .bool false) henv rfl (rn_pick henv rfl rfl) ?_
  clear henv a; intro a henv
  refine wpList_nil ?_
  refine th_n ?_
  refine if_f henv rfl (rfl) ?_
  refine wp_skip ?_
  refine th_n ?_
  refine wp_seq ?_
  refine region_seq ?_
  revert a
  refine sA (v := .agg #[.int .i64 i, .int .i64 g, .slice A0 n0 c0, .slice A1 n1 c1]) rfl (fun _ henv => rn_load0 henv ty_anvil_api_Prog rfl (hst.oat (k := 1) rfl) rfl) ?_
  refine sA (v := .agg #[.int .i64 i2, .int .i64 g2, .slice A2 n2 c2, .slice A3 n3 c3]) rfl (fun _ henv => rn_load0 henv ty_anvil_api_Prog rfl (hst.oat (k := 0) rfl) rfl) ?_
  intro a henv
  refine seq_step rfl (op_call henv rfl Tryd.call22 rfl (g_join_bad0 (hst.pat (k := 3) rfl) (hst.pat (k := 2) rfl) (hst.pat (k := 1) rfl) (hst.pat (k := 0) rfl) hW0) ?_)
  rintro e w58 ⟨rfl, hb⟩
  refine ⟨_, rfl, ?_⟩
  clear henv a; intro a henv
  replace hst := hst.call hb
  clear hb
  revert a
  refine mA rfl rfl ?_
  refine sA (v := .agg #[.int .i64 0, .int .i64 0, .slice none 0 0, .slice none 0 0]) rfl (fun _ henv => rn_extract henv rfl rfl) ?_
  refine sA (v := .int .i64 80) rfl (fun _ henv => rn_extract henv rfl rfl) ?_
  intro a henv
  refine seq_step rfl (op_alloc (c := #[.int .i64 0, .int .i64 0, .slice none 0 0, .slice none 0 0]) henv hst rfl zero_anvil_api_Prog rfl ?_)
  clear henv hst a; intro a w60 g59 henv hst
  refine seq_step rfl (op_store (k := 0) (c' := #[.int .i64 0, .int .i64 0, .slice none 0 0, .slice none 0 0]) henv hst (ty_anvil_api_Prog.size) rfl rfl rfl rfl (by simp) rfl rfl ?_)
  clear henv hst a; intro a w61 henv hst
  refine sv (v := .int .i64 80) henv rfl (rn_assign henv rfl) ?_
  clear henv a; intro a henv
  refine wpList_nil ?_
  refine th_n ?_
  refine wp_seq ?_
  refine region_any (n := 6) (Sk [bk g59 #[.int .i64 0, .int .i64 0, .slice none 0 0, .slice none 0 0] 25, bk g53 #[.int .i64 i2, .int .i64 g2, .slice A2 n2 c2, .slice A3 n3 c3] 25, bk g51 #[.int .i64 i, .int .i64 g, .slice A0 n0 c0, .slice A1 n1 c1] 25] [pfRow fI FI 1 A3 n3 c3 es3, pfRow fJ FJ 5 A2 n2 c2 es2, pfRow fI FI 1 A1 n1 c1 es1, pfRow fJ FJ 5 A0 n0 c0 es0] [] []) mixed rfl henv hst ?_
  clear henv hst; intro w62 henv hst
  refine tL (i := 0) 2 2 [1, 3, 4, 5] rfl (by kernel_rfl) (fun _ _ _ h => h) henv rfl ty_anvil_api_Prog rfl hst rfl rfl rfl ?_
  clear henv a; intro a henv
  refine tL (i := 2) 1 1 [3, 4, 5] rfl (by kernel_rfl) (fun _ _ _ h => h) henv rfl ty_anvil_api_Prog rfl hst rfl rfl rfl ?_
  clear henv a; intro a henv
  refine sAny_one (i := 1) (by kernel_rfl) rfl rfl (op_call henv rfl Tryd.call15 rfl (r_right_bad (hst.pat (k := 3) rfl) (hst.pat (k := 2) rfl) hW0) ?_)
  rintro e w63 ⟨rfl, hb⟩
  refine ⟨_, rfl, ?_⟩
  clear henv a; intro a henv
  replace hst := hst.call hb
  clear hb
  refine ⟨.inr ⟨hst.kn.pick [0, 1, 2] (rg 0 4), .inr (hst.kn.pick [] [])⟩, ?_⟩
  refine sAny_one (i := 3) (by kernel_rfl) rfl rfl (op_call henv rfl Tryd.call15 rfl (r_right_bad (hst.pat (k := 1) rfl) (hst.pat (k := 0) rfl) hW1) ?_)
  rintro e w64 ⟨rfl, hb⟩
  refine ⟨_, rfl, ?_⟩
  clear henv a; intro a henv
  replace hst := hst.call hb
  clear hb
  refine ⟨.inr ⟨hst.kn.pick [0, 1, 2] (rg 0 4), .inr (hst.kn.pick [] [])⟩, ?_⟩
  refine tA (i := 4) [5] (v := .bool false) rfl (by kernel_rfl) (fun _ _ _ h => h) henv rfl (fun _ => rn_assign henv rfl) ?_
  clear henv a; intro a henv
  refine tA (i := 5) [] (v := .bool false) rfl (by kernel_rfl) (fun _ _ _ h => h) henv rfl (fun _ => rn_assign henv rfl) ?_
  clear henv a; intro a henv
  refine sAny_done (by kernel_rfl) ?_ _
  refine th_n ?_
  refine wp_seq ?_
  refine wp_seq ?_
  refine region_seq ?_
  revert a
  refine mA rfl rfl ?_
  refine sA (v := .bool true) rfl (fun _ henv => rn_un henv rfl rfl) ?_
  refine mA rfl rfl ?_
  refine kA rfl rfl rfl rfl rfl ?_
  refine kA rfl rfl rfl rfl rfl ?_
  refine sA (v := .bool true) rfl (fun _ henv => rn_pick henv rfl rfl) ?_
  intro a henv
  refine wpList_nil ?_
  refine th_n ?_
  refine if_t henv rfl (rfl) ?_
  refine wp_seq ?_
  refine region_seq ?_
  refine sv (v := .agg #[.int .i64 0, .int .i64 0, .slice none 0 0, .slice none 0 0]) henv rfl (rn_load0 henv ty_anvil_api_Prog rfl (hst.oat (k := 0) rfl) rfl) ?_
  clear henv a; intro a henv
  refine seq_step rfl (op_call henv rfl Tryd.call23 rfl g_empty ?_)
  rintro e w65 ⟨rfl, hb⟩
  refine ⟨_, rfl, ?_⟩
  clear henv a; intro a henv
  replace hst := hst.call hb
  clear hb
  revert a
  refine mA rfl rfl ?_
  refine gA (v := .int .i64 80) rfl rfl rfl rfl (fun _ henv => rn_move henv rfl) ?_
  refine gA (v := .bool true) rfl rfl rfl rfl (fun _ henv => rn_bin henv rfl rfl rfl) ?_
  refine sA (v := .bool true) rfl (fun _ henv => rn_pick henv rfl rfl) ?_
  refine mA rfl rfl ?_
  intro a henv
  refine seq_g rfl henv rfl rfl (op_call henv rfl Tryd.call10 rfl g_live ?_)
  rintro e w66 ⟨rfl, hb⟩
  refine ⟨_, rfl, ?_⟩
  clear henv a; intro a henv
  replace hst := hst.call hb
  clear hb
  revert a
  refine sA (v := .bool true) rfl (fun _ henv => rn_pick henv rfl rfl) ?_
  refine aA rfl rfl ?_
  intro a henv
  refine wpList_nil ?_
  refine th_n ?_
  refine wp_ret ?_
  refine th_r ?_
  refine leave henv (res1 Tryd.results6 (RV.tmp henv rfl)) ?_
  exact ⟨rfl, hst.below⟩
set_option maxRecDepth 100000 in
set_option maxHeartbeats 4000000 in
theorem gjoins_bad01 {i i2 g g2 : Int} {A0 A1 A2 A3 : Option Addr} {n0 c0 n1 c1 n2 c2 n3 c3 : Nat} {es0 : List IE} {es1 : List Int} {es2 : List IE} {es3 : List Int} {w0 : World} (h0 : (pfRow fJ FJ 5 A0 n0 c0 es0).P w0) (h1 : (pfRow fI FI 1 A1 n1 c1 es1).P w0) (h2 : (pfRow fJ FJ 5 A2 n2 c2 es2).P w0) (h3 : (pfRow fI FI 1 A3 n3 c3 es3).P w0) {k : Int} (hv0 : ¬ (400 < n0 ∨ 400 < n1)) (hv2 : ¬ (400 < n2 ∨ 400 < n3)) (hW0 : Wrong i g n0 n1 es0 es1 k) (hR1 : Right i2 g2 n2 n3 es2 es3) :
    Calls Tryd.prog 6 #[.agg #[.int .i64 i, .int .i64 g, .slice A0 n0 c0, .slice A1 n1 c1], .agg #[.int .i64 i2, .int .i64 g2, .slice A2 n2 c2, .slice A3 n3 c3]] w0 fun e w' => e = .returned (.bool true) ∧ Below w0.heap.size w0 w' := by
  refine enter Tryd.func6 rfl Tryd.ntmps6 rfl ?_
  intro a henv hst
  have hlen0 := h0.2.1
  have hbig0 := Nat.le_trans h0.1.cap h0.1.big
  unfold maxLen at hbig0
  have hlen1 := h1.2.1
  have hbig1 := Nat.le_trans h1.1.cap h1.1.big
  unfold maxLen at hbig1
  have hlen2 := h2.2.1
  have hbig2 := Nat.le_trans h2.1.cap h2.1.big
  unfold maxLen at hbig2
  have hlen3 := h3.2.1
  have hbig3 := Nat.le_trans h3.1.cap h3.1.big
  unfold maxLen at hbig3
  replace hst := hst.argRow h0
  replace hst := hst.argRow h1
  replace hst := hst.argRow h2
  replace hst := hst.argRow h3
  clear h0 h1 h2 h3
  refine wp_seq ?_
  refine region_seq ?_
  refine seq_step rfl (op_box (c := #[.int .i64 i, .int .i64 g, .slice A0 n0 c0, .slice A1 n1 c1]) henv hst rfl rfl rfl ?_)
  clear henv hst a; intro a w52 g51 henv hst
  refine seq_step rfl (op_box (c := #[.int .i64 i2, .int .i64 g2, .slice A2 n2 c2, .slice A3 n3 c3]) henv hst rfl rfl rfl ?_)
  clear henv hst a; intro a w54 g53 henv hst
  refine sv (v := .bool false) henv rfl (rn_assign henv rfl) ?_
  clear henv a; intro a henv
  refine wpList_nil ?_
  refine th_n ?_
  refine wp_seq ?_
  refine wp_seq ?_
  refine region_seq ?_
  refine seq_step rfl (op_call henv rfl Tryd.call10 rfl g_live ?_)
  rintro e w55 ⟨rfl, hb⟩
  refine ⟨_, rfl, ?_⟩
  clear henv a; intro a henv
  replace hst := hst.call hb
  clear hb
  refine sv (v := .bool false) henv rfl (rn_un henv rfl rfl) ?_
  clear henv a; intro a henv
  refine wpList_nil ?_
  refine th_n ?_
  refine if_f henv rfl (rfl) ?_
  refine wp_skip ?_
  refine th_n ?_
  refine wp_seq ?_
  refine wp_seq ?_
  refine region_seq ?_
  refine sv (v := .agg #[.int .i64 i, .int .i64 g, .slice A0 n0 c0, .slice A1 n1 c1]) henv rfl (rn_load0 henv ty_anvil_api_Prog rfl (hst.oat (k := 1) rfl) rfl) ?_
  clear henv a; intro a henv
  refine seq_step rfl (op_call henv rfl Tryd.call13 rfl (g_long (i := i) (g := g) (A0 := A0) (n0 := n0) (c0 := c0) (A1 := A1) (n1 := n1) (c1 := c1)) ?_)
  rintro e w56 ⟨rfl, hb⟩
  refine ⟨_, rfl, ?_⟩
  clear henv a; intro a henv
  replace hst := hst.call hb
  clear hb
  rw [show (decide (400 < n0 ∨ 400 < n1)) = false from (decide_eq_false hv0)] at henv
  revert a
  refine mA rfl rfl ?_
  refine gA (v := .agg #[.int .i64 i2, .int .i64 g2, .slice A2 n2 c2, .slice A3 n3 c3]) rfl rfl rfl rfl (fun _ henv => rn_load0 henv ty_anvil_api_Prog rfl (hst.oat (k := 0) rfl) rfl) ?_
  intro a henv
  refine seq_g rfl henv rfl rfl (op_call henv rfl Tryd.call13 rfl (g_long (i := i2) (g := g2) (A0 := A2) (n0 := n2) (c0 := c2) (A1 := A3) (n1 := n3) (c1 := c3)) ?_)
  rintro e w57 ⟨rfl, hb⟩
  refine ⟨_, rfl, ?_⟩
  clear henv a; intro a henv
  replace hst := hst.call hb
  clear hb
  rw [show (decide (400 < n2 ∨ 400 < n3)) = false from (decide_eq_false hv2)] at henv
  refine sv (v := .bool false) henv rfl (rn_pick henv rfl rfl) ?_
  clear henv a; intro a henv
  refine wpList_nil ?_
  refine th_n ?_
  refine if_f henv rfl (rfl) ?_
  refine wp_skip ?_
  refine th_n ?_
  refine wp_seq ?_
  refine region_seq ?_
  revert a
  refine sA (v := .agg #[.int .i64 i, .int .i64 g, .slice A0 n0 c0, .slice A1 n1 c1]) rfl (fun _ henv => rn_load0 henv ty_anvil_api_Prog rfl (hst.oat (k := 1) rfl) rfl) ?_
  refine sA (v := .agg #[.int .i64 i2, .int .i64 g2, .slice A2 n2 c2, .slice A3 n3 c3]) rfl (fun _ henv => rn_load0 henv ty_anvil_api_Prog rfl (hst.oat (k := 0) rfl) rfl) ?_
  intro a henv
  refine seq_step rfl (op_call henv rfl Tryd.call22 rfl (g_join_bad0 (hst.pat (k := 3) rfl) (hst.pat (k := 2) rfl) (hst.pat (k := 1) rfl) (hst.pat (k := 0) rfl) hW0) ?_)
  rintro e w58 ⟨rfl, hb⟩
  refine ⟨_, rfl, ?_⟩
  clear henv a; intro a henv
  replace hst := hst.call hb
  clear hb
  revert a
  refine mA rfl rfl ?_
  refine sA (v := .agg #[.int .i64 0, .int .i64 0, .slice none 0 0, .slice none 0 0]) rfl (fun _ henv => rn_extract henv rfl rfl) ?_
  refine sA (v := .int .i64 80) rfl (fun _ henv => rn_extract henv rfl rfl) ?_
  intro a henv
  refine seq_step rfl (op_alloc (c := #[.int .i64 0, .int .i64 0, .slice none 0 0, .slice none 0 0]) henv hst rfl zero_anvil_api_Prog rfl ?_)
  clear henv hst a; intro a w60 g59 henv hst
  refine seq_step rfl (op_store (k := 0) (c' := #[.int .i64 0, .int .i64 0, .slice none 0 0, .slice none 0 0]) henv hst (ty_anvil_api_Prog.size) rfl rfl rfl rfl (by simp) rfl rfl ?_)
  clear henv hst a; intro a w61 henv hst
  refine sv (v := .int .i64 80) henv rfl (rn_assign henv rfl) ?_
  clear henv a; intro a henv
  refine wpList_nil ?_
  refine th_n ?_
  refine wp_seq ?_
  refine region_any (n := 6) (Sk [bk g59 #[.int .i64 0, .int .i64 0, .slice none 0 0, .slice none 0 0] 25, bk g53 #[.int .i64 i2, .int .i64 g2, .slice A2 n2 c2, .slice A3 n3 c3] 25, bk g51 #[.int .i64 i, .int .i64 g, .slice A0 n0 c0, .slice A1 n1 c1] 25] [pfRow fI FI 1 A3 n3 c3 es3, pfRow fJ FJ 5 A2 n2 c2 es2, pfRow fI FI 1 A1 n1 c1 es1, pfRow fJ FJ 5 A0 n0 c0 es0] [] []) mixed rfl henv hst ?_
  clear henv hst; intro w62 henv hst
  refine tL (i := 0) 2 2 [1, 3, 4, 5] rfl (by kernel_rfl) (fun _ _ _ h => h) henv rfl ty_anvil_api_Prog rfl hst rfl rfl rfl ?_
  clear henv a; intro a henv
  refine tL (i := 2) 1 1 [3, 4, 5] rfl (by kernel_rfl) (fun _ _ _ h => h) henv rfl ty_anvil_api_Prog rfl hst rfl rfl rfl ?_
  clear henv a; intro a henv
  refine sAny_one (i := 1) (by kernel_rfl) rfl rfl (op_call henv rfl Tryd.call15 rfl (r_right_bad (hst.pat (k := 3) rfl) (hst.pat (k := 2) rfl) hW0) ?_)
  rintro e w63 ⟨rfl, hb⟩
  refine ⟨_, rfl, ?_⟩
  clear henv a; intro a henv
  replace hst := hst.call hb
  clear hb
  refine ⟨.inr ⟨hst.kn.pick [0, 1, 2] (rg 0 4), .inr (hst.kn.pick [] [])⟩, ?_⟩
  refine sAny_one (i := 3) (by kernel_rfl) rfl rfl (op_call henv rfl Tryd.call15 rfl (r_right_ok (hst.pat (k := 1) rfl) (hst.pat (k := 0) rfl) hR1) ?_)
  rintro e w64 ⟨rfl, hb⟩
  refine ⟨_, rfl, ?_⟩
  clear henv a; intro a henv
  replace hst := hst.call hb
  clear hb
  refine ⟨.inr ⟨hst.kn.pick [0, 1, 2] (rg 0 4), .inr (hst.kn.pick [] [])⟩, ?_⟩
  refine tA (i := 4) [5] (v := .bool false) rfl (by kernel_rfl) (fun _ _ _ h => h) henv rfl (fun _ => rn_assign henv rfl) ?_
  clear henv a; intro a henv
  refine tA (i := 5) [] (v := .bool true) rfl (by kernel_rfl) (fun _ _ _ h => h) henv rfl (fun _ => rn_assign henv rfl) ?_
  clear henv a; intro a henv
  refine sAny_done (by kernel_rfl) ?_ _
  refine th_n ?_
  refine wp_seq ?_
  refine wp_seq ?_
  refine region_seq ?_
  revert a
  refine mA rfl rfl ?_
  refine sA (v := .bool true) rfl (fun _ henv => rn_un henv rfl rfl) ?_
  refine mA rfl rfl ?_
  refine kA rfl rfl rfl rfl rfl ?_
  refine kA rfl rfl rfl rfl rfl ?_
  refine sA (v := .bool true) rfl (fun _ henv => rn_pick henv rfl rfl) ?_
  intro a henv
  refine wpList_nil ?_
  refine th_n ?_
  refine if_t henv rfl (rfl) ?_
  refine wp_seq ?_
  refine region_seq ?_
  refine sv (v := .agg #[.int .i64 0, .int .i64 0, .slice none 0 0, .slice none 0 0]) henv rfl (rn_load0 henv ty_anvil_api_Prog rfl (hst.oat (k := 0) rfl) rfl) ?_
  clear henv a; intro a henv
  refine seq_step rfl (op_call henv rfl Tryd.call23 rfl g_empty ?_)
  rintro e w65 ⟨rfl, hb⟩
  refine ⟨_, rfl, ?_⟩
  clear henv a; intro a henv
  replace hst := hst.call hb
  clear hb
  revert a
  refine mA rfl rfl ?_
  refine gA (v := .int .i64 80) rfl rfl rfl rfl (fun _ henv => rn_move henv rfl) ?_
  refine gA (v := .bool true) rfl rfl rfl rfl (fun _ henv => rn_bin henv rfl rfl rfl) ?_
  refine sA (v := .bool true) rfl (fun _ henv => rn_pick henv rfl rfl) ?_
  refine mA rfl rfl ?_
  intro a henv
  refine seq_g rfl henv rfl rfl (op_call henv rfl Tryd.call10 rfl g_live ?_)
  rintro e w66 ⟨rfl, hb⟩
  refine ⟨_, rfl, ?_⟩
  clear henv a; intro a henv
  replace hst := hst.call hb
  clear hb
  revert a
  refine sA (v := .bool true) rfl (fun _ henv => rn_pick henv rfl rfl) ?_
  refine aA rfl rfl ?_
  intro a henv
  refine wpList_nil ?_
  refine th_n ?_
  refine wp_ret ?_
  refine th_r ?_
  refine leave henv (res1 Tryd.results6 (RV.tmp henv rfl)) ?_
  exact ⟨rfl, hst.below⟩
set_option maxRecDepth 100000 in
set_option maxHeartbeats 4000000 in
theorem gjoins_bad10 {i i2 g g2 : Int} {A0 A1 A2 A3 : Option Addr} {n0 c0 n1 c1 n2 c2 n3 c3 : Nat} {es0 : List IE} {es1 : List Int} {es2 : List IE} {es3 : List Int} {w0 : World} (h0 : (pfRow fJ FJ 5 A0 n0 c0 es0).P w0) (h1 : (pfRow fI FI 1 A1 n1 c1 es1).P w0) (h2 : (pfRow fJ FJ 5 A2 n2 c2 es2).P w0) (h3 : (pfRow fI FI 1 A3 n3 c3 es3).P w0) {k : Int} (hv0 : ¬ (400 < n0 ∨ 400 < n1)) (hv2 : ¬ (400 < n2 ∨ 400 < n3)) (hR0 : Right i g n0 n1 es0 es1) (hW1 : Wrong i2 g2 n2 n3 es2 es3 k) :
    Calls Tryd.prog 6 #[.agg #[.int .i64 i, .int .i64 g, .slice A0 n0 c0, .slice A1 n1 c1], .agg #[.int .i64 i2, .int .i64 g2, .slice A2 n2 c2, .slice A3 n3 c3]] w0 fun e w' => e = .returned (.bool true) ∧ Below w0.heap.size w0 w' := by
  refine enter Tryd.func6 rfl Tryd.ntmps6 rfl ?_
  intro a henv hst
  have hlen0 := h0.2.1
  have hbig0 := Nat.le_trans h0.1.cap h0.1.big
  unfold maxLen at hbig0
  have hlen1 := h1.2.1
  have hbig1 := Nat.le_trans h1.1.cap h1.1.big
  unfold maxLen at hbig1
  have hlen2 := h2.2.1
  have hbig2 := Nat.le_trans h2.1.cap h2.1.big
  unfold maxLen at hbig2
  have hlen3 := h3.2.1
  have hbig3 := Nat.le_trans h3.1.cap h3.1.big
  unfold maxLen at hbig3
  replace hst := hst.argRow h0
  replace hst := hst.argRow h1
  replace hst := hst.argRow h2
  replace hst := hst.argRow h3
  clear h0 h1 h2 h3
  refine wp_seq ?_
  refine region_seq ?_
  refine seq_step rfl (op_box (c := #[.int .i64 i, .int .i64 g, .slice A0 n0 c0, .slice A1 n1 c1]) henv hst rfl rfl rfl ?_)
  clear henv hst a; intro a w52 g51 henv hst
  refine seq_step rfl (op_box (c := #[.int .i64 i2, .int .i64 g2, .slice A2 n2 c2, .slice A3 n3 c3]) henv hst rfl rfl rfl ?_)
  clear henv hst a; intro a w54 g53 henv hst
  refine sv (v := .bool false) henv rfl (rn_assign henv rfl) ?_
  clear henv a; intro a henv
  refine wpList_nil ?_
  refine th_n ?_
  refine wp_seq ?_
  refine wp_seq ?_
  refine region_seq ?_
  refine seq_step rfl (op_call henv rfl Tryd.call10 rfl g_live ?_)
  rintro e w55 ⟨rfl, hb⟩
  refine ⟨_, rfl, ?_⟩
  clear henv a; intro a henv
  replace hst := hst.call hb
  clear hb
  refine sv (v := .bool false) henv rfl (rn_un henv rfl rfl) ?_
  clear henv a; intro a henv
  refine wpList_nil ?_
  refine th_n ?_
  refine if_f henv rfl (rfl) ?_
  refine wp_skip ?_
  refine th_n ?_
  refine wp_seq ?_
  refine wp_seq ?_
  refine region_seq ?_
  refine sv (v := .agg #[.int .i64 i, .int .i64 g, .slice A0 n0 c0, .slice A1 n1 c1]) henv rfl (rn_load0 henv ty_anvil_api_Prog rfl (hst.oat (k := 1) rfl) rfl) ?_
  clear henv a; intro a henv
  refine seq_step rfl (op_call henv rfl Tryd.call13 rfl (g_long (i := i) (g := g) (A0 := A0) (n0 := n0) (c0 := c0) (A1 := A1) (n1 := n1) (c1 := c1)) ?_)
  rintro e w56 ⟨rfl, hb⟩
  refine ⟨_, rfl, ?_⟩
  clear henv a; intro a henv
  replace hst := hst.call hb
  clear hb
  rw [show (decide (400 < n0 ∨ 400 < n1)) = false from (decide_eq_false hv0)] at henv
  revert a
  refine mA rfl rfl ?_
  refine gA (v := .agg #[.int .i64 i2, .int .i64 g2, .slice A2 n2 c2, .slice A3 n3 c3]) rfl rfl rfl rfl (fun _ henv => rn_load0 henv ty_anvil_api_Prog rfl (hst.oat (k := 0) rfl) rfl) ?_
  intro a henv
  refine seq_g rfl henv rfl rfl (op_call henv rfl Tryd.call13 rfl (g_long (i := i2) (g := g2) (A0 := A2) (n0 := n2) (c0 := c2) (A1 := A3) (n1 := n3) (c1 := c3)) ?_)
  rintro e w57 ⟨rfl, hb⟩
  refine ⟨_, rfl, ?_⟩
  clear henv a; intro a henv
  replace hst := hst.call hb
  clear hb
  rw [show (decide (400 < n2 ∨ 400 < n3)) = false from (decide_eq_false hv2)] at henv
  refine sv (v := .bool false) henv rfl (rn_pick henv rfl rfl) ?_
  clear henv a; intro a henv
  refine wpList_nil ?_
  refine th_n ?_
  refine if_f henv rfl (rfl) ?_
  refine wp_skip ?_
  refine th_n ?_
  refine wp_seq ?_
  refine region_seq ?_
  revert a
  refine sA (v := .agg #[.int .i64 i, .int .i64 g, .slice A0 n0 c0, .slice A1 n1 c1]) rfl (fun _ henv => rn_load0 henv ty_anvil_api_Prog rfl (hst.oat (k := 1) rfl) rfl) ?_
  refine sA (v := .agg #[.int .i64 i2, .int .i64 g2, .slice A2 n2 c2, .slice A3 n3 c3]) rfl (fun _ henv => rn_load0 henv ty_anvil_api_Prog rfl (hst.oat (k := 0) rfl) rfl) ?_
  intro a henv
  refine seq_step rfl (op_call henv rfl Tryd.call22 rfl (g_join_bad1 (hst.pat (k := 3) rfl) (hst.pat (k := 2) rfl) (hst.pat (k := 1) rfl) (hst.pat (k := 0) rfl) hR0 hW1) ?_)
  rintro e w58 ⟨rfl, hb⟩
  refine ⟨_, rfl, ?_⟩
  clear henv a; intro a henv
  replace hst := hst.call hb
  clear hb
  revert a
  refine mA rfl rfl ?_
  refine sA (v := .agg #[.int .i64 0, .int .i64 0, .slice none 0 0, .slice none 0 0]) rfl (fun _ henv => rn_extract henv rfl rfl) ?_
  refine sA (v := .int .i64 80) rfl (fun _ henv => rn_extract henv rfl rfl) ?_
  intro a henv
  refine seq_step rfl (op_alloc (c := #[.int .i64 0, .int .i64 0, .slice none 0 0, .slice none 0 0]) henv hst rfl zero_anvil_api_Prog rfl ?_)
  clear henv hst a; intro a w60 g59 henv hst
  refine seq_step rfl (op_store (k := 0) (c' := #[.int .i64 0, .int .i64 0, .slice none 0 0, .slice none 0 0]) henv hst (ty_anvil_api_Prog.size) rfl rfl rfl rfl (by simp) rfl rfl ?_)
  clear henv hst a; intro a w61 henv hst
  refine sv (v := .int .i64 80) henv rfl (rn_assign henv rfl) ?_
  clear henv a; intro a henv
  refine wpList_nil ?_
  refine th_n ?_
  refine wp_seq ?_
  refine region_any (n := 6) (Sk [bk g59 #[.int .i64 0, .int .i64 0, .slice none 0 0, .slice none 0 0] 25, bk g53 #[.int .i64 i2, .int .i64 g2, .slice A2 n2 c2, .slice A3 n3 c3] 25, bk g51 #[.int .i64 i, .int .i64 g, .slice A0 n0 c0, .slice A1 n1 c1] 25] [pfRow fI FI 1 A3 n3 c3 es3, pfRow fJ FJ 5 A2 n2 c2 es2, pfRow fI FI 1 A1 n1 c1 es1, pfRow fJ FJ 5 A0 n0 c0 es0] [] []) mixed rfl henv hst ?_
  clear henv hst; intro w62 henv hst
  refine tL (i := 0) 2 2 [1, 3, 4, 5] rfl (by kernel_rfl) (fun _ _ _ h => h) henv rfl ty_anvil_api_Prog rfl hst rfl rfl rfl ?_
  clear henv a; intro a henv
  refine tL (i := 2) 1 1 [3, 4, 5] rfl (by kernel_rfl) (fun _ _ _ h => h) henv rfl ty_anvil_api_Prog rfl hst rfl rfl rfl ?_
  clear henv a; intro a henv
  refine sAny_one (i := 1) (by kernel_rfl) rfl rfl (op_call henv rfl Tryd.call15 rfl (r_right_ok (hst.pat (k := 3) rfl) (hst.pat (k := 2) rfl) hR0) ?_)
  rintro e w63 ⟨rfl, hb⟩
  refine ⟨_, rfl, ?_⟩
  clear henv a; intro a henv
  replace hst := hst.call hb
  clear hb
  refine ⟨.inr ⟨hst.kn.pick [0, 1, 2] (rg 0 4), .inr (hst.kn.pick [] [])⟩, ?_⟩
  refine sAny_one (i := 3) (by kernel_rfl) rfl rfl (op_call henv rfl Tryd.call15 rfl (r_right_bad (hst.pat (k := 1) rfl) (hst.pat (k := 0) rfl) hW1) ?_)
  rintro e w64 ⟨rfl, hb⟩
  refine ⟨_, rfl, ?_⟩
  clear henv a; intro a henv
  replace hst := hst.call hb
  clear hb
  refine ⟨.inr ⟨hst.kn.pick [0, 1, 2] (rg 0 4), .inr (hst.kn.pick [] [])⟩, ?_⟩
  refine tA (i := 4) [5] (v := .bool true) rfl (by kernel_rfl) (fun _ _ _ h => h) henv rfl (fun _ => rn_assign henv rfl) ?_
  clear henv a; intro a henv
  refine tA (i := 5) [] (v := .bool false) rfl (by kernel_rfl) (fun _ _ _ h => h) henv rfl (fun _ => rn_assign henv rfl) ?_
  clear henv a; intro a henv
  refine sAny_done (by kernel_rfl) ?_ _
  refine th_n ?_
  refine wp_seq ?_
  refine wp_seq ?_
  refine region_seq ?_
  revert a
  refine mA rfl rfl ?_
  refine sA (v := .bool false) rfl (fun _ henv => rn_un henv rfl rfl) ?_
  refine mA rfl rfl ?_
  refine gA (v := .bool false) rfl rfl rfl rfl (fun _ henv => rn_move henv rfl) ?_
  refine gA (v := .bool true) rfl rfl rfl rfl (fun _ henv => rn_un henv rfl rfl) ?_
  refine sA (v := .bool true) rfl (fun _ henv => rn_pick henv rfl rfl) ?_
  intro a henv
  refine wpList_nil ?_
  refine th_n ?_
  refine if_t henv rfl (rfl) ?_
  refine wp_seq ?_
  refine region_seq ?_
  refine sv (v := .agg #[.int .i64 0, .int .i64 0, .slice none 0 0, .slice none 0 0]) henv rfl (rn_load0 henv ty_anvil_api_Prog rfl (hst.oat (k := 0) rfl) rfl) ?_
  clear henv a; intro a henv
  refine seq_step rfl (op_call henv rfl Tryd.call23 rfl g_empty ?_)
  rintro e w65 ⟨rfl, hb⟩
  refine ⟨_, rfl, ?_⟩
  clear henv a; intro a henv
  replace hst := hst.call hb
  clear hb
  revert a
  refine mA rfl rfl ?_
  refine gA (v := .int .i64 80) rfl rfl rfl rfl (fun _ henv => rn_move henv rfl) ?_
  refine gA (v := .bool true) rfl rfl rfl rfl (fun _ henv => rn_bin henv rfl rfl rfl) ?_
  refine sA (v := .bool true) rfl (fun _ henv => rn_pick henv rfl rfl) ?_
  refine mA rfl rfl ?_
  intro a henv
  refine seq_g rfl henv rfl rfl (op_call henv rfl Tryd.call10 rfl g_live ?_)
  rintro e w66 ⟨rfl, hb⟩
  refine ⟨_, rfl, ?_⟩
  clear henv a; intro a henv
  replace hst := hst.call hb
  clear hb
  revert a
  refine sA (v := .bool true) rfl (fun _ henv => rn_pick henv rfl rfl) ?_
  refine aA rfl rfl ?_
  intro a henv
  refine wpList_nil ?_
  refine th_n ?_
  refine wp_ret ?_
  refine th_r ?_
  refine leave henv (res1 Tryd.results6 (RV.tmp henv rfl)) ?_
  exact ⟨rfl, hst.below⟩
set_option maxRecDepth 100000 in
set_option maxHeartbeats 4000000 in
theorem gjoins_range {i i2 : Int} {g g2 : Nat} {A0 A1 A2 A3 : Option Addr} {n0 c0 n1 c1 n2 c2 n3 c3 : Nat} {es0 : List IE} {es1 : List Int} {es2 : List IE} {es3 : List Int} {w0 : World} (h0 : (pfRow fJ FJ 5 A0 n0 c0 es0).P w0) (h1 : (pfRow fI FI 1 A1 n1 c1 es1).P w0) (h2 : (pfRow fJ FJ 5 A2 n2 c2 es2).P w0) (h3 : (pfRow fI FI 1 A3 n3 c3 es3).P w0) (hv0 : ¬ (400 < n0 ∨ 400 < n1)) (hv2 : ¬ (400 < n2 ∨ 400 < n3)) (hR0 : Right i g n0 n1 es0 es1) (hR1 : Right i2 g2 n2 n3 es2 es3) (hi : i2 ≠ (n1 : Nat)) :
    Calls Tryd.prog 6 #[.agg #[.int .i64 i, .int .i64 (g : Nat), .slice A0 n0 c0, .slice A1 n1 c1], .agg #[.int .i64 i2, .int .i64 (g2 : Nat), .slice A2 n2 c2, .slice A3 n3 c3]] w0 fun e w' => e = .returned (.bool true) ∧ Below w0.heap.size w0 w' := by
  refine enter Tryd.func6 rfl Tryd.ntmps6 rfl ?_
  intro a henv hst
  have hlen0 := h0.2.1
  have hbig0 := Nat.le_trans h0.1.cap h0.1.big
  unfold maxLen at hbig0
  have hlen1 := h1.2.1
  have hbig1 := Nat.le_trans h1.1.cap h1.1.big
  unfold maxLen at hbig1
  have hlen2 := h2.2.1
  have hbig2 := Nat.le_trans h2.1.cap h2.1.big
  unfold maxLen at hbig2
  have hlen3 := h3.2.1
  have hbig3 := Nat.le_trans h3.1.cap h3.1.big
  unfold maxLen at hbig3
  replace hst := hst.argRow h0
  replace hst := hst.argRow h1
  replace hst := hst.argRow h2
  replace hst := hst.argRow h3
  clear h0 h1 h2 h3
  refine wp_seq ?_
  refine region_seq ?_
  refine seq_step rfl (op_box (c := #[.int .i64 i, .int .i64 (g : Nat), .slice A0 n0 c0, .slice A1 n1 c1]) henv hst rfl rfl rfl ?_)
  clear henv hst a; intro a w52 g51 henv hst
  refine seq_step rfl (op_box (c := #[.int .i64 i2, .int .i64 (g2 : Nat), .slice A2 n2 c2, .slice A3 n3 c3]) henv hst rfl rfl rfl ?_)
  clear henv hst a; intro a w54 g53 henv hst
  refine sv (v := .bool false) henv rfl (rn_assign henv rfl) ?_
  clear henv a; intro a henv
  refine wpList_nil ?_
  refine th_n ?_
  refine wp_seq ?_
  refine wp_seq ?_
  refine region_seq ?_
  refine seq_step rfl (op_call henv rfl Tryd.call10 rfl g_live ?_)
  rintro e w55 ⟨rfl, hb⟩
  refine ⟨_, rfl, ?_⟩
  clear henv a; intro a henv
  replace hst := hst.call hb
  clear hb
  refine sv (v := .bool false) henv rfl (rn_un henv rfl rfl) ?_
  clear henv a; intro a henv
  refine wpList_nil ?_
  refine th_n ?_
  refine if_f henv rfl (rfl) ?_
  refine wp_skip ?_
  refine th_n ?_
  refine wp_seq ?_
  refine wp_seq ?_
  refine region_seq ?_
  refine sv (v := .agg #[.int .i64 i, .int .i64 (g : Nat), .slice A0 n0 c0, .slice A1 n1 c1]) henv rfl (rn_load0 henv ty_anvil_api_Prog rfl (hst.oat (k := 1) rfl) rfl) ?_
  clear henv a; intro a henv
  refine seq_step rfl (op_call henv rfl Tryd.call13 rfl (g_long (i := i) (g := (g : Nat)) (A0 := A0) (n0 := n0) (c0 := c0) (A1 := A1) (n1 := n1) (c1 := c1)) ?_)
  rintro e w56 ⟨rfl, hb⟩
  refine ⟨_, rfl, ?_⟩
  clear henv a; intro a henv
  replace hst := hst.call hb
  clear hb
  rw [show (decide (400 < n0 ∨ 400 < n1)) = false from (decide_eq_false hv0)] at henv
  revert a
  refine mA rfl rfl ?_
  refine gA (v := .agg #[.int .i64 i2, .int .i64 (g2 : Nat), .slice A2 n2 c2, .slice A3 n3 c3]) rfl rfl rfl rfl (fun _ henv => rn_load0 henv ty_anvil_api_Prog rfl (hst.oat (k := 0) rfl) rfl) ?_
  intro a henv
  refine seq_g rfl henv rfl rfl (op_call henv rfl Tryd.call13 rfl (g_long (i := i2) (g := (g2 : Nat)) (A0 := A2) (n0 := n2) (c0 := c2) (A1 := A3) (n1 := n3) (c1 := c3)) ?_)
  rintro e w57 ⟨rfl, hb⟩
  refine ⟨_, rfl, ?_⟩
  clear henv a; intro a henv
  replace hst := hst.call hb
  clear hb
  rw [show (decide (400 < n2 ∨ 400 < n3)) = false from (decide_eq_false hv2)] at henv
  refine sv (v := .bool false) henv rfl (rn_pick henv rfl rfl) ?_
  clear henv a; intro a henv
  refine wpList_nil ?_
  refine th_n ?_
  refine if_f henv rfl (rfl) ?_
  refine wp_skip ?_
  refine th_n ?_
  refine wp_seq ?_
  refine region_seq ?_
  revert a
  refine sA (v := .agg #[.int .i64 i, .int .i64 (g : Nat), .slice A0 n0 c0, .slice A1 n1 c1]) rfl (fun _ henv => rn_load0 henv ty_anvil_api_Prog rfl (hst.oat (k := 1) rfl) rfl) ?_
  refine sA (v := .agg #[.int .i64 i2, .int .i64 (g2 : Nat), .slice A2 n2 c2, .slice A3 n3 c3]) rfl (fun _ henv => rn_load0 henv ty_anvil_api_Prog rfl (hst.oat (k := 0) rfl) rfl) ?_
  intro a henv
  refine seq_step rfl (op_call henv rfl Tryd.call22 rfl (g_join_range (hst.pat (k := 3) rfl) (hst.pat (k := 2) rfl) (hst.pat (k := 1) rfl) (hst.pat (k := 0) rfl) hR0 hR1 hi) ?_)
  rintro e w58 ⟨rfl, hb⟩
  refine ⟨_, rfl, ?_⟩
  clear henv a; intro a henv
  replace hst := hst.call hb
  clear hb
  revert a
  refine mA rfl rfl ?_
  refine sA (v := .agg #[.int .i64 0, .int .i64 0, .slice none 0 0, .slice none 0 0]) rfl (fun _ henv => rn_extract henv rfl rfl) ?_
  refine sA (v := .int .i64 5) rfl (fun _ henv => rn_extract henv rfl rfl) ?_
  intro a henv
  refine seq_step rfl (op_alloc (c := #[.int .i64 0, .int .i64 0, .slice none 0 0, .slice none 0 0]) henv hst rfl zero_anvil_api_Prog rfl ?_)
  clear henv hst a; intro a w60 g59 henv hst
  refine seq_step rfl (op_store (k := 0) (c' := #[.int .i64 0, .int .i64 0, .slice none 0 0, .slice none 0 0]) henv hst (ty_anvil_api_Prog.size) rfl rfl rfl rfl (by simp) rfl rfl ?_)
  clear henv hst a; intro a w61 henv hst
  refine sv (v := .int .i64 5) henv rfl (rn_assign henv rfl) ?_
  clear henv a; intro a henv
  refine wpList_nil ?_
  refine th_n ?_
  refine wp_seq ?_
  refine region_any (n := 6) (Sk [bk g59 #[.int .i64 0, .int .i64 0, .slice none 0 0, .slice none 0 0] 25, bk g53 #[.int .i64 i2, .int .i64 (g2 : Nat), .slice A2 n2 c2, .slice A3 n3 c3] 25, bk g51 #[.int .i64 i, .int .i64 (g : Nat), .slice A0 n0 c0, .slice A1 n1 c1] 25] [pfRow fI FI 1 A3 n3 c3 es3, pfRow fJ FJ 5 A2 n2 c2 es2, pfRow fI FI 1 A1 n1 c1 es1, pfRow fJ FJ 5 A0 n0 c0 es0] [] []) mixed rfl henv hst ?_
  clear henv hst; intro w62 henv hst
  refine tL (i := 0) 2 2 [1, 3, 4, 5] rfl (by kernel_rfl) (fun _ _ _ h => h) henv rfl ty_anvil_api_Prog rfl hst rfl rfl rfl ?_
  clear henv a; intro a henv
  refine tL (i := 2) 1 1 [3, 4, 5] rfl (by kernel_rfl) (fun _ _ _ h => h) henv rfl ty_anvil_api_Prog rfl hst rfl rfl rfl ?_
  clear henv a; intro a henv
  refine sAny_one (i := 1) (by kernel_rfl) rfl rfl (op_call henv rfl Tryd.call15 rfl (r_right_ok (hst.pat (k := 3) rfl) (hst.pat (k := 2) rfl) hR0) ?_)
  rintro e w63 ⟨rfl, hb⟩
  refine ⟨_, rfl, ?_⟩
  clear henv a; intro a henv
  replace hst := hst.call hb
  clear hb
  refine ⟨.inr ⟨hst.kn.pick [0, 1, 2] (rg 0 4), .inr (hst.kn.pick [] [])⟩, ?_⟩
  refine sAny_one (i := 3) (by kernel_rfl) rfl rfl (op_call henv rfl Tryd.call15 rfl (r_right_ok (hst.pat (k := 1) rfl) (hst.pat (k := 0) rfl) hR1) ?_)
  rintro e w64 ⟨rfl, hb⟩
  refine ⟨_, rfl, ?_⟩
  clear henv a; intro a henv
  replace hst := hst.call hb
  clear hb
  refine ⟨.inr ⟨hst.kn.pick [0, 1, 2] (rg 0 4), .inr (hst.kn.pick [] [])⟩, ?_⟩
  refine tA (i := 4) [5] (v := .bool true) rfl (by kernel_rfl) (fun _ _ _ h => h) henv rfl (fun _ => rn_assign henv rfl) ?_
  clear henv a; intro a henv
  refine tA (i := 5) [] (v := .bool true) rfl (by kernel_rfl) (fun _ _ _ h => h) henv rfl (fun _ => rn_assign henv rfl) ?_
  clear henv a; intro a henv
  refine sAny_done (by kernel_rfl) ?_ _
  refine th_n ?_
  refine wp_seq ?_
  refine wp_seq ?_
  refine region_seq ?_
  revert a
  refine mA rfl rfl ?_
  refine sA (v := .bool false) rfl (fun _ henv => rn_un henv rfl rfl) ?_
  refine mA rfl rfl ?_
  refine gA (v := .bool true) rfl rfl rfl rfl (fun _ henv => rn_move henv rfl) ?_
  refine gA (v := .bool false) rfl rfl rfl rfl (fun _ henv => rn_un henv rfl rfl) ?_
  refine sA (v := .bool false) rfl (fun _ henv => rn_pick henv rfl rfl) ?_
  intro a henv
  refine wpList_nil ?_
  refine th_n ?_
  refine if_f henv rfl (rfl) ?_
  refine wp_skip ?_
  refine th_n ?_
  refine wp_seq ?_
  refine region_seq ?_
  revert a
  refine sA (v := .agg #[.int .i64 i, .int .i64 (g : Nat), .slice A0 n0 c0, .slice A1 n1 c1]) rfl (fun _ henv => rn_load0 henv ty_anvil_api_Prog rfl (hst.oat (k := 2) rfl) rfl) ?_
  refine sA (v := .agg #[.int .i64 i2, .int .i64 (g2 : Nat), .slice A2 n2 c2, .slice A3 n3 c3]) rfl (fun _ henv => rn_load0 henv ty_anvil_api_Prog rfl (hst.oat (k := 1) rfl) rfl) ?_
  intro a henv
  refine seq_step rfl (op_call henv rfl Tryd.call24 rfl (r_join_range (hst.pat (k := 3) rfl) (hst.pat (k := 2) rfl) (hst.pat (k := 1) rfl) (hst.pat (k := 0) rfl) hR0 hR1 hi) ?_)
  rintro e w65 ⟨rfl, hb⟩
  refine ⟨_, rfl, ?_⟩
  clear henv a; intro a henv
  replace hst := hst.call hb
  clear hb
  revert a
  refine mA rfl rfl ?_
  refine sA (v := .agg #[.int .i64 0, .int .i64 0, .slice none 0 0, .slice none 0 0]) rfl (fun _ henv => rn_extract henv rfl rfl) ?_
  refine sA (v := .int .i64 5) rfl (fun _ henv => rn_extract henv rfl rfl) ?_
  intro a henv
  refine seq_step rfl (op_alloc (c := #[.int .i64 0, .int .i64 0, .slice none 0 0, .slice none 0 0]) henv hst rfl zero_anvil_api_Prog rfl ?_)
  clear henv hst a; intro a w67 g66 henv hst
  refine seq_step rfl (op_store (k := 0) (c' := #[.int .i64 0, .int .i64 0, .slice none 0 0, .slice none 0 0]) henv hst (ty_anvil_api_Prog.size) rfl rfl rfl rfl (by simp) rfl rfl ?_)
  clear henv hst a; intro a w68 henv hst
  refine sv (v := .int .i64 5) henv rfl (rn_assign henv rfl) ?_
  clear henv a; intro a henv
  refine wpList_nil ?_
  refine th_n ?_
  refine wp_seq ?_
  refine wp_seq ?_
  refine region_seq ?_
  revert a
  refine mA rfl rfl ?_
  refine mA rfl rfl ?_
  refine sA (v := .bool false) rfl (fun _ henv => rn_bin henv rfl rfl rfl) ?_
  refine mA rfl rfl ?_
  refine gA (v := .agg #[.int .i64 0, .int .i64 0, .slice none 0 0, .slice none 0 0]) rfl rfl rfl rfl (fun _ henv => rn_load0 henv ty_anvil_api_Prog rfl (hst.oat (k := 1) rfl) rfl) ?_
  refine gA (v := .agg #[.int .i64 0, .int .i64 0, .slice none 0 0, .slice none 0 0]) rfl rfl rfl rfl (fun _ henv => rn_load0 henv ty_anvil_api_Prog rfl (hst.oat (k := 0) rfl) rfl) ?_
  intro a henv
  refine seq_g rfl henv rfl rfl (op_call henv rfl Tryd.call16 rfl (r_same (i := (0 : Int)) (g := (0 : Int)) (i2 := (0 : Int)) (g2 := (0 : Int)) (row_nil fJ FJ 5 _) (row_nil fI FI 1 _) (row_nil fJ FJ 5 _) (row_nil fI FI 1 _)) ?_)
  rintro e w69 ⟨rfl, hb⟩
  refine ⟨_, rfl, ?_⟩
  clear henv a; intro a henv
  replace hst := hst.call hb
  clear hb
  rw [show (decide ((0 : Int) = (0 : Int) ∧ (0 : Int) = (0 : Int) ∧ ([] : List IE) = ([] : List IE) ∧ ([] : List Int) = ([] : List Int))) = true from (decide_eq_true ⟨rfl, rfl, rfl, rfl⟩)] at henv
  revert a
  refine gA (v := .bool false) rfl rfl rfl rfl (fun _ henv => rn_un henv rfl rfl) ?_
  refine sA (v := .bool false) rfl (fun _ henv => rn_pick henv rfl rfl) ?_
  refine mA rfl rfl ?_
  intro a henv
  refine seq_g rfl henv rfl rfl (op_call henv rfl Tryd.call10 rfl g_live ?_)
  rintro e w70 ⟨rfl, hb⟩
  refine ⟨_, rfl, ?_⟩
  clear henv a; intro a henv
  replace hst := hst.call hb
  clear hb
  revert a
  refine gA (v := .bool false) rfl rfl rfl rfl (fun _ henv => rn_un henv rfl rfl) ?_
  refine sA (v := .bool false) rfl (fun _ henv => rn_pick henv rfl rfl) ?_
  intro a henv
  refine wpList_nil ?_
  refine th_n ?_
  refine if_f henv rfl (rfl) ?_
  refine wp_skip ?_
  refine th_n ?_
  refine wp_seq ?_
  refine wp_seq ?_
  refine region_seq ?_
  revert a
  refine mA rfl rfl ?_
  refine sA (v := .bool true) rfl (fun _ henv => rn_bin henv rfl rfl rfl) ?_
  intro a henv
  refine wpList_nil ?_
  refine th_n ?_
  refine if_t henv rfl (rfl) ?_
  refine wp_seq ?_
  refine region_seq ?_
  refine sv (v := .bool true) henv rfl (rn_assign henv rfl) ?_
  clear henv a; intro a henv
  refine wpList_nil ?_
  refine th_n ?_
  refine wp_ret ?_
  refine th_r ?_
  refine leave henv (res1 Tryd.results6 (RV.tmp henv rfl)) ?_
  exact ⟨rfl, hst.below⟩
set_option maxRecDepth 100000 in
set_option maxHeartbeats 4000000 in
theorem gjoins_long1 {i : Int} {g g2 : Nat} {A0 A1 A2 A3 : Option Addr} {n0 c0 n1 c1 n2 c2 n3 c3 : Nat} {es0 : List IE} {es1 : List Int} {es2 : List IE} {es3 : List Int} {w0 : World} (h0 : (pfRow fJ FJ 5 A0 n0 c0 es0).P w0) (h1 : (pfRow fI FI 1 A1 n1 c1 es1).P w0) (h2 : (pfRow fJ FJ 5 A2 n2 c2 es2).P w0) (h3 : (pfRow fI FI 1 A3 n3 c3 es3).P w0) (hv0 : ¬ (400 < n0 ∨ 400 < n1)) (hv2 : ¬ (400 < n2 ∨ 400 < n3)) (hR0 : Right i g n0 n1 es0 es1) (hR1 : Right (n1 : Nat) g2 n2 n3 es2 es3) (hw : 128 < g + g2) :
    Calls Tryd.prog 6 #[.agg #[.int .i64 i, .int .i64 (g : Nat), .slice A0 n0 c0, .slice A1 n1 c1], .agg #[.int .i64 (n1 : Nat), .int .i64 (g2 : Nat), .slice A2 n2 c2, .slice A3 n3 c3]] w0 fun e w' => e = .returned (.bool true) ∧ Below w0.heap.size w0 w' := by
  refine enter Tryd.func6 rfl Tryd.ntmps6 rfl ?_
  intro a henv hst
  have hlen0 := h0.2.1
  have hbig0 := Nat.le_trans h0.1.cap h0.1.big
  unfold maxLen at hbig0
  have hlen1 := h1.2.1
  have hbig1 := Nat.le_trans h1.1.cap h1.1.big
  unfold maxLen at hbig1
  have hlen2 := h2.2.1
  have hbig2 := Nat.le_trans h2.1.cap h2.1.big
  unfold maxLen at hbig2
  have hlen3 := h3.2.1
  have hbig3 := Nat.le_trans h3.1.cap h3.1.big
  unfold maxLen at hbig3
  replace hst := hst.argRow h0
  replace hst := hst.argRow h1
  replace hst := hst.argRow h2
  replace hst := hst.argRow h3
  clear h0 h1 h2 h3
  refine wp_seq ?_
  refine region_seq ?_
  refine seq_step rfl (op_box (c := #[.int .i64 i, .int .i64 (g : Nat), .slice A0 n0 c0, .slice A1 n1 c1]) henv hst rfl rfl rfl ?_)
  clear henv hst a; intro a w52 g51 henv hst
  refine seq_step rfl (op_box (c := #[.int .i64 (n1 : Nat), .int .i64 (g2 : Nat), .slice A2 n2 c2, .slice A3 n3 c3]) henv hst rfl rfl rfl ?_)
  clear henv hst a; intro a w54 g53 henv hst
  refine sv (v := .bool false) henv rfl (rn_assign henv rfl) ?_
  clear henv a; intro a henv
  refine wpList_nil ?_
  refine th_n ?_
  refine wp_seq ?_
  refine wp_seq ?_
  refine region_seq ?_
  refine seq_step rfl (op_call henv rfl Tryd.call10 rfl g_live ?_)
  rintro e w55 ⟨rfl, hb⟩
  refine ⟨_, rfl, ?_⟩
  clear henv a; intro a henv
  replace hst := hst.call hb
  clear hb
  refine sv (v := .bool false) henv rfl (rn_un henv rfl rfl) ?_
  clear henv a; intro a henv
  refine wpList_nil ?_
  refine th_n ?_
  refine if_f henv rfl (rfl) ?_
  refine wp_skip ?_
  refine th_n ?_
  refine wp_seq ?_
  refine wp_seq ?_
  refine region_seq ?_
  refine sv (v := .agg #[.int .i64 i, .int .i64 (g : Nat), .slice A0 n0 c0, .slice A1 n1 c1]) henv rfl (rn_load0 henv ty_anvil_api_Prog rfl (hst.oat (k := 1) rfl) rfl) ?_
  clear henv a; intro a henv
  refine seq_step rfl (op_call henv rfl Tryd.call13 rfl (g_long (i := i) (g := (g : Nat)) (A0 := A0) (n0 := n0) (c0 := c0) (A1 := A1) (n1 := n1) (c1 := c1)) ?_)
  rintro e w56 ⟨rfl, hb⟩
  refine ⟨_, rfl, ?_⟩
  clear henv a; intro a henv
  replace hst := hst.call hb
  clear hb
  rw [show (decide (400 < n0 ∨ 400 < n1)) = false from (decide_eq_false hv0)] at henv
  revert a
  refine mA rfl rfl ?_
  refine gA (v := .agg #[.int .i64 (n1 : Nat), .int .i64 (g2 : Nat), .slice A2 n2 c2, .slice A3 n3 c3]) rfl rfl rfl rfl (fun _ henv => rn_load0 henv ty_anvil_api_Prog rfl (hst.oat (k := 0) rfl) rfl) ?_
  intro a henv
  refine seq_g rfl henv rfl rfl (op_call henv rfl Tryd.call13 rfl (g_long (i := (n1 : Nat)) (g := (g2 : Nat)) (A0 := A2) (n0 := n2) (c0 := c2) (A1 := A3) (n1 := n3) (c1 := c3)) ?_)
  rintro e w57 ⟨rfl, hb⟩
  refine ⟨_, rfl, ?_⟩
  clear henv a; intro a henv
  replace hst := hst.call hb
  clear hb
  rw [show (decide (400 < n2 ∨ 400 < n3)) = false from (decide_eq_false hv2)] at henv
  refine sv (v := .bool false) henv rfl (rn_pick henv rfl rfl) ?_
  clear henv a; intro a henv
  refine wpList_nil ?_
  refine th_n ?_
  refine if_f henv rfl (rfl) ?_
  refine wp_skip ?_
  refine th_n ?_
  refine wp_seq ?_
  refine region_seq ?_
  revert a
  refine sA (v := .agg #[.int .i64 i, .int .i64 (g : Nat), .slice A0 n0 c0, .slice A1 n1 c1]) rfl (fun _ henv => rn_load0 henv ty_anvil_api_Prog rfl (hst.oat (k := 1) rfl) rfl) ?_
  refine sA (v := .agg #[.int .i64 (n1 : Nat), .int .i64 (g2 : Nat), .slice A2 n2 c2, .slice A3 n3 c3]) rfl (fun _ henv => rn_load0 henv ty_anvil_api_Prog rfl (hst.oat (k := 0) rfl) rfl) ?_
  intro a henv
  refine seq_step rfl (op_call henv rfl Tryd.call22 rfl (g_join_long1 (hst.pat (k := 3) rfl) (hst.pat (k := 2) rfl) (hst.pat (k := 1) rfl) (hst.pat (k := 0) rfl) hR0 hR1 hw) ?_)
  rintro e w58 ⟨rfl, hb⟩
  refine ⟨_, rfl, ?_⟩
  clear henv a; intro a henv
  replace hst := hst.call hb
  clear hb
  revert a
  refine mA rfl rfl ?_
  refine sA (v := .agg #[.int .i64 0, .int .i64 0, .slice none 0 0, .slice none 0 0]) rfl (fun _ henv => rn_extract henv rfl rfl) ?_
  refine sA (v := .int .i64 3) rfl (fun _ henv => rn_extract henv rfl rfl) ?_
  intro a henv
  refine seq_step rfl (op_alloc (c := #[.int .i64 0, .int .i64 0, .slice none 0 0, .slice none 0 0]) henv hst rfl zero_anvil_api_Prog rfl ?_)
  clear henv hst a; intro a w60 g59 henv hst
  refine seq_step rfl (op_store (k := 0) (c' := #[.int .i64 0, .int .i64 0, .slice none 0 0, .slice none 0 0]) henv hst (ty_anvil_api_Prog.size) rfl rfl rfl rfl (by simp) rfl rfl ?_)
  clear henv hst a; intro a w61 henv hst
  refine sv (v := .int .i64 3) henv rfl (rn_assign henv rfl) ?_
  clear henv a; intro a henv
  refine wpList_nil ?_
  refine th_n ?_
  refine wp_seq ?_
  refine region_any (n := 6) (Sk [bk g59 #[.int .i64 0, .int .i64 0, .slice none 0 0, .slice none 0 0] 25, bk g53 #[.int .i64 (n1 : Nat), .int .i64 (g2 : Nat), .slice A2 n2 c2, .slice A3 n3 c3] 25, bk g51 #[.int .i64 i, .int .i64 (g : Nat), .slice A0 n0 c0, .slice A1 n1 c1] 25] [pfRow fI FI 1 A3 n3 c3 es3, pfRow fJ FJ 5 A2 n2 c2 es2, pfRow fI FI 1 A1 n1 c1 es1, pfRow fJ FJ 5 A0 n0 c0 es0] [] []) mixed rfl henv hst ?_
  clear henv hst; intro w62 henv hst
  refine tL (i := 0) 2 2 [1, 3, 4, 5] rfl (by kernel_rfl) (fun _ _ _ h => h) henv rfl ty_anvil_api_Prog rfl hst rfl rfl rfl ?_
  clear henv a; intro a henv
  refine tL (i := 2) 1 1 [3, 4, 5] rfl (by kernel_rfl) (fun _ _ _ h => h) henv rfl ty_anvil_api_Prog rfl hst rfl rfl rfl ?_
  clear henv a; intro a henv
  refine sAny_one (i := 1) (by kernel_rfl) rfl rfl (op_call henv rfl Tryd.call15 rfl (r_right_ok (hst.pat (k := 3) rfl) (hst.pat (k := 2) rfl) hR0) ?_)
  rintro e w63 ⟨rfl, hb⟩
  refine ⟨_, rfl, ?_⟩
  clear henv a; intro a henv
  replace hst := hst.call hb
  clear hb
  refine ⟨.inr ⟨hst.kn.pick [0, 1, 2] (rg 0 4), .inr (hst.kn.pick [] [])⟩, ?_⟩
  refine sAny_one (i := 3) (by kernel_rfl) rfl rfl (op_call henv rfl Tryd.call15 rfl (r_right_ok (hst.pat (k := 1) rfl) (hst.pat (k := 0) rfl) hR1) ?_)
  rintro e w64 ⟨rfl, hb⟩
  refine ⟨_, rfl, ?_⟩
  clear henv a; intro a henv
  replace hst := hst.call hb
  clear hb
  refine ⟨.inr ⟨hst.kn.pick [0, 1, 2] (rg 0 4), .inr (hst.kn.pick [] [])⟩, ?_⟩
  refine tA (i := 4) [5] (v := .bool true) rfl (by kernel_rfl) (fun _ _ _ h => h) henv rfl (fun _ => rn_assign henv rfl) ?_
  clear henv a; intro a henv
  refine tA (i := 5) [] (v := .bool true) rfl (by kernel_rfl) (fun _ _ _ h => h) henv rfl (fun _ => rn_assign henv rfl) ?_
  clear henv a; intro a henv
  refine sAny_done (by kernel_rfl) ?_ _
  refine th_n ?_
  refine wp_seq ?_
  refine wp_seq ?_
  refine region_seq ?_
  revert a
  refine mA rfl rfl ?_
  refine sA (v := .bool false) rfl (fun _ henv => rn_un henv rfl rfl) ?_
  refine mA rfl rfl ?_
  refine gA (v := .bool true) rfl rfl rfl rfl (fun _ henv => rn_move henv rfl) ?_
  refine gA (v := .bool false) rfl rfl rfl rfl (fun _ henv => rn_un henv rfl rfl) ?_
  refine sA (v := .bool false) rfl (fun _ henv => rn_pick henv rfl rfl) ?_
  intro a henv
  refine wpList_nil ?_
  refine th_n ?_
  refine if_f henv rfl (rfl) ?_
  refine wp_skip ?_
  refine th_n ?_
  refine wp_seq ?_
  refine region_seq ?_
  revert a
  refine sA (v := .agg #[.int .i64 i, .int .i64 (g : Nat), .slice A0 n0 c0, .slice A1 n1 c1]) rfl (fun _ henv => rn_load0 henv ty_anvil_api_Prog rfl (hst.oat (k := 2) rfl) rfl) ?_
  refine sA (v := .agg #[.int .i64 (n1 : Nat), .int .i64 (g2 : Nat), .slice A2 n2 c2, .slice A3 n3 c3]) rfl (fun _ henv => rn_load0 henv ty_anvil_api_Prog rfl (hst.oat (k := 1) rfl) rfl) ?_
  intro a henv
  refine seq_step rfl (op_call henv rfl Tryd.call24 rfl (r_join_long1 (hst.pat (k := 3) rfl) (hst.pat (k := 2) rfl) (hst.pat (k := 1) rfl) (hst.pat (k := 0) rfl) hR0 hR1 hw) ?_)
  rintro e w65 ⟨rfl, hb⟩
  refine ⟨_, rfl, ?_⟩
  clear henv a; intro a henv
  replace hst := hst.call hb
  clear hb
  revert a
  refine mA rfl rfl ?_
  refine sA (v := .agg #[.int .i64 0, .int .i64 0, .slice none 0 0, .slice none 0 0]) rfl (fun _ henv => rn_extract henv rfl rfl) ?_
  refine sA (v := .int .i64 3) rfl (fun _ henv => rn_extract henv rfl rfl) ?_
  intro a henv
  refine seq_step rfl (op_alloc (c := #[.int .i64 0, .int .i64 0, .slice none 0 0, .slice none 0 0]) henv hst rfl zero_anvil_api_Prog rfl ?_)
  clear henv hst a; intro a w67 g66 henv hst
  refine seq_step rfl (op_store (k := 0) (c' := #[.int .i64 0, .int .i64 0, .slice none 0 0, .slice none 0 0]) henv hst (ty_anvil_api_Prog.size) rfl rfl rfl rfl (by simp) rfl rfl ?_)
  clear henv hst a; intro a w68 henv hst
  refine sv (v := .int .i64 3) henv rfl (rn_assign henv rfl) ?_
  clear henv a; intro a henv
  refine wpList_nil ?_
  refine th_n ?_
  refine wp_seq ?_
  refine wp_seq ?_
  refine region_seq ?_
  revert a
  refine mA rfl rfl ?_
  refine mA rfl rfl ?_
  refine sA (v := .bool false) rfl (fun _ henv => rn_bin henv rfl rfl rfl) ?_
  refine mA rfl rfl ?_
  refine gA (v := .agg #[.int .i64 0, .int .i64 0, .slice none 0 0, .slice none 0 0]) rfl rfl rfl rfl (fun _ henv => rn_load0 henv ty_anvil_api_Prog rfl (hst.oat (k := 1) rfl) rfl) ?_
  refine gA (v := .agg #[.int .i64 0, .int .i64 0, .slice none 0 0, .slice none 0 0]) rfl rfl rfl rfl (fun _ henv => rn_load0 henv ty_anvil_api_Prog rfl (hst.oat (k := 0) rfl) rfl) ?_
  intro a henv
  refine seq_g rfl henv rfl rfl (op_call henv rfl Tryd.call16 rfl (r_same (i := (0 : Int)) (g := (0 : Int)) (i2 := (0 : Int)) (g2 := (0 : Int)) (row_nil fJ FJ 5 _) (row_nil fI FI 1 _) (row_nil fJ FJ 5 _) (row_nil fI FI 1 _)) ?_)
  rintro e w69 ⟨rfl, hb⟩
  refine ⟨_, rfl, ?_⟩
  clear henv a; intro a henv
  replace hst := hst.call hb
  clear hb
  rw [show (decide ((0 : Int) = (0 : Int) ∧ (0 : Int) = (0 : Int) ∧ ([] : List IE) = ([] : List IE) ∧ ([] : List Int) = ([] : List Int))) = true from (decide_eq_true ⟨rfl, rfl, rfl, rfl⟩)] at henv
  revert a
  refine gA (v := .bool false) rfl rfl rfl rfl (fun _ henv => rn_un henv rfl rfl) ?_
  refine sA (v := .bool false) rfl (fun _ henv => rn_pick henv rfl rfl) ?_
  refine mA rfl rfl ?_
  intro a henv
  refine seq_g rfl henv rfl rfl (op_call henv rfl Tryd.call10 rfl g_live ?_)
  rintro e w70 ⟨rfl, hb⟩
  refine ⟨_, rfl, ?_⟩
  clear henv a; intro a henv
  replace hst := hst.call hb
  clear hb
  revert a
  refine gA (v := .bool false) rfl rfl rfl rfl (fun _ henv => rn_un henv rfl rfl) ?_
  refine sA (v := .bool false) rfl (fun _ henv => rn_pick henv rfl rfl) ?_
  intro a henv
  refine wpList_nil ?_
  refine th_n ?_
  refine if_f henv rfl (rfl) ?_
  refine wp_skip ?_
  refine th_n ?_
  refine wp_seq ?_
  refine wp_seq ?_
  refine region_seq ?_
  revert a
  refine mA rfl rfl ?_
  refine sA (v := .bool true) rfl (fun _ henv => rn_bin henv rfl rfl rfl) ?_
  intro a henv
  refine wpList_nil ?_
  refine th_n ?_
  refine if_t henv rfl (rfl) ?_
  refine wp_seq ?_
  refine region_seq ?_
  refine sv (v := .bool true) henv rfl (rn_assign henv rfl) ?_
  clear henv a; intro a henv
  refine wpList_nil ?_
  refine th_n ?_
  refine wp_ret ?_
  refine th_r ?_
  refine leave henv (res1 Tryd.results6 (RV.tmp henv rfl)) ?_
  exact ⟨rfl, hst.below⟩
set_option maxRecDepth 100000 in
set_option maxHeartbeats 4000000 in
theorem gjoins_long2 {i : Int} {g g2 : Nat} {A0 A1 A2 A3 : Option Addr} {n0 c0 n1 c1 n2 c2 n3 c3 : Nat} {es0 : List IE} {es1 : List Int} {es2 : List IE} {es3 : List Int} {w0 : World} (h0 : (pfRow fJ FJ 5 A0 n0 c0 es0).P w0) (h1 : (pfRow fI FI 1 A1 n1 c1 es1).P w0) (h2 : (pfRow fJ FJ 5 A2 n2 c2 es2).P w0) (h3 : (pfRow fI FI 1 A3 n3 c3 es3).P w0) (hv0 : ¬ (400 < n0 ∨ 400 < n1)) (hv2 : ¬ (400 < n2 ∨ 400 < n3)) (hR0 : Right i g n0 n1 es0 es1) (hR1 : Right (n1 : Nat) g2 n2 n3 es2 es3) (hv : g + g2 ≤ 128) (hw : 16384 < n0 + n1 + n2) :
    Calls Tryd.prog 6 #[.agg #[.int .i64 i, .int .i64 (g : Nat), .slice A0 n0 c0, .slice A1 n1 c1], .agg #[.int .i64 (n1 : Nat), .int .i64 (g2 : Nat), .slice A2 n2 c2, .slice A3 n3 c3]] w0 fun e w' => e = .returned (.bool true) ∧ Below w0.heap.size w0 w' := by
  refine enter Tryd.func6 rfl Tryd.ntmps6 rfl ?_
  intro a henv hst
  have hlen0 := h0.2.1
  have hbig0 := Nat.le_trans h0.1.cap h0.1.big
  unfold maxLen at hbig0
  have hlen1 := h1.2.1
  have hbig1 := Nat.le_trans h1.1.cap h1.1.big
  unfold maxLen at hbig1
  have hlen2 := h2.2.1
  have hbig2 := Nat.le_trans h2.1.cap h2.1.big
  unfold maxLen at hbig2
  have hlen3 := h3.2.1
  have hbig3 := Nat.le_trans h3.1.cap h3.1.big
  unfold maxLen at hbig3
  replace hst := hst.argRow h0
  replace hst := hst.argRow h1
  replace hst := hst.argRow h2
  replace hst := hst.argRow h3
  clear h0 h1 h2 h3
  refine wp_seq ?_
  refine region_seq ?_
  refine seq_step rfl (op_box (c := #[.int .i64 i, .int .i64 (g : Nat), .slice A0 n0 c0, .slice A1 n1 c1]) henv hst rfl rfl rfl ?_)
  clear henv hst a; intro a w52 g51 henv hst
  refine seq_step rfl (op_box (c := #[.int .i64 (n1 : Nat), .int .i64 (g2 : Nat), .slice A2 n2 c2, .slice A3 n3 c3]) henv hst rfl rfl rfl ?_)
  clear henv hst a; intro a w54 g53 henv hst
  refine sv (v := .bool false) henv rfl (rn_assign henv rfl) ?_
  clear henv a; intro a henv
  refine wpList_nil ?_
  refine th_n ?_
  refine wp_seq ?_
  refine wp_seq ?_
  refine region_seq ?_
  refine seq_step rfl (op_call henv rfl Tryd.call10 rfl g_live ?_)
  rintro e w55 ⟨rfl, hb⟩
  refine ⟨_, rfl, ?_⟩
  clear henv a; intro a henv
  replace hst := hst.call hb
  clear hb
  refine sv (v := .bool false) henv rfl (rn_un henv rfl rfl) ?_
  clear henv a; intro a henv
  refine wpList_nil ?_
  refine th_n ?_
  refine if_f henv rfl (rfl) ?_
  refine wp_skip ?_
  refine th_n ?_
  refine wp_seq ?_
  refine wp_seq ?_
  refine region_seq ?_
  refine sv (v := .agg #[.int .i64 i, .int .i64 (g : Nat), .slice A0 n0 c0, .slice A1 n1 c1]) henv rfl (rn_load0 henv ty_anvil_api_Prog rfl (hst.oat (k := 1) rfl) rfl) ?_
  clear henv a; intro a henv
  refine seq_step rfl (op_call henv rfl Tryd.call13 rfl (g_long (i := i) (g := (g : Nat)) (A0 := A0) (n0 := n0) (c0 := c0) (A1 := A1) (n1 := n1) (c1 := c1)) ?_)
  rintro e w56 ⟨rfl, hb⟩
  refine ⟨_, rfl, ?_⟩
  clear henv a; intro a henv
  replace hst := hst.call hb
  clear hb
  rw [show (decide (400 < n0 ∨ 400 < n1)) = false from (decide_eq_false hv0)] at henv
  revert a
  refine mA rfl rfl ?_
  refine gA (v := .agg #[.int .i64 (n1 : Nat), .int .i64 (g2 : Nat), .slice A2 n2 c2, .slice A3 n3 c3]) rfl rfl rfl rfl (fun _ henv => rn_load0 henv ty_anvil_api_Prog rfl (hst.oat (k := 0) rfl) rfl) ?_
  intro a henv
  refine seq_g rfl henv rfl rfl (op_call henv rfl Tryd.call13 rfl (g_long (i := (n1 : Nat)) (g := (g2 : Nat)) (A0 := A2) (n0 := n2) (c0 := c2) (A1 := A3) (n1 := n3) (c1 := c3)) ?_)
  rintro e w57 ⟨rfl, hb⟩
  refine ⟨_, rfl, ?_⟩
  clear henv a; intro a henv
  replace hst := hst.call hb
  clear hb
  rw [show (decide (400 < n2 ∨ 400 < n3)) = false from (decide_eq_false hv2)] at henv
  refine sv (v := .bool false) henv rfl (rn_pick henv rfl rfl) ?_
  clear henv a; intro a henv
  refine wpList_nil ?_
  refine th_n ?_
  refine if_f henv rfl (rfl) ?_
  refine wp_skip ?_
  refine th_n ?_
  refine wp_seq ?_
  refine region_seq ?_
  revert a
  refine sA (v := .agg #[.int .i64 i, .int .i64 (g : Nat), .slice A0 n0 c0, .slice A1 n1 c1]) rfl (fun _ henv => rn_load0 henv ty_anvil_api_Prog rfl (hst.oat (k := 1) rfl) rfl) ?_
  refine sA (v := .agg #[.int .i64 (n1 : Nat), .int .i64 (g2 : Nat), .slice A2 n2 c2, .slice A3 n3 c3]) rfl (fun _ henv => rn_load0 henv ty_anvil_api_Prog rfl (hst.oat (k := 0) rfl) rfl) ?_
  intro a henv
  refine seq_step rfl (op_call henv rfl Tryd.call22 rfl (g_join_long2 (hst.pat (k := 3) rfl) (hst.pat (k := 2) rfl) (hst.pat (k := 1) rfl) (hst.pat (k := 0) rfl) hR0 hR1 hv hw) ?_)
  rintro e w58 ⟨rfl, hb⟩
  refine ⟨_, rfl, ?_⟩
  clear henv a; intro a henv
  replace hst := hst.call hb
  clear hb
  revert a
  refine mA rfl rfl ?_
  refine sA (v := .agg #[.int .i64 0, .int .i64 0, .slice none 0 0, .slice none 0 0]) rfl (fun _ henv => rn_extract henv rfl rfl) ?_
  refine sA (v := .int .i64 3) rfl (fun _ henv => rn_extract henv rfl rfl) ?_
  intro a henv
  refine seq_step rfl (op_alloc (c := #[.int .i64 0, .int .i64 0, .slice none 0 0, .slice none 0 0]) henv hst rfl zero_anvil_api_Prog rfl ?_)
  clear henv hst a; intro a w60 g59 henv hst
  refine seq_step rfl (op_store (k := 0) (c' := #[.int .i64 0, .int .i64 0, .slice none 0 0, .slice none 0 0]) henv hst (ty_anvil_api_Prog.size) rfl rfl rfl rfl (by simp) rfl rfl ?_)
  clear henv hst a; intro a w61 henv hst
  refine sv (v := .int .i64 3) henv rfl (rn_assign henv rfl) ?_
  clear henv a; intro a henv
  refine wpList_nil ?_
  refine th_n ?_
  refine wp_seq ?_
  refine region_any (n := 6) (Sk [bk g59 #[.int .i64 0, .int .i64 0, .slice none 0 0, .slice none 0 0] 25, bk g53 #[.int .i64 (n1 : Nat), .int .i64 (g2 : Nat), .slice A2 n2 c2, .slice A3 n3 c3] 25, bk g51 #[.int .i64 i, .int .i64 (g : Nat), .slice A0 n0 c0, .slice A1 n1 c1] 25] [pfRow fI FI 1 A3 n3 c3 es3, pfRow fJ FJ 5 A2 n2 c2 es2, pfRow fI FI 1 A1 n1 c1 es1, pfRow fJ FJ 5 A0 n0 c0 es0] [] []) mixed rfl henv hst ?_
  clear henv hst; intro w62 henv hst
  refine tL (i := 0) 2 2 [1, 3, 4, 5] rfl (by kernel_rfl) (fun _ _ _ h => h) henv rfl ty_anvil_api_Prog rfl hst rfl rfl rfl ?_
  clear henv a; intro a henv
  refine tL (i := 2) 1 1 [3, 4, 5] rfl (by kernel_rfl) (fun _ _ _ h => h) henv rfl ty_anvil_api_Prog rfl hst rfl rfl rfl ?_
  clear henv a; intro a henv
  refine sAny_one (i := 1) (by kernel_rfl) rfl rfl (op_call henv rfl Tryd.call15 rfl (r_right_ok (hst.pat (k := 3) rfl) (hst.pat (k := 2) rfl) hR0) ?_)
  rintro e w63 ⟨rfl, hb⟩
  refine ⟨_, rfl, ?_⟩
  clear henv a; intro a henv
  replace hst := hst.call hb
  clear hb
  refine ⟨.inr ⟨hst.kn.pick [0, 1, 2] (rg 0 4), .inr (hst.kn.pick [] [])⟩, ?_⟩
  refine sAny_one (i := 3) (by kernel_rfl) rfl rfl (op_call henv rfl Tryd.call15 rfl (r_right_ok (hst.pat (k := 1) rfl) (hst.pat (k := 0) rfl) hR1) ?_)
  rintro e w64 ⟨rfl, hb⟩
  refine ⟨_, rfl, ?_⟩
  clear henv a; intro a henv
  replace hst := hst.call hb
  clear hb
  refine ⟨.inr ⟨hst.kn.pick [0, 1, 2] (rg 0 4), .inr (hst.kn.pick [] [])⟩, ?_⟩
  refine tA (i := 4) [5] (v := .bool true) rfl (by kernel_rfl) (fun _ _ _ h => h) henv rfl (fun _ => rn_assign henv rfl) ?_
  clear henv a; intro a henv
  refine tA (i := 5) [] (v := .bool true) rfl (by kernel_rfl) (fun _ _ _ h => h) henv rfl (fun _ => rn_assign henv rfl) ?_
  clear henv a; intro a henv
  refine sAny_done (by kernel_rfl) ?_ _
  refine th_n ?_
  refine wp_seq ?_
  refine wp_seq ?_
  refine region_seq ?_
  revert a
  refine mA rfl rfl ?_
  refine sA (v := .bool false) rfl (fun _ henv => rn_un henv rfl rfl) ?_
  refine mA rfl rfl ?_
  refine gA (v := .bool true) rfl rfl rfl rfl (fun _ henv => rn_move henv rfl) ?_
  refine gA (v := .bool false) rfl rfl rfl rfl (fun _ henv => rn_un henv rfl rfl) ?_
  refine sA (v := .bool false) rfl (fun _ henv => rn_pick henv rfl rfl) ?_
  intro a henv
  refine wpList_nil ?_
  refine th_n ?_
  refine if_f henv rfl (rfl) ?_
  refine wp_skip ?_
  refine th_n ?_
  refine wp_seq ?_
  refine region_seq ?_
  revert a
  refine sA (v := .agg #[.int .i64 i, .int .i64 (g : Nat), .slice A0 n0 c0, .slice A1 n1 c1]) rfl (fun _ henv => rn_load0 henv ty_anvil_api_Prog rfl (hst.oat (k := 2) rfl) rfl) ?_
  refine sA (v := .agg #[.int .i64 (n1 : Nat), .int .i64 (g2 : Nat), .slice A2 n2 c2, .slice A3 n3 c3]) rfl (fun _ henv => rn_load0 henv ty_anvil_api_Prog rfl (hst.oat (k := 1) rfl) rfl) ?_
  intro a henv
  refine seq_step rfl (op_call henv rfl Tryd.call24 rfl (r_join_long2 (hst.pat (k := 3) rfl) (hst.pat (k := 2) rfl) (hst.pat (k := 1) rfl) (hst.pat (k := 0) rfl) hR0 hR1 hv hw) ?_)
  rintro e w65 ⟨rfl, hb⟩
  refine ⟨_, rfl, ?_⟩
  clear henv a; intro a henv
  replace hst := hst.call hb
  clear hb
  revert a
  refine mA rfl rfl ?_
  refine sA (v := .agg #[.int .i64 0, .int .i64 0, .slice none 0 0, .slice none 0 0]) rfl (fun _ henv => rn_extract henv rfl rfl) ?_
  refine sA (v := .int .i64 3) rfl (fun _ henv => rn_extract henv rfl rfl) ?_
  intro a henv
  refine seq_step rfl (op_alloc (c := #[.int .i64 0, .int .i64 0, .slice none 0 0, .slice none 0 0]) henv hst rfl zero_anvil_api_Prog rfl ?_)
  clear henv hst a; intro a w67 g66 henv hst
  refine seq_step rfl (op_store (k := 0) (c' := #[.int .i64 0, .int .i64 0, .slice none 0 0, .slice none 0 0]) henv hst (ty_anvil_api_Prog.size) rfl rfl rfl rfl (by simp) rfl rfl ?_)
  clear henv hst a; intro a w68 henv hst
  refine sv (v := .int .i64 3) henv rfl (rn_assign henv rfl) ?_
  clear henv a; intro a henv
  refine wpList_nil ?_
  refine th_n ?_
  refine wp_seq ?_
  refine wp_seq ?_
  refine region_seq ?_
  revert a
  refine mA rfl rfl ?_
  refine mA rfl rfl ?_
  refine sA (v := .bool false) rfl (fun _ henv => rn_bin henv rfl rfl rfl) ?_
  refine mA rfl rfl ?_
  refine gA (v := .agg #[.int .i64 0, .int .i64 0, .slice none 0 0, .slice none 0 0]) rfl rfl rfl rfl (fun _ henv => rn_load0 henv ty_anvil_api_Prog rfl (hst.oat (k := 1) rfl) rfl) ?_
  refine gA (v := .agg #[.int .i64 0, .int .i64 0, .slice none 0 0, .slice none 0 0]) rfl rfl rfl rfl (fun _ henv => rn_load0 henv ty_anvil_api_Prog rfl (hst.oat (k := 0) rfl) rfl) ?_
  intro a henv
  refine seq_g rfl henv rfl rfl (op_call henv rfl Tryd.call16 rfl (r_same (i := (0 : Int)) (g := (0 : Int)) (i2 := (0 : Int)) (g2 := (0 : Int)) (row_nil fJ FJ 5 _) (row_nil fI FI 1 _) (row_nil fJ FJ 5 _) (row_nil fI FI 1 _)) ?_)
  rintro e w69 ⟨rfl, hb⟩
  refine ⟨_, rfl, ?_⟩
  clear henv a; intro a henv
  replace hst := hst.call hb
  clear hb
  rw [show (decide ((0 : Int) = (0 : Int) ∧ (0 : Int) = (0 : Int) ∧ ([] : List IE) = ([] : List IE) ∧ ([] : List Int) = ([] : List Int))) = true from (decide_eq_true ⟨rfl, rfl, rfl, rfl⟩)] at henv
  revert a
  refine gA (v := .bool false) rfl rfl rfl rfl (fun _ henv => rn_un henv rfl rfl) ?_
  refine sA (v := .bool false) rfl (fun _ henv => rn_pick henv rfl rfl) ?_
  refine mA rfl rfl ?_
  intro a henv
  refine seq_g rfl henv rfl rfl (op_call henv rfl Tryd.call10 rfl g_live ?_)
  rintro e w70 ⟨rfl, hb⟩
  refine ⟨_, rfl, ?_⟩
  clear henv a; intro a henv
  replace hst := hst.call hb
  clear hb
  revert a
  refine gA (v := .bool false) rfl rfl rfl rfl (fun _ henv => rn_un henv rfl rfl) ?_
  refine sA (v := .bool false) rfl (fun _ henv => rn_pick henv rfl rfl) ?_
  intro a henv
  refine wpList_nil ?_
  refine th_n ?_
  refine if_f henv rfl (rfl) ?_
  refine wp_skip ?_
  refine th_n ?_
  refine wp_seq ?_
  refine wp_seq ?_
  refine region_seq ?_
  revert a
  refine mA rfl rfl ?_
  refine sA (v := .bool true) rfl (fun _ henv => rn_bin henv rfl rfl rfl) ?_
  intro a henv
  refine wpList_nil ?_
  refine th_n ?_
  refine if_t henv rfl (rfl) ?_
  refine wp_seq ?_
  refine region_seq ?_
  refine sv (v := .bool true) henv rfl (rn_assign henv rfl) ?_
  clear henv a; intro a henv
  refine wpList_nil ?_
  refine th_n ?_
  refine wp_ret ?_
  refine th_r ?_
  refine leave henv (res1 Tryd.results6 (RV.tmp henv rfl)) ?_
  exact ⟨rfl, hst.below⟩
set_option maxRecDepth 100000 in
set_option maxHeartbeats 4000000 in
theorem gjoins_ok {i : Int} {g g2 : Nat} {A0 A1 A2 A3 : Option Addr} {n0 c0 n1 c1 n2 c2 n3 c3 : Nat} {es0 : List IE} {es1 : List Int} {es2 : List IE} {es3 : List Int} {w0 : World} (h0 : (pfRow fJ FJ 5 A0 n0 c0 es0).P w0) (h1 : (pfRow fI FI 1 A1 n1 c1 es1).P w0) (h2 : (pfRow fJ FJ 5 A2 n2 c2 es2).P w0) (h3 : (pfRow fI FI 1 A3 n3 c3 es3).P w0) (hv0 : ¬ (400 < n0 ∨ 400 < n1)) (hv2 : ¬ (400 < n2 ∨ 400 < n3)) (hR0 : Right i g n0 n1 es0 es1) (hR1 : Right (n1 : Nat) g2 n2 n3 es2 es3) (hv : g + g2 ≤ 128) (hw : n0 + n1 + n2 ≤ 16384) :
    Calls Tryd.prog 6 #[.agg #[.int .i64 i, .int .i64 (g : Nat), .slice A0 n0 c0, .slice A1 n1 c1], .agg #[.int .i64 (n1 : Nat), .int .i64 (g2 : Nat), .slice A2 n2 c2, .slice A3 n3 c3]] w0 fun e w' => e = .returned (.bool true) ∧ Below w0.heap.size w0 w' := by
  refine enter Tryd.func6 rfl Tryd.ntmps6 rfl ?_
  intro a henv hst
  have hlen0 := h0.2.1
  have hbig0 := Nat.le_trans h0.1.cap h0.1.big
  unfold maxLen at hbig0
  have hlen1 := h1.2.1
  have hbig1 := Nat.le_trans h1.1.cap h1.1.big
  unfold maxLen at hbig1
  have hlen2 := h2.2.1
  have hbig2 := Nat.le_trans h2.1.cap h2.1.big
  unfold maxLen at hbig2
  have hlen3 := h3.2.1
  have hbig3 := Nat.le_trans h3.1.cap h3.1.big
  unfold maxLen at hbig3
  replace hst := hst.argRow h0
  replace hst := hst.argRow h1
  replace hst := hst.argRow h2
  replace hst := hst.argRow h3
  clear h0 h1 h2 h3
  have hRj := right_join hR0 hR1 hlen1 rfl (by omega) hw
  have hlc : (jnC (g : Int) es0 es1 es2).length = n0 + n1 + n2 := by rw [jnC_len, hlen0, hlen1, hlen2]
  have hlo : (jnO (g : Int) es3).length = n3 := by rw [jnO, List.length_map, hlen3]
  have hd0 := dpt_bd g es0 es1
  have hd1 := dpt_bd g2 es2 es3
  have hdj := dpt_bd (g + g2) (jnC (g : Int) es0 es1 es2) (jnO (g : Int) es3)
  have hdd := join_depth hR0 hR1
  refine wp_seq ?_
  refine region_seq ?_
  refine seq_step rfl (op_box (c := #[.int .i64 i, .int .i64 (g : Nat), .slice A0 n0 c0, .slice A1 n1 c1]) henv hst rfl rfl rfl ?_)
  clear henv hst a; intro a w52 g51 henv hst
  refine seq_step rfl (op_box (c := #[.int .i64 (n1 : Nat), .int .i64 (g2 : Nat), .slice A2 n2 c2, .slice A3 n3 c3]) henv hst rfl rfl rfl ?_)
  clear henv hst a; intro a w54 g53 henv hst
  refine sv (v := .bool false) henv rfl (rn_assign henv rfl) ?_
  clear henv a; intro a henv
  refine wpList_nil ?_
  refine th_n ?_
  refine wp_seq ?_
  refine wp_seq ?_
  refine region_seq ?_
  refine seq_step rfl (op_call henv rfl Tryd.call10 rfl g_live ?_)
  rintro e w55 ⟨rfl, hb⟩
  refine ⟨_, rfl, ?_⟩
  clear henv a; intro a henv
  replace hst := hst.call hb
  clear hb
  refine sv (v := .bool false) henv rfl (rn_un henv rfl rfl) ?_
  clear henv a; intro a henv
  refine wpList_nil ?_
  refine th_n ?_
  refine if_f henv rfl (rfl) ?_
  refine wp_skip ?_
  refine th_n ?_
  refine wp_seq ?_
  refine wp_seq ?_
  refine region_seq ?_
  refine sv (v := .agg #[.int .i64 i, .int .i64 (g : Nat), .slice A0 n0 c0, .slice A1 n1 c1]) henv rfl (rn_load0 henv ty_anvil_api_Prog rfl (hst.oat (k := 1) rfl) rfl) ?_
  clear henv a; intro a henv
  refine seq_step rfl (op_call henv rfl Tryd.call13 rfl (g_long (i := i) (g := (g : Nat)) (A0 := A0) (n0 := n0) (c0 := c0) (A1 := A1) (n1 := n1) (c1 := c1)) ?_)
  rintro e w56 ⟨rfl, hb⟩
  refine ⟨_, rfl, ?_⟩
  clear henv a; intro a henv
  replace hst := hst.call hb
  clear hb
  rw [show (decide (400 < n0 ∨ 400 < n1)) = false from (decide_eq_false hv0)] at henv
  revert a
  refine mA rfl rfl ?_
  refine gA (v := .agg #[.int .i64 (n1 : Nat), .int .i64 (g2 : Nat), .slice A2 n2 c2, .slice A3 n3 c3]) rfl rfl rfl rfl (fun _ henv => rn_load0 henv ty_anvil_api_Prog rfl (hst.oat (k := 0) rfl) rfl) ?_
  intro a henv
  refine seq_g rfl henv rfl rfl (op_call henv rfl Tryd.call13 rfl (g_long (i := (n1 : Nat)) (g := (g2 : Nat)) (A0 := A2) (n0 := n2) (c0 := c2) (A1 := A3) (n1 := n3) (c1 := c3)) ?_)
  rintro e w57 ⟨rfl, hb⟩
  refine ⟨_, rfl, ?_⟩
  clear henv a; intro a henv
  replace hst := hst.call hb
  clear hb
  rw [show (decide (400 < n2 ∨ 400 < n3)) = false from (decide_eq_false hv2)] at henv
  refine sv (v := .bool false) henv rfl (rn_pick henv rfl rfl) ?_
  clear henv a; intro a henv
  refine wpList_nil ?_
  refine th_n ?_
  refine if_f henv rfl (rfl) ?_
  refine wp_skip ?_
  refine th_n ?_
  refine wp_seq ?_
  refine region_seq ?_
  revert a
  refine sA (v := .agg #[.int .i64 i, .int .i64 (g : Nat), .slice A0 n0 c0, .slice A1 n1 c1]) rfl (fun _ henv => rn_load0 henv ty_anvil_api_Prog rfl (hst.oat (k := 1) rfl) rfl) ?_
  refine sA (v := .agg #[.int .i64 (n1 : Nat), .int .i64 (g2 : Nat), .slice A2 n2 c2, .slice A3 n3 c3]) rfl (fun _ henv => rn_load0 henv ty_anvil_api_Prog rfl (hst.oat (k := 0) rfl) rfl) ?_
  intro a henv
  refine seq_step rfl (op_call henv rfl Tryd.call22 rfl (g_join_ok (hst.pat (k := 3) rfl) (hst.pat (k := 2) rfl) (hst.pat (k := 1) rfl) (hst.pat (k := 0) rfl) hR0 hR1 hv hw) ?_)
  rintro e w62 ⟨A58, c59, A60, c61, rfl, ⟨hr, hr2, hap⟩, hb⟩
  refine ⟨_, rfl, ?_⟩
  clear henv a; intro a henv
  replace hst := hst.fresh2 hb hr hlc (fun _ _ _ _ _ q => by obtain ⟨_, _, q⟩ := q; cases q) hr2 hlo (fun _ _ _ _ _ q => by obtain ⟨_, _, q⟩ := q; cases q)
  clear hr
  clear hr2 hap
  clear hb
  revert a
  refine mA rfl rfl ?_
  refine sA (v := .agg #[.int .i64 i, .int .i64 (g + g2 : Nat), .slice A58 (n0 + n1 + n2) c59, .slice A60 n3 c61]) rfl (fun _ henv => rn_extract henv rfl rfl) ?_
  refine sA (v := .int .i64 0) rfl (fun _ henv => rn_extract henv rfl rfl) ?_
  intro a henv
  refine seq_step rfl (op_alloc (c := #[.int .i64 0, .int .i64 0, .slice none 0 0, .slice none 0 0]) henv hst rfl zero_anvil_api_Prog rfl ?_)
  clear henv hst a; intro a w64 g63 henv hst
  refine seq_step rfl (op_store (k := 0) (c' := #[.int .i64 i, .int .i64 (g + g2 : Nat), .slice A58 (n0 + n1 + n2) c59, .slice A60 n3 c61]) henv hst (ty_anvil_api_Prog.size) rfl rfl rfl rfl (by simp) rfl rfl ?_)
  clear henv hst a; intro a w65 henv hst
  refine sv (v := .int .i64 0) henv rfl (rn_assign henv rfl) ?_
  clear henv a; intro a henv
  refine wpList_nil ?_
  refine th_n ?_
  refine wp_seq ?_
  refine region_any (n := 6) (Sk [bk g63 #[.int .i64 i, .int .i64 (g + g2 : Nat), .slice A58 (n0 + n1 + n2) c59, .slice A60 n3 c61] 25, bk g53 #[.int .i64 (n1 : Nat), .int .i64 (g2 : Nat), .slice A2 n2 c2, .slice A3 n3 c3] 25, bk g51 #[.int .i64 i, .int .i64 (g : Nat), .slice A0 n0 c0, .slice A1 n1 c1] 25] [pfRow fI FI 1 A60 n3 c61 (jnO (g : Int) es3), pfRow fJ FJ 5 A58 (n0 + n1 + n2) c59 (jnC (g : Int) es0 es1 es2), pfRow fI FI 1 A3 n3 c3 es3, pfRow fJ FJ 5 A2 n2 c2 es2, pfRow fI FI 1 A1 n1 c1 es1, pfRow fJ FJ 5 A0 n0 c0 es0] [] []) mixed rfl henv hst ?_
  clear henv hst; intro w66 henv hst
  refine tL (i := 0) 2 2 [1, 3, 4, 5] rfl (by kernel_rfl) (fun _ _ _ h => h) henv rfl ty_anvil_api_Prog rfl hst rfl rfl rfl ?_
  clear henv a; intro a henv
  refine tL (i := 2) 1 1 [3, 4, 5] rfl (by kernel_rfl) (fun _ _ _ h => h) henv rfl ty_anvil_api_Prog rfl hst rfl rfl rfl ?_
  clear henv a; intro a henv
  refine sAny_one (i := 1) (by kernel_rfl) rfl rfl (op_call henv rfl Tryd.call15 rfl (r_right_ok (hst.pat (k := 5) rfl) (hst.pat (k := 4) rfl) hR0) ?_)
  rintro e w67 ⟨rfl, hb⟩
  refine ⟨_, rfl, ?_⟩
  clear henv a; intro a henv
  replace hst := hst.call hb
  clear hb
  refine ⟨.inr ⟨hst.kn.pick [0, 1, 2] (rg 0 6), .inr (hst.kn.pick [] [])⟩, ?_⟩
  refine sAny_one (i := 3) (by kernel_rfl) rfl rfl (op_call henv rfl Tryd.call15 rfl (r_right_ok (hst.pat (k := 3) rfl) (hst.pat (k := 2) rfl) hR1) ?_)
  rintro e w68 ⟨rfl, hb⟩
  refine ⟨_, rfl, ?_⟩
  clear henv a; intro a henv
  replace hst := hst.call hb
  clear hb
  refine ⟨.inr ⟨hst.kn.pick [0, 1, 2] (rg 0 6), .inr (hst.kn.pick [] [])⟩, ?_⟩
  refine tA (i := 4) [5] (v := .bool true) rfl (by kernel_rfl) (fun _ _ _ h => h) henv rfl (fun _ => rn_assign henv rfl) ?_
  clear henv a; intro a henv
  refine tA (i := 5) [] (v := .bool true) rfl (by kernel_rfl) (fun _ _ _ h => h) henv rfl (fun _ => rn_assign henv rfl) ?_
  clear henv a; intro a henv
  refine sAny_done (by kernel_rfl) ?_ _
  refine th_n ?_
  refine wp_seq ?_
  refine wp_seq ?_
  refine region_seq ?_
  revert a
  refine mA rfl rfl ?_
  refine sA (v := .bool false) rfl (fun _ henv => rn_un henv rfl rfl) ?_
  refine mA rfl rfl ?_
  refine gA (v := .bool true) rfl rfl rfl rfl (fun _ henv => rn_move henv rfl) ?_
  refine gA (v := .bool false) rfl rfl rfl rfl (fun _ henv => rn_un henv rfl rfl) ?_
  refine sA (v := .bool false) rfl (fun _ henv => rn_pick henv rfl rfl) ?_
  intro a henv
  refine wpList_nil ?_
  refine th_n ?_
  refine if_f henv rfl (rfl) ?_
  refine wp_skip ?_
  refine th_n ?_
  refine wp_seq ?_
  refine region_seq ?_
  revert a
  refine sA (v := .agg #[.int .i64 i, .int .i64 (g : Nat), .slice A0 n0 c0, .slice A1 n1 c1]) rfl (fun _ henv => rn_load0 henv ty_anvil_api_Prog rfl (hst.oat (k := 2) rfl) rfl) ?_
  refine sA (v := .agg #[.int .i64 (n1 : Nat), .int .i64 (g2 : Nat), .slice A2 n2 c2, .slice A3 n3 c3]) rfl (fun _ henv => rn_load0 henv ty_anvil_api_Prog rfl (hst.oat (k := 1) rfl) rfl) ?_
  intro a henv
  refine seq_step rfl (op_call henv rfl Tryd.call24 rfl (r_join_ok (hst.pat (k := 5) rfl) (hst.pat (k := 4) rfl) (hst.pat (k := 3) rfl) (hst.pat (k := 2) rfl) hR0 hR1 hv hw) ?_)
  rintro e w73 ⟨A69, c70, A71, c72, rfl, ⟨hr, hr2, hap⟩, hb⟩
  refine ⟨_, rfl, ?_⟩
  clear henv a; intro a henv
  replace hst := hst.fresh2 hb hr hlc (fun _ _ _ _ _ q => by obtain ⟨_, _, q⟩ := q; cases q) hr2 hlo (fun _ _ _ _ _ q => by obtain ⟨_, _, q⟩ := q; cases q)
  clear hr
  clear hr2 hap
  clear hb
  revert a
  refine mA rfl rfl ?_
  refine sA (v := .agg #[.int .i64 i, .int .i64 (g + g2 : Nat), .slice A69 (n0 + n1 + n2) c70, .slice A71 n3 c72]) rfl (fun _ henv => rn_extract henv rfl rfl) ?_
  refine sA (v := .int .i64 0) rfl (fun _ henv => rn_extract henv rfl rfl) ?_
  intro a henv
  refine seq_step rfl (op_alloc (c := #[.int .i64 0, .int .i64 0, .slice none 0 0, .slice none 0 0]) henv hst rfl zero_anvil_api_Prog rfl ?_)
  clear henv hst a; intro a w75 g74 henv hst
  refine seq_step rfl (op_store (k := 0) (c' := #[.int .i64 i, .int .i64 (g + g2 : Nat), .slice A69 (n0 + n1 + n2) c70, .slice A71 n3 c72]) henv hst (ty_anvil_api_Prog.size) rfl rfl rfl rfl (by simp) rfl rfl ?_)
  clear henv hst a; intro a w76 henv hst
  refine sv (v := .int .i64 0) henv rfl (rn_assign henv rfl) ?_
  clear henv a; intro a henv
  refine wpList_nil ?_
  refine th_n ?_
  refine wp_seq ?_
  refine wp_seq ?_
  refine region_seq ?_
  revert a
  refine mA rfl rfl ?_
  refine mA rfl rfl ?_
  refine sA (v := .bool false) rfl (fun _ henv => rn_bin henv rfl rfl rfl) ?_
  refine mA rfl rfl ?_
  refine gA (v := .agg #[.int .i64 i, .int .i64 (g + g2 : Nat), .slice A58 (n0 + n1 + n2) c59, .slice A60 n3 c61]) rfl rfl rfl rfl (fun _ henv => rn_load0 henv ty_anvil_api_Prog rfl (hst.oat (k := 1) rfl) rfl) ?_
  refine gA (v := .agg #[.int .i64 i, .int .i64 (g + g2 : Nat), .slice A69 (n0 + n1 + n2) c70, .slice A71 n3 c72]) rfl rfl rfl rfl (fun _ henv => rn_load0 henv ty_anvil_api_Prog rfl (hst.oat (k := 0) rfl) rfl) ?_
  intro a henv
  refine seq_g rfl henv rfl rfl (op_call henv rfl Tryd.call16 rfl (r_same (i := (i : Int)) (g := ((g + g2 : Nat) : Int)) (i2 := (i : Int)) (g2 := ((g + g2 : Nat) : Int)) (hst.pat (k := 3) rfl) (hst.pat (k := 2) rfl) (hst.pat (k := 1) rfl) (hst.pat (k := 0) rfl)) ?_)
  rintro e w77 ⟨rfl, hb⟩
  refine ⟨_, rfl, ?_⟩
  clear henv a; intro a henv
  replace hst := hst.call hb
  clear hb
  rw [show (decide ((i : Int) = (i : Int) ∧ ((g + g2 : Nat) : Int) = ((g + g2 : Nat) : Int) ∧ (jnC (g : Int) es0 es1 es2) = (jnC (g : Int) es0 es1 es2) ∧ (jnO (g : Int) es3) = (jnO (g : Int) es3))) = true from (decide_eq_true ⟨rfl, rfl, rfl, rfl⟩)] at henv
  revert a
  refine gA (v := .bool false) rfl rfl rfl rfl (fun _ henv => rn_un henv rfl rfl) ?_
  refine sA (v := .bool false) rfl (fun _ henv => rn_pick henv rfl rfl) ?_
  refine mA rfl rfl ?_
  intro a henv
  refine seq_g rfl henv rfl rfl (op_call henv rfl Tryd.call10 rfl g_live ?_)
  rintro e w78 ⟨rfl, hb⟩
  refine ⟨_, rfl, ?_⟩
  clear henv a; intro a henv
  replace hst := hst.call hb
  clear hb
  revert a
  refine gA (v := .bool false) rfl rfl rfl rfl (fun _ henv => rn_un henv rfl rfl) ?_
  refine sA (v := .bool false) rfl (fun _ henv => rn_pick henv rfl rfl) ?_
  intro a henv
  refine wpList_nil ?_
  refine th_n ?_
  refine if_f henv rfl (rfl) ?_
  refine wp_skip ?_
  refine th_n ?_
  refine wp_seq ?_
  refine wp_seq ?_
  refine region_seq ?_
  revert a
  refine mA rfl rfl ?_
  refine sA (v := .bool false) rfl (fun _ henv => rn_bin henv rfl rfl rfl) ?_
  intro a henv
  refine wpList_nil ?_
  refine th_n ?_
  refine if_f henv rfl (rfl) ?_
  refine wp_skip ?_
  refine th_n ?_
  refine wp_seq ?_
  refine region_seq ?_
  refine sv (v := .agg #[.int .i64 i, .int .i64 (g : Nat), .slice A0 n0 c0, .slice A1 n1 c1]) henv rfl (rn_load0 henv ty_anvil_api_Prog rfl (hst.oat (k := 3) rfl) rfl) ?_
  clear henv a; intro a henv
  refine seq_step rfl (op_call henv rfl Tryd.call25 rfl (g_depth (g := g) (hst.pat (k := 7) rfl) (hst.pat (k := 6) rfl) hR0) ?_)
  rintro e w79 ⟨rfl, hb⟩
  refine ⟨_, rfl, ?_⟩
  clear henv a; intro a henv
  replace hst := hst.call hb
  clear hb
  revert a
  refine mA rfl rfl ?_
  refine sA (v := .int .i64 (dpt g es0 es1)) rfl (fun _ henv => rn_extract henv rfl rfl) ?_
  refine sA (v := .int .i64 0) rfl (fun _ henv => rn_extract henv rfl rfl) ?_
  refine aA rfl rfl ?_
  refine aA rfl rfl ?_
  intro a henv
  refine wpList_nil ?_
  refine th_n ?_
  refine wp_seq ?_
  refine region_seq ?_
  refine sv (v := .agg #[.int .i64 (n1 : Nat), .int .i64 (g2 : Nat), .slice A2 n2 c2, .slice A3 n3 c3]) henv rfl (rn_load0 henv ty_anvil_api_Prog rfl (hst.oat (k := 2) rfl) rfl) ?_
  clear henv a; intro a henv
  refine seq_step rfl (op_call henv rfl Tryd.call25 rfl (g_depth (g := g2) (hst.pat (k := 5) rfl) (hst.pat (k := 4) rfl) hR1) ?_)
  rintro e w80 ⟨rfl, hb⟩
  refine ⟨_, rfl, ?_⟩
  clear henv a; intro a henv
  replace hst := hst.call hb
  clear hb
  revert a
  refine mA rfl rfl ?_
  refine sA (v := .int .i64 (dpt g2 es2 es3)) rfl (fun _ henv => rn_extract henv rfl rfl) ?_
  refine sA (v := .int .i64 0) rfl (fun _ henv => rn_extract henv rfl rfl) ?_
  refine aA rfl rfl ?_
  refine aA rfl rfl ?_
  intro a henv
  refine wpList_nil ?_
  refine th_n ?_
  refine wp_seq ?_
  refine region_seq ?_
  refine sv (v := .agg #[.int .i64 i, .int .i64 (g + g2 : Nat), .slice A58 (n0 + n1 + n2) c59, .slice A60 n3 c61]) henv rfl (rn_load0 henv ty_anvil_api_Prog rfl (hst.oat (k := 1) rfl) rfl) ?_
  clear henv a; intro a henv
  refine seq_step rfl (op_call henv rfl Tryd.call25 rfl (g_depth (g := (g + g2)) (hst.pat (k := 3) rfl) (hst.pat (k := 2) rfl) hRj) ?_)
  rintro e w81 ⟨rfl, hb⟩
  refine ⟨_, rfl, ?_⟩
  clear henv a; intro a henv
  replace hst := hst.call hb
  clear hb
  revert a
  refine mA rfl rfl ?_
  refine sA (v := .int .i64 (dpt (g + g2) (jnC (g : Int) es0 es1 es2) (jnO (g : Int) es3))) rfl (fun _ henv => rn_extract henv rfl rfl) ?_
  refine sA (v := .int .i64 0) rfl (fun _ henv => rn_extract henv rfl rfl) ?_
  refine aA rfl rfl ?_
  refine aA rfl rfl ?_
  intro a henv
  refine wpList_nil ?_
  refine th_n ?_
  refine wp_seq ?_
  refine region_seq ?_
  refine sv (v := .agg #[.int .i64 i, .int .i64 (g + g2 : Nat), .slice A58 (n0 + n1 + n2) c59, .slice A60 n3 c61]) henv rfl (rn_load0 henv ty_anvil_api_Prog rfl (hst.oat (k := 1) rfl) rfl) ?_
  clear henv a; intro a henv
  refine seq_step rfl (op_call henv rfl Tryd.call11 rfl (g_check_ok_ (hst.pat (k := 3) rfl) (hst.pat (k := 2) rfl) hRj) ?_)
  rintro e w82 ⟨rfl, hb⟩
  refine ⟨_, rfl, ?_⟩
  clear henv a; intro a henv
  replace hst := hst.call hb
  clear hb
  revert a
  refine mA rfl rfl ?_
  refine sA (v := .int .i64 0) rfl (fun _ henv => rn_extract henv rfl rfl) ?_
  refine sA (v := .int .i64 0) rfl (fun _ henv => rn_extract henv rfl rfl) ?_
  refine aA rfl rfl ?_
  refine aA rfl rfl ?_
  intro a henv
  refine wpList_nil ?_
  refine th_n ?_
  refine wp_seq ?_
  refine region_seq ?_
  revert a
  refine mA rfl rfl ?_
  refine sA (v := .bool true) rfl (fun _ henv => rn_bin henv rfl rfl rfl) ?_
  refine mA rfl rfl ?_
  refine gA (v := .int .i64 0) rfl rfl rfl rfl (fun _ henv => rn_move henv rfl) ?_
  refine gA (v := .bool true) rfl rfl rfl rfl (fun _ henv => rn_bin henv rfl rfl rfl) ?_
  refine sA (v := .bool true) rfl (fun _ henv => rn_pick henv rfl rfl) ?_
  refine mA rfl rfl ?_
  refine gA (v := .int .i64 (dpt (g + g2) (jnC (g : Int) es0 es1 es2) (jnO (g : Int) es3))) rfl rfl rfl rfl (fun _ henv => rn_move henv rfl) ?_
  refine gA (v := .int .i64 (dpt g es0 es1)) rfl rfl rfl rfl (fun _ henv => rn_move henv rfl) ?_
  refine gA (v := .int .i64 (dpt g2 es2 es3)) rfl rfl rfl rfl (fun _ henv => rn_move henv rfl) ?_
  refine gA (v := .int .i64 ((dpt g es0 es1) + (dpt g2 es2 es3))) rfl rfl rfl rfl (fun _ henv => rn_add henv rfl rfl (IntWalk.i64_in _ (by omega))) ?_
  refine gA (v := .int .i64 (((dpt g es0 es1) + (dpt g2 es2 es3)) + (1 : Int))) rfl rfl rfl rfl (fun _ henv => rn_add henv rfl rfl (IntWalk.i64_in _ (by omega))) ?_
  refine gA (v := .bool (decide ((dpt (g + g2) (jnC (g : Int) es0 es1 es2) (jnO (g : Int) es3)) ≤ ((dpt g es0 es1) + (dpt g2 es2 es3)) + (1 : Int)))) rfl rfl rfl rfl (fun _ henv => rn_bin henv rfl rfl rfl) ?_
  intro a henv
  rw [show (decide ((dpt (g + g2) (jnC (g : Int) es0 es1 es2) (jnO (g : Int) es3)) ≤ ((dpt g es0 es1) + (dpt g2 es2 es3)) + (1 : Int))) = true from (decide_eq_true hdd)] at henv
  revert a
  refine sA (v := .bool true) rfl (fun _ henv => rn_pick henv rfl rfl) ?_
  refine aA rfl rfl ?_
  intro a henv
  refine wpList_nil ?_
  refine th_n ?_
  refine wp_ret ?_
  refine leave henv (res1 Tryd.results6 (RV.tmp henv rfl)) ?_
  exact ⟨rfl, hst.below⟩
theorem gjoins_law {i i2 g g2 : Int} {A0 A1 A2 A3 : Option Addr} {n0 c0 n1 c1 n2 c2 n3 c3 : Nat} {es0 : List IE} {es1 : List Int} {es2 : List IE} {es3 : List Int} {w0 : World} (h0 : (pfRow fJ FJ 5 A0 n0 c0 es0).P w0) (h1 : (pfRow fI FI 1 A1 n1 c1 es1).P w0) (h2 : (pfRow fJ FJ 5 A2 n2 c2 es2).P w0) (h3 : (pfRow fI FI 1 A3 n3 c3 es3).P w0) :
    Calls Tryd.prog 6 #[.agg #[.int .i64 i, .int .i64 g, .slice A0 n0 c0, .slice A1 n1 c1], .agg #[.int .i64 i2, .int .i64 g2, .slice A2 n2 c2, .slice A3 n3 c3]] w0 fun e w' => e = .returned (.bool true) ∧ Below w0.heap.size w0 w' := by
  by_cases a : 400 < n0 ∨ 400 < n1
  · exact gjoins_w0 h0 h1 h2 h3 a
  by_cases b : 400 < n2 ∨ 400 < n3
  · exact gjoins_w1 h0 h1 h2 h3 a b
  rcases right_or i g n0 n1 es0 es1 with p | ⟨k, p⟩ <;> rcases right_or i2 g2 n2 n3 es2 es3 with q | ⟨k2, q⟩
  · obtain ⟨G, rfl⟩ : ∃ G : Nat, g = G := ⟨g.toNat, by have := p.1; unfold HeadOk at this; omega⟩
    obtain ⟨H, rfl⟩ : ∃ H : Nat, g2 = H := ⟨g2.toNat, by have := q.1; unfold HeadOk at this; omega⟩
    by_cases hi : i2 = (n1 : Nat)
    · subst hi
      by_cases hv : G + H ≤ 128
      · by_cases hw : n0 + n1 + n2 ≤ 16384
        · exact gjoins_ok h0 h1 h2 h3 a b p q hv hw
        · exact gjoins_long2 h0 h1 h2 h3 a b p q hv (by omega)
      · exact gjoins_long1 h0 h1 h2 h3 a b p q (by omega)
    · exact gjoins_range h0 h1 h2 h3 a b p q hi
  · exact gjoins_bad10 h0 h1 h2 h3 a b p q
  · exact gjoins_bad01 h0 h1 h2 h3 a b p q
  · exact gjoins_bad00 h0 h1 h2 h3 a b p q
end Go.Proofs.YtbdngknpngcojaaDoor.W
