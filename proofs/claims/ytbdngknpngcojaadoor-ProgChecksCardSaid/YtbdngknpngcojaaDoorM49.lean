/- strconv.Itoa of one digit, live; ProgChecks. Printed by pv/gen_g2.py. No condition. -/
import Derived.Test.YtbdngknpngcojaaDoorM48
import Derived.Test.YtbdngknpngcojaaDoorM15
import Derived.Test.YtbdngknpngcojaaDoorM46
import Derived.Test.YtbdngknpngcojaaDoorM16

namespace Go.Proofs.YtbdngknpngcojaaDoor.W
open Go.RowKit Anv Go.Lib
theorem small_text {n : Nat} (h : n < 10) : (([48, 49, 50, 51, 52, 53, 54, 55, 56, 57, 97, 98, 99, 100, 101, 102, 103, 104, 105, 106, 107, 108, 109, 110, 111, 112, 113, 114, 115, 116, 117, 118, 119, 120, 121, 122] : List UInt8).drop n).take (n + 1 - n) = textZ (n : Nat) := by
  have : ∀ m : Fin 10, (([48, 49, 50, 51, 52, 53, 54, 55, 56, 57, 97, 98, 99, 100, 101, 102, 103, 104, 105, 106, 107, 108, 109, 110, 111, 112, 113, 114, 115, 116, 117, 118, 119, 120, 121, 122] : List UInt8).drop m.1).take (m.1 + 1 - m.1) = textZ (m.1 : Nat) := by decide +kernel
  exact this ⟨n, h⟩
theorem tz1 : textZ 1 = [49] := by decide +kernel
theorem tz0 : textZ 0 = [48] := by decide +kernel
def outT (r : Int) : List UInt8 := 32 :: 114 :: textZ r
theorem one_out : ((([0] : List Int).take 0).flatMap outT) = [] := rfl
theorem one_outs : (([0] : List Int).take 1).flatMap outT = [32, 114, 48] := by simp [outT, tz0]
theorem out_step {X : List UInt8} {es : List Int} {j : Nat} (h : es[j]? = some 0) : (X ++ (es.take j).flatMap outT) ++ ([32] ++ [114, 48]) = X ++ (es.take (j + 1)).flatMap outT := by
  rw [take_one h, List.flatMap_append, List.append_assoc, show ([0] : List Int).flatMap outT = [32] ++ [114, 48] by simp [outT, tz0]]
theorem right_one : Right 1 1 0 1 [] [0] := ⟨by unfold HeadOk; omega, fun x hx => by rw [List.mem_singleton.1 hx]; omega, fun e h => by cases h⟩
section
variable {N : Nat} {dq : List Deferred} {a : Act} {l : List (Nat × Value)} {w : World} {d : Nat} {ty : TypeId} {pos : String} {af : Array Edge} {gd : Option (Nat × Bool)}
theorem rn_prog013 {x0 x1 x3 : Operand} {v0 : Int} {v1 : Int} {A3 : Option Addr} {n3 c3 : Nat} (h : EnvD dq N a l) (h0 : evl l x0 = some (.int .i64 v0)) (h1 : evl l x1 = some (.int .i64 v1)) (h3 : evl l x3 = some (.slice A3 n3 c3)) :
    (execOp a.eval ⟨some d, .build 25 #[(0, x0), (1, x1), (3, x3)], ty, pos, af, gd⟩).run Tryd.prog w = .ok (.value (.agg #[.int .i64 v0, .int .i64 v1, .slice none 0 0, .slice A3 n3 c3])) w := by
  have hz : (zeroValue 25).run Tryd.prog w = .ok (.agg #[.int .i64 0, .int .i64 0, .slice none 0 0, .slice none 0 0]) w := by obtain ⟨i, hi, hv⟩ := zero_anvil_api_Prog; simp [zeroValue, typeInfo, hi, hv]
  simp [execOp, h.ev h0, h.ev h1, h.ev h3, Instr.build, hz, run_underlying Tryd.underlying25, Sem.run_bind, run_sizeOf ty_int.size, run_sizeOf ty__api_Instr.size, run_sizeOf ty__int.size, Instr.fill, Value.cells]
end
set_option maxRecDepth 100000 in
set_option maxHeartbeats 2000000 in
theorem g_small {n : Nat} {w0 : World} (hn : n < 10) :
    Calls Tryd.prog 78 #[.int .i64 (n : Nat)] w0 fun e w' => e = .returned (.string ⟨(textZ (n : Nat)).toArray⟩) ∧ Below w0.heap.size w0 w' := by
  refine enter Tryd.func78 rfl Tryd.ntmps78 rfl ?_
  intro a henv hst
  refine wp_seq ?_
  refine region_seq ?_
  refine sv (v := .string ⟨#[]⟩) henv rfl (rn_assign henv rfl) ?_
  clear henv a; intro a henv
  refine wpList_nil ?_
  refine th_n ?_
  refine wp_seq ?_
  refine wp_seq ?_
  refine region_seq ?_
  revert a
  refine mA rfl rfl ?_
  refine sA (v := .bool (decide (((n : Nat) : Int) < (10 : Int)))) rfl (fun _ henv => rn_bin henv rfl rfl rfl) ?_
  intro a henv
  rw [show (decide (((n : Nat) : Int) < (10 : Int))) = true from (decide_eq_true (by omega))] at henv
  refine wpList_nil ?_
  refine th_n ?_
  refine if_t henv rfl (rfl) ?_
  refine wp_seq ?_
  refine region_seq ?_
  revert a
  refine mA rfl rfl ?_
  refine mA rfl rfl ?_
  refine sA (v := .int .i64 (n + 1 : Nat)) rfl (fun _ henv => rn_add henv rfl rfl (by rw [IntWalk.i64_in _ (by omega)]; omega)) ?_
  refine sA (v := .string ⟨((([48, 49, 50, 51, 52, 53, 54, 55, 56, 57, 97, 98, 99, 100, 101, 102, 103, 104, 105, 106, 107, 108, 109, 110, 111, 112, 113, 114, 115, 116, 117, 118, 119, 120, 121, 122]).drop n).take ((n + 1) - n)).toArray⟩) rfl (fun _ henv => rn_cutS (n := n) (m := n + 1) henv Tryd.underlying9 rfl rfl rfl (by (try simp only [List.length_append, List.length_cons, List.length_nil, tz1, tz0]); omega) (by (try simp only [List.length_append, List.length_cons, List.length_nil, tz1, tz0]); omega)) ?_
  refine aA rfl rfl ?_
  intro a henv
  refine wpList_nil ?_
  refine th_n ?_
  refine wp_ret ?_
  refine th_r ?_
  refine leave henv (res1 Tryd.results78 (RV.tmp henv rfl)) ?_
  exact ⟨by rw [small_text hn], hst.below⟩
set_option maxRecDepth 100000 in
set_option maxHeartbeats 2000000 in
theorem g_format {n : Nat} {w0 : World} (hn : n < 10) :
    Calls Tryd.prog 71 #[.int .i64 (n : Nat), .int .i64 10] w0 fun e w' => e = .returned (.string ⟨(textZ (n : Nat)).toArray⟩) ∧ Below w0.heap.size w0 w' := by
  refine enter Tryd.func71 rfl Tryd.ntmps71 rfl ?_
  intro a henv hst
  refine wp_seq ?_
  refine region_seq ?_
  refine sv (v := .string ⟨#[]⟩) henv rfl (rn_assign henv rfl) ?_
  clear henv a; intro a henv
  refine wpList_nil ?_
  refine th_n ?_
  refine wp_seq ?_
  refine wp_seq ?_
  refine region_seq ?_
  revert a
  refine mA rfl rfl ?_
  refine sA (v := .bool true) rfl (fun _ henv => rn_bin henv rfl rfl rfl) ?_
  intro a henv
  refine wpList_nil ?_
  refine th_n ?_
  refine if_t henv rfl (rfl) ?_
  refine wp_seq ?_
  refine wp_seq ?_
  refine region_seq ?_
  revert a
  refine mA rfl rfl ?_
  refine sA (v := .bool (decide ((0 : Int) ≤ ((n : Nat) : Int)))) rfl (fun _ henv => rn_bin henv rfl rfl rfl) ?_
  intro a henv
  rw [show (decide ((0 : Int) ≤ ((n : Nat) : Int))) = true from (decide_eq_true (by omega))] at henv
  revert a
  refine mA rfl rfl ?_
  refine gA (v := .int .i64 (n : Nat)) rfl rfl rfl rfl (fun _ henv => rn_move henv rfl) ?_
  refine gA (v := .bool (decide (((n : Nat) : Int) < (100 : Int)))) rfl rfl rfl rfl (fun _ henv => rn_bin henv rfl rfl rfl) ?_
  intro a henv
  rw [show (decide (((n : Nat) : Int) < (100 : Int))) = true from (decide_eq_true (by omega))] at henv
  refine sv (v := .bool true) henv rfl (rn_pick henv rfl rfl) ?_
  clear henv a; intro a henv
  refine wpList_nil ?_
  refine th_n ?_
  refine if_t henv rfl (rfl) ?_
  refine wp_seq ?_
  refine region_seq ?_
  refine sv (v := .int .i64 (n : Nat)) henv rfl (rn_move henv rfl) ?_
  clear henv a; intro a henv
  refine seq_step rfl (op_call henv rfl Tryd.call78 rfl (g_small hn) ?_)
  rintro e w51 ⟨rfl, hb⟩
  refine ⟨_, rfl, ?_⟩
  clear henv a; intro a henv
  replace hst := hst.call hb
  clear hb
  refine sv (v := .string ⟨(textZ (n : Nat)).toArray⟩) henv rfl (rn_assign henv rfl) ?_
  clear henv a; intro a henv
  refine wpList_nil ?_
  refine th_n ?_
  refine wp_ret ?_
  refine th_r (th_r ?_)
  refine leave henv (res1 Tryd.results71 (RV.tmp henv rfl)) ?_
  exact ⟨rfl, hst.below⟩
set_option maxRecDepth 100000 in
set_option maxHeartbeats 2000000 in
theorem g_itoa0 {n : Nat} {w0 : World} (hn : n < 10) :
    Calls Tryd.prog 61 #[.int .i64 (n : Nat)] w0 fun e w' => e = .returned (.string ⟨(textZ (n : Nat)).toArray⟩) ∧ Below w0.heap.size w0 w' := by
  refine enter Tryd.func61 rfl Tryd.ntmps61 rfl ?_
  intro a henv hst
  refine wp_seq ?_
  refine region_seq ?_
  refine sv (v := .string ⟨#[]⟩) henv rfl (rn_assign henv rfl) ?_
  clear henv a; intro a henv
  refine wpList_nil ?_
  refine th_n ?_
  refine wp_seq ?_
  refine region_seq ?_
  refine sv (v := .int .i64 (n : Nat)) henv rfl (rn_move henv rfl) ?_
  clear henv a; intro a henv
  refine seq_step rfl (op_call henv rfl Tryd.call71 rfl (g_format hn) ?_)
  rintro e w51 ⟨rfl, hb⟩
  refine ⟨_, rfl, ?_⟩
  clear henv a; intro a henv
  replace hst := hst.call hb
  clear hb
  refine sv (v := .string ⟨(textZ (n : Nat)).toArray⟩) henv rfl (rn_assign henv rfl) ?_
  clear henv a; intro a henv
  refine wpList_nil ?_
  refine th_n ?_
  refine wp_ret ?_
  refine leave henv (res1 Tryd.results61 (RV.tmp henv rfl)) ?_
  exact ⟨rfl, hst.below⟩
set_option maxRecDepth 100000 in
set_option maxHeartbeats 2000000 in
theorem g_itoa {n : Nat} {w0 : World} (hn : n < 10) :
    Calls Tryd.prog 45 #[.int .i64 (n : Nat)] w0 fun e w' => e = .returned (.string ⟨(textZ (n : Nat)).toArray⟩) ∧ Below w0.heap.size w0 w' := by
  refine enter Tryd.func45 rfl Tryd.ntmps45 rfl ?_
  intro a henv hst
  refine wp_seq ?_
  refine region_seq ?_
  refine sv (v := .string ⟨#[]⟩) henv rfl (rn_assign henv rfl) ?_
  clear henv a; intro a henv
  refine wpList_nil ?_
  refine th_n ?_
  refine wp_seq ?_
  refine region_seq ?_
  refine sv (v := .int .i64 (n : Nat)) henv rfl (rn_move henv rfl) ?_
  clear henv a; intro a henv
  refine seq_step rfl (op_call henv rfl Tryd.call61 rfl (g_itoa0 hn) ?_)
  rintro e w51 ⟨rfl, hb⟩
  refine ⟨_, rfl, ?_⟩
  clear henv a; intro a henv
  replace hst := hst.call hb
  clear hb
  refine sv (v := .string ⟨(textZ (n : Nat)).toArray⟩) henv rfl (rn_assign henv rfl) ?_
  clear henv a; intro a henv
  refine wpList_nil ?_
  refine th_n ?_
  refine wp_ret ?_
  refine leave henv (res1 Tryd.results45 (RV.tmp henv rfl)) ?_
  exact ⟨rfl, hst.below⟩
set_option maxRecDepth 100000 in
set_option maxHeartbeats 2000000 in
theorem g_reg0 {w0 : World} :
    Calls Tryd.prog 47 #[.int .i64 0] w0 fun e w' => e = .returned (.string ⟨[114, 48].toArray⟩) ∧ Below w0.heap.size w0 w' := by
  refine enter Tryd.func47 rfl Tryd.ntmps47 rfl ?_
  intro a henv hst
  refine wp_seq ?_
  refine region_seq ?_
  refine sv (v := .string ⟨#[]⟩) henv rfl (rn_assign henv rfl) ?_
  clear henv a; intro a henv
  refine wpList_nil ?_
  refine th_n ?_
  refine wp_seq ?_
  refine region_seq ?_
  refine sv (v := .int .i64 0) henv rfl (rn_move henv rfl) ?_
  clear henv a; intro a henv
  refine seq_step rfl (op_call henv rfl Tryd.call45 rfl (g_itoa (n := 0) (by decide)) ?_)
  rintro e w51 ⟨rfl, hb⟩
  refine ⟨_, rfl, ?_⟩
  clear henv a; intro a henv
  replace hst := hst.call hb
  clear hb
  revert a
  refine sA (v := .string ⟨(([114]) ++ (textZ (0 : Int))).toArray⟩) rfl (fun _ henv => rn_catS (s := [114]) (t := (textZ (0 : Int))) henv rfl rfl (by (try simp only [List.length_append, List.length_cons, List.length_nil, tz1, tz0]); omega)) ?_
  refine aA rfl rfl ?_
  intro a henv
  refine wpList_nil ?_
  refine th_n ?_
  refine wp_ret ?_
  refine leave henv (res1 Tryd.results47 (RV.tmp henv rfl)) ?_
  exact ⟨by rw [show textZ 0 = [48] by decide +kernel]; rfl, hst.below⟩
set_option maxRecDepth 100000 in
set_option maxHeartbeats 4000000 in
theorem g_text1 {A1 : Option Addr} {c1 : Nat} {w0 : World} (h1 : (pfRow fI FI 1 A1 1 c1 ([0])).P w0) :
    Calls Tryd.prog 31 #[.agg #[.int .i64 1, .int .i64 1, .slice none 0 0, .slice A1 1 c1]] w0 fun e w' => e = .returned (.tuple #[.string ⟨[105, 110, 32, 49, 32, 114, 101, 103, 115, 32, 49, 10, 111, 117, 116, 32, 114, 48, 10].toArray⟩, .int .i64 0]) ∧ Below w0.heap.size w0 w' := by
  refine enter Tryd.func31 rfl Tryd.ntmps31 rfl ?_
  intro a henv hst
  replace hst := hst.argRow h1
  refine wp_seq ?_
  refine region_seq ?_
  refine seq_step rfl (op_box (c := #[.int .i64 1, .int .i64 1, .slice none 0 0, .slice A1 1 c1]) henv hst rfl rfl rfl ?_)
  clear henv hst a; intro a w52 g51 henv hst
  revert a
  refine aA rfl rfl ?_
  refine aA rfl rfl ?_
  intro a henv
  refine wpList_nil ?_
  refine th_n ?_
  refine wp_seq ?_
  refine wp_seq ?_
  refine region_seq ?_
  refine sv (v := .agg #[.int .i64 1, .int .i64 1, .slice none 0 0, .slice A1 1 c1]) henv rfl (rn_load0 henv ty_anvil_api_Prog rfl (hst.oat (k := 0) rfl) rfl) ?_
  clear henv a; intro a henv
  refine seq_step rfl (op_call henv rfl Tryd.call37 rfl (g_right_ok (es0 := []) (es1 := [0]) (row_nil fJ FJ 5 _) (hst.pat (k := 0) rfl) right_one) ?_)
  rintro e w53 ⟨rfl, hb⟩
  refine ⟨_, rfl, ?_⟩
  clear henv a; intro a henv
  replace hst := hst.call hb
  clear hb
  refine sv (v := .bool false) henv rfl (rn_un henv rfl rfl) ?_
  clear henv a; intro a henv
  refine wpList_nil ?_
  refine th_n ?_
  refine if_f henv rfl (rfl) ?_
  refine wp_skip ?_
  refine th_n ?_
  refine wp_seq ?_
  refine region_seq ?_
  refine seq_step rfl (op_alloc (c := #[.pointer none, .slice none 0 0]) henv hst rfl zero_strings_Builder rfl ?_)
  clear henv hst a; intro a w55 g54 henv hst
  refine wpList_nil ?_
  replace hst := hst.bld (k := 0) rfl
  replace hst : St w0 _ [bldF g54 (.slice none 0 0) ([] : List UInt8).length (byteCells ([] : List UInt8)), bk g51 #[.int .i64 1, .int .i64 1, .slice none 0 0, .slice A1 1 c1] 25] [pfRow fI FI 1 A1 1 c1 ([0])] := hst
  refine th_n ?_
  refine wp_seq ?_
  refine region_any (n := 11) (Sk [bk g51 #[.int .i64 1, .int .i64 1, .slice none 0 0, .slice A1 1 c1] 25] [pfRow fI FI 1 A1 1 c1 ([0])] [] []) mixed rfl henv hst ?_
  clear henv hst; intro w56 henv hst
  refine tA (i := 0) [1, 2, 3, 4, 7, 8, 9, 10] (v := .pointer (some ⟨g51, 0, none⟩)) rfl (by kernel_rfl) (fun _ _ _ h => h) henv rfl (fun _ => rn_fieldAddr henv fd_anvil_api_Prog_0 (ty_int.size) (by decide) rfl) ?_
  clear henv a; intro a henv
  refine sAny_take (i := 1) [2, 3, 4, 7, 8, 9, 10] (fun w' => w'.heap[g51]? = some (.cells #[.int .i64 1, .int .i64 1, .slice none 0 0, .slice A1 1 c1] 25 (0, 0))) (v := .int .i64 1) rfl (by kernel_rfl) (fun _ _ _ h => h) (fun _ _ _ hS => hS.1.oat (k := 0) rfl) henv rfl (hst.oat (k := 1) rfl) (fun w' hg => rn_load1 henv ty_int rfl hg rfl) ?_
  clear henv a; intro a henv
  refine tA (i := 5) (rg 6 5) (v := .pointer (some ⟨g51, 1, none⟩)) rfl (by kernel_rfl) (fun _ _ _ h => h) henv rfl (fun _ => rn_fieldAddr henv fd_anvil_api_Prog_1 (ty_int.size) (by decide) rfl) ?_
  clear henv a; intro a henv
  refine sAny_take (i := 6) [7, 8, 9, 10] (fun w' => w'.heap[g51]? = some (.cells #[.int .i64 1, .int .i64 1, .slice none 0 0, .slice A1 1 c1] 25 (0, 0))) (v := .int .i64 1) rfl (by kernel_rfl) (fun _ _ _ h => h) (fun _ _ _ hS => hS.1.oat (k := 0) rfl) henv rfl (hst.oat (k := 1) rfl) (fun w' hg => rn_load1 henv ty_int rfl hg rfl) ?_
  clear henv a; intro a henv
  refine sAny_one (i := 2) (by kernel_rfl) rfl rfl (op_call henv rfl Tryd.call45 rfl (g_itoa (n := 1) (by decide)) ?_)
  rintro e w57 ⟨rfl, hb⟩
  refine ⟨_, rfl, ?_⟩
  clear henv a; intro a henv
  replace hst := hst.call hb
  clear hb
  refine ⟨.inr ⟨hst.kn.pick [1] [0], .inr (hst.kn.pick [] [])⟩, ?_⟩
  refine tA (i := 3) [4, 8, 9, 10] (v := .string ⟨(([105, 110, 32]) ++ (textZ (1 : Int))).toArray⟩) rfl (by kernel_rfl) (fun _ _ _ h => h) henv rfl (fun _ => rn_catS (s := [105, 110, 32]) (t := (textZ (1 : Int))) henv rfl rfl (by (try simp only [List.length_append, List.length_cons, List.length_nil, tz1, tz0]); omega)) ?_
  clear henv a; intro a henv
  refine tA (i := 4) [8, 9, 10] (v := .string ⟨((([105, 110, 32]) ++ (textZ (1 : Int))) ++ ([32, 114, 101, 103, 115, 32])).toArray⟩) rfl (by kernel_rfl) (fun _ _ _ h => h) henv rfl (fun _ => rn_catS (s := (([105, 110, 32]) ++ (textZ (1 : Int)))) (t := [32, 114, 101, 103, 115, 32]) henv rfl rfl (by (try simp only [List.length_append, List.length_cons, List.length_nil, tz1, tz0]); omega)) ?_
  clear henv a; intro a henv
  refine sAny_one (i := 7) (by kernel_rfl) rfl rfl (op_call henv rfl Tryd.call45 rfl (g_itoa (n := 1) (by decide)) ?_)
  rintro e w58 ⟨rfl, hb⟩
  refine ⟨_, rfl, ?_⟩
  clear henv a; intro a henv
  replace hst := hst.call hb
  clear hb
  refine ⟨.inr ⟨hst.kn.pick [1] [0], .inr (hst.kn.pick [] [])⟩, ?_⟩
  refine tA (i := 8) [9, 10] (v := .string ⟨(((([105, 110, 32]) ++ (textZ (1 : Int))) ++ ([32, 114, 101, 103, 115, 32])) ++ (textZ (1 : Int))).toArray⟩) rfl (by kernel_rfl) (fun _ _ _ h => h) henv rfl (fun _ => rn_catS (s := ((([105, 110, 32]) ++ (textZ (1 : Int))) ++ ([32, 114, 101, 103, 115, 32]))) (t := (textZ (1 : Int))) henv rfl rfl (by (try simp only [List.length_append, List.length_cons, List.length_nil, tz1, tz0]); omega)) ?_
  clear henv a; intro a henv
  refine tA (i := 9) [10] (v := .string ⟨((((([105, 110, 32]) ++ (textZ (1 : Int))) ++ ([32, 114, 101, 103, 115, 32])) ++ (textZ (1 : Int))) ++ ([10])).toArray⟩) rfl (by kernel_rfl) (fun _ _ _ h => h) henv rfl (fun _ => rn_catS (s := (((([105, 110, 32]) ++ (textZ (1 : Int))) ++ ([32, 114, 101, 103, 115, 32])) ++ (textZ (1 : Int)))) (t := [10]) henv rfl rfl (by (try simp only [List.length_append, List.length_cons, List.length_nil, tz1, tz0]); omega)) ?_
  clear henv a; intro a henv
  refine sAny_one (i := 10) (by kernel_rfl) rfl rfl (op_write (s := ⟨(((((([105, 110, 32]) ++ (textZ (1 : Int))) ++ ([32, 114, 101, 103, 115, 32])) ++ (textZ (1 : Int))) ++ ([10])) : List UInt8).toArray⟩) (k := 0) henv hst rfl rfl rfl rfl (by rw [ba_size]; simp only [List.length_append, List.length_cons, List.length_nil, tz1, tz0, one_out, one_outs]; omega) ?_)
  clear henv hst a; intro a w59 v60 henv hst
  rw [ba_size, byteCells_app, ← List.length_append] at hst
  rw [List.nil_append] at hst
  refine ⟨.inr ⟨hst.kn.pick [1] [0], .inr (hst.kn.pick [] [])⟩, ?_⟩
  refine sAny_done (by kernel_rfl) ?_ _
  refine th_n ?_
  refine wp_seq ?_
  refine wp_seq ?_
  refine region_seq ?_
  revert a
  refine sA (v := .pointer (some ⟨g51, 2, none⟩)) rfl (fun _ henv => rn_fieldAddr henv fd_anvil_api_Prog_2 (ty__api_Instr.size) (by decide) rfl) ?_
  refine sA (v := .slice none 0 0) rfl (fun _ henv => rn_load1 henv ty__api_Instr rfl (hst.oat (k := 1) rfl) rfl) ?_
  refine sA (v := .int .i64 0) rfl (fun _ henv => rn_len henv Tryd.underlying22 rfl) ?_
  refine mA rfl rfl ?_
  intro a henv
  refine wpList_nil ?_
  refine th_n ?_
  refine wp_block ?_
  refine wp_loop_ghost (fun mz a w => 0 = mz ∧ Env 50 a [(4, .pointer (some ⟨g54, 0, none⟩)), (1, .pointer (some ⟨g51, 0, none⟩)), (24, .slice none 0 0), (25, .int .i64 0), (26, .int .i64 0)] ∧ St w0 w [bldF g54 v60 ((((((([105, 110, 32]) ++ (textZ (1 : Int))) ++ ([32, 114, 101, 103, 115, 32])) ++ (textZ (1 : Int))) ++ ([10]))) : List UInt8).length (byteCells ((((((([105, 110, 32]) ++ (textZ (1 : Int))) ++ ([32, 114, 101, 103, 115, 32])) ++ (textZ (1 : Int))) ++ ([10]))) : List UInt8)), bk g51 #[.int .i64 1, .int .i64 1, .slice none 0 0, .slice A1 1 c1] 25] [pfRow fI FI 1 A1 1 c1 ([0])]) _ ⟨rfl, henv.sub ⟨rfl, rfl, rfl, rfl, rfl, trivial⟩, hst.pick [0, 1] [0] (by decide)⟩ ?_
  clear henv hst a
  rintro mz a w61 ⟨rfl, henv, hst⟩
  refine wp_seq ?_
  refine region_seq ?_
  refine sv (v := .bool false) henv rfl (rn_bin henv rfl rfl rfl) ?_
  clear henv a; intro a henv
  refine wpList_nil ?_
  refine th_n ?_
  refine wp_seq ?_
  refine if_f henv rfl (rfl) ?_
  refine wp_exit ?_
  refine th_x (th_x (bl_x (th_n ?_)))
  refine wp_seq ?_
  refine region_seq ?_
  refine seq_step rfl (op_write (s := ⟨([111, 117, 116] : List UInt8).toArray⟩) (k := 0) henv hst rfl rfl rfl rfl (by rw [ba_size]; simp only [List.length_append, List.length_cons, List.length_nil, tz1, tz0, one_out, one_outs]; omega) ?_)
  clear henv hst a; intro a w62 v63 henv hst
  rw [ba_size, byteCells_app, ← List.length_append] at hst
  refine wpList_nil ?_
  refine th_n ?_
  refine wp_seq ?_
  refine wp_seq ?_
  refine region_seq ?_
  revert a
  refine sA (v := .pointer (some ⟨g51, 3, none⟩)) rfl (fun _ henv => rn_fieldAddr henv fd_anvil_api_Prog_3 (ty__int.size) (by decide) rfl) ?_
  refine sA (v := .slice A1 1 c1) rfl (fun _ henv => rn_load1 henv ty__int rfl (hst.oat (k := 1) rfl) rfl) ?_
  refine sA (v := .int .i64 1) rfl (fun _ henv => rn_len henv Tryd.underlying23 rfl) ?_
  refine mA rfl rfl ?_
  intro a henv
  refine wpList_nil ?_
  refine th_n ?_
  refine wp_block ?_
  replace hst : St w0 w62 [bldF g54 v63 ((((((((([105, 110, 32]) ++ (textZ (1 : Int))) ++ ([32, 114, 101, 103, 115, 32])) ++ (textZ (1 : Int))) ++ ([10]))) ++ ([111, 117, 116])) ++ (([0] : List Int).take 0).flatMap outT) : List UInt8).length (byteCells ((((((((([105, 110, 32]) ++ (textZ (1 : Int))) ++ ([32, 114, 101, 103, 115, 32])) ++ (textZ (1 : Int))) ++ ([10]))) ++ ([111, 117, 116])) ++ (([0] : List Int).take 0).flatMap outT) : List UInt8))] [pfRow fI FI 1 A1 1 c1 ([0])] := by rw [show ((((((([105, 110, 32]) ++ (textZ (1 : Int))) ++ ([32, 114, 101, 103, 115, 32])) ++ (textZ (1 : Int))) ++ ([10]))) ++ ([111, 117, 116])) ++ (([0] : List Int).take 0).flatMap outT = ((((((([105, 110, 32]) ++ (textZ (1 : Int))) ++ ([32, 114, 101, 103, 115, 32])) ++ (textZ (1 : Int))) ++ ([10]))) ++ ([111, 117, 116])) by simp]; exact hst.pick [0] [0] (by decide)
  refine wp_loop_ghost (fun mz a w => ∃ j : Nat, ∃ vb : Value, 1 - j = mz ∧ Env 50 a [(4, .pointer (some ⟨g54, 0, none⟩)), (37, .slice A1 1 c1), (38, .int .i64 1), (39, .int .i64 (j : Nat))] ∧ St w0 w [bldF g54 vb ((((((((([105, 110, 32]) ++ (textZ (1 : Int))) ++ ([32, 114, 101, 103, 115, 32])) ++ (textZ (1 : Int))) ++ ([10]))) ++ ([111, 117, 116])) ++ ([0].take j).flatMap outT) : List UInt8).length (byteCells ((((((((([105, 110, 32]) ++ (textZ (1 : Int))) ++ ([32, 114, 101, 103, 115, 32])) ++ (textZ (1 : Int))) ++ ([10]))) ++ ([111, 117, 116])) ++ ([0].take j).flatMap outT) : List UInt8))] [pfRow fI FI 1 A1 1 c1 ([0])] ∧ j ≤ 1) _ ⟨0, v63, rfl, henv.sub ⟨rfl, rfl, rfl, rfl, trivial⟩, hst.pick [0] [0] (by decide), (Nat.zero_le _)⟩ ?_
  clear henv hst a
  rintro mz a w64 ⟨j, vb, rfl, henv, hst, hj⟩
  refine wp_seq ?_
  refine region_seq ?_
  refine sv (v := .bool (decide (((j : Nat) : Int) < (1 : Int)))) henv rfl (rn_bin henv rfl rfl rfl) ?_
  clear henv a; intro a henv
  refine wpList_nil ?_
  refine th_n ?_
  refine wp_seq ?_
  refine if_split henv rfl (fun hc65 => ?_) (fun hc65 => ?_)
  · have hlt : j < 1 := by have := of_decide_eq_true hc65; omega
    obtain rfl : j = 0 := by omega
    have hz : ([0] : List Int)[0]? = some 0 := rfl
    refine wp_skip ?_
    refine th_n ?_
    refine wp_seq ?_
    refine wp_block ?_
    refine wp_seq ?_
    refine region_seq ?_
    revert a
    refine sA (v := .pointer (some ⟨ab A1, ao A1 + 0 * 1, none⟩)) rfl (fun _ henv => rn_idxR (i := 0) henv Tryd.underlying23 (ty_int.size) rfl rfl (by omega) rfl (show (pfRow fI FI 1 A1 1 c1 ([0])).P _ from (hst.pat (k := 0) rfl)).1) ?_
    refine sA (v := .int .i64 0) rfl (fun _ henv => rn_loadE1 (i := 0) (j := 0) (e := 0) henv ty_int rfl rfl fI_len (by decide) (show (pfRow fI FI 1 A1 1 c1 ([0])).P _ from (hst.pat (k := 0) rfl)).1 (by omega) hz rfl) ?_
    refine aA rfl rfl ?_
    intro a henv
    refine wpList_nil ?_
    refine th_n ?_
    refine region_seq ?_
    refine sv (v := .int .i64 0) henv rfl (rn_move henv rfl) ?_
    clear henv a; intro a henv
    refine seq_step rfl (op_call henv rfl Tryd.call47 rfl g_reg0 ?_)
    rintro e w66 ⟨rfl, hb⟩
    refine ⟨_, rfl, ?_⟩
    clear henv a; intro a henv
    replace hst := hst.call hb
    clear hb
    refine sv (v := .string ⟨(([32]) ++ ([114, 48] : List UInt8)).toArray⟩) henv rfl (rn_catS (s := [32]) (t := ([114, 48] : List UInt8)) henv rfl rfl (by (try simp only [List.length_append, List.length_cons, List.length_nil, tz1, tz0]); omega)) ?_
    clear henv a; intro a henv
    refine seq_step rfl (op_write (s := ⟨((([32]) ++ ([114, 48] : List UInt8)) : List UInt8).toArray⟩) (k := 0) henv hst rfl rfl rfl rfl (by rw [ba_size]; simp only [List.length_append, List.length_cons, List.length_nil, tz1, tz0, one_out, one_outs]; omega) ?_)
    clear henv hst a; intro a w67 v68 henv hst
    rw [ba_size, byteCells_app, ← List.length_append] at hst
    refine wpList_nil ?_
    refine bl_n (th_n ?_)
    refine region_seq ?_
    revert a
    refine sA (v := .int .i64 (0 + 1 : Nat)) rfl (fun _ henv => rn_add henv rfl rfl (by rw [IntWalk.i64_in _ (by omega)]; omega)) ?_
    refine mA rfl rfl ?_
    intro a henv
    refine wpList_nil ?_
    rw [show ((((((((([105, 110, 32]) ++ (textZ (1 : Int))) ++ ([32, 114, 101, 103, 115, 32])) ++ (textZ (1 : Int))) ++ ([10]))) ++ ([111, 117, 116])) ++ ([0].take 0).flatMap outT) ++ (([32]) ++ ([114, 48] : List UInt8))) = ((((((([105, 110, 32]) ++ (textZ (1 : Int))) ++ ([32, 114, 101, 103, 115, 32])) ++ (textZ (1 : Int))) ++ ([10]))) ++ ([111, 117, 116])) ++ (([0] : List Int).take (0 + 1)).flatMap outT from out_step hz] at hst
    exact th_n ⟨_, (by omega), ⟨1, v68, rfl, henv.sub ⟨rfl, rfl, rfl, rfl, trivial⟩, hst.pick [0] [0] (by decide), (by omega)⟩⟩
  · obtain rfl : j = 1 := by have := of_decide_eq_false hc65; omega
    refine wp_exit ?_
    refine th_x (th_x (bl_x (th_n ?_)))
    refine wp_seq ?_
    refine region_seq ?_
    refine seq_step rfl (op_write (s := ⟨([10] : List UInt8).toArray⟩) (k := 0) henv hst rfl rfl rfl rfl (by rw [ba_size]; simp only [List.length_append, List.length_cons, List.length_nil, tz1, tz0, one_out, one_outs]; omega) ?_)
    clear henv hst a; intro a w69 v70 henv hst
    rw [ba_size, byteCells_app, ← List.length_append] at hst
    refine wpList_nil ?_
    refine th_n ?_
    refine wp_seq ?_
    refine region_seq ?_
    refine seq_step rfl (op_bstr (k := 0) henv hst rfl rfl rfl ?_)
    clear henv hst a; intro a w71 henv hst
    revert a
    refine aA rfl rfl ?_
    refine aA rfl rfl ?_
    intro a henv
    refine wpList_nil ?_
    refine th_n ?_
    refine wp_ret ?_
    refine leave henv (res2 Tryd.results31 (RV.tmp henv rfl) (RV.tmp henv rfl)) ?_
    exact ⟨by rw [show ((((((((([105, 110, 32]) ++ (textZ (1 : Int))) ++ ([32, 114, 101, 103, 115, 32])) ++ (textZ (1 : Int))) ++ ([10]))) ++ ([111, 117, 116])) ++ ([0].take 1).flatMap outT) ++ ([10])) = [105, 110, 32, 49, 32, 114, 101, 103, 115, 32, 49, 10, 111, 117, 116, 32, 114, 48, 10] by decide +kernel], hst.below⟩
set_option maxRecDepth 100000 in
set_option maxHeartbeats 2000000 in
theorem g_live {w0 : World} :
    Calls Tryd.prog 10 #[] w0 fun e w' => e = .returned (.bool true) ∧ Below w0.heap.size w0 w' := by
  refine enter Tryd.func10 rfl Tryd.ntmps10 rfl ?_
  intro a henv hst
  refine wp_seq ?_
  refine region_seq ?_
  refine sv (v := .bool false) henv rfl (rn_assign henv rfl) ?_
  clear henv a; intro a henv
  refine wpList_nil ?_
  refine th_n ?_
  refine wp_seq ?_
  refine region_seq ?_
  refine seq_step rfl (op_buildSlice (z := 1) (pv := #[(0, .int .i64 0)]) (c := #[.int .i64 0]) henv hst rfl Tryd.underlying23 (ty_int.size) zero_int (by decide) (by decide) rfl (by kernel_rfl) ?_)
  clear henv hst a; intro a w52 g51 henv hst
  refine sv (v := .agg #[.int .i64 1, .int .i64 1, .slice none 0 0, .slice (some ⟨g51, 0, none⟩) 1 1]) henv rfl (rn_prog013 henv rfl rfl rfl) ?_
  clear henv a; intro a henv
  replace hst := hst.giveBk (f := fI) (F := FI) (k := 0) (n := 1) (es := [0]) rfl rfl fI_len rfl (by decide) (esT_P (fun _ => rfl) _ _) (fun _ _ _ _ => esT_foot (fun _ => rfl))
  refine seq_step rfl (op_call henv rfl Tryd.call31 rfl (g_text1 (hst.pat (k := 0) rfl)) ?_)
  rintro e w53 ⟨rfl, hb⟩
  refine ⟨_, rfl, ?_⟩
  clear henv a; intro a henv
  replace hst := hst.call hb
  clear hb
  revert a
  refine mA rfl rfl ?_
  refine sA (v := .string ⟨([105, 110, 32, 49, 32, 114, 101, 103, 115, 32, 49, 10, 111, 117, 116, 32, 114, 48, 10] : List UInt8).toArray⟩) rfl (fun _ henv => rn_extract henv rfl rfl) ?_
  refine sA (v := .int .i64 0) rfl (fun _ henv => rn_extract henv rfl rfl) ?_
  refine aA rfl rfl ?_
  refine aA rfl rfl ?_
  intro a henv
  refine wpList_nil ?_
  refine th_n ?_
  refine wp_seq ?_
  refine region_seq ?_
  revert a
  refine mA rfl rfl ?_
  refine sA (v := .bool (decide (([105, 110, 32, 49, 32, 114, 101, 103, 115, 32, 49, 10, 111, 117, 116, 32, 114, 48, 10] : List UInt8) = [105, 110, 32, 49, 32, 114, 101, 103, 115, 32, 49, 10, 111, 117, 116, 32, 114, 48, 10]))) rfl (fun _ henv => rn_eqls (s := ([105, 110, 32, 49, 32, 114, 101, 103, 115, 32, 49, 10, 111, 117, 116, 32, 114, 48, 10] : List UInt8)) (t := [105, 110, 32, 49, 32, 114, 101, 103, 115, 32, 49, 10, 111, 117, 116, 32, 114, 48, 10]) henv rfl rfl) ?_
  intro a henv
  rw [show (decide (([105, 110, 32, 49, 32, 114, 101, 103, 115, 32, 49, 10, 111, 117, 116, 32, 114, 48, 10] : List UInt8) = [105, 110, 32, 49, 32, 114, 101, 103, 115, 32, 49, 10, 111, 117, 116, 32, 114, 48, 10])) = true from (by decide)] at henv
  revert a
  refine mA rfl rfl ?_
  refine gA (v := .int .i64 0) rfl rfl rfl rfl (fun _ henv => rn_move henv rfl) ?_
  refine gA (v := .bool true) rfl rfl rfl rfl (fun _ henv => rn_bin henv rfl rfl rfl) ?_
  refine sA (v := .bool true) rfl (fun _ henv => rn_pick henv rfl rfl) ?_
  refine aA rfl rfl ?_
  intro a henv
  refine wpList_nil ?_
  refine th_n ?_
  refine wp_ret ?_
  refine leave henv (res1 Tryd.results10 (RV.tmp henv rfl)) ?_
  exact ⟨rfl, hst.below⟩
set_option maxRecDepth 100000 in
set_option maxHeartbeats 4000000 in
theorem gchecks_w0 {i g : Int} {A0 A1 : Option Addr} {n0 c0 n1 c1 : Nat} {es0 : List IE} {es1 : List Int} {w0 : World} (h0 : (pfRow fJ FJ 5 A0 n0 c0 es0).P w0) (h1 : (pfRow fI FI 1 A1 n1 c1 es1).P w0) (hw : 20000 < n0) :
    Calls Tryd.prog 3 #[.agg #[.int .i64 i, .int .i64 g, .slice A0 n0 c0, .slice A1 n1 c1]] w0 fun e w' => e = .returned (.bool true) ∧ Below w0.heap.size w0 w' := by
  refine enter Tryd.func3 rfl Tryd.ntmps3 rfl ?_
  intro a henv hst
  have hlen0 := h0.2.1
  have hbig0 := Nat.le_trans h0.1.cap h0.1.big
  unfold maxLen at hbig0
  have hlen1 := h1.2.1
  have hbig1 := Nat.le_trans h1.1.cap h1.1.big
  unfold maxLen at hbig1
  replace hst := (hst.argRow h1).argRow h0
  clear h0 h1
  refine wp_seq ?_
  refine region_seq ?_
  refine seq_step rfl (op_box (c := #[.int .i64 i, .int .i64 g, .slice A0 n0 c0, .slice A1 n1 c1]) henv hst rfl rfl rfl ?_)
  clear henv hst a; intro a w52 g51 henv hst
  refine sv (v := .bool false) henv rfl (rn_assign henv rfl) ?_
  clear henv a; intro a henv
  refine wpList_nil ?_
  refine th_n ?_
  refine wp_seq ?_
  refine wp_seq ?_
  refine region_seq ?_
  refine seq_step rfl (op_call henv rfl Tryd.call10 rfl g_live ?_)
  rintro e w53 ⟨rfl, hb⟩
  refine ⟨_, rfl, ?_⟩
  clear henv a; intro a henv
  replace hst := hst.call hb
  clear hb
  refine sv (v := .bool false) henv rfl (rn_un henv rfl rfl) ?_
  clear henv a; intro a henv
  refine wpList_nil ?_
  refine th_n ?_
  refine if_f henv rfl (rfl) ?_
  refine wp_skip ?_
  refine th_n ?_
  refine wp_seq ?_
  refine wp_seq ?_
  refine region_seq ?_
  revert a
  refine sA (v := .pointer (some ⟨g51, 2, none⟩)) rfl (fun _ henv => rn_fieldAddr henv fd_anvil_api_Prog_2 (ty__api_Instr.size) (by decide) rfl) ?_
  refine sA (v := .slice A0 n0 c0) rfl (fun _ henv => rn_load1 henv ty__api_Instr rfl (hst.oat (k := 0) rfl) rfl) ?_
  refine sA (v := .int .i64 (n0 : Nat)) rfl (fun _ henv => rn_len henv Tryd.underlying22 rfl) ?_
  refine sA (v := .bool (decide (((n0 : Nat) : Int) > (20000 : Int)))) rfl (fun _ henv => rn_bin henv rfl rfl rfl) ?_
  intro a henv
  rw [show (decide (((n0 : Nat) : Int) > (20000 : Int))) = true from (decide_eq_true (by omega))] at henv
  revert a
  refine mA rfl rfl ?_
  refine kA rfl rfl rfl rfl rfl ?_
  refine kA rfl rfl rfl rfl rfl ?_
  refine kA rfl rfl rfl rfl rfl ?_
  refine kA rfl rfl rfl rfl rfl ?_
  refine sA (v := .bool true) rfl (fun _ henv => rn_pick henv rfl rfl) ?_
  intro a henv
  refine wpList_nil ?_
  refine th_n ?_
  refine if_t henv rfl (rfl) ?_
  refine wp_seq ?_
  refine region_seq ?_
  refine sv (v := .bool true) henv rfl (rn_assign henv rfl) ?_
  clear henv a; intro a henv
  refine wpList_nil ?_
  refine th_n ?_
  refine wp_ret ?_
  refine th_r ?_
  refine leave henv (res1 Tryd.results3 (RV.tmp henv rfl)) ?_
  exact ⟨rfl, hst.below⟩
set_option maxRecDepth 100000 in
set_option maxHeartbeats 4000000 in
theorem gchecks_w1 {i g : Int} {A0 A1 : Option Addr} {n0 c0 n1 c1 : Nat} {es0 : List IE} {es1 : List Int} {w0 : World} (h0 : (pfRow fJ FJ 5 A0 n0 c0 es0).P w0) (h1 : (pfRow fI FI 1 A1 n1 c1 es1).P w0) (hw0 : n0 ≤ 20000) (hw : 20000 < n1) :
    Calls Tryd.prog 3 #[.agg #[.int .i64 i, .int .i64 g, .slice A0 n0 c0, .slice A1 n1 c1]] w0 fun e w' => e = .returned (.bool true) ∧ Below w0.heap.size w0 w' := by
  refine enter Tryd.func3 rfl Tryd.ntmps3 rfl ?_
  intro a henv hst
  have hlen0 := h0.2.1
  have hbig0 := Nat.le_trans h0.1.cap h0.1.big
  unfold maxLen at hbig0
  have hlen1 := h1.2.1
  have hbig1 := Nat.le_trans h1.1.cap h1.1.big
  unfold maxLen at hbig1
  replace hst := (hst.argRow h1).argRow h0
  clear h0 h1
  refine wp_seq ?_
  refine region_seq ?_
  refine seq_step rfl (op_box (c := #[.int .i64 i, .int .i64 g, .slice A0 n0 c0, .slice A1 n1 c1]) henv hst rfl rfl rfl ?_)
  clear henv hst a; intro a w52 g51 henv hst
  refine sv (v := .bool false) henv rfl (rn_assign henv rfl) ?_
  clear henv a; intro a henv
  refine wpList_nil ?_
  refine th_n ?_
  refine wp_seq ?_
  refine wp_seq ?_
  refine region_seq ?_
  refine seq_step rfl (op_call henv rfl Tryd.call10 rfl g_live ?_)
  rintro e w53 ⟨rfl, hb⟩
  refine ⟨_, rfl, ?_⟩
  clear henv a; intro a henv
  replace hst := hst.call hb
  clear hb
  refine sv (v := .bool false) henv rfl (rn_un henv rfl rfl) ?_
  clear henv a; intro a henv
  refine wpList_nil ?_
  refine th_n ?_
  refine if_f henv rfl (rfl) ?_
  refine wp_skip ?_
  refine th_n ?_
  refine wp_seq ?_
  refine wp_seq ?_
  refine region_seq ?_
  revert a
  refine sA (v := .pointer (some ⟨g51, 2, none⟩)) rfl (fun _ henv => rn_fieldAddr henv fd_anvil_api_Prog_2 (ty__api_Instr.size) (by decide) rfl) ?_
  refine sA (v := .slice A0 n0 c0) rfl (fun _ henv => rn_load1 henv ty__api_Instr rfl (hst.oat (k := 0) rfl) rfl) ?_
  refine sA (v := .int .i64 (n0 : Nat)) rfl (fun _ henv => rn_len henv Tryd.underlying22 rfl) ?_
  refine sA (v := .bool (decide (((n0 : Nat) : Int) > (20000 : Int)))) rfl (fun _ henv => rn_bin henv rfl rfl rfl) ?_
  intro a henv
  rw [show (decide (((n0 : Nat) : Int) > (20000 : Int))) = false from (decide_eq_false (by omega))] at henv
  revert a
  refine mA rfl rfl ?_
  refine gA (v := .pointer (some ⟨g51, 3, none⟩)) rfl rfl rfl rfl (fun _ henv => rn_fieldAddr henv fd_anvil_api_Prog_3 (ty__int.size) (by decide) rfl) ?_
  refine gA (v := .slice A1 n1 c1) rfl rfl rfl rfl (fun _ henv => rn_load1 henv ty__int rfl (hst.oat (k := 0) rfl) rfl) ?_
  refine gA (v := .int .i64 (n1 : Nat)) rfl rfl rfl rfl (fun _ henv => rn_len henv Tryd.underlying23 rfl) ?_
  refine gA (v := .bool (decide (((n1 : Nat) : Int) > (20000 : Int)))) rfl rfl rfl rfl (fun _ henv => rn_bin henv rfl rfl rfl) ?_
  intro a henv
  rw [show (decide (((n1 : Nat) : Int) > (20000 : Int))) = true from (decide_eq_true (by omega))] at henv
  refine sv (v := .bool true) henv rfl (rn_pick henv rfl rfl) ?_
  clear henv a; intro a henv
  refine wpList_nil ?_
  refine th_n ?_
  refine if_t henv rfl (rfl) ?_
  refine wp_seq ?_
  refine region_seq ?_
  refine sv (v := .bool true) henv rfl (rn_assign henv rfl) ?_
  clear henv a; intro a henv
  refine wpList_nil ?_
  refine th_n ?_
  refine wp_ret ?_
  refine th_r ?_
  refine leave henv (res1 Tryd.results3 (RV.tmp henv rfl)) ?_
  exact ⟨rfl, hst.below⟩
set_option maxRecDepth 100000 in
set_option maxHeartbeats 4000000 in
theorem gchecks_ok {i g : Int} {A0 A1 : Option Addr} {n0 c0 n1 c1 : Nat} {es0 : List IE} {es1 : List Int} {w0 : World} (h0 : (pfRow fJ FJ 5 A0 n0 c0 es0).P w0) (h1 : (pfRow fI FI 1 A1 n1 c1 es1).P w0) (hw0 : n0 ≤ 20000) (hw1 : n1 ≤ 20000) (hR : Right i g n0 n1 es0 es1) :
    Calls Tryd.prog 3 #[.agg #[.int .i64 i, .int .i64 g, .slice A0 n0 c0, .slice A1 n1 c1]] w0 fun e w' => e = .returned (.bool true) ∧ Below w0.heap.size w0 w' := by
  refine enter Tryd.func3 rfl Tryd.ntmps3 rfl ?_
  intro a henv hst
  have hlen0 := h0.2.1
  have hbig0 := Nat.le_trans h0.1.cap h0.1.big
  unfold maxLen at hbig0
  have hlen1 := h1.2.1
  have hbig1 := Nat.le_trans h1.1.cap h1.1.big
  unfold maxLen at hbig1
  replace hst := (hst.argRow h1).argRow h0
  clear h0 h1
  refine wp_seq ?_
  refine region_seq ?_
  refine seq_step rfl (op_box (c := #[.int .i64 i, .int .i64 g, .slice A0 n0 c0, .slice A1 n1 c1]) henv hst rfl rfl rfl ?_)
  clear henv hst a; intro a w52 g51 henv hst
  refine sv (v := .bool false) henv rfl (rn_assign henv rfl) ?_
  clear henv a; intro a henv
  refine wpList_nil ?_
  refine th_n ?_
  refine wp_seq ?_
  refine wp_seq ?_
  refine region_seq ?_
  refine seq_step rfl (op_call henv rfl Tryd.call10 rfl g_live ?_)
  rintro e w53 ⟨rfl, hb⟩
  refine ⟨_, rfl, ?_⟩
  clear henv a; intro a henv
  replace hst := hst.call hb
  clear hb
  refine sv (v := .bool false) henv rfl (rn_un henv rfl rfl) ?_
  clear henv a; intro a henv
  refine wpList_nil ?_
  refine th_n ?_
  refine if_f henv rfl (rfl) ?_
  refine wp_skip ?_
  refine th_n ?_
  refine wp_seq ?_
  refine wp_seq ?_
  refine region_seq ?_
  revert a
  refine sA (v := .pointer (some ⟨g51, 2, none⟩)) rfl (fun _ henv => rn_fieldAddr henv fd_anvil_api_Prog_2 (ty__api_Instr.size) (by decide) rfl) ?_
  refine sA (v := .slice A0 n0 c0) rfl (fun _ henv => rn_load1 henv ty__api_Instr rfl (hst.oat (k := 0) rfl) rfl) ?_
  refine sA (v := .int .i64 (n0 : Nat)) rfl (fun _ henv => rn_len henv Tryd.underlying22 rfl) ?_
  refine sA (v := .bool (decide (((n0 : Nat) : Int) > (20000 : Int)))) rfl (fun _ henv => rn_bin henv rfl rfl rfl) ?_
  intro a henv
  rw [show (decide (((n0 : Nat) : Int) > (20000 : Int))) = false from (decide_eq_false (by omega))] at henv
  revert a
  refine mA rfl rfl ?_
  refine gA (v := .pointer (some ⟨g51, 3, none⟩)) rfl rfl rfl rfl (fun _ henv => rn_fieldAddr henv fd_anvil_api_Prog_3 (ty__int.size) (by decide) rfl) ?_
  refine gA (v := .slice A1 n1 c1) rfl rfl rfl rfl (fun _ henv => rn_load1 henv ty__int rfl (hst.oat (k := 0) rfl) rfl) ?_
  refine gA (v := .int .i64 (n1 : Nat)) rfl rfl rfl rfl (fun _ henv => rn_len henv Tryd.underlying23 rfl) ?_
  refine gA (v := .bool (decide (((n1 : Nat) : Int) > (20000 : Int)))) rfl rfl rfl rfl (fun _ henv => rn_bin henv rfl rfl rfl) ?_
  intro a henv
  rw [show (decide (((n1 : Nat) : Int) > (20000 : Int))) = false from (decide_eq_false (by omega))] at henv
  refine sv (v := .bool false) henv rfl (rn_pick henv rfl rfl) ?_
  clear henv a; intro a henv
  refine wpList_nil ?_
  refine th_n ?_
  refine if_f henv rfl (rfl) ?_
  refine wp_skip ?_
  refine th_n ?_
  refine wp_seq ?_
  refine region_seq ?_
  refine sv (v := .agg #[.int .i64 i, .int .i64 g, .slice A0 n0 c0, .slice A1 n1 c1]) henv rfl (rn_load0 henv ty_anvil_api_Prog rfl (hst.oat (k := 0) rfl) rfl) ?_
  clear henv a; intro a henv
  refine seq_step rfl (op_call henv rfl Tryd.call11 rfl (g_check_ok_ (hst.pat (k := 0) rfl) (hst.pat (k := 1) rfl) hR) ?_)
  rintro e w54 ⟨rfl, hb⟩
  refine ⟨_, rfl, ?_⟩
  clear henv a; intro a henv
  replace hst := hst.call hb
  clear hb
  revert a
  refine mA rfl rfl ?_
  refine sA (v := .int .i64 0) rfl (fun _ henv => rn_extract henv rfl rfl) ?_
  refine sA (v := .int .i64 0) rfl (fun _ henv => rn_extract henv rfl rfl) ?_
  refine aA rfl rfl ?_
  refine aA rfl rfl ?_
  intro a henv
  refine wpList_nil ?_
  refine th_n ?_
  refine wp_seq ?_
  refine region_seq ?_
  refine sv (v := .agg #[.int .i64 i, .int .i64 g, .slice A0 n0 c0, .slice A1 n1 c1]) henv rfl (rn_load0 henv ty_anvil_api_Prog rfl (hst.oat (k := 0) rfl) rfl) ?_
  clear henv a; intro a henv
  refine seq_step rfl (op_call henv rfl Tryd.call12 rfl (r_check_ok_ (hst.pat (k := 0) rfl) (hst.pat (k := 1) rfl) hR) ?_)
  rintro e w55 ⟨rfl, hb⟩
  refine ⟨_, rfl, ?_⟩
  clear henv a; intro a henv
  replace hst := hst.call hb
  clear hb
  revert a
  refine mA rfl rfl ?_
  refine sA (v := .int .i64 0) rfl (fun _ henv => rn_extract henv rfl rfl) ?_
  refine sA (v := .bool false) rfl (fun _ henv => rn_extract henv rfl rfl) ?_
  refine aA rfl rfl ?_
  refine aA rfl rfl ?_
  intro a henv
  refine wpList_nil ?_
  refine th_n ?_
  refine wp_seq ?_
  refine wp_seq ?_
  refine region_seq ?_
  refine sv (v := .bool false) henv rfl (rn_move henv rfl) ?_
  clear henv a; intro a henv
  refine wpList_nil ?_
  refine th_n ?_
  refine if_f henv rfl (rfl) ?_
  refine wp_skip ?_
  refine th_n ?_
  refine wp_seq ?_
  refine region_seq ?_
  revert a
  refine mA rfl rfl ?_
  refine sA (v := .bool true) rfl (fun _ henv => rn_bin henv rfl rfl rfl) ?_
  refine mA rfl rfl ?_
  refine gA (v := .int .i64 0) rfl rfl rfl rfl (fun _ henv => rn_move henv rfl) ?_
  refine gA (v := .bool true) rfl rfl rfl rfl (fun _ henv => rn_bin henv rfl rfl rfl) ?_
  refine sA (v := .bool true) rfl (fun _ henv => rn_pick henv rfl rfl) ?_
  refine aA rfl rfl ?_
  intro a henv
  refine wpList_nil ?_
  refine th_n ?_
  refine wp_ret ?_
  refine leave henv (res1 Tryd.results3 (RV.tmp henv rfl)) ?_
  exact ⟨rfl, hst.below⟩
set_option maxRecDepth 100000 in
set_option maxHeartbeats 4000000 in
theorem gchecks_bad {i g : Int} {A0 A1 : Option Addr} {n0 c0 n1 c1 : Nat} {es0 : List IE} {es1 : List Int} {w0 : World} (h0 : (pfRow fJ FJ 5 A0 n0 c0 es0).P w0) (h1 : (pfRow fI FI 1 A1 n1 c1 es1).P w0) {k : Int} (hw0 : n0 ≤ 20000) (hw1 : n1 ≤ 20000) (hR : Wrong i g n0 n1 es0 es1 k) :
    Calls Tryd.prog 3 #[.agg #[.int .i64 i, .int .i64 g, .slice A0 n0 c0, .slice A1 n1 c1]] w0 fun e w' => e = .returned (.bool true) ∧ Below w0.heap.size w0 w' := by
  refine enter Tryd.func3 rfl Tryd.ntmps3 rfl ?_
  intro a henv hst
  have hlen0 := h0.2.1
  have hbig0 := Nat.le_trans h0.1.cap h0.1.big
  unfold maxLen at hbig0
  have hlen1 := h1.2.1
  have hbig1 := Nat.le_trans h1.1.cap h1.1.big
  unfold maxLen at hbig1
  replace hst := (hst.argRow h1).argRow h0
  clear h0 h1
  refine wp_seq ?_
  refine region_seq ?_
  refine seq_step rfl (op_box (c := #[.int .i64 i, .int .i64 g, .slice A0 n0 c0, .slice A1 n1 c1]) henv hst rfl rfl rfl ?_)
  clear henv hst a; intro a w52 g51 henv hst
  refine sv (v := .bool false) henv rfl (rn_assign henv rfl) ?_
  clear henv a; intro a henv
  refine wpList_nil ?_
  refine th_n ?_
  refine wp_seq ?_
  refine wp_seq ?_
  refine region_seq ?_
  refine seq_step rfl (op_call henv rfl Tryd.call10 rfl g_live ?_)
  rintro e w53 ⟨rfl, hb⟩
  refine ⟨_, rfl, ?_⟩
  clear henv a; intro a henv
  replace hst := hst.call hb
  clear hb
  refine sv (v := .bool false) henv rfl (rn_un henv rfl rfl) ?_
  clear henv a; intro a henv
  refine wpList_nil ?_
  refine th_n ?_
  refine if_f henv rfl (rfl) ?_
  refine wp_skip ?_
  refine th_n ?_
  refine wp_seq ?_
  refine wp_seq ?_
  refine region_seq ?_
  revert a
  refine sA (v := .pointer (some ⟨g51, 2, none⟩)) rfl (fun _ henv => rn_fieldAddr henv fd_anvil_api_Prog_2 (ty__api_Instr.size) (by decide) rfl) ?_
  refine sA (v := .slice A0 n0 c0) rfl (fun _ henv => rn_load1 henv ty__api_Instr rfl (hst.oat (k := 0) rfl) rfl) ?_
  refine sA (v := .int .i64 (n0 : Nat)) rfl (fun _ henv => rn_len henv Tryd.underlying22 rfl) ?_
  refine sA (v := .bool (decide (((n0 : Nat) : Int) > (20000 : Int)))) rfl (fun _ henv => rn_bin henv rfl rfl rfl) ?_
  intro a henv
  rw [show (decide (((n0 : Nat) : Int) > (20000 : Int))) = false from (decide_eq_false (by omega))] at henv
  revert a
  refine mA rfl rfl ?_
  refine gA (v := .pointer (some ⟨g51, 3, none⟩)) rfl rfl rfl rfl (fun _ henv => rn_fieldAddr henv fd_anvil_api_Prog_3 (ty__int.size) (by decide) rfl) ?_
  refine gA (v := .slice A1 n1 c1) rfl rfl rfl rfl (fun _ henv => rn_load1 henv ty__int rfl (hst.oat (k := 0) rfl) rfl) ?_
  refine gA (v := .int .i64 (n1 : Nat)) rfl rfl rfl rfl (fun _ henv => rn_len henv Tryd.underlying23 rfl) ?_
  refine gA (v := .bool (decide (((n1 : Nat) : Int) > (20000 : Int)))) rfl rfl rfl rfl (fun _ henv => rn_bin henv rfl rfl rfl) ?_
  intro a henv
  rw [show (decide (((n1 : Nat) : Int) > (20000 : Int))) = false from (decide_eq_false (by omega))] at henv
  refine sv (v := .bool false) henv rfl (rn_pick henv rfl rfl) ?_
  clear henv a; intro a henv
  refine wpList_nil ?_
  refine th_n ?_
  refine if_f henv rfl (rfl) ?_
  refine wp_skip ?_
  refine th_n ?_
  refine wp_seq ?_
  refine region_seq ?_
  refine sv (v := .agg #[.int .i64 i, .int .i64 g, .slice A0 n0 c0, .slice A1 n1 c1]) henv rfl (rn_load0 henv ty_anvil_api_Prog rfl (hst.oat (k := 0) rfl) rfl) ?_
  clear henv a; intro a henv
  refine seq_step rfl (op_call henv rfl Tryd.call11 rfl (g_check_bad (hst.pat (k := 0) rfl) (hst.pat (k := 1) rfl) hR) ?_)
  rintro e w54 ⟨rfl, hb⟩
  refine ⟨_, rfl, ?_⟩
  clear henv a; intro a henv
  replace hst := hst.call hb
  clear hb
  revert a
  refine mA rfl rfl ?_
  refine sA (v := .int .i64 k) rfl (fun _ henv => rn_extract henv rfl rfl) ?_
  refine sA (v := .int .i64 80) rfl (fun _ henv => rn_extract henv rfl rfl) ?_
  refine aA rfl rfl ?_
  refine aA rfl rfl ?_
  intro a henv
  refine wpList_nil ?_
  refine th_n ?_
  refine wp_seq ?_
  refine region_seq ?_
  refine sv (v := .agg #[.int .i64 i, .int .i64 g, .slice A0 n0 c0, .slice A1 n1 c1]) henv rfl (rn_load0 henv ty_anvil_api_Prog rfl (hst.oat (k := 0) rfl) rfl) ?_
  clear henv a; intro a henv
  refine seq_step rfl (op_call henv rfl Tryd.call12 rfl (r_check_bad (hst.pat (k := 0) rfl) (hst.pat (k := 1) rfl) hR) ?_)
  rintro e w55 ⟨rfl, hb⟩
  refine ⟨_, rfl, ?_⟩
  clear henv a; intro a henv
  replace hst := hst.call hb
  clear hb
  revert a
  refine mA rfl rfl ?_
  refine sA (v := .int .i64 k) rfl (fun _ henv => rn_extract henv rfl rfl) ?_
  refine sA (v := .bool true) rfl (fun _ henv => rn_extract henv rfl rfl) ?_
  refine aA rfl rfl ?_
  refine aA rfl rfl ?_
  intro a henv
  refine wpList_nil ?_
  refine th_n ?_
  refine wp_seq ?_
  refine wp_seq ?_
  refine region_seq ?_
  refine sv (v := .bool true) henv rfl (rn_move henv rfl) ?_
  clear henv a; intro a henv
  refine wpList_nil ?_
  refine th_n ?_
  refine if_t henv rfl (rfl) ?_
  refine wp_seq ?_
  refine region_seq ?_
  revert a
  refine mA rfl rfl ?_
  refine mA rfl rfl ?_
  refine sA (v := .bool (k == k)) rfl (fun _ henv => rn_bin henv rfl rfl rfl) ?_
  intro a henv
  rw [show (k == k) = true from (beq_self_eq_true _)] at henv
  revert a
  refine mA rfl rfl ?_
  refine gA (v := .int .i64 80) rfl rfl rfl rfl (fun _ henv => rn_move henv rfl) ?_
  refine gA (v := .bool true) rfl rfl rfl rfl (fun _ henv => rn_bin henv rfl rfl rfl) ?_
  refine sA (v := .bool true) rfl (fun _ henv => rn_pick henv rfl rfl) ?_
  refine mA rfl rfl ?_
  intro a henv
  refine seq_g rfl henv rfl rfl (op_call henv rfl Tryd.call10 rfl g_live ?_)
  rintro e w56 ⟨rfl, hb⟩
  refine ⟨_, rfl, ?_⟩
  clear henv a; intro a henv
  replace hst := hst.call hb
  clear hb
  revert a
  refine sA (v := .bool true) rfl (fun _ henv => rn_pick henv rfl rfl) ?_
  refine aA rfl rfl ?_
  intro a henv
  refine wpList_nil ?_
  refine th_n ?_
  refine wp_ret ?_
  refine th_r ?_
  refine leave henv (res1 Tryd.results3 (RV.tmp henv rfl)) ?_
  exact ⟨rfl, hst.below⟩
theorem gchecks_law {i g : Int} {A0 A1 : Option Addr} {n0 c0 n1 c1 : Nat} {es0 : List IE} {es1 : List Int} {w0 : World} (h0 : (pfRow fJ FJ 5 A0 n0 c0 es0).P w0) (h1 : (pfRow fI FI 1 A1 n1 c1 es1).P w0) :
    Calls Tryd.prog 3 #[.agg #[.int .i64 i, .int .i64 g, .slice A0 n0 c0, .slice A1 n1 c1]] w0 fun e w' => e = .returned (.bool true) ∧ Below w0.heap.size w0 w' := by
  rcases Nat.lt_or_ge 20000 n0 with a0 | a0
  · exact gchecks_w0 h0 h1 a0
  rcases Nat.lt_or_ge 20000 n1 with a1 | a1
  · exact gchecks_w1 h0 h1 a0 a1
  rcases right_or i g n0 n1 es0 es1 with h | ⟨k, h⟩
  · exact gchecks_ok h0 h1 a0 a1 h
  · exact gchecks_bad h0 h1 a0 a1 h
end Go.Proofs.YtbdngknpngcojaaDoor.W
