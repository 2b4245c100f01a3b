/- strconv.Itoa of one digit, live; ProgChecks. Printed by pv/gen_g2.py. No condition. -/
import Derived.Test.YtbdngknpngcojaaDoorM48
import Derived.Test.YtbdngknpngcojaaDoorM15
import Derived.Test.YtbdngknpngcojaaDoorM46
import Derived.Test.YtbdngknpngcojaaDoorM16
import Derived.Test.YtbdngknpngcojaaDoorM40
import Derived.Test.YtbdngknpngcojaaDoorM36
import Derived.Test.YtbdngknpngcojaaDoorM47
import Derived.Test.YtbdngknpngcojaaDoorM34
import Derived.OrdersIn

namespace Go.Proofs.YtbdngknpngcojaaDoor.W
open Go.RowKit Anv Go.Lib
theorem small_text {n : Nat} (h : n < 10) : (([48, 49, 50, 51, 52, 53, 54, 55, 56, 57, 97, 98, 99, 100, 101, 102, 103, 104, 105, 106, 107, 108, 109, 110, 111, 112, 113, 114, 115, 116, 117, 118, 119, 120, 121, 122] : List UInt8).drop n).take (n + 1 - n) = textZ (n : Nat) := by
  have : ∀ m : Fin 10, (([48, 49, 50, 51, 52, 53, 54, 55, 56, 57, 97, 98, 99, 100, 101, 102, 103, 104, 105, 106, 107, 108, 109, 110, 111, 112, 113, 114, 115, 116, 117, 118, 119, 120, 121, 122] : List UInt8).drop m.1).take (m.1 + 1 - m.1) = textZ (m.1 : Nat) := by decide +kernel
  exact this ⟨n, h⟩
theorem tz1 : textZ 1 = [49] := by decide +kernel
theorem tz0 : textZ 0 = [48] := by decide +kernel
def outT (r : Int) : List UInt8 := 32 :: 114 :: textZ r
theorem one_out : ((([0] : List Int).take 0).flatMap outT) = [] := rfl
theorem one_outs : (([0] : List Int).take 1).flatMap outT = [32, 114, 48] := by simp [outT, tz0]
theorem out_step {X : List UInt8} {es : List Int} {j : Nat} (h : es[j]? = some 0) : (X ++ (es.take j).flatMap outT) ++ ([32] ++ [114, 48]) = X ++ (es.take (j + 1)).flatMap outT := by
  rw [take_one h, List.flatMap_append, List.append_assoc, show ([0] : List Int).flatMap outT = [32] ++ [114, 48] by simp [outT, tz0]]
theorem right_one : Right 1 1 0 1 [] [0] := ⟨by unfold HeadOk; omega, fun x hx => by rw [List.mem_singleton.1 hx]; omega, fun e h => by cases h⟩
section
variable {N : Nat} {dq : List Deferred} {a : Act} {l : List (Nat × Value)} {w : World} {d : Nat} {ty : TypeId} {pos : String} {af : Array Edge} {gd : Option (Nat × Bool)}
theorem rn_prog013 {x0 x1 x3 : Operand} {v0 : Int} {v1 : Int} {A3 : Option Addr} {n3 c3 : Nat} (h : EnvD dq N a l) (h0 : evl l x0 = some (.int .i64 v0)) (h1 : evl l x1 = some (.int .i64 v1)) (h3 : evl l x3 = some (.slice A3 n3 c3)) :
    (execOp a.eval ⟨some d, .build 25 #[(0, x0), (1, x1), (3, x3)], ty, pos, af, gd⟩).run Tryd.prog w = .ok (.value (.agg #[.int .i64 v0, .int .i64 v1, .slice none 0 0, .slice A3 n3 c3])) w := by
  have hz : (zeroValue 25).run Tryd.prog w = .ok (.agg #[.int .i64 0, .int .i64 0, .slice none 0 0, .slice none 0 0]) w := by obtain ⟨i, hi, hv⟩ := zero_anvil_api_Prog; simp [zeroValue, typeInfo, hi, hv]
  simp [execOp, h.ev h0, h.ev h1, h.ev h3, Instr.build, hz, run_underlying Tryd.underlying25, Sem.run_bind, run_sizeOf ty_int.size, run_sizeOf ty__api_Instr.size, run_sizeOf ty__int.size, Instr.fill, Value.cells]
end
set_option maxRecDepth 100000 in
set_option maxHeartbeats 2000000 in
theorem g_small {n : Nat} {w0 : World} (hn : n < 10) :
    Calls Tryd.prog 78 #[.int .i64 (n : Nat)] w0 fun e w' => e = .returned (.string ⟨(textZ (n : Nat)).toArray⟩) ∧ Below w0.heap.size w0 w' := by
  refine enter Tryd.func78 rfl Tryd.ntmps78 rfl ?_
  intro a henv hst
  refine wp_seq ?_
  refine region_seq ?_
  refine sv (v := .string ⟨#[]⟩) henv rfl (rn_assign henv rfl) ?_
  clear henv a; intro a henv
  refine wpList_nil ?_
  refine th_n ?_
  refine wp_seq ?_
  refine wp_seq ?_
  refine region_seq ?_
  revert a
  refine mA rfl rfl ?_
  refine sA (v := .bool (decide (((n : Nat) : Int) < (10 : Int)))) rfl (fun _ henv => rn_bin henv rfl rfl rfl) ?_
  intro a henv
  rw [show (decide (((n : Nat) : Int) < (10 : Int))) = true from (decide_eq_true (by omega))] at henv
  refine wpList_nil ?_
  refine th_n ?_
  refine if_t henv rfl (rfl) ?_
  refine wp_seq ?_
  refine region_seq ?_
  revert a
  refine mA rfl rfl ?_
  refine mA rfl rfl ?_
  refine sA (v := .int .i64 (n + 1 : Nat)) rfl (fun _ henv => rn_add henv rfl rfl (by rw [IntWalk.i64_in _ (by omega)]; omega)) ?_
  refine sA (v := .string ⟨((([48, 49, 50, 51, 52, 53, 54, 55, 56, 57, 97, 98, 99, 100, 101, 102, 103, 104, 105, 106, 107, 108, 109, 110, 111, 112, 113, 114, 115, 116, 117, 118, 119, 120, 121, 122]).drop n).take ((n + 1) - n)).toArray⟩) rfl (fun _ henv => rn_cutS (n := n) (m := n + 1) henv Tryd.underlying9 rfl rfl rfl (by (try simp only [List.length_append, List.length_cons, List.length_nil, tz1, tz0]); omega) (by (try simp only [List.length_append, List.length_cons, List.length_nil, tz1, tz0]); omega)) ?_
  refine aA rfl rfl ?_
  intro a henv
  refine wpList_nil ?_
  refine th_n ?_
  refine wp_ret ?_
  refine th_r ?_
  refine leave henv (res1 Tryd.results78 (RV.tmp henv rfl)) ?_
  exact ⟨by rw [small_text hn], hst.below⟩
set_option maxRecDepth 100000 in
set_option maxHeartbeats 2000000 in
theorem g_format {n : Nat} {w0 : World} (hn : n < 10) :
    Calls Tryd.prog 71 #[.int .i64 (n : Nat), .int .i64 10] w0 fun e w' => e = .returned (.string ⟨(textZ (n : Nat)).toArray⟩) ∧ Below w0.heap.size w0 w' := by
  refine enter Tryd.func71 rfl Tryd.ntmps71 rfl ?_
  intro a henv hst
  refine wp_seq ?_
  refine region_seq ?_
  refine sv (v := .string ⟨#[]⟩) henv rfl (rn_assign henv rfl) ?_
  clear henv a; intro a henv
  refine wpList_nil ?_
  refine th_n ?_
  refine wp_seq ?_
  refine wp_seq ?_
  refine region_seq ?_
  revert a
  refine mA rfl rfl ?_
  refine sA (v := .bool true) rfl (fun _ henv => rn_bin henv rfl rfl rfl) ?_
  intro a henv
  refine wpList_nil ?_
  refine th_n ?_
  refine if_t henv rfl (rfl) ?_
  refine wp_seq ?_
  refine wp_seq ?_
  refine region_seq ?_
  revert a
  refine mA rfl rfl ?_
  refine sA (v := .bool (decide ((0 : Int) ≤ ((n : Nat) : Int)))) rfl (fun _ henv => rn_bin henv rfl rfl rfl) ?_
  intro a henv
  rw [show (decide ((0 : Int) ≤ ((n : Nat) : Int))) = true from (decide_eq_true (by omega))] at henv
  revert a
  refine mA rfl rfl ?_
  refine gA (v := .int .i64 (n : Nat)) rfl rfl rfl rfl (fun _ henv => rn_move henv rfl) ?_
  refine gA (v := .bool (decide (((n : Nat) : Int) < (100 : Int)))) rfl rfl rfl rfl (fun _ henv => rn_bin henv rfl rfl rfl) ?_
  intro a henv
  rw [show (decide (((n : Nat) : Int) < (100 : Int))) = true from (decide_eq_true (by omega))] at henv
  refine sv (v := .bool true) henv rfl (rn_pick henv rfl rfl) ?_
  clear henv a; intro a henv
  refine wpList_nil ?_
  refine th_n ?_
  refine if_t henv rfl (rfl) ?_
  refine wp_seq ?_
  refine region_seq ?_
  refine sv (v := .int .i64 (n : Nat)) henv rfl (rn_move henv rfl) ?_
  clear henv a; intro a henv
  refine seq_step rfl (op_call henv rfl Tryd.call78 rfl (g_small hn) ?_)
  rintro e w51 ⟨rfl, hb⟩
  refine ⟨_, rfl, ?_⟩
  clear henv a; intro a henv
  replace hst := hst.call hb
  clear hb
  refine sv (v := .string ⟨(textZ (n : Nat)).toArray⟩) henv rfl (rn_assign henv rfl) ?_
  clear henv a; intro a henv
  refine wpList_nil ?_
  refine th_n ?_
  refine wp_ret ?_
  refine th_r (th_r ?_)
  refine leave henv (res1 Tryd.results71 (RV.tmp henv rfl)) ?_
  exact ⟨rfl, hst.below⟩
set_option maxRecDepth 100000 in
set_option maxHeartbeats 2000000 in
theorem g_itoa0 {n : Nat} {w0 : World} (hn : n < 10) :
    Calls Tryd.prog 61 #[.int .i64 (n : Nat)] w0 fun e w' => e = .returned (.string ⟨(textZ (n : Nat)).toArray⟩) ∧ Below w0.heap.size w0 w' := by
  refine enter Tryd.func61 rfl Tryd.ntmps61 rfl ?_
  intro a henv hst
  refine wp_seq ?_
  refine region_seq ?_
  refine sv (v := .string ⟨#[]⟩) henv rfl (rn_assign henv rfl) ?_
  clear henv a; intro a henv
  refine wpList_nil ?_
  refine th_n ?_
  refine wp_seq ?_
  refine region_seq ?_
  refine sv (v := .int .i64 (n : Nat)) henv rfl (rn_move henv rfl) ?_
  clear henv a; intro a henv
  refine seq_step rfl (op_call henv rfl Tryd.call71 rfl (g_format hn) ?_)
  rintro e w51 ⟨rfl, hb⟩
  refine ⟨_, rfl, ?_⟩
  clear henv a; intro a henv
  replace hst := hst.call hb
  clear hb
  refine sv (v := .string ⟨(textZ (n : Nat)).toArray⟩) henv rfl (rn_assign henv rfl) ?_
  clear henv a; intro a henv
  refine wpList_nil ?_
  refine th_n ?_
  refine wp_ret ?_
  refine leave henv (res1 Tryd.results61 (RV.tmp henv rfl)) ?_
  exact ⟨rfl, hst.below⟩
set_option maxRecDepth 100000 in
set_option maxHeartbeats 2000000 in
theorem g_itoa {n : Nat} {w0 : World} (hn : n < 10) :
    Calls Tryd.prog 45 #[.int .i64 (n : Nat)] w0 fun e w' => e = .returned (.string ⟨(textZ (n : Nat)).toArray⟩) ∧ Below w0.heap.size w0 w' := by
  refine enter Tryd.func45 rfl Tryd.ntmps45 rfl ?_
  intro a henv hst
  refine wp_seq ?_
  refine region_seq ?_
  refine sv (v := .string ⟨#[]⟩) henv rfl (rn_assign henv rfl) ?_
  clear henv a; intro a henv
  refine wpList_nil ?_
  refine th_n ?_
  refine wp_seq ?_
  refine region_seq ?_
  refine sv (v := .int .i64 (n : Nat)) henv rfl (rn_move henv rfl) ?_
  clear henv a; intro a henv
  refine seq_step rfl (op_call henv rfl Tryd.call61 rfl (g_itoa0 hn) ?_)
  rintro e w51 ⟨rfl, hb⟩
  refine ⟨_, rfl, ?_⟩
  clear henv a; intro a henv
  replace hst := hst.call hb
  clear hb
  refine sv (v := .string ⟨(textZ (n : Nat)).toArray⟩) henv rfl (rn_assign henv rfl) ?_
  clear henv a; intro a henv
  refine wpList_nil ?_
  refine th_n ?_
  refine wp_ret ?_
  refine leave henv (res1 Tryd.results45 (RV.tmp henv rfl)) ?_
  exact ⟨rfl, hst.below⟩
set_option maxRecDepth 100000 in
set_option maxHeartbeats 2000000 in
theorem g_reg0 {w0 : World} :
    Calls Tryd.prog 47 #[.int .i64 0] w0 fun e w' => e = .returned (.string ⟨[114, 48].toArray⟩) ∧ Below w0.heap.size w0 w' := by
  refine enter Tryd.func47 rfl Tryd.ntmps47 rfl ?_
  intro a henv hst
  refine wp_seq ?_
  refine region_seq ?_
  refine sv (v := .string ⟨#[]⟩) henv rfl (rn_assign henv rfl) ?_
  clear henv a; intro a henv
  refine wpList_nil ?_
  refine th_n ?_
  refine wp_seq ?_
  refine region_seq ?_
  refine sv (v := .int .i64 0) henv rfl (rn_move henv rfl) ?_
  clear henv a; intro a henv
  refine seq_step rfl (op_call henv rfl Tryd.call45 rfl (g_itoa (n := 0) (by decide)) ?_)
  rintro e w51 ⟨rfl, hb⟩
  refine ⟨_, rfl, ?_⟩
  clear henv a; intro a henv
  replace hst := hst.call hb
  clear hb
  revert a
  refine sA (v := .string ⟨(([114]) ++ (textZ (0 : Int))).toArray⟩) rfl (fun _ henv => rn_catS (s := [114]) (t := (textZ (0 : Int))) henv rfl rfl (by (try simp only [List.length_append, List.length_cons, List.length_nil, tz1, tz0]); omega)) ?_
  refine aA rfl rfl ?_
  intro a henv
  refine wpList_nil ?_
  refine th_n ?_
  refine wp_ret ?_
  refine leave henv (res1 Tryd.results47 (RV.tmp henv rfl)) ?_
  exact ⟨by rw [show textZ 0 = [48] by decide +kernel]; rfl, hst.below⟩
set_option maxRecDepth 100000 in
set_option maxHeartbeats 4000000 in
theorem g_text1 {A1 : Option Addr} {c1 : Nat} {w0 : World} (h1 : (pfRow fI FI 1 A1 1 c1 ([0])).P w0) :
    Calls Tryd.prog 31 #[.agg #[.int .i64 1, .int .i64 1, .slice none 0 0, .slice A1 1 c1]] w0 fun e w' => e = .returned (.tuple #[.string ⟨[105, 110, 32, 49, 32, 114, 101, 103, 115, 32, 49, 10, 111, 117, 116, 32, 114, 48, 10].toArray⟩, .int .i64 0]) ∧ Below w0.heap.size w0 w' := by
  refine enter Tryd.func31 rfl Tryd.ntmps31 rfl ?_
  intro a henv hst
  replace hst := hst.argRow h1
  refine wp_seq ?_
  refine region_seq ?_
  refine seq_step rfl (op_box (c := #[.int .i64 1, .int .i64 1, .slice none 0 0, .slice A1 1 c1]) henv hst rfl rfl rfl ?_)
  clear henv hst a; intro a w52 g51 henv hst
  revert a
  refine aA rfl rfl ?_
  refine aA rfl rfl ?_
  intro a henv
  refine wpList_nil ?_
  refine th_n ?_
  refine wp_seq ?_
  refine wp_seq ?_
  refine region_seq ?_
  refine sv (v := .agg #[.int .i64 1, .int .i64 1, .slice none 0 0, .slice A1 1 c1]) henv rfl (rn_load0 henv ty_anvil_api_Prog rfl (hst.oat (k := 0) rfl) rfl) ?_
  clear henv a; intro a henv
  refine seq_step rfl (op_call henv rfl Tryd.call37 rfl (g_right_ok (es0 := []) (es1 := [0]) (row_nil fJ FJ 5 _) (hst.pat (k := 0) rfl) right_one) ?_)
  rintro e w53 ⟨rfl, hb⟩
  refine ⟨_, rfl, ?_⟩
  clear henv a; intro a henv
  replace hst := hst.call hb
  clear hb
  refine sv (v := .bool false) henv rfl (rn_un henv rfl rfl) ?_
  clear henv a; intro a henv
  refine wpList_nil ?_
  refine th_n ?_
  refine if_f henv rfl (rfl) ?_
  refine wp_skip ?_
  refine th_n ?_
  refine wp_seq ?_
  refine region_seq ?_
  refine seq_step rfl (op_alloc (c := #[.pointer none, .slice none 0 0]) henv hst rfl zero_strings_Builder rfl ?_)
  clear henv hst a; intro a w55 g54 henv hst
  refine wpList_nil ?_
  replace hst := hst.bld (k := 0) rfl
  replace hst : St w0 _ [bldF g54 (.slice none 0 0) ([] : List UInt8).length (byteCells ([] : List UInt8)), bk g51 #[.int .i64 1, .int .i64 1, .slice none 0 0, .slice A1 1 c1] 25] [pfRow fI FI 1 A1 1 c1 ([0])] := hst
  refine th_n ?_
  refine wp_seq ?_
  refine region_any (n := 11) (Sk [bk g51 #[.int .i64 1, .int .i64 1, .slice none 0 0, .slice A1 1 c1] 25] [pfRow fI FI 1 A1 1 c1 ([0])] [] []) mixed rfl henv hst ?_
  clear henv hst; intro w56 henv hst
  refine tA (i := 0) [1, 2, 3, 4, 7, 8, 9, 10] (v := .pointer (some ⟨g51, 0, none⟩)) rfl (by kernel_rfl) (fun _ _ _ h => h) henv rfl (fun _ => rn_fieldAddr henv fd_anvil_api_Prog_0 (ty_int.size) (by decide) rfl) ?_
  clear henv a; intro a henv
  refine sAny_take (i := 1) [2, 3, 4, 7, 8, 9, 10] (fun w' => w'.heap[g51]? = some (.cells #[.int .i64 1, .int .i64 1, .slice none 0 0, .slice A1 1 c1] 25 (0, 0))) (v := .int .i64 1) rfl (by kernel_rfl) (fun _ _ _ h => h) (fun _ _ _ hS => hS.1.oat (k := 0) rfl) henv rfl (hst.oat (k := 1) rfl) (fun w' hg => rn_load1 henv ty_int rfl hg rfl) ?_
  clear henv a; intro a henv
  refine tA (i := 5) (rg 6 5) (v := .pointer (some ⟨g51, 1, none⟩)) rfl (by kernel_rfl) (fun _ _ _ h => h) henv rfl (fun _ => rn_fieldAddr henv fd_anvil_api_Prog_1 (ty_int.size) (by decide) rfl) ?_
  clear henv a; intro a henv
  refine sAny_take (i := 6) [7, 8, 9, 10] (fun w' => w'.heap[g51]? = some (.cells #[.int .i64 1, .int .i64 1, .slice none 0 0, .slice A1 1 c1] 25 (0, 0))) (v := .int .i64 1) rfl (by kernel_rfl) (fun _ _ _ h => h) (fun _ _ _ hS => hS.1.oat (k := 0) rfl) henv rfl (hst.oat (k := 1) rfl) (fun w' hg => rn_load1 henv ty_int rfl hg rfl) ?_
  clear henv a; intro a henv
  refine sAny_one (i := 2) (by kernel_rfl) rfl rfl (op_call henv rfl Tryd.call45 rfl (g_itoa (n := 1) (by decide)) ?_)
  rintro e w57 ⟨rfl, hb⟩
  refine ⟨_, rfl, ?_⟩
  clear henv a; intro a henv
  replace hst := hst.call hb
  clear hb
  refine ⟨.inr ⟨hst.kn.pick [1] [0], .inr (hst.kn.pick [] [])⟩, ?_⟩
  refine tA (i := 3) [4, 8, 9, 10] (v := .string ⟨(([105, 110, 32]) ++ (textZ (1 : Int))).toArray⟩) rfl (by kernel_rfl) (fun _ _ _ h => h) henv rfl (fun _ => rn_catS (s := [105, 110, 32]) (t := (textZ (1 : Int))) henv rfl rfl (by (try simp only [List.length_append, List.length_cons, List.length_nil, tz1, tz0]); omega)) ?_
  clear henv a; intro a henv
  refine tA (i := 4) [8, 9, 10] (v := .string ⟨((([105, 110, 32]) ++ (textZ (1 : Int))) ++ ([32, 114, 101, 103, 115, 32])).toArray⟩) rfl (by kernel_rfl) (fun _ _ _ h => h) henv rfl (fun _ => rn_catS (s := (([105, 110, 32]) ++ (textZ (1 : Int)))) (t := [32, 114, 101, 103, 115, 32]) henv rfl rfl (by (try simp only [List.length_append, List.length_cons, List.length_nil, tz1, tz0]); omega)) ?_
  clear henv a; intro a henv
  refine sAny_one (i := 7) (by kernel_rfl) rfl rfl (op_call henv rfl Tryd.call45 rfl (g_itoa (n := 1) (by decide)) ?_)
  rintro e w58 ⟨rfl, hb⟩
  refine ⟨_, rfl, ?_⟩
  clear henv a; intro a henv
  replace hst := hst.call hb
  clear hb
  refine ⟨.inr ⟨hst.kn.pick [1] [0], .inr (hst.kn.pick [] [])⟩, ?_⟩
  refine tA (i := 8) [9, 10] (v := .string ⟨(((([105, 110, 32]) ++ (textZ (1 : Int))) ++ ([32, 114, 101, 103, 115, 32])) ++ (textZ (1 : Int))).toArray⟩) rfl (by kernel_rfl) (fun _ _ _ h => h) henv rfl (fun _ => rn_catS (s := ((([105, 110, 32]) ++ (textZ (1 : Int))) ++ ([32, 114, 101, 103, 115, 32]))) (t := (textZ (1 : Int))) henv rfl rfl (by (try simp only [List.length_append, List.length_cons, List.length_nil, tz1, tz0]); omega)) ?_
  clear henv a; intro a henv
  refine tA (i := 9) [10] (v := .string ⟨((((([105, 110, 32]) ++ (textZ (1 : Int))) ++ ([32, 114, 101, 103, 115, 32])) ++ (textZ (1 : Int))) ++ ([10])).toArray⟩) rfl (by kernel_rfl) (fun _ _ _ h => h) henv rfl (fun _ => rn_catS (s := (((([105, 110, 32]) ++ (textZ (1 : Int))) ++ ([32, 114, 101, 103, 115, 32])) ++ (textZ (1 : Int)))) (t := [10]) henv rfl rfl (by (try simp only [List.length_append, List.length_cons, List.length_nil, tz1, tz0]); omega)) ?_
  clear henv a; intro a henv
  refine sAny_one (i := 10) (by kernel_rfl) rfl rfl (op_write (s := ⟨(((((([105, 110, 32]) ++ (textZ (1 : Int))) ++ ([32, 114, 101, 103, 115, 32])) ++ (textZ (1 : Int))) ++ ([10])) : List UInt8).toArray⟩) (k := 0) henv hst rfl rfl rfl rfl (by rw [ba_size]; simp only [List.length_append, List.length_cons, List.length_nil, tz1, tz0, one_out, one_outs]; omega) ?_)
  clear henv hst a; intro a w59 v60 henv hst
  rw [ba_size, byteCells_app, ← List.length_append] at hst
  rw [List.nil_append] at hst
  refine ⟨.inr ⟨hst.kn.pick [1] [0], .inr (hst.kn.pick [] [])⟩, ?_⟩
  refine sAny_done (by kernel_rfl) ?_ _
  refine th_n ?_
  refine wp_seq ?_
  refine wp_seq ?_
  refine region_seq ?_
  revert a
  refine sA (v := .pointer (some ⟨g51, 2, none⟩)) rfl (fun _ henv => rn_fieldAddr henv fd_anvil_api_Prog_2 (ty__api_Instr.size) (by decide) rfl) ?_
  refine sA (v := .slice none 0 0) rfl (fun _ henv => rn_load1 henv ty__api_Instr rfl (hst.oat (k := 1) rfl) rfl) ?_
  refine sA (v := .int .i64 0) rfl (fun _ henv => rn_len henv Tryd.underlying22 rfl) ?_
  refine mA rfl rfl ?_
  intro a henv
  refine wpList_nil ?_
  refine th_n ?_
  refine wp_block ?_
  refine wp_loop_ghost (fun mz a w => 0 = mz ∧ Env 50 a [(4, .pointer (some ⟨g54, 0, none⟩)), (1, .pointer (some ⟨g51, 0, none⟩)), (24, .slice none 0 0), (25, .int .i64 0), (26, .int .i64 0)] ∧ St w0 w [bldF g54 v60 ((((((([105, 110, 32]) ++ (textZ (1 : Int))) ++ ([32, 114, 101, 103, 115, 32])) ++ (textZ (1 : Int))) ++ ([10]))) : List UInt8).length (byteCells ((((((([105, 110, 32]) ++ (textZ (1 : Int))) ++ ([32, 114, 101, 103, 115, 32])) ++ (textZ (1 : Int))) ++ ([10]))) : List UInt8)), bk g51 #[.int .i64 1, .int .i64 1, .slice none 0 0, .slice A1 1 c1] 25] [pfRow fI FI 1 A1 1 c1 ([0])]) _ ⟨rfl, henv.sub ⟨rfl, rfl, rfl, rfl, rfl, trivial⟩, hst.pick [0, 1] [0] (by decide)⟩ ?_
  clear henv hst a
  rintro mz a w61 ⟨rfl, henv, hst⟩
  refine wp_seq ?_
  refine region_seq ?_
  refine sv (v := .bool false) henv rfl (rn_bin henv rfl rfl rfl) ?_
  clear henv a; intro a henv
  refine wpList_nil ?_
  refine th_n ?_
  refine wp_seq ?_
  refine if_f henv rfl (rfl) ?_
  refine wp_exit ?_
  refine th_x (th_x (bl_x (th_n ?_)))
  refine wp_seq ?_
  refine region_seq ?_
  refine seq_step rfl (op_write (s := ⟨([111, 117, 116] : List UInt8).toArray⟩) (k := 0) henv hst rfl rfl rfl rfl (by rw [ba_size]; simp only [List.length_append, List.length_cons, List.length_nil, tz1, tz0, one_out, one_outs]; omega) ?_)
  clear henv hst a; intro a w62 v63 henv hst
  rw [ba_size, byteCells_app, ← List.length_append] at hst
  refine wpList_nil ?_
  refine th_n ?_
  refine wp_seq ?_
  refine wp_seq ?_
  refine region_seq ?_
  revert a
  refine sA (v := .pointer (some ⟨g51, 3, none⟩)) rfl (fun _ henv => rn_fieldAddr henv fd_anvil_api_Prog_3 (ty__int.size) (by decide) rfl) ?_
  refine sA (v := .slice A1 1 c1) rfl (fun _ henv => rn_load1 henv ty__int rfl (hst.oat (k := 1) rfl) rfl) ?_
  refine sA (v := .int .i64 1) rfl (fun _ henv => rn_len henv Tryd.underlying23 rfl) ?_
  refine mA rfl rfl ?_
  intro a henv
  refine wpList_nil ?_
  refine th_n ?_
  refine wp_block ?_
  replace hst : St w0 w62 [bldF g54 v63 ((((((((([105, 110, 32]) ++ (textZ (1 : Int))) ++ ([32, 114, 101, 103, 115, 32])) ++ (textZ (1 : Int))) ++ ([10]))) ++ ([111, 117, 116])) ++ (([0] : List Int).take 0).flatMap outT) : List UInt8).length (byteCells ((((((((([105, 110, 32]) ++ (textZ (1 : Int))) ++ ([32, 114, 101, 103, 115, 32])) ++ (textZ (1 : Int))) ++ ([10]))) ++ ([111, 117, 116])) ++ (([0] : List Int).take 0).flatMap outT) : List UInt8))] [pfRow fI FI 1 A1 1 c1 ([0])] := by rw [show ((((((([105, 110, 32]) ++ (textZ (1 : Int))) ++ ([32, 114, 101, 103, 115, 32])) ++ (textZ (1 : Int))) ++ ([10]))) ++ ([111, 117, 116])) ++ (([0] : List Int).take 0).flatMap outT = ((((((([105, 110, 32]) ++ (textZ (1 : Int))) ++ ([32, 114, 101, 103, 115, 32])) ++ (textZ (1 : Int))) ++ ([10]))) ++ ([111, 117, 116])) by simp]; exact hst.pick [0] [0] (by decide)
  refine wp_loop_ghost (fun mz a w => ∃ j : Nat, ∃ vb : Value, 1 - j = mz ∧ Env 50 a [(4, .pointer (some ⟨g54, 0, none⟩)), (37, .slice A1 1 c1), (38, .int .i64 1), (39, .int .i64 (j : Nat))] ∧ St w0 w [bldF g54 vb ((((((((([105, 110, 32]) ++ (textZ (1 : Int))) ++ ([32, 114, 101, 103, 115, 32])) ++ (textZ (1 : Int))) ++ ([10]))) ++ ([111, 117, 116])) ++ ([0].take j).flatMap outT) : List UInt8).length (byteCells ((((((((([105, 110, 32]) ++ (textZ (1 : Int))) ++ ([32, 114, 101, 103, 115, 32])) ++ (textZ (1 : Int))) ++ ([10]))) ++ ([111, 117, 116])) ++ ([0].take j).flatMap outT) : List UInt8))] [pfRow fI FI 1 A1 1 c1 ([0])] ∧ j ≤ 1) _ ⟨0, v63, rfl, henv.sub ⟨rfl, rfl, rfl, rfl, trivial⟩, hst.pick [0] [0] (by decide), (Nat.zero_le _)⟩ ?_
  clear henv hst a
  rintro mz a w64 ⟨j, vb, rfl, henv, hst, hj⟩
  refine wp_seq ?_
  refine region_seq ?_
  refine sv (v := .bool (decide (((j : Nat) : Int) < (1 : Int)))) henv rfl (rn_bin henv rfl rfl rfl) ?_
  clear henv a; intro a henv
  refine wpList_nil ?_
  refine th_n ?_
  refine wp_seq ?_
  refine if_split henv rfl (fun hc65 => ?_) (fun hc65 => ?_)
  · have hlt : j < 1 := by have := of_decide_eq_true hc65; omega
    obtain rfl : j = 0 := by omega
    have hz : ([0] : List Int)[0]? = some 0 := rfl
    refine wp_skip ?_
    refine th_n ?_
    refine wp_seq ?_
    refine wp_block ?_
    refine wp_seq ?_
    refine region_seq ?_
    revert a
    refine sA (v := .pointer (some ⟨ab A1, ao A1 + 0 * 1, none⟩)) rfl (fun _ henv => rn_idxR (i := 0) henv Tryd.underlying23 (ty_int.size) rfl rfl (by omega) rfl (show (pfRow fI FI 1 A1 1 c1 ([0])).P _ from (hst.pat (k := 0) rfl)).1) ?_
    refine sA (v := .int .i64 0) rfl (fun _ henv => rn_loadE1 (i := 0) (j := 0) (e := 0) henv ty_int rfl rfl fI_len (by decide) (show (pfRow fI FI 1 A1 1 c1 ([0])).P _ from (hst.pat (k := 0) rfl)).1 (by omega) hz rfl) ?_
    refine aA rfl rfl ?_
    intro a henv
    refine wpList_nil ?_
    refine th_n ?_
    refine region_seq ?_
    refine sv (v := .int .i64 0) henv rfl (rn_move henv rfl) ?_
    clear henv a; intro a henv
    refine seq_step rfl (op_call henv rfl Tryd.call47 rfl g_reg0 ?_)
    rintro e w66 ⟨rfl, hb⟩
    refine ⟨_, rfl, ?_⟩
    clear henv a; intro a henv
    replace hst := hst.call hb
    clear hb
    refine sv (v := .string ⟨(([32]) ++ ([114, 48] : List UInt8)).toArray⟩) henv rfl (rn_catS (s := [32]) (t := ([114, 48] : List UInt8)) henv rfl rfl (by (try simp only [List.length_append, List.length_cons, List.length_nil, tz1, tz0]); omega)) ?_
    clear henv a; intro a henv
    refine seq_step rfl (op_write (s := ⟨((([32]) ++ ([114, 48] : List UInt8)) : List UInt8).toArray⟩) (k := 0) henv hst rfl rfl rfl rfl (by rw [ba_size]; simp only [List.length_append, List.length_cons, List.length_nil, tz1, tz0, one_out, one_outs]; omega) ?_)
    clear henv hst a; intro a w67 v68 henv hst
    rw [ba_size, byteCells_app, ← List.length_append] at hst
    refine wpList_nil ?_
    refine bl_n (th_n ?_)
    refine region_seq ?_
    revert a
    refine sA (v := .int .i64 (0 + 1 : Nat)) rfl (fun _ henv => rn_add henv rfl rfl (by rw [IntWalk.i64_in _ (by omega)]; omega)) ?_
    refine mA rfl rfl ?_
    intro a henv
    refine wpList_nil ?_
    rw [show ((((((((([105, 110, 32]) ++ (textZ (1 : Int))) ++ ([32, 114, 101, 103, 115, 32])) ++ (textZ (1 : Int))) ++ ([10]))) ++ ([111, 117, 116])) ++ ([0].take 0).flatMap outT) ++ (([32]) ++ ([114, 48] : List UInt8))) = ((((((([105, 110, 32]) ++ (textZ (1 : Int))) ++ ([32, 114, 101, 103, 115, 32])) ++ (textZ (1 : Int))) ++ ([10]))) ++ ([111, 117, 116])) ++ (([0] : List Int).take (0 + 1)).flatMap outT from out_step hz] at hst
    exact th_n ⟨_, (by omega), ⟨1, v68, rfl, henv.sub ⟨rfl, rfl, rfl, rfl, trivial⟩, hst.pick [0] [0] (by decide), (by omega)⟩⟩
  · obtain rfl : j = 1 := by have := of_decide_eq_false hc65; omega
    refine wp_exit ?_
    refine th_x (th_x (bl_x (th_n ?_)))
    refine wp_seq ?_
    refine region_seq ?_
    refine seq_step rfl (op_write (s := ⟨([10] : List UInt8).toArray⟩) (k := 0) henv hst rfl rfl rfl rfl (by rw [ba_size]; simp only [List.length_append, List.length_cons, List.length_nil, tz1, tz0, one_out, one_outs]; omega) ?_)
    clear henv hst a; intro a w69 v70 henv hst
    rw [ba_size, byteCells_app, ← List.length_append] at hst
    refine wpList_nil ?_
    refine th_n ?_
    refine wp_seq ?_
    refine region_seq ?_
    refine seq_step rfl (op_bstr (k := 0) henv hst rfl rfl rfl ?_)
    clear henv hst a; intro a w71 henv hst
    revert a
    refine aA rfl rfl ?_
    refine aA rfl rfl ?_
    intro a henv
    refine wpList_nil ?_
    refine th_n ?_
    refine wp_ret ?_
    refine leave henv (res2 Tryd.results31 (RV.tmp henv rfl) (RV.tmp henv rfl)) ?_
    exact ⟨by rw [show ((((((((([105, 110, 32]) ++ (textZ (1 : Int))) ++ ([32, 114, 101, 103, 115, 32])) ++ (textZ (1 : Int))) ++ ([10]))) ++ ([111, 117, 116])) ++ ([0].take 1).flatMap outT) ++ ([10])) = [105, 110, 32, 49, 32, 114, 101, 103, 115, 32, 49, 10, 111, 117, 116, 32, 114, 48, 10] by decide +kernel], hst.below⟩
set_option maxRecDepth 100000 in
set_option maxHeartbeats 2000000 in
theorem g_live {w0 : World} :
    Calls Tryd.prog 10 #[] w0 fun e w' => e = .returned (.bool true) ∧ Below w0.heap.size w0 w' := by
  refine enter Tryd.func10 rfl Tryd.ntmps10 rfl ?_
  intro a henv hst
  refine wp_seq ?_
  refine region_seq ?_
  refine sv (v := .bool false) henv rfl (rn_assign henv rfl) ?_
  clear henv a; intro a henv
  refine wpList_nil ?_
  refine th_n ?_
  refine wp_seq ?_
  refine region_seq ?_
  refine seq_step rfl (op_buildSlice (z := 1) (pv := #[(0, .int .i64 0)]) (c := #[.int .i64 0]) henv hst rfl Tryd.underlying23 (ty_int.size) zero_int (by decide) (by decide) rfl (by kernel_rfl) ?_)
  clear henv hst a; intro a w52 g51 henv hst
  refine sv (v := .agg #[.int .i64 1, .int .i64 1, .slice none 0 0, .slice (some ⟨g51, 0, none⟩) 1 1]) henv rfl (rn_prog013 henv rfl rfl rfl) ?_
  clear henv a; intro a henv
  replace hst := hst.giveBk (f := fI) (F := FI) (k := 0) (n := 1) (es := [0]) rfl rfl fI_len rfl (by decide) (esT_P (fun _ => rfl) _ _) (fun _ _ _ _ => esT_foot (fun _ => rfl))
  refine seq_step rfl (op_call henv rfl Tryd.call31 rfl (g_text1 (hst.pat (k := 0) rfl)) ?_)
  rintro e w53 ⟨rfl, hb⟩
  refine ⟨_, rfl, ?_⟩
  clear henv a; intro a henv
  replace hst := hst.call hb
  clear hb
  revert a
  refine mA rfl rfl ?_
  refine sA (v := .string ⟨([105, 110, 32, 49, 32, 114, 101, 103, 115, 32, 49, 10, 111, 117, 116, 32, 114, 48, 10] : List UInt8).toArray⟩) rfl (fun _ henv => rn_extract henv rfl rfl) ?_
  refine sA (v := .int .i64 0) rfl (fun _ henv => rn_extract henv rfl rfl) ?_
  refine aA rfl rfl ?_
  refine aA rfl rfl ?_
  intro a henv
  refine wpList_nil ?_
  refine th_n ?_
  refine wp_seq ?_
  refine region_seq ?_
  revert a
  refine mA rfl rfl ?_
  refine sA (v := .bool (decide (([105, 110, 32, 49, 32, 114, 101, 103, 115, 32, 49, 10, 111, 117, 116, 32, 114, 48, 10] : List UInt8) = [105, 110, 32, 49, 32, 114, 101, 103, 115, 32, 49, 10, 111, 117, 116, 32, 114, 48, 10]))) rfl (fun _ henv => rn_eqls (s := ([105, 110, 32, 49, 32, 114, 101, 103, 115, 32, 49, 10, 111, 117, 116, 32, 114, 48, 10] : List UInt8)) (t := [105, 110, 32, 49, 32, 114, 101, 103, 115, 32, 49, 10, 111, 117, 116, 32, 114, 48, 10]) henv rfl rfl) ?_
  intro a henv
  rw [show (decide (([105, 110, 32, 49, 32, 114, 101, 103, 115, 32, 49, 10, 111, 117, 116, 32, 114, 48, 10] : List UInt8) = [105, 110, 32, 49, 32, 114, 101, 103, 115, 32, 49, 10, 111, 117, 116, 32, 114, 48, 10])) = true from (by decide)] at henv
  revert a
  refine mA rfl rfl ?_
  refine gA (v := .int .i64 0) rfl rfl rfl rfl (fun _ henv => rn_move henv rfl) ?_
  refine gA (v := .bool true) rfl rfl rfl rfl (fun _ henv => rn_bin henv rfl rfl rfl) ?_
  refine sA (v := .bool true) rfl (fun _ henv => rn_pick henv rfl rfl) ?_
  refine aA rfl rfl ?_
  intro a henv
  refine wpList_nil ?_
  refine th_n ?_
  refine wp_ret ?_
  refine leave henv (res1 Tryd.results10 (RV.tmp henv rfl)) ?_
  exact ⟨rfl, hst.below⟩
end Go.Proofs.YtbdngknpngcojaaDoor.W

/- Programs held against each other, copied. Printed by pv/gen_g3.py. No condition. -/
namespace Go.Proofs.YtbdngknpngcojaaDoor.W
open Go.RowKit Anv Go.Lib
theorem instrI : IntS Tryd.prog 37 5 := ⟨by kernel_rfl, by kernel_rfl, by kernel_rfl, by kernel_rfl, by kernel_rfl⟩
end Go.Proofs.YtbdngknpngcojaaDoor.W

/- Copy; ProgCopies. Printed by pv/gen_g4.py. No condition. -/
namespace Go.Proofs.YtbdngknpngcojaaDoor.W
open Go.RowKit Anv Go.Lib
section
variable {N : Nat} {dq : List Deferred} {a : Act} {l : List (Nat × Value)} {w : World} {d : Nat} {ty : TypeId} {pos : String} {af : Array Edge} {gd : Option (Nat × Bool)}
end
def TwoR (b0 : Nat) (w : World) (A : Option Addr) (n c : Nat) (es : List IE) (B : Option Addr) (m d : Nat) (os : List Int) : Prop :=
  NewRow notU 37 5 fJ FJ b0 w A n c es ∧ NewRow notU 3 1 fI FI b0 w B m d os ∧ ∀ a b, A = some a → B = some b → a.block ≠ b.block
abbrev V5 := Value × Value × Value × Value × Value
def fV5 (p : V5) : List Value := [p.1, p.2.1, p.2.2.1, p.2.2.2.1, p.2.2.2.2]
def fV1 (v : Value) : List Value := [v]
end Go.Proofs.YtbdngknpngcojaaDoor.W

/- prog.moved, Depth. Printed by pv/gen_g5.py. No condition. -/
namespace Go.Proofs.YtbdngknpngcojaaDoor.W
open Go.RowKit Anv Go.Lib
section
variable {N : Nat} {dq : List Deferred} {a : Act} {l : List (Nat × Value)} {w : World} {d : Nat} {ty : TypeId} {pos : String} {af : Array Edge} {gd : Option (Nat × Bool)}
end
def mvB (op rb g : Int) : Int := if op = 3 ∨ op = 4 then rb + g else rb
def mvI (g : Int) (e : IE) : IE := (e.1, e.2.1 + g, e.2.2.1 + g, mvB e.1 e.2.2.2.1 g, e.2.2.2.2)
def mxL (d : List Int) (l : List Int) : Int := l.foldl (fun m r => max m (d.getD r.toNat 0)) 0
def dstep (d : List Int) (e : IE) : List Int := d.set e.2.1.toNat (mxL d (asksL e.1 e.2.2.1 e.2.2.2.1) + 1)
def dpt (g : Nat) (es : List IE) (os : List Int) : Int := mxL (es.foldl dstep (List.replicate g 0)) os
end Go.Proofs.YtbdngknpngcojaaDoor.W

/- Plain laws of programs joined: they may be, and how deep they are. No program. No condition. -/
namespace Go.Proofs.YtbdngknpngcojaaDoor.W
open Go.RowKit Anv Go.Lib
def moveI (g : Int) (os : List Int) (k : Nat) : IE := (1, g + (k : Nat), os.getD k 0, 0, 0)
def jnC (g : Int) (es : List IE) (os : List Int) (es2 : List IE) : List IE := (es ++ (List.range os.length).map (moveI g os)) ++ es2.map (mvI g)
def jnO (g : Int) (os : List Int) : List Int := os.map (· + g)
end Go.Proofs.YtbdngknpngcojaaDoor.W

/- Join; ProgJoins. Printed by pv/gen_g6.py. No condition. -/
namespace Go.Proofs.YtbdngknpngcojaaDoor.W
open Go.RowKit Anv Go.Lib
section
variable {N : Nat} {dq : List Deferred} {a : Act} {l : List (Nat × Value)} {w : World} {d : Nat} {ty : TypeId} {pos : String} {af : Array Edge} {gd : Option (Nat × Bool)}
end
end Go.Proofs.YtbdngknpngcojaaDoor.W

/- What slices.Backward hands out, one by one. No condition. -/
namespace Go.Proofs.YtbdngknpngcojaaDoor.W
open Go.RowKit Anv Go.Lib
section
variable {P : Program} {ro : Option Nat} {m k : Nat} {K : Act → World → Prop} {Q : Exit → Act → World → Prop} {N : Nat} {dq : List Deferred} {a : Act} {l : List (Nat × Value)} {w : World}
variable {d : Nat} {ty : TypeId} {pos : String} {af : Array Edge} {gd : Option (Nat × Bool)}
theorem op_yieldR {z : Operand} {xs : Array Operand} {Ts : Array TypeId} {vs : Array Value} {l0 : Nat} {R : Ending → World → Prop} (h : EnvD dq N a l) (hd : Nat.blt d N = true) (hz : evl l z = some (.func (.yield l0) #[] #[]))
    (hx : xs.toList.map (evl l) = vs.toList.map some) (hY : YieldAt (WF none) k P l0 vs w R)
    (hK : ∀ e w', R e w' → ∃ v, e = .returned v ∧ ∀ a', EnvD dq N a' ((d, v) :: l) → K a' w') :
    Oper.wpIn (WF ro) m P ⟨some d, .call ⟨.value z, xs, Ts⟩, ty, pos, af, gd⟩ a w K Q := by
  have he : xs.map a.eval = vs := by
    apply Array.ext'
    rw [Array.toList_map]
    generalize xs.toList = xl at hx ⊢
    generalize vs.toList = vl at hx ⊢
    induction xl generalizing vl with
    | nil => cases vl with
      | nil => rfl
      | cons => simp at hx
    | cons x xl ih => cases vl with
      | nil => simp at hx
      | cons v vl =>
        simp only [List.map_cons, List.cons.injEq] at hx ⊢
        exact ⟨h.ev hx.1, ih vl hx.2⟩
  obtain ⟨fn, tmps, assign, body, hy, hR⟩ := hY
  have hv := h.ev hz
  have hr : (execOp a.eval ⟨some d, .call ⟨.value z, xs, Ts⟩, ty, pos, af, gd⟩).run P w = .ok (.round l0 fn tmps assign body) w := by
    simp [execOp, resolve, invoke, Deferred.ofValue, hv, he, hy]
  have hR2 : RoundIn (WF ro) (m - 1) P l0 fn tmps assign body w R := ⟨hR.1, fun c cs _ => hR.2 c cs (room_wide _)⟩
  refine ⟨fun _ _ => trivial, ?_⟩
  have e0 : Oper.semAt (WF ro).round a.eval ⟨some d, .call ⟨.value z, xs, Ts⟩, ty, pos, af, gd⟩ = execOp a.eval ⟨some d, .call ⟨.value z, xs, Ts⟩, ty, pos, af, gd⟩ := Oper.semAt_eq _ _ _ fun _ h => by cases h
  rw [e0, hr]
  refine ⟨fun hd => (by cases hd), hR2.mono fun e w' he => ?_⟩
  obtain ⟨v, rfl, hv'⟩ := hK e w' he
  exact hv' _ (h.put hd v)
end
abbrev YE := Nat × IE
def encI (x : YE) : Value := .int .i64 (x.1 : Nat)
def encJ (x : YE) : Value := .agg #[.int .i64 x.2.1, .int .i64 x.2.2.1, .int .i64 x.2.2.2.1, .int .i64 x.2.2.2.2.1, .int .i64 x.2.2.2.2.2]
def rvT (es : List IE) (k : Nat) : List YE := (List.range k).map fun t => (es.length - 1 - t, es.getD (es.length - 1 - t) (0, 0, 0, 0, 0))
theorem rvT_len (es : List IE) (k : Nat) : (rvT es k).length = k := by rw [rvT, List.length_map, List.length_range]
theorem rvT_step {es : List IE} {j k : Nat} {e : IE} (he : es[j]? = some e) (hk : k + j + 1 = es.length) : rvT es (k + 1) = rvT es k ++ [(j, e)] := by
  rw [rvT, List.range_succ, List.map_append, List.map_cons, List.map_nil, show es.length - 1 - k = j by omega, List.getD_eq_getElem?_getD, he]
  rfl
def KB (p : World → Prop) (X Y : World) : Prop := p X → p Y
def bwP (B : Nat) (A : Option Addr) (n c : Nat) (es : List IE) (w : World) : Prop := w.heap[B]? = some (.cells #[.slice A n c] 22 (0, 0)) ∧ (pfRow fJ FJ 5 A n c es).P w
set_option maxRecDepth 100000 in
set_option maxHeartbeats 2000000 in
theorem backward_stops {B n c : Nat} {A : Option Addr} {es : List IE} {w : World} (hp0 : bwP B A n c es w) :
    SeqStopsK (WF none) 8 Tryd.prog 59 #[.pointer (some ⟨B, 0, none⟩)] (fun x : YE => #[encI x, encJ x]) (KB (bwP B A n c es)) (fun xs => xs = rvT es n) (fun pre => ∃ k, k ≤ n ∧ pre = rvT es k) n w := by
  intro l0 J Jx W hW hJ hJx hY h0
  refine callsIn_of ?_
  have hl := hp0.2.2.1
  have hbig := Nat.le_trans hp0.2.1.cap hp0.2.1.big
  unfold maxLen at hbig
  have hpW : bwP B A n c es W := ⟨(hW.block B (lt_of_block hp0.1)).trans hp0.1, (pfRow fJ FJ 5 A n c es).keep hp0.2 hW.size fun b hb => hW.block b ((pfRow fJ FJ 5 A n c es).lt hp0.2 hb)⟩
  refine enter Tryd.func59 rfl Tryd.ntmps59 rfl ?_
  intro a henv _
  refine wp_seq ?_
  refine region_seq ?_
  refine seq_step rfl (op_val (v := .slice A n c) henv rfl (rn_load1 henv ty__api_Instr rfl hpW.1 rfl) ?_)
  clear henv a; intro a henv
  refine seq_step rfl (op_val (v := .int .i64 (n : Nat)) henv rfl (rn_len henv Tryd.underlying22 rfl) ?_)
  clear henv a; intro a henv
  refine seq_step rfl (op_val (v := .int .i64 (((n : Nat) : Int) - (1 : Int))) henv rfl (rn_sub henv rfl rfl (IntWalk.i64_in _ (by omega))) ?_)
  clear henv a; intro a henv
  refine seq_step rfl (op_val (v := .int .i64 (((n : Nat) : Int) - 1)) henv rfl (rn_assign henv rfl) ?_)
  clear henv a; intro a henv
  refine wpList_nil ?_
  refine th_n ?_
  refine wp_block ?_
  refine wp_loop_ghost (fun mz a w1 => ∃ k : Nat, k = mz ∧ Env 19 a [(0, .func (.yield l0) #[] #[]), (1, .pointer (some ⟨B, 0, none⟩)), (3, .int .i64 (((k : Nat) : Int) - 1))] ∧ bwP B A n c es w1 ∧ J (rvT es (n - k)) w1 ∧ k ≤ n) _ ⟨n, rfl, henv.sub ⟨rfl, rfl, rfl, trivial⟩, hpW, by rw [Nat.sub_self]; exact h0, Nat.le_refl _⟩ ?_
  clear henv a
  rintro mz a w1 ⟨k, rfl, henv, hp, hJk, hk⟩
  refine wp_seq ?_
  refine wp_seq ?_
  refine region_seq ?_
  refine seq_step rfl (op_val (v := .int .i64 (((k : Nat) : Int) - 1)) henv rfl (rn_move henv rfl) ?_)
  clear henv a; intro a henv
  refine seq_step rfl (op_val (v := .bool (decide (((k : Nat) : Int) - 1 ≥ (0 : Int)))) henv rfl (rn_bin henv rfl rfl rfl) ?_)
  clear henv a; intro a henv
  refine wpList_nil ?_
  refine th_n ?_
  refine if_split henv rfl (fun hc => ?_) (fun hc => ?_)
  · obtain ⟨j, rfl⟩ : ∃ j : Nat, k = j + 1 := ⟨k - 1, by have := of_decide_eq_true hc; omega⟩
    rw [show (((j + 1 : Nat) : Nat) : Int) - 1 = (j : Nat) by omega] at henv
    obtain ⟨⟨a1, a2, a3, a4, a5⟩, he0⟩ : ∃ e, es[j]? = some e := ⟨_, List.getElem?_eq_getElem (by omega)⟩
    refine wp_skip ?_
    refine th_n ?_
    refine wp_seq ?_
    refine wp_block ?_
    refine wp_seq ?_
    refine region_y 8 ?_
    refine in_step rfl (fun _ h => by cases h) (op_val (v := .func (.yield l0) #[] #[]) henv rfl (rn_move henv rfl) ?_)
    clear henv a; intro a henv
    refine in_step rfl (fun _ h => by cases h) (op_val (v := .int .i64 (j : Nat)) henv rfl (rn_move henv rfl) ?_)
    clear henv a; intro a henv
    refine in_step rfl (fun _ h => by cases h) (op_val (v := .slice A n c) henv rfl (rn_load1 henv ty__api_Instr rfl hp.1 rfl) ?_)
    clear henv a; intro a henv
    refine in_step rfl (fun _ h => by cases h) (op_val (v := .int .i64 (j : Nat)) henv rfl (rn_move henv rfl) ?_)
    clear henv a; intro a henv
    refine in_step rfl (fun _ h => by cases h) (op_val (v := .pointer (some ⟨ab A, ao A + j * 5, none⟩)) henv rfl (rn_idxR (i := j) henv Tryd.underlying22 (ty_anvil_api_Instr.size) rfl rfl (by omega) rfl hp.2.1) ?_)
    clear henv a; intro a henv
    refine in_step rfl (fun _ h => by cases h) (op_val (v := .agg #[.int .i64 a1, .int .i64 a2, .int .i64 a3, .int .i64 a4, .int .i64 a5]) henv rfl (rn_loadE (i := j) (e := (a1, a2, a3, a4, a5)) henv ty_anvil_api_Instr rfl rfl fJ_len hp.2.1 (by omega) he0 rfl) ?_)
    clear henv a; intro a henv
    refine in_stepY rfl (op_yieldR henv rfl rfl rfl (hY _ (j, a1, a2, a3, a4, a5) w1 hJk (by rw [rvT_len]; omega)) ?_)
    have hst1 : rvT es (n - (j + 1)) ++ [(j, a1, a2, a3, a4, a5)] = rvT es (n - j) := by
      rw [show n - j = n - (j + 1) + 1 by omega]
      exact (rvT_step he0 (by omega)).symm
    rw [hst1]
    rintro e W3 h3
    rcases h3 with ⟨rfl, hJ3, hk3⟩ | ⟨rfl, hJ3⟩
    · refine ⟨_, rfl, ?_⟩
      clear henv a; intro a henv
      refine in_step rfl (fun _ h => by cases h) (op_val (v := .bool false) henv rfl (rn_un henv rfl rfl) ?_)
      clear henv a; intro a henv
      refine in_nil ?_
      refine th_n ?_
      refine if_f henv rfl rfl ?_
      refine wp_skip ?_
      refine bl_n (th_n ?_)
      refine region_seq ?_
      refine seq_step rfl (op_val (v := .int .i64 (j : Nat)) henv rfl (rn_move henv rfl) ?_)
      clear henv a; intro a henv
      refine seq_step rfl (op_val (v := .int .i64 (((j : Nat) : Int) - (1 : Int))) henv rfl (rn_sub henv rfl rfl (IntWalk.i64_in _ (by omega))) ?_)
      clear henv a; intro a henv
      refine seq_step rfl (op_val (v := .int .i64 (((j : Nat) : Int) - 1)) henv rfl (rn_assign henv rfl) ?_)
      clear henv a; intro a henv
      refine wpList_nil ?_
      exact th_n ⟨_, Nat.lt_succ_self j, j, rfl, henv.sub ⟨rfl, rfl, rfl, trivial⟩, hk3 hp, hJ3, by omega⟩
    · refine ⟨_, rfl, ?_⟩
      clear henv a; intro a henv
      refine in_step rfl (fun _ h => by cases h) (op_val (v := .bool true) henv rfl (rn_un henv rfl rfl) ?_)
      clear henv a; intro a henv
      refine in_nil ?_
      refine th_n ?_
      refine if_t henv rfl rfl ?_
      refine wp_ret ?_
      refine bl_r (th_r (th_r (bl_r ?_)))
      refine leave henv (res0 Tryd.results59) ?_
      exact ⟨⟨_, rfl⟩, .inr ⟨_, ⟨n - j, by omega, rfl⟩, hJ3⟩⟩
  · obtain rfl : k = 0 := by have := of_decide_eq_false hc; omega
    refine wp_exit ?_
    refine th_x (th_x (bl_x ?_))
    refine leave_end henv (res0 Tryd.results59) ?_
    exact ⟨⟨_, rfl⟩, .inl ⟨_, rfl, hJk⟩⟩
end Go.Proofs.YtbdngknpngcojaaDoor.W

/- A range over a function whose iterator may itself range: the iterator's contract lets the caller's invariant hang on whatever is no cells, from the iterator's entry on. Over any program. No condition. -/
namespace Go.Proofs.YtbdngknpngcojaaDoor.W
open Go.RowKit Anv Go.Lib
def SeqO {α : Type} (P : Program) (g : Nat) (lb : Array Value) (encs : α → Array Value) (Kp : World → World → Prop) (S Sp : List α → Prop) (N : Nat) (w : World) : Prop :=
  ∀ (l : Nat) (J Jx : List α → World → Prop) (X : World), Below w.heap.size w X → w.heap.size + 2 ≤ X.heap.size → OwnFrom X.heap.size J → OwnFrom X.heap.size Jx →
    (∀ pre x Y, J pre Y → pre.length < N → YieldAt (WF none) 7 P l (encs x) Y fun e Z => (e = .returned (.bool true) ∧ J (pre ++ [x]) Z ∧ Kp Y Z) ∨ (e = .returned (.bool false) ∧ Jx (pre ++ [x]) Z ∧ Kp Y Z)) →
    J [] X → Calls P g (#[.func (.yield l) #[] #[]] ++ lb) X fun e Z => (∃ v, e = .returned v) ∧ ((∃ xs, S xs ∧ J xs Z) ∨ ∃ pre, Sp pre ∧ Jx pre Z)
theorem seqO_of {α : Type} {P : Program} {g : Nat} {lb : Array Value} {encs : α → Array Value} {Kp : World → World → Prop} {S Sp : List α → Prop} {N : Nat} {w : World} (h : SeqStopsK (WF none) 8 P g lb encs Kp S Sp N w) : SeqO P g lb encs Kp S Sp N w := fun l J Jx X hX _ hJ hJx hY h0 =>
  (callsIn_wide (n := 8)).1 (h l J Jx X hX (fun s A B row hs hg hr => hJ s A B row hs hg fun r e => ⟨(hr r e).1, (hr r e).2.elim fun o ho => ⟨o, ho.1, Obj.not_cells_of_walk ho.2⟩⟩) (fun s A B row hs hg hr => hJx s A B row hs hg fun r e => ⟨(hr r e).1, (hr r e).2.elim fun o ho => ⟨o, ho.1, Obj.not_cells_of_walk ho.2⟩⟩)
    (fun pre x Y hj hl => let ⟨fn, t, as', bd, hy, hR⟩ := hY pre x Y hj hl; ⟨fn, t, as', bd, hy, hR.mono fun _ _ hr => hr.imp id fun q => ⟨q.1, q.2.1⟩⟩) h0)
def postO {α : Type} (B : Nat) (Kp : World → World → Prop) (I : List α → World → Prop) (Ix : Code → List α → World → Prop) (xs : List α) (W : World) : Exit → Act → World → Prop
  | .normal, _, Z => KeepsFrom B W Z ∧ Kp W Z ∧ I xs Z
  | .ret, _, Z => KeepsFrom B W Z ∧ Kp W Z ∧ Ix .ret xs Z
  | .exit id, _, Z => KeepsFrom B W Z ∧ Kp W Z ∧ Ix (.exit id) xs Z
  | _, _, _ => False
def lpR (fn : FuncId) (t : Array Value) (ps : Array Tmp) (asg bd : Code) (D : Nat) (st : LoopState) (pe : Option Code) : Loop := { state := st, pending := pe, fn := fn, tmps := t, params := ps, assign := asg, body := bd, defers := D }
def bkL (r : Loop) (D : Nat) (W : World) : Prop := W.heap[D + 1]? = some (.loop r) ∧ W.heap[D]? = some (.deferred (some []))
theorem bkL_own {β : Type} (r : Loop) (D : Nat) : OwnFrom (D + 2) (fun (_ : β) W => bkL r D W) := fun _ X Y row hs hg hr =>
  ⟨(hg.block _ (lt_of_block hs.1) fun e => by have := (hr _ e.symm).1; omega).trans hs.1, (hg.block _ (lt_of_block hs.2) fun e => by have := (hr _ e.symm).1; omega).trans hs.2⟩
theorem ownFrom_up {β : Type} {B C : Nat} {I : β → World → Prop} (h : OwnFrom B I) (hB : B ≤ C) : OwnFrom C I := fun s X Y row hs hg hr => h s X Y row hs hg fun r e => ⟨Nat.le_trans hB (hr r e).1, (hr r e).2⟩
theorem bkL_put {r r' : Loop} {D : Nat} {W : World} (h : bkL r D W) : bkL r' D (W.putObj (D + 1) (.loop r')) :=
  ⟨World.putObj_heap_same (lt_of_block h.1), (World.putObj_heap_other (by omega)).trans h.2⟩
theorem bkL_keep {r : Loop} {D : Nat} {X Y : World} (h : bkL r D X) (hk : KeepsFrom D X Y) : bkL r D Y := ⟨hk.same _ _ (by omega) h.1 rfl, hk.same _ _ (Nat.le_refl _) h.2 rfl⟩
section
variable {P : Program} {Q : Exit → Act → World → Prop} {N : Nat} {dq : List Deferred} {a : Act} {l : List (Nat × Value)} {w : World}
set_option maxHeartbeats 1000000 in
theorem wp_rangeO {α : Type} {g : Operand} {p q gf : Nat} {lb : Array Value} {assign body : Code} {enc enc' : α → Value} {Kp : World → World → Prop} {S Sp : List α → Prop} {Nn : Nat} (h : EnvD dq N a l)
    (hg : evl l g = some (.func (.func gf) #[] lb)) (eg : ∀ args w, (callFunc gf args).run P w = .ok (.enter gf args) w) (hp : Nat.blt p N = true) (hq : Nat.blt q N = true)
    (hseq : SeqO P gf lb (fun x => #[enc x, enc' x]) Kp S Sp Nn w)
    (hKt : ∀ {A B C : World}, Kp A B → Kp B C → Kp A C) (hKb : ∀ (W : World) (o o' : Obj), W.heap[w.heap.size + 1]? = some o → o.isCells = false → Kp W (W.putObj (w.heap.size + 1) o'))
    (I : List α → World → Prop) (Ix : Code → List α → World → Prop) (hI : OwnFrom w.heap.size I) (hIx : ∀ c, OwnFrom w.heap.size (Ix c)) (h0 : I [] w) (Ax : α → Act → World → Prop) (hAx : ∀ x a', OwnFrom w.heap.size (fun (_ : Unit) W => Ax x a' W))
    (hassign : ∀ (i : Nat) (pre : List α) (x : α) (W : World) (K : Act → World → Prop), I pre W → (∀ a' W', KeepsFrom w.heap.size W W' → Kp W W' → I pre W' → Ax x a' W' → K a' W') → ∀ a, EnvD [] N a ((q, enc' x) :: (p, enc x) :: l) → assign.wpIn (WF (some i)) 7 P (Exit.then K (fun _ _ _ => False)) a W)
    (hbody : ∀ (i : Nat) (pre : List α) (x : α) (a' : Act) (W : World), I pre W → Ax x a' W → pre.length < Nn → body.wpIn (WF (some i)) 7 P (postO w.heap.size Kp I Ix (pre ++ [x]) W) a' W)
    (hdone : ∀ (D : Nat) (xs : List α) (W : World) (a : Act), w.heap.size ≤ D → S xs → I xs W → W.heap[D]? = some (.deferred (some [])) → EnvD ({ target := .collected D, args := #[] } :: dq) N a l → Q .normal a W)
    (hstop : ∀ (D : Nat) (c : Code) (pre : List α) (W : World) (a : Act), w.heap.size ≤ D → Sp pre → Ix c pre W → W.heap[D]? = some (.deferred (some [])) → EnvD ({ target := .collected D, args := #[] } :: dq) N a l → c.wp P Q a W) :
    (Code.rangeFunc g #[p, q] assign body).wp P Q a w := by
  refine (wpIn_wide (n := 9)).1 (wpIn_rangeFunc fun fn _ => ?_)
  obtain ⟨D, hD⟩ : ∃ D, D = w.heap.size := ⟨_, rfl⟩
  obtain ⟨X, hX⟩ : ∃ X, X = (w.alloc (.deferred (some []))).alloc (.loop (lpR fn a.tmps #[p, q] assign body w.heap.size .ready none)) := ⟨_, rfl⟩
  have hsz : X.heap.size = D + 2 := by rw [hX, World.size_alloc, World.size_alloc, hD]
  have hbX : bkL (lpR fn a.tmps #[p, q] assign body D .ready none) D X := by
    subst hX hD
    refine ⟨?_, ?_⟩
    · have := World.alloc_heap_new (w.alloc (.deferred (some []))) (.loop (lpR fn a.tmps #[p, q] assign body w.heap.size .ready none))
      rwa [World.size_alloc] at this
    · exact (Below.heap_alloc _ _ _ (by simp)).trans (World.alloc_heap_new w _)
  have hIX : I [] X := hX ▸ hI.alloc _ (hI.alloc _ h0)
  have hbel : Below w.heap.size w X := hX ▸ (((Below.refl _ w).alloc (Nat.le_refl _) _).alloc (by simp) _)
  subst hD
  have hev : a.eval g = .func (.func gf) #[] lb := h.ev hg
  refine ⟨w.heap.size + 1, [{ target := .collected w.heap.size, args := #[] }], X, { target := .fn (.func gf) lb, args := #[.func (.yield (w.heap.size + 1)) #[] #[]] }, X, gf, #[.func (.yield (w.heap.size + 1)) #[] #[]] ++ lb, X,
    hX ▸ run_enterLoop_outer fn a.tmps #[p, q] assign body, by simp only [resolve, hev]; simp [go_sem], fun _ _ => trivial, by simp [invoke, go_sem, eg], fun h => (by cases h), callsIn_of (ro := none) ?_⟩
  refine (hseq (w.heap.size + 1) (fun pre W => I pre W ∧ bkL (lpR fn a.tmps #[p, q] assign body w.heap.size .ready none) w.heap.size W) (fun pre W => ∃ c, Ix c pre W ∧ bkL (lpR fn a.tmps #[p, q] assign body w.heap.size .done (some c)) w.heap.size W) X hbel (by omega)
    (fun s Y Z row hs hgr hr => ⟨ownFrom_up hI (by omega) s Y Z row hs.1 hgr hr, bkL_own (β := Unit) _ _ () Y Z row hs.2 hgr fun r e => hsz ▸ hr r e⟩)
    (fun s Y Z row ⟨c, h1, h2⟩ hgr hr => ⟨c, ownFrom_up (hIx c) (by omega) s Y Z row h1 hgr hr, bkL_own (β := Unit) _ _ () Y Z row h2 hgr fun r e => hsz ▸ hr r e⟩)
    (fun pre x Y ⟨hi, hb⟩ hlen => ⟨fn, _, assign, body, run_yield hb.1 rfl, roundIn_of_wpIn trivial ?_⟩) ⟨hIX, hbX⟩).mono fun e Z hZ => ?_
  · -- a round
    have h1 := env_par (env_par h (enc x) hp) (enc' x) hq
    have e : (#[p, q].zip #[enc x, enc' x]).foldl (fun t (p, v) => t.setIfInBounds p v) a.tmps = (a.tmps.setIfInBounds p (enc x)).setIfInBounds q (enc' x) := by simp
    show assign.wpIn (WF (some (w.heap.size + 1))) 7 P _ { tmps := (#[p, q].zip #[enc x, enc' x]).foldl (fun t (p, v) => t.setIfInBounds p v) a.tmps, defers := [] } Y
    rw [e]
    refine hassign _ pre x Y _ hi (fun a' Y2 hk2 hp2 hi2 hx2 => ?_) _ h1
    have hb2 := bkL_keep hb hk2
    refine ⟨_, run_beginRound hb2.1 rfl, ?_⟩
    have hb3 : bkL (lpR fn a.tmps #[p, q] assign body w.heap.size .busy none) w.heap.size _ := bkL_put hb2
    have hp3 := hKb Y2 _ (.loop (lpR fn a.tmps #[p, q] assign body w.heap.size .busy none)) hb2.1 rfl
    refine wpIn_mono (hbody _ pre x a' _ (hI.putObj _ hi2 (Nat.le_succ _) hb2.1 rfl) ((hAx x a').putObj (s := ()) _ hx2 (Nat.le_succ _) hb2.1 rfl) hlen) ?_
    have stop : ∀ (c : Code) (Z : World), KeepsFrom w.heap.size _ Z ∧ Kp _ Z ∧ Ix c (pre ++ [x]) Z → ∃ v Z', (Instr.endRound (w.heap.size + 1) (some c)).run P Z = .ok v Z' ∧ ((Ending.returned v = .returned (.bool true) ∧ (I (pre ++ [x]) Z' ∧ bkL (lpR fn a.tmps #[p, q] assign body w.heap.size .ready none) w.heap.size Z') ∧ Kp Y Z') ∨ (Ending.returned v = .returned (.bool false) ∧ (∃ c, Ix c (pre ++ [x]) Z' ∧ bkL (lpR fn a.tmps #[p, q] assign body w.heap.size .done (some c)) w.heap.size Z') ∧ Kp Y Z')) := fun c Z ⟨hk, hkp, hix⟩ =>
      have hb4 := bkL_keep hb3 hk
      ⟨_, _, run_endRound _ hb4.1, .inr ⟨rfl, ⟨c, (hIx c).putObj _ hix (Nat.le_succ _) hb4.1 rfl, bkL_put hb4⟩, hKt hp2 (hKt hp3 (hKt hkp (hKb _ _ _ hb4.1 rfl)))⟩⟩
    intro e a3 Z hz
    cases e with
    | normal =>
      have hb4 := bkL_keep hb3 hz.1
      exact ⟨_, _, run_endRound none hb4.1, .inl ⟨rfl, ⟨hI.putObj _ hz.2.2 (Nat.le_succ _) hb4.1 rfl, bkL_put hb4⟩, hKt hp2 (hKt hp3 (hKt hz.2.1 (hKb _ _ _ hb4.1 rfl)))⟩⟩
    | ret => exact stop .ret Z hz
    | exit id => exact stop (.exit id) Z hz
    | goto t => exact hz.elim
    | panic _ => exact hz.elim
    | outgrown => exact hz.elim
  · -- behind it
    obtain ⟨⟨v, rfl⟩, (⟨xs, hS, hi, hb⟩ | ⟨pre, hS, c, hi, hb⟩)⟩ := hZ
    · exact ⟨none, _, run_endLoop hb.1 (by intro h; cases h), hdone _ xs _ _ (Nat.le_refl _) hS (hI.putObj _ hi (Nat.le_succ _) hb.1 rfl) (bkL_put hb).2 (env_done h _)⟩
    · exact ⟨some c, _, run_endLoop hb.1 (by intro h; cases h), (wpIn_wide (n := 9)).2 (hstop _ c pre _ _ (Nat.le_refl _) hS ((hIx c).putObj _ hi (Nat.le_succ _) hb.1 rfl) (bkL_put hb).2 (env_done h _))⟩
end
end Go.Proofs.YtbdngknpngcojaaDoor.W

/- slices.Backward, prog.Back: the closures they give. Printed by pv/gen_g7.py. No condition. -/
namespace Go.Proofs.YtbdngknpngcojaaDoor.W
open Go.RowKit Anv Go.Lib
set_option maxRecDepth 100000 in
set_option maxHeartbeats 2000000 in
theorem g_backward {A0 : Option Addr} {n0 c0 : Nat} {w0 : World} :
    Calls Tryd.prog 38 #[.slice A0 n0 c0] w0 fun e w' => ∃ g, e = .returned (.func (.func 59) #[] #[.pointer (some ⟨g, 0, none⟩)]) ∧ w'.heap[g]? = some (.cells #[.slice A0 n0 c0] 22 (0, 0)) ∧ w0.heap.size ≤ g ∧ Below w0.heap.size w0 w' := by
  refine enter Tryd.func38 rfl Tryd.ntmps38 rfl ?_
  intro a henv hst
  refine wp_seq ?_
  refine region_seq ?_
  refine seq_step rfl (op_box (c := #[.slice A0 n0 c0]) henv hst rfl rfl rfl ?_)
  clear henv hst a; intro a w52 g51 henv hst
  refine sv (v := .nilFunc) henv rfl (rn_assign henv rfl) ?_
  clear henv a; intro a henv
  refine wpList_nil ?_
  refine th_n ?_
  refine wp_seq ?_
  refine region_seq ?_
  revert a
  refine sA (v := .func (.func 59) #[] #[.pointer (some ⟨g51, 0, none⟩)]) rfl (fun _ henv => rn_makeFuncB (us := #[]) (vs := #[.pointer (some ⟨g51, 0, none⟩)]) henv rfl rfl) ?_
  refine aA rfl rfl ?_
  intro a henv
  refine wpList_nil ?_
  refine th_n ?_
  refine wp_ret ?_
  refine leave henv (res1 Tryd.results38 (RV.tmp henv rfl)) ?_
  exact ⟨g51, rfl, hst.oat (k := 0) rfl, hst.new _ (List.mem_of_getElem? (i := 0) rfl) _ rfl, hst.below⟩
set_option maxRecDepth 100000 in
set_option maxHeartbeats 2000000 in
theorem g_back {i g : Int} {A0 A1 : Option Addr} {n0 c0 n1 c1 : Nat} {w0 : World} :
    Calls Tryd.prog 14 #[.agg #[.int .i64 i, .int .i64 g, .slice A0 n0 c0, .slice A1 n1 c1]] w0 fun e w' => ∃ b, e = .returned (.func (.func 36) #[] #[.pointer (some ⟨b, 0, none⟩)]) ∧ w'.heap[b]? = some (.cells #[.int .i64 i, .int .i64 g, .slice A0 n0 c0, .slice A1 n1 c1] 25 (0, 0)) ∧ w0.heap.size ≤ b ∧ Below w0.heap.size w0 w' := by
  refine enter Tryd.func14 rfl Tryd.ntmps14 rfl ?_
  intro a henv hst
  refine wp_seq ?_
  refine region_seq ?_
  refine seq_step rfl (op_box (c := #[.int .i64 i, .int .i64 g, .slice A0 n0 c0, .slice A1 n1 c1]) henv hst rfl rfl rfl ?_)
  clear henv hst a; intro a w52 g51 henv hst
  refine sv (v := .nilFunc) henv rfl (rn_assign henv rfl) ?_
  clear henv a; intro a henv
  refine wpList_nil ?_
  refine th_n ?_
  refine wp_seq ?_
  refine region_seq ?_
  revert a
  refine sA (v := .func (.func 36) #[] #[.pointer (some ⟨g51, 0, none⟩)]) rfl (fun _ henv => rn_makeFuncB (us := #[]) (vs := #[.pointer (some ⟨g51, 0, none⟩)]) henv rfl rfl) ?_
  refine aA rfl rfl ?_
  intro a henv
  refine wpList_nil ?_
  refine th_n ?_
  refine wp_ret ?_
  refine leave henv (res1 Tryd.results14 (RV.tmp henv rfl)) ?_
  exact ⟨g51, rfl, hst.oat (k := 0) rfl, hst.new _ (List.mem_of_getElem? (i := 0) rfl) _ rfl, hst.below⟩
end Go.Proofs.YtbdngknpngcojaaDoor.W

/- prog.Back's iterator hands a right program's instructions out from behind; a wrong one's not at all. No condition. -/
namespace Go.Proofs.YtbdngknpngcojaaDoor.W
open Go.RowKit Anv Go.Lib
theorem grown_of {w w' : World} (h : Below w.heap.size w w') : w.grownBy w' none := ⟨h.os, h.tape, h.output, h.size, fun k hk _ => h.block k hk⟩
theorem kf_of {B : Nat} {w w' : World} (h : Below w.heap.size w w') : KeepsFrom B w w' := ⟨h.size, fun k _ _ hk _ => (h.block k (lt_of_block hk)).trans hk⟩
theorem cf_rowT {α : Type} {f : α → List Value} {F : α → PF} (hF : ∀ e b, ¬ (F e).foot b) {z n c : Nat} {A : Option Addr} {es : List α} (hz : 0 < z) : CellsF (pfRow f F z A n c es) := fun w b h hf => by
  rcases hf with ⟨hp, off, rfl⟩ | ⟨e, _, hf⟩
  · obtain ⟨b', o, e', hlt, hc⟩ := h.1.cells hp
    cases e'
    have hpos : 0 < n * z := Nat.mul_pos hp hz
    have h1 := hc 0 hpos
    rw [Nat.add_zero, List.getElem?_eq_getElem (by rw [h.1.len]; exact hpos)] at h1
    have h2 : w.heap[b]? = some w.heap[b] := Array.getElem?_eq_getElem hlt
    refine ⟨_, h2, ?_⟩
    unfold World.cell? at h1
    rw [h2] at h1
    revert h1
    cases w.heap[b] <;> simp [Obj.isCells]
  · exact (hF e b hf).elim
def pgP (B : Nat) (i g : Int) (A0 : Option Addr) (n0 c0 : Nat) (A1 : Option Addr) (n1 c1 : Nat) (es : List IE) (os : List Int) (w : World) : Prop :=
  (bk B #[.int .i64 i, .int .i64 g, .slice A0 n0 c0, .slice A1 n1 c1] 25).P w ∧ (pfRow fJ FJ 5 A0 n0 c0 es).P w ∧ (pfRow fI FI 1 A1 n1 c1 os).P w
theorem pg_own {B D n0 c0 n1 c1 : Nat} {i g : Int} {A0 A1 : Option Addr} {es : List IE} {os : List Int} {X Y : World} {row : Option Nat} (h : pgP B i g A0 n0 c0 A1 n1 c1 es os X) (hg : X.grownBy Y row) (hr : ∀ r, row = some r → D ≤ r ∧ ∃ o : Obj, X.heap[r]? = some o ∧ o.isCells = false) : pgP B i g A0 n0 c0 A1 n1 c1 es os Y :=
  ⟨own_keep cf_bk h.1 hg hr, own_keep (cf_rowT (fun _ _ h => h) (by decide)) h.2.1 hg hr, own_keep (cf_rowT (fun _ _ h => h) (by decide)) h.2.2 hg hr⟩
def KX (n : Nat) (p : World → Prop) (X Y : World) : Prop := X.heap.size ≤ Y.heap.size ∧ (∀ b o, n + 2 ≤ b → X.heap[b]? = some o → Y.heap[b]? = some o) ∧ (p X → p Y)
theorem kx_trans {n : Nat} {p : World → Prop} {X Y Z : World} (h : KX n p X Y) (k : KX n p Y Z) : KX n p X Z := ⟨Nat.le_trans h.1 k.1, fun b o hb ho => k.2.1 b o hb (h.2.1 b o hb ho), fun q => k.2.2 (h.2.2 q)⟩
section
variable {B n0 c0 n1 c1 : Nat} {i g : Int} {A0 A1 : Option Addr} {es : List IE} {os : List Int} {w : World}
theorem kx_put {n : Nat} {X : World} {o o' : Obj} (h : X.heap[n + 1]? = some o) (hc : o.isCells = false) : KX n (pgP B i g A0 n0 c0 A1 n1 c1 es os) X (X.putObj (n + 1) o') := by
  have hg := grownBy_putObj' X (n + 1) o'
  exact ⟨hg.size, fun b q hb hq => (World.putObj_heap_other (by omega)).trans hq, fun hp => pg_own (D := 0) hp hg fun r e => by cases e; exact ⟨Nat.zero_le _, o, h, hc⟩⟩
theorem pg_keep {X : World} (hp : pgP B i g A0 n0 c0 A1 n1 c1 es os w) (hX : Below w.heap.size w X) : pgP B i g A0 n0 c0 A1 n1 c1 es os X := pg_own (D := 0) hp (grown_of hX) fun r e => by cases e
set_option maxRecDepth 100000 in
set_option maxHeartbeats 4000000 in
theorem back_bad {k : Int} (hp0 : pgP B i g A0 n0 c0 A1 n1 c1 es os w) (hR : Wrong i g n0 n1 es os k) :
    SeqO Tryd.prog 36 #[.pointer (some ⟨B, 0, none⟩)] (fun x : YE => #[encI x, encJ x]) (KX w.heap.size (pgP B i g A0 n0 c0 A1 n1 c1 es os)) (fun xs => xs = []) (fun _ => False) 0 w := by
  intro l0 J Jx X hX _ hJ hJx hY h0
  have hpX := pg_keep hp0 hX
  refine enterM Tryd.func36 rfl Tryd.ntmps36 rfl ?_
  intro a henv hst
  replace hst := ((hst.argP (bk B #[.int .i64 i, .int .i64 g, .slice A0 n0 c0, .slice A1 n1 c1] 25) hpX.1).argRow hpX.2.2).argRow hpX.2.1
  refine wp_seq ?_
  refine region_seq ?_
  refine seq_step rfl (op_box (c := #[.func (.yield l0) #[] #[]]) henv hst rfl rfl rfl ?_)
  clear henv hst a; intro a w52 g51 henv hst
  refine wpList_nil ?_
  refine th_n ?_
  refine wp_seq ?_
  refine wp_seq ?_
  refine region_seq ?_
  refine seq_step rfl (op_val (v := .agg #[.int .i64 i, .int .i64 g, .slice A0 n0 c0, .slice A1 n1 c1]) henv rfl (rn_load0 henv ty_anvil_api_Prog rfl (hst.pat (k := 2) rfl) rfl) ?_)
  clear henv a; intro a henv
  refine seq_step rfl (op_call henv rfl Tryd.call37 rfl (g_right_bad (hst.pat (k := 0) rfl) (hst.pat (k := 1) rfl) hR) ?_)
  rintro e w53 ⟨rfl, hb⟩
  refine ⟨_, rfl, ?_⟩
  clear henv a; intro a henv
  replace hst := hst.call hb
  clear hb
  refine seq_step rfl (op_val (v := .bool true) henv rfl (rn_un henv rfl rfl) ?_)
  clear henv a; intro a henv
  refine wpList_nil ?_
  refine th_n ?_
  refine if_t henv rfl (rfl) ?_
  refine wp_ret ?_
  refine th_r ?_
  refine leaveM henv (res0 Tryd.results36) ?_
  exact ⟨⟨_, rfl⟩, .inl ⟨_, rfl, hJ _ _ _ none h0 (grown_of hst.below) fun r e => by cases e⟩⟩
set_option maxRecDepth 100000 in
set_option maxHeartbeats 4000000 in
theorem back_ok (hp0 : pgP B i g A0 n0 c0 A1 n1 c1 es os w) (hR : Right i g n0 n1 es os) :
    SeqO Tryd.prog 36 #[.pointer (some ⟨B, 0, none⟩)] (fun x : YE => #[encI x, encJ x]) (KX w.heap.size (pgP B i g A0 n0 c0 A1 n1 c1 es os)) (fun xs => xs = rvT es n0) (fun pre => ∃ k, k ≤ n0 ∧ pre = rvT es k) n0 w := by
  intro l0 J Jx X hX hX2 hJ hJx hY h0
  have hpX := pg_keep hp0 hX
  refine enterM Tryd.func36 rfl Tryd.ntmps36 rfl ?_
  intro a henv hst
  replace hst := ((hst.argP (bk B #[.int .i64 i, .int .i64 g, .slice A0 n0 c0, .slice A1 n1 c1] 25) hpX.1).argRow hpX.2.2).argRow hpX.2.1
  refine wp_seq ?_
  refine region_seq ?_
  refine seq_step rfl (op_box (c := #[.func (.yield l0) #[] #[]]) henv hst rfl rfl rfl ?_)
  clear henv hst a; intro a w52 g51 henv hst
  refine wpList_nil ?_
  refine th_n ?_
  refine wp_seq ?_
  refine wp_seq ?_
  refine region_seq ?_
  refine seq_step rfl (op_val (v := .agg #[.int .i64 i, .int .i64 g, .slice A0 n0 c0, .slice A1 n1 c1]) henv rfl (rn_load0 henv ty_anvil_api_Prog rfl (hst.pat (k := 2) rfl) rfl) ?_)
  clear henv a; intro a henv
  refine seq_step rfl (op_call henv rfl Tryd.call37 rfl (g_right_ok (hst.pat (k := 0) rfl) (hst.pat (k := 1) rfl) hR) ?_)
  rintro e w53 ⟨rfl, hb⟩
  refine ⟨_, rfl, ?_⟩
  clear henv a; intro a henv
  replace hst := hst.call hb
  clear hb
  refine seq_step rfl (op_val (v := .bool false) henv rfl (rn_un henv rfl rfl) ?_)
  clear henv a; intro a henv
  refine wpList_nil ?_
  refine th_n ?_
  refine if_f henv rfl (rfl) ?_
  refine wp_skip ?_
  refine th_n ?_
  refine wp_seq ?_
  refine region_seq ?_
  refine seq_step rfl (op_val (v := .pointer (some ⟨B, 2, none⟩)) henv rfl (rn_fieldAddr henv fd_anvil_api_Prog_2 (ty__api_Instr.size) (by decide) rfl) ?_)
  clear henv a; intro a henv
  refine seq_step rfl (op_val (v := .slice A0 n0 c0) henv rfl (rn_load1 henv ty__api_Instr rfl (hst.pat (k := 2) rfl) rfl) ?_)
  clear henv a; intro a henv
  refine seq_step rfl (op_call henv rfl Tryd.call38 rfl (g_backward (A0 := A0) (n0 := n0) (c0 := c0)) ?_)
  rintro e w2 ⟨g54, rfl, hS, hge, hb⟩
  refine ⟨_, rfl, ?_⟩
  clear henv a; intro a henv
  have hg51 : X.heap.size ≤ g51 := hst.oge (k := 0) rfl
  have hs53 := hst.below.size
  replace hst := hst.fresh hb (bk g54 #[.slice A0 n0 c0] 22) hS (fun _ hb => hb ▸ hge)
  clear hS
  clear hb
  refine wpList_nil ?_
  refine th_n ?_
  refine wp_block ?_
  have hxs := hst.below.size
  have hJ2 : J [] w2 := hJ _ _ _ none h0 (grown_of hst.below) fun r e => by cases e
  have hb1 : (bk g51 #[.func (.yield l0) #[] #[]] 64).P w2 := hst.owns (k := 0) rfl
  have hb2 : (bk g54 #[.slice A0 n0 c0] 22).P w2 := hst.pat (k := 0) rfl
  have hp2 : pgP B i g A0 n0 c0 A1 n1 c1 es os w2 := ⟨hst.pat (k := 3) rfl, hst.pat (k := 1) rfl, hst.pat (k := 2) rfl⟩
  clear hst
  refine wp_rangeO (α := YE) (enc := encI) (enc' := encJ) (Kp := KB (bwP g54 A0 n0 c0 es)) henv rfl Tryd.call59 rfl rfl (seqO_of (backward_stops ⟨hb2, hp2.2.1⟩)) (fun h k q => k (h q))
    (fun Y o o' h hc hq => ⟨own_keep (e := bk g54 #[.slice A0 n0 c0] 22) (B := 0) cf_bk hq.1 (grownBy_putObj' Y _ o') fun r e => by cases e; exact ⟨Nat.zero_le _, o, h, hc⟩, own_keep (B := 0) (cf_rowT (fun _ _ h => h) (by decide)) hq.2 (grownBy_putObj' Y _ o') fun r e => by cases e; exact ⟨Nat.zero_le _, o, h, hc⟩⟩)
    (fun pre Y => J pre Y ∧ (bk g51 #[.func (.yield l0) #[] #[]] 64).P Y ∧ (bk g54 #[.slice A0 n0 c0] 22).P Y ∧ pgP B i g A0 n0 c0 A1 n1 c1 es os Y ∧ w2.heap.size ≤ Y.heap.size) (fun c pre Y => Jx pre Y ∧ c = .ret)
    (fun s Y Z row hs hg hr => ⟨ownFrom_up hJ hxs s Y Z row hs.1 hg hr, own_keep cf_bk hs.2.1 hg hr, own_keep cf_bk hs.2.2.1 hg hr, pg_own hs.2.2.2.1 hg hr, Nat.le_trans hs.2.2.2.2 hg.size⟩)
    (fun c s Y Z row hs hg hr => ⟨ownFrom_up hJx hxs s Y Z row hs.1 hg hr, hs.2⟩) ⟨hJ2, hb1, hb2, hp2, Nat.le_refl _⟩
    (fun x a' Y => ∃ g4, EnvD [] 18 a' [(2, .pointer (some ⟨g51, 0, none⟩)), (3, encI x), (4, .pointer (some ⟨g4, 0, none⟩))] ∧ (bk g4 #[.int .i64 x.2.1, .int .i64 x.2.2.1, .int .i64 x.2.2.2.1, .int .i64 x.2.2.2.2.1, .int .i64 x.2.2.2.2.2] 37).P Y)
    (fun x a' s Y Z row hs hg hr => hs.elim fun g4 h => ⟨g4, h.1, own_keep cf_bk h.2 hg hr⟩) ?_ ?_ ?_ ?_
  · intro ix pre x Y K hi hK a henv
    have hst := St.start Y
    refine wpIn_seq ?_
    refine region_in ?_
    refine in_step rfl (fun _ h => by cases h) (op_val (v := encI x) henv rfl (rn_assign henv rfl) ?_)
    clear henv a; intro a henv
    refine in_nil ?_
    refine th_n ?_
    refine region_in ?_
    refine in_step rfl (fun _ h => by cases h) (op_alloc (c := #[.int .i64 0, .int .i64 0, .int .i64 0, .int .i64 0, .int .i64 0]) henv hst rfl zero_anvil_api_Instr rfl ?_)
    clear henv hst a; intro a w84 g83 henv hst
    refine in_step rfl (fun _ h => by cases h) (op_store (k := 0) (c' := #[.int .i64 x.2.1, .int .i64 x.2.2.1, .int .i64 x.2.2.2.1, .int .i64 x.2.2.2.2.1, .int .i64 x.2.2.2.2.2]) henv hst (ty_anvil_api_Instr.size) rfl rfl rfl rfl (by simp) rfl rfl ?_)
    clear henv hst a; intro a w85 henv hst
    refine in_nil ?_
    have hgr := grown_of hst.below
    exact th_n (hK _ _ (kf_of hst.below) (fun q => ⟨own_keep (e := bk g54 #[.slice A0 n0 c0] 22) (B := 0) cf_bk q.1 hgr (fun r e => by cases e), own_keep (B := 0) (cf_rowT (fun _ _ h => h) (by decide)) q.2 hgr (fun r e => by cases e)⟩)
      ⟨ownFrom_up hJ hxs _ _ _ none hi.1 hgr (fun r e => by cases e), own_keep (B := 0) cf_bk hi.2.1 hgr (fun r e => by cases e), own_keep (B := 0) cf_bk hi.2.2.1 hgr (fun r e => by cases e), pg_own (D := 0) hi.2.2.2.1 hgr (fun r e => by cases e), Nat.le_trans hi.2.2.2.2 hgr.size⟩
      ⟨g83, henv.sub ⟨rfl, rfl, rfl, trivial⟩, hst.oat (k := 0) rfl⟩)
  · rintro ix pre x a Y hi ⟨g4, henv, hg4⟩ hlen
    refine wpIn_block ?_
    refine wpIn_seq ?_
    refine region_in ?_
    refine in_step rfl (fun _ h => by cases h) (op_val (v := .func (.yield l0) #[] #[]) henv rfl (rn_load1 henv ty_func_int_api_Instr_bool rfl hi.2.1 rfl) ?_)
    clear henv a; intro a henv
    refine in_step rfl (fun _ h => by cases h) (op_val (v := encI x) henv rfl (rn_move henv rfl) ?_)
    clear henv a; intro a henv
    refine in_step rfl (fun _ h => by cases h) (op_val (v := encJ x) henv rfl (rn_load0 henv ty_anvil_api_Instr rfl hg4 rfl) ?_)
    clear henv a; intro a henv
    refine in_stepY rfl (op_yieldR henv rfl rfl rfl (hY pre x Y hi.1 hlen) ?_)
    rintro e Z hZ
    have hkx : KX w.heap.size (pgP B i g A0 n0 c0 A1 n1 c1 es os) Y Z := by
      rcases hZ with h | h
      · exact h.2.2
      · exact h.2.2
    have hkf : KeepsFrom w2.heap.size Y Z := ⟨hkx.1, fun b o hb ho _ => hkx.2.1 b o (by omega) ho⟩
    have hz1 : (bk g51 #[.func (.yield l0) #[] #[]] 64).P Z := hkx.2.1 _ _ (by omega) hi.2.1
    have hz2 : (bk g54 #[.slice A0 n0 c0] 22).P Z := hkx.2.1 _ _ (by omega) hi.2.2.1
    have hz3 := hkx.2.2 hi.2.2.2.1
    rcases hZ with ⟨rfl, hJ3, _⟩ | ⟨rfl, hJ3, _⟩
    · refine ⟨_, rfl, ?_⟩
      clear henv a; intro a henv
      refine in_step rfl (fun _ h => by cases h) (op_val (v := .bool false) henv rfl (rn_un henv rfl rfl) ?_)
      clear henv a; intro a henv
      refine in_nil ?_
      refine th_n ?_
      refine if_fIn henv rfl rfl ?_
      refine wpIn_skip ?_
      refine bl_n ?_
      exact ⟨hkf, fun _ => ⟨hz2, hz3.2.1⟩, hJ3, hz1, hz2, hz3, Nat.le_trans hi.2.2.2.2 hkx.1⟩
    · refine ⟨_, rfl, ?_⟩
      clear henv a; intro a henv
      refine in_step rfl (fun _ h => by cases h) (op_val (v := .bool true) henv rfl (rn_un henv rfl rfl) ?_)
      clear henv a; intro a henv
      refine in_nil ?_
      refine th_n ?_
      refine if_tIn henv rfl rfl ?_
      refine wpIn_ret ?_
      refine bl_r ?_
      exact ⟨hkf, fun _ => ⟨hz2, hz3.2.1⟩, hJ3, rfl⟩
  · intro D xs Z a hD hS hI hdD henv
    refine bl_n ?_
    refine leaveM1 henv hdD (res0 Tryd.results36) ?_
    exact ⟨⟨_, rfl⟩, .inl ⟨_, hS, hJ.putObj _ hI.1 (by omega) hdD rfl⟩⟩
  · rintro D c pre Z a hD hS ⟨hI, rfl⟩ hdD henv
    refine wp_ret ?_
    refine bl_r ?_
    refine leaveM1 henv hdD (res0 Tryd.results36) ?_
    exact ⟨⟨_, rfl⟩, .inr ⟨_, hS, hJx.putObj _ hI (by omega) hdD rfl⟩⟩
end
end Go.Proofs.YtbdngknpngcojaaDoor.W

/- Rounds of a range over prog.Back: what they keep; a region that draws its order, in a round. No condition. -/
namespace Go.Proofs.YtbdngknpngcojaaDoor.W
open Go.RowKit Anv Go.Lib
section
variable {P : Program} {ro : Option Nat} {m : Nat} {Q : Exit → Act → World → Prop} {ops : Array Oper} {K : Act → World → Prop} {a : Act} {w : World} {md : Region.Mode}
def noDef (ops : Array Oper) : Bool := ops.all fun o => match o.op with | .defer _ => false | _ => true
theorem noDef_at (h : noDef ops = true) {i : Nat} {o : Oper} (hi : ops[i]? = some o) (c : Call) : o.op ≠ .defer c := fun e => by
  unfold noDef at h
  rw [Array.all_eq_true'] at h
  have := h o (Array.mem_of_getElem? hi)
  rw [e] at this
  cases this
theorem opIn_of (h : noDef ops = true) (hno : ∀ a w, ¬ Q .outgrown a w) {i : Nat} (hw : wpOp P ops Q i K a w) : wpOpIn (WF ro) m P ops Q i K a w := by
  unfold wpOp at hw
  unfold wpOpIn
  revert hw
  cases hi : ops[i]? with
  | none => exact id
  | some o =>
    simp only
    split
    · rintro (hw | ⟨_, a', w', hq⟩)
      · exact oper_in (noDef_at h hi) hw
      · exact (hno a' w' hq).elim
    · intro hw; exact ⟨fun _ _ => trivial, hw⟩
theorem any_in (h : noDef ops = true) (hno : ∀ a w, ¬ Q .outgrown a w) : ∀ (fuel : Nat) (listed : Array Bool) (a : Act) (w : World), wpAny P md ops Q fuel listed a w → wpAnyIn (WF ro) m P md ops Q fuel listed a w
  | 0, _, _, _, hw => hw
  | fuel + 1, _, _, _, hw => ⟨hw.1, fun i hi => opIn_of h hno (wpOp_mono (fun a' w' h' => any_in h hno fuel _ a' w' h') (hw.2 i hi))⟩
theorem region_anyIn {id n : Nat} {N : Nat} {dq : List Deferred} {w0 : World} {own ps : List PF} {l : List (Nat × Value)} (S : Nat → World → Prop) (hm : P.follows .mixedOrders = true) (hn : ops.size = n) (he : EnvD dq N a l) (hs : St w0 w own ps) (hd : noDef ops = true) (hno : ∀ a w, ¬ Q .outgrown a w)
    (h : ∀ w', EnvD dq N a l → St w0 w' own ps → sAny P ops Q S n (Array.replicate n false) a w') : (Code.region id ops true).wpIn (WF ro) m P Q a w := by
  subst hn
  exact wpIn_region_any hm (any_in hd hno _ _ _ _ (sAny_wp _ _ _ _ (h _ he hs.drew)))
end
def kaF (n : Nat) (X : World) : PF :=
  ⟨fun w => X.heap.size ≤ w.heap.size ∧ ∀ b o, n ≤ b → X.heap[b]? = some o → w.heap[b]? = some o, fun b => n ≤ b ∧ b < X.heap.size, fun h hb => Nat.lt_of_lt_of_le hb.2 h.1,
    fun h hs hk => ⟨Nat.le_trans h.1 hs, fun b o hb ho => (hk b ⟨hb, lt_of_block ho⟩).trans (h.2 b o hb ho)⟩⟩
def LowFs (n : Nat) : List PF → Prop
  | [] => True
  | e :: l => (∀ b, e.foot b → b < n) ∧ LowFs n l
theorem LowFs.at {n : Nat} : ∀ {l : List PF}, LowFs n l → ∀ e ∈ l, ∀ b, e.foot b → b < n
  | e :: _, h, f, hf => by
    rcases List.mem_cons.1 hf with rfl | hf
    · exact h.1
    · exact LowFs.at h.2 f hf
theorem low_all {n : Nat} : ∀ {l : List PF}, (∀ e ∈ l, ∀ b, e.foot b → b < n) → LowFs n l
  | [], _ => trivial
  | e :: l, h => ⟨h e (List.mem_cons_self ..), low_all fun f hf => h f (List.mem_cons_of_mem _ hf)⟩
section
variable {w0 w X Y : World} {own ps : List PF} {n k : Nat}
theorem low_of (h : St w0 w own ps) : LowFs w.heap.size own := low_all fun e he _ hb => e.lt (h.mine e he) hb
theorem St.addKA (h : St w0 w own ps) (hf : LowFs n own) : St w0 w own (kaF n w :: ps) := h.addP (kaF n w) ⟨Nat.le_refl _, fun _ _ _ h => h⟩ fun e he b hb hk => by
  have h1 := hf.at e he b hb
  have h2 : n ≤ b := hk.1
  omega
theorem St.addHi {g : Nat} {c : Array Value} {t : TypeId} (h : St w0 w own ps) (hf : LowFs n own) (hg : n ≤ g) (hp : (bk g c t).P w) : St w0 w own (bk g c t :: ps) := h.addP _ hp fun e he b hb hk => by
  have h1 := hf.at e he b hb
  obtain rfl : b = g := hk
  omega
theorem St.ka (h : St w0 w own ps) (hk : ps[k]? = some (kaF n X)) : KeepsFrom n X w := ⟨(h.pat hk).1, fun b o hb ho _ => (h.pat hk).2 b o hb ho⟩
theorem St.kax {p : World → Prop} (h : St w0 w own ps) (hk : ps[k]? = some (kaF n X)) (hp : p w) : KX n p X w := ⟨(h.pat hk).1, fun b o hb ho => (h.pat hk).2 b o (by omega) ho, fun _ => hp⟩
theorem kx_of {B i0 n0 c0 n1 c1 : Nat} {i g : Int} {A0 A1 : Option Addr} {es : List IE} {os : List Int} (h : Below X.heap.size X Y) : KX i0 (pgP B i g A0 n0 c0 A1 n1 c1 es os) X Y := ⟨h.size, fun b _ _ hb => (h.block b (lt_of_block hb)).trans hb, fun q => pg_keep q h⟩
theorem St.putD0 {D : Nat} (h : St w0 w own ps) (hd : w.heap[D]? = some (.deferred (some []))) (hD : w0.heap.size ≤ D) (hc : CellsFs own) (hp : CellsFs ps) : St w0 (w.putObj D (.deferred none)) own ps :=
  h.grown (B := D) hD hc hp (grownBy_putObj' w D _) fun r e => by
    cases e
    exact ⟨Nat.le_refl _, _, hd, rfl⟩
theorem putD_other {D E : Nat} {o o' : Obj} (h : w.heap[E]? = some o) (hne : E ≠ D) : (w.putObj D o').heap[E]? = some o := (World.putObj_heap_other hne).trans h
end
theorem bneF {x y : Int} (h : x = y) : (x != y) = false := by subst h; simp
def Mis (es : List IE) (n : Nat) (pre : List YE) : Prop := ∃ pr x, pre = pr ++ [x] ∧ pr.length < n ∧ ¬ (x.1 + pr.length + 1 = n ∧ es[x.1]? = some x.2)
theorem mis_absurd {es : List IE} {n : Nat} {pre : List YE} (hl : es.length = n) (hS : ∃ k, k ≤ n ∧ pre = rvT es k) (h : Mis es n pre) : False := by
  obtain ⟨k, hk, rfl⟩ := hS
  obtain ⟨pr, x, e, hp, hx⟩ := h
  cases k with
  | zero => simp [rvT] at e
  | succ k =>
    obtain ⟨y, hy⟩ : ∃ y, es[n - 1 - k]? = some y := ⟨_, List.getElem?_eq_getElem (by omega)⟩
    rw [rvT_step (j := n - 1 - k) hy (by omega)] at e
    obtain ⟨e1, e2⟩ := List.append_inj' e rfl
    have e3 : (n - 1 - k, y) = x := by simpa using e2
    subst e3
    have e4 : k = pr.length := by rw [← e1, rvT_len]
    exact hx ⟨by simp only; omega, hy⟩
end Go.Proofs.YtbdngknpngcojaaDoor.W

/- ProgBack. Printed by pv/gen_g8.py. No condition. -/
namespace Go.Proofs.YtbdngknpngcojaaDoor.W
open Go.RowKit Anv Go.Lib
section
variable {P : Program} {N : Nat} {dq : List Deferred} {a : Act} {l : List (Nat × Value)} {w : World} {d : Nat} {ty : TypeId} {pos : String} {af : Array Edge} {gd : Option (Nat × Bool)}
theorem run_eqIn_func (w : World) (d : Nat) {t : TypeId} {ps rs : Array TypeId} {vr : Bool} (f : Fn) (us vs : Array Value) (h : P.underlying t = some (.func ps rs vr)) : (Op.equalIn (d + 1) t (.func f us vs) .nilFunc).run P w = .ok false w := by
  simp [Op.equalIn, run_underlying h]
theorem run_eql_func (w : World) {t : TypeId} {ps rs : Array TypeId} {vr : Bool} (f : Fn) (us vs : Array Value) (h : P.underlying t = some (.func ps rs vr)) : (binOp .eql t (.func f us vs) .nilFunc).run P w = .ok (.bool false) w := by
  simp only [binOp]
  simp [Op.equal, Op.maxDepth, run_eqIn_func w 9999 f us vs h]
theorem rn_nilFn {x : Operand} {T yt : Nat} {ps rs : Array TypeId} {vr : Bool} {c : Fn} {us vs : Array Value} (h : EnvD dq N a l) (hT : P.underlying T = some (.func ps rs vr)) (hx : evl l x = some (.func c us vs)) :
    (execOp a.eval ⟨some d, .binOp .eql T x (.const .nilFunc) yt, ty, pos, af, gd⟩).run P w = .ok (.value (.bool false)) w := by
  refine rn_bin h hx (by rfl) ?_
  have := run_eql_func (P := P) w c us vs hT
  simp [eqGuard, this]
end
theorem cutFIn {P : Program} {ro : Option Nat} {m : Nat} {c : Code} {K : Act → World → Prop} {Q : Exit → Act → World → Prop} {a : Act} {w : World} (M : Act → World → Prop) (h : c.wpIn (WF ro) m P (Exit.then M (fun _ _ _ => False)) a w) (hK : ∀ a w, M a w → K a w) : c.wpIn (WF ro) m P (Exit.then K Q) a w :=
  wpIn_mono h fun e a w hq => by cases e <;> first | exact hK _ _ hq | exact hq.elim
theorem ins_eq {x1 x2 x3 x4 x5 y1 y2 y3 y4 y5 : Int} (h : [x1, x2, x3, x4, x5] = [y1, y2, y3, y4, y5]) : ((y1, y2, y3, y4, y5) : IE) = (x1, x2, x3, x4, x5) := by
  simp only [List.cons.injEq, and_true] at h
  obtain ⟨rfl, rfl, rfl, rfl, rfl⟩ := h
  rfl
theorem body_cases {es : List IE} {n : Nat} (hl : es.length = n) (j : Nat) (x : IE) (p : Nat) : (j + p + 1 = n ∧ es[j]? = some x) ∨ (j + p + 1 ≠ n ∧ ¬ (j + p + 1 = n ∧ es[j]? = some x)) ∨ (j + p + 1 = n ∧ ∃ y, es[j]? = some y ∧ y ≠ x ∧ ¬ (j + p + 1 = n ∧ es[j]? = some x)) := by
  by_cases h : j + p + 1 = n
  · obtain ⟨y, hy⟩ : ∃ y, es[j]? = some y := ⟨_, List.getElem?_eq_getElem (by omega)⟩
    by_cases e : y = x
    · exact .inl ⟨h, e ▸ hy⟩
    · exact .inr (.inr ⟨h, y, hy, e, fun q => e (Option.some.inj (hy.symm.trans q.2))⟩)
  · exact .inr (.inl ⟨h, fun q => h q.1⟩)
set_option maxRecDepth 100000 in
set_option maxHeartbeats 8000000 in
theorem gback_w {i g k : Int} {A0 A1 : Option Addr} {n0 c0 n1 c1 : Nat} {es0 : List IE} {es1 : List Int} {w0 : World} (h0 : (pfRow fJ FJ 5 A0 n0 c0 es0).P w0) (h1 : (pfRow fI FI 1 A1 n1 c1 es1).P w0) (hv : 400 < n0 ∨ 400 < n1) :
    Calls Tryd.prog 4 #[.agg #[.int .i64 i, .int .i64 g, .slice A0 n0 c0, .slice A1 n1 c1], .int .i64 k] w0 fun e w' => e = .returned (.bool true) ∧ Below w0.heap.size w0 w' := by
  refine enter Tryd.func4 rfl Tryd.ntmps4 rfl ?_
  intro a henv hst
  have hlen0 := h0.2.1
  have hbig0 := Nat.le_trans h0.1.cap h0.1.big
  unfold maxLen at hbig0
  have hlen1 := h1.2.1
  have hbig1 := Nat.le_trans h1.1.cap h1.1.big
  unfold maxLen at hbig1
  replace hst := hst.argRow h0
  replace hst := hst.argRow h1
  clear h0 h1
  refine wp_seq ?_
  refine region_seq ?_
  refine seq_step rfl (op_box (c := #[.int .i64 i, .int .i64 g, .slice A0 n0 c0, .slice A1 n1 c1]) henv hst rfl rfl rfl ?_)
  clear henv hst a; intro a w52 g51 henv hst
  refine seq_step rfl (op_box (c := #[.int .i64 k]) henv hst rfl rfl rfl ?_)
  clear henv hst a; intro a w54 g53 henv hst
  refine seq_step rfl (op_alloc (c := #[.bool false]) henv hst rfl zero_bool rfl ?_)
  clear henv hst a; intro a w56 g55 henv hst
  refine wpList_nil ?_
  refine th_n ?_
  refine wp_seq ?_
  refine wp_seq ?_
  refine region_seq ?_
  refine seq_step rfl (op_call henv rfl Tryd.call10 rfl g_live ?_)
  rintro e w57 ⟨rfl, hb⟩
  refine ⟨_, rfl, ?_⟩
  clear henv a; intro a henv
  replace hst := hst.call hb
  clear hb
  refine sv (v := .bool false) henv rfl (rn_un henv rfl rfl) ?_
  clear henv a; intro a henv
  refine wpList_nil ?_
  refine th_n ?_
  refine if_f henv rfl (rfl) ?_
  refine wp_skip ?_
  refine th_n ?_
  refine wp_seq ?_
  refine wp_seq ?_
  refine region_seq ?_
  refine sv (v := .agg #[.int .i64 i, .int .i64 g, .slice A0 n0 c0, .slice A1 n1 c1]) henv rfl (rn_load0 henv ty_anvil_api_Prog rfl (hst.oat (k := 2) rfl) rfl) ?_
  clear henv a; intro a henv
  refine seq_step rfl (op_call henv rfl Tryd.call13 rfl (g_long (i := i) (g := g) (A0 := A0) (n0 := n0) (c0 := c0) (A1 := A1) (n1 := n1) (c1 := c1)) ?_)
  rintro e w58 ⟨rfl, hb⟩
  refine ⟨_, rfl, ?_⟩
  clear henv a; intro a henv
  replace hst := hst.call hb
  clear hb
  rw [show (decide (400 < n0 ∨ 400 < n1)) = true from (decide_eq_true hv)] at henv
  refine wpList_nil ?_
  refine th_n ?_
  refine if_t henv rfl (rfl) ?_
  refine wp_seq ?_
  refine region_seq ?_
  refine seq_step rfl (op_store1 (k := 0) (c' := #[.bool true]) henv hst (ty_bool.size) rfl rfl rfl (by simp) rfl rfl ?_)
  clear henv hst a; intro a w59 henv hst
  refine wpList_nil ?_
  refine th_n ?_
  refine wp_ret ?_
  refine th_r ?_
  refine leave henv (res1 Tryd.results4 (RV.cell1 henv ty_bool rfl (hst.oat (k := 0) rfl) rfl)) ?_
  exact ⟨rfl, hst.below⟩
set_option maxRecDepth 100000 in
set_option maxHeartbeats 8000000 in
theorem gback_ok {i g k : Int} {A0 A1 : Option Addr} {n0 c0 n1 c1 : Nat} {es0 : List IE} {es1 : List Int} {w0 : World} (h0 : (pfRow fJ FJ 5 A0 n0 c0 es0).P w0) (h1 : (pfRow fI FI 1 A1 n1 c1 es1).P w0) (hv : ¬ (400 < n0 ∨ 400 < n1)) (hR : Right i g n0 n1 es0 es1) :
    Calls Tryd.prog 4 #[.agg #[.int .i64 i, .int .i64 g, .slice A0 n0 c0, .slice A1 n1 c1], .int .i64 k] w0 fun e w' => e = .returned (.bool true) ∧ Below w0.heap.size w0 w' := by
  refine enterM Tryd.func4 rfl Tryd.ntmps4 rfl ?_
  intro a henv hst
  have hlen0 := h0.2.1
  have hbig0 := Nat.le_trans h0.1.cap h0.1.big
  unfold maxLen at hbig0
  have hlen1 := h1.2.1
  have hbig1 := Nat.le_trans h1.1.cap h1.1.big
  unfold maxLen at hbig1
  replace hst := hst.argRow h0
  replace hst := hst.argRow h1
  clear h0 h1
  refine wp_seq ?_
  refine region_seq ?_
  refine seq_step rfl (op_box (c := #[.int .i64 i, .int .i64 g, .slice A0 n0 c0, .slice A1 n1 c1]) henv hst rfl rfl rfl ?_)
  clear henv hst a; intro a w52 g51 henv hst
  refine seq_step rfl (op_box (c := #[.int .i64 k]) henv hst rfl rfl rfl ?_)
  clear henv hst a; intro a w54 g53 henv hst
  refine seq_step rfl (op_alloc (c := #[.bool false]) henv hst rfl zero_bool rfl ?_)
  clear henv hst a; intro a w56 g55 henv hst
  refine wpList_nil ?_
  refine th_n ?_
  refine wp_seq ?_
  refine wp_seq ?_
  refine region_seq ?_
  refine seq_step rfl (op_call henv rfl Tryd.call10 rfl g_live ?_)
  rintro e w57 ⟨rfl, hb⟩
  refine ⟨_, rfl, ?_⟩
  clear henv a; intro a henv
  replace hst := hst.call hb
  clear hb
  refine sv (v := .bool false) henv rfl (rn_un henv rfl rfl) ?_
  clear henv a; intro a henv
  refine wpList_nil ?_
  refine th_n ?_
  refine if_f henv rfl (rfl) ?_
  refine wp_skip ?_
  refine th_n ?_
  refine wp_seq ?_
  refine wp_seq ?_
  refine region_seq ?_
  refine sv (v := .agg #[.int .i64 i, .int .i64 g, .slice A0 n0 c0, .slice A1 n1 c1]) henv rfl (rn_load0 henv ty_anvil_api_Prog rfl (hst.oat (k := 2) rfl) rfl) ?_
  clear henv a; intro a henv
  refine seq_step rfl (op_call henv rfl Tryd.call13 rfl (g_long (i := i) (g := g) (A0 := A0) (n0 := n0) (c0 := c0) (A1 := A1) (n1 := n1) (c1 := c1)) ?_)
  rintro e w58 ⟨rfl, hb⟩
  refine ⟨_, rfl, ?_⟩
  clear henv a; intro a henv
  replace hst := hst.call hb
  clear hb
  rw [show (decide (400 < n0 ∨ 400 < n1)) = false from (decide_eq_false hv)] at henv
  refine wpList_nil ?_
  refine th_n ?_
  refine if_f henv rfl (rfl) ?_
  refine wp_skip ?_
  refine th_n ?_
  refine wp_seq ?_
  refine region_seq ?_
  refine sv (v := .agg #[.int .i64 i, .int .i64 g, .slice A0 n0 c0, .slice A1 n1 c1]) henv rfl (rn_load0 henv ty_anvil_api_Prog rfl (hst.oat (k := 2) rfl) rfl) ?_
  clear henv a; intro a henv
  refine seq_step rfl (op_call henv rfl Tryd.call14 rfl (g_back (i := i) (g := g) (A0 := A0) (n0 := n0) (c0 := c0) (A1 := A1) (n1 := n1) (c1 := c1)) ?_)
  rintro e w59 ⟨gB, rfl, hS, hge, hb⟩
  refine ⟨_, rfl, ?_⟩
  clear henv a; intro a henv
  replace hst := hst.fresh hb (bk gB #[.int .i64 i, .int .i64 g, .slice A0 n0 c0, .slice A1 n1 c1] 25) hS (fun _ hb => hb ▸ hge)
  clear hS hge
  clear hb
  refine sv (v := .func (.func 36) #[] #[.pointer (some ⟨gB, 0, none⟩)]) henv rfl (rn_assign henv rfl) ?_
  clear henv a; intro a henv
  refine wpList_nil ?_
  refine th_n ?_
  refine wp_seq ?_
  refine region_seq ?_
  revert a
  refine sA (v := .pointer (some ⟨g51, 2, none⟩)) rfl (fun _ henv => rn_fieldAddr henv fd_anvil_api_Prog_2 (ty__api_Instr.size) (by decide) rfl) ?_
  refine sA (v := .slice A0 n0 c0) rfl (fun _ henv => rn_load1 henv ty__api_Instr rfl (hst.oat (k := 2) rfl) rfl) ?_
  refine sA (v := .int .i64 (n0 : Nat)) rfl (fun _ henv => rn_len henv Tryd.underlying22 rfl) ?_
  intro a henv
  refine seq_step rfl (op_alloc (c := #[.int .i64 0]) henv hst rfl zero_int rfl ?_)
  clear henv hst a; intro a w61 g60 henv hst
  refine seq_step rfl (op_store1 (k := 0) (c' := #[.int .i64 (n0 : Nat)]) henv hst (ty_int.size) rfl rfl rfl (by simp) rfl rfl ?_)
  clear henv hst a; intro a w62 henv hst
  refine wpList_nil ?_
  refine th_n ?_
  refine wp_seq ?_
  refine region_seq ?_
  refine sv (v := .agg #[.int .i64 i, .int .i64 g, .slice A0 n0 c0, .slice A1 n1 c1]) henv rfl (rn_load0 henv ty_anvil_api_Prog rfl (hst.oat (k := 3) rfl) rfl) ?_
  clear henv a; intro a henv
  refine seq_step rfl (op_call henv rfl Tryd.call15 rfl (r_right_ok (hst.pat (k := 2) rfl) (hst.pat (k := 1) rfl) hR) ?_)
  rintro e w63 ⟨rfl, hb⟩
  refine ⟨_, rfl, ?_⟩
  clear henv a; intro a henv
  replace hst := hst.call hb
  clear hb
  refine sv (v := .bool true) henv rfl (rn_assign henv rfl) ?_
  clear henv a; intro a henv
  refine wpList_nil ?_
  refine th_n ?_
  refine wp_seq ?_
  refine wp_seq ?_
  refine region_seq ?_
  revert a
  refine mA rfl rfl ?_
  refine sA (v := .bool false) rfl (fun _ henv => rn_un henv rfl rfl) ?_
  intro a henv
  refine wpList_nil ?_
  refine th_n ?_
  refine if_f henv rfl (rfl) ?_
  refine wp_skip ?_
  refine th_n ?_
  refine wp_seq ?_
  refine wp_seq ?_
  refine region_seq ?_
  revert a
  refine mA rfl rfl ?_
  refine sA (v := .bool false) rfl (fun _ henv => rn_nilFn henv Tryd.underlying34 rfl) ?_
  refine mA rfl rfl ?_
  intro a henv
  refine seq_g rfl henv rfl rfl (op_call henv rfl Tryd.call10 rfl g_live ?_)
  rintro e w64 ⟨rfl, hb⟩
  refine ⟨_, rfl, ?_⟩
  clear henv a; intro a henv
  replace hst := hst.call hb
  clear hb
  revert a
  refine gA (v := .bool false) rfl rfl rfl rfl (fun _ henv => rn_un henv rfl rfl) ?_
  refine sA (v := .bool false) rfl (fun _ henv => rn_pick henv rfl rfl) ?_
  intro a henv
  refine wpList_nil ?_
  refine th_n ?_
  refine if_f henv rfl (rfl) ?_
  refine wp_skip ?_
  refine th_n ?_
  refine wp_seq ?_
  refine wp_seq ?_
  refine region_seq ?_
  refine seq_step rfl (op_alloc (c := #[.int .i64 0]) henv hst rfl zero_int rfl ?_)
  clear henv hst a; intro a w66 g65 henv hst
  refine seq_step rfl (op_store1 (k := 0) (c' := #[.int .i64 0]) henv hst (ty_int.size) rfl rfl rfl (by simp) rfl rfl ?_)
  clear henv hst a; intro a w67 henv hst
  refine wpList_nil ?_
  refine th_n ?_
  refine wp_block ?_
  refine wp_loop_ghost (fun mz a w => (∃ g8 : Nat, 2 = mz ∧ EnvD [] 81 a [(2, .pointer (some ⟨g51, 0, none⟩)), (3, .pointer (some ⟨g53, 0, none⟩)), (4, .pointer (some ⟨g55, 0, none⟩)), (5, .func (.func 36) #[] #[.pointer (some ⟨gB, 0, none⟩)]), (6, .pointer (some ⟨g60, 0, none⟩)), (8, .pointer (some ⟨g8, 0, none⟩))] ∧ St w0 w [bk g8 #[.int .i64 0] 3, bk g51 #[.int .i64 i, .int .i64 g, .slice A0 n0 c0, .slice A1 n1 c1] 25, bk g53 #[.int .i64 k] 3, bk g55 #[.bool false] 4, bk g60 #[.int .i64 (n0 : Nat)] 3] [bk gB #[.int .i64 i, .int .i64 g, .slice A0 n0 c0, .slice A1 n1 c1] 25, pfRow fI FI 1 A1 n1 c1 es1, pfRow fJ FJ 5 A0 n0 c0 es0]) ∨ (∃ D1 : Nat, ∃ g8 : Nat, 1 = mz ∧ EnvD [{ target := .collected D1, args := #[] }] 81 a [(2, .pointer (some ⟨g51, 0, none⟩)), (3, .pointer (some ⟨g53, 0, none⟩)), (4, .pointer (some ⟨g55, 0, none⟩)), (5, .func (.func 36) #[] #[.pointer (some ⟨gB, 0, none⟩)]), (6, .pointer (some ⟨g60, 0, none⟩)), (8, .pointer (some ⟨g8, 0, none⟩))] ∧ St w0 w [bk g8 #[.int .i64 1] 3, bk g51 #[.int .i64 i, .int .i64 g, .slice A0 n0 c0, .slice A1 n1 c1] 25, bk g53 #[.int .i64 k] 3, bk g55 #[.bool false] 4, bk g60 #[.int .i64 (n0 : Nat)] 3] [defF D1, bk gB #[.int .i64 i, .int .i64 g, .slice A0 n0 c0, .slice A1 n1 c1] 25, pfRow fI FI 1 A1 n1 c1 es1, pfRow fJ FJ 5 A0 n0 c0 es0] ∧ w0.heap.size ≤ D1) ∨ (∃ D1 : Nat, ∃ D2 : Nat, ∃ g8 : Nat, 0 = mz ∧ EnvD [{ target := .collected D2, args := #[] }, { target := .collected D1, args := #[] }] 81 a [(2, .pointer (some ⟨g51, 0, none⟩)), (3, .pointer (some ⟨g53, 0, none⟩)), (4, .pointer (some ⟨g55, 0, none⟩)), (5, .func (.func 36) #[] #[.pointer (some ⟨gB, 0, none⟩)]), (6, .pointer (some ⟨g60, 0, none⟩)), (8, .pointer (some ⟨g8, 0, none⟩))] ∧ St w0 w [bk g8 #[.int .i64 2] 3, bk g51 #[.int .i64 i, .int .i64 g, .slice A0 n0 c0, .slice A1 n1 c1] 25, bk g53 #[.int .i64 k] 3, bk g55 #[.bool false] 4, bk g60 #[.int .i64 (n0 : Nat)] 3] [defF D2, defF D1, bk gB #[.int .i64 i, .int .i64 g, .slice A0 n0 c0, .slice A1 n1 c1] 25, pfRow fI FI 1 A1 n1 c1 es1, pfRow fJ FJ 5 A0 n0 c0 es0] ∧ w0.heap.size ≤ D1 ∧ w0.heap.size ≤ D2 ∧ D1 < D2)) 2 (.inl ⟨g65, rfl, henv.sub ⟨rfl, rfl, rfl, rfl, rfl, rfl, trivial⟩, hst.pick [0, 4, 3, 2, 1] [0, 1, 2] (by decide)⟩) ?_
  clear henv hst a
  rintro mz a w68 (⟨g8, rfl, henv, hst⟩ | ⟨D1, g8, rfl, henv, hst, hDD1⟩ | ⟨D1, D2, g8, rfl, henv, hst, hDD1, hDD2, hD12⟩)
  · refine wp_seq ?_
    refine wp_seq ?_
    refine region_seq ?_
    revert a
    refine sA (v := .int .i64 0) rfl (fun _ henv => rn_load1 henv ty_int rfl (hst.oat (k := 0) rfl) rfl) ?_
    refine sA (v := .bool true) rfl (fun _ henv => rn_bin henv rfl rfl rfl) ?_
    intro a henv
    refine wpList_nil ?_
    refine th_n ?_
    refine if_t henv rfl (rfl) ?_
    refine wp_skip ?_
    refine th_n ?_
    refine wp_seq ?_
    refine wp_block ?_
    refine wp_seq ?_
    refine region_seq ?_
    refine seq_step rfl (op_alloc (c := #[.int .i64 0]) henv hst rfl zero_int rfl ?_)
    clear henv hst a; intro a w70 g69 henv hst
    refine seq_step rfl (op_store1 (k := 0) (c' := #[.int .i64 0]) henv hst (ty_int.size) rfl rfl rfl (by simp) rfl rfl ?_)
    clear henv hst a; intro a w71 henv hst
    refine wpList_nil ?_
    refine th_n ?_
    refine wp_seq ?_
    refine wp_seq ?_
    refine region_seq ?_
    refine sv (v := .func (.func 36) #[] #[.pointer (some ⟨gB, 0, none⟩)]) henv rfl (rn_move henv rfl) ?_
    clear henv a; intro a henv
    refine wpList_nil ?_
    refine th_n ?_
    refine wp_block ?_
    have hsz := hst.below.size
    have hlow0 := low_of hst
    refine wp_rangeO (α := YE) (enc := encI) (enc' := encJ) henv rfl Tryd.call36 rfl rfl (back_ok ⟨hst.pat (k := 0) rfl, hst.pat (k := 2) rfl, hst.pat (k := 1) rfl⟩ hR) kx_trans (fun Y o o' h hc => kx_put h hc) (fun pre W => St w0 W [bk g69 #[.int .i64 (pre.length : Nat)] 3, bk g8 #[.int .i64 0] 3, bk g51 #[.int .i64 i, .int .i64 g, .slice A0 n0 c0, .slice A1 n1 c1] 25, bk g53 #[.int .i64 k] 3, bk g55 #[.bool false] 4, bk g60 #[.int .i64 (n0 : Nat)] 3] [bk gB #[.int .i64 i, .int .i64 g, .slice A0 n0 c0, .slice A1 n1 c1] 25, pfRow fI FI 1 A1 n1 c1 es1, pfRow fJ FJ 5 A0 n0 c0 es0] ∧ w71.heap.size ≤ W.heap.size) (fun c pre W => (c = .exit 2 ∧ (pre.length : Int) = k ∧ St w0 W [bk g69 #[.int .i64 (pre.length : Nat)] 3, bk g8 #[.int .i64 0] 3, bk g51 #[.int .i64 i, .int .i64 g, .slice A0 n0 c0, .slice A1 n1 c1] 25, bk g53 #[.int .i64 k] 3, bk g55 #[.bool false] 4, bk g60 #[.int .i64 (n0 : Nat)] 3] [bk gB #[.int .i64 i, .int .i64 g, .slice A0 n0 c0, .slice A1 n1 c1] 25, pfRow fI FI 1 A1 n1 c1 es1, pfRow fJ FJ 5 A0 n0 c0 es0] ∧ w71.heap.size ≤ W.heap.size) ∨ (c = .ret ∧ Mis es0 n0 pre)) (fun _ _ _ _ ⟨hst, hnB⟩ hg hr => ⟨hst.grown hsz ⟨cf_bk, cf_bk, cf_bk, cf_bk, cf_bk, cf_bk, trivial⟩ ⟨cf_bk, cf_rowT (fun _ _ h => h) (by decide), cf_rowT (fun _ _ h => h) (by decide), trivial⟩ hg hr, Nat.le_trans hnB hg.size⟩) (fun _ _ _ _ _ h hg hr => h.imp (fun ⟨hc, hk, hst, hnB⟩ => ⟨hc, hk, hst.grown hsz ⟨cf_bk, cf_bk, cf_bk, cf_bk, cf_bk, cf_bk, trivial⟩ ⟨cf_bk, cf_rowT (fun _ _ h => h) (by decide), cf_rowT (fun _ _ h => h) (by decide), trivial⟩ hg hr, Nat.le_trans hnB hg.size⟩) id) ⟨hst.pick [0, 1, 2, 3, 4, 5] [0, 1, 2] (by decide), Nat.le_refl _⟩ (fun x a' W => ∃ g4, w71.heap.size ≤ g4 ∧ EnvD [] 81 a' [(2, .pointer (some ⟨g51, 0, none⟩)), (3, .pointer (some ⟨g53, 0, none⟩)), (4, .pointer (some ⟨g55, 0, none⟩)), (6, .pointer (some ⟨g60, 0, none⟩)), (8, .pointer (some ⟨g8, 0, none⟩)), (9, .pointer (some ⟨g69, 0, none⟩)), (10, .int .i64 (x.1 : Nat)), (11, .pointer (some ⟨g4, 0, none⟩))] ∧ (bk g4 #[.int .i64 x.2.1, .int .i64 x.2.2.1, .int .i64 x.2.2.2.1, .int .i64 x.2.2.2.2.1, .int .i64 x.2.2.2.2.2] 37).P W) (fun x a' s Y Z row hs hg hr => hs.elim fun g4 h => ⟨g4, h.1, h.2.1, own_keep cf_bk h.2.2 hg hr⟩) ?_ ?_ ?_ ?_
    · intro ix pre x W K hi hK a henv
      have hst := St.start W
      refine wpIn_seq ?_
      refine region_in ?_
      refine in_step rfl (fun _ h => by cases h) (op_val (v := .int .i64 (x.1 : Nat)) henv rfl (rn_assign henv rfl) ?_)
      clear henv a; intro a henv
      refine in_nil ?_
      refine th_n ?_
      refine region_in ?_
      refine in_step rfl (fun _ h => by cases h) (op_alloc (c := #[.int .i64 0, .int .i64 0, .int .i64 0, .int .i64 0, .int .i64 0]) henv hst rfl zero_anvil_api_Instr rfl ?_)
      clear henv hst a; intro a w73 g72 henv hst
      refine in_step rfl (fun _ h => by cases h) (op_store (k := 0) (c' := #[.int .i64 x.2.1, .int .i64 x.2.2.1, .int .i64 x.2.2.2.1, .int .i64 x.2.2.2.2.1, .int .i64 x.2.2.2.2.2]) henv hst (ty_anvil_api_Instr.size) rfl rfl rfl rfl (by simp) rfl rfl ?_)
      clear henv hst a; intro a w74 henv hst
      refine in_nil ?_
      have hg0 := grown_of hst.below
      have hr0 : ∀ r, (none : Option Nat) = some r → w71.heap.size ≤ r ∧ ∃ o : Obj, W.heap[r]? = some o ∧ o.isCells = false := fun r e => by cases e
      obtain ⟨hsi, hnB⟩ := hi
      exact th_n (hK _ _ (kf_of hst.below) (kx_of hst.below) ⟨hsi.grown hsz ⟨cf_bk, cf_bk, cf_bk, cf_bk, cf_bk, cf_bk, trivial⟩ ⟨cf_bk, cf_rowT (fun _ _ h => h) (by decide), cf_rowT (fun _ _ h => h) (by decide), trivial⟩ hg0 hr0, (Nat.le_trans hnB hg0.size)⟩ ⟨g72, Nat.le_trans hnB (hst.oge (k := 0) rfl), henv.sub ⟨rfl, rfl, rfl, rfl, rfl, rfl, rfl, rfl, trivial⟩, hst.oat (k := 0) rfl⟩)
    · rintro ix pre ⟨xj, x1, x2, x3, x4, x5⟩ a W hI ⟨g4, hg4, henv, hgb⟩ hlt
      obtain ⟨hst, hnB⟩ := hI
      have hlow : LowFs w71.heap.size [bk g69 #[.int .i64 (pre.length : Nat)] 3, bk g8 #[.int .i64 0] 3, bk g51 #[.int .i64 i, .int .i64 g, .slice A0 n0 c0, .slice A1 n1 c1] 25, bk g53 #[.int .i64 k] 3, bk g55 #[.bool false] 4, bk g60 #[.int .i64 (n0 : Nat)] 3] := hlow0
      replace hst := (((hst.addHi hlow hg4 hgb).addKA hlow).addKO ⟨cf_bk, cf_bk, cf_bk, cf_bk, cf_bk, cf_bk, trivial⟩)
      replace hst : St w0 W [bk g69 #[.int .i64 (pre.length : Nat)] 3, bk g8 #[.int .i64 0] 3, bk g51 #[.int .i64 i, .int .i64 g, .slice A0 n0 c0, .slice A1 n1 c1] 25, bk g53 #[.int .i64 k] 3, bk g55 #[.bool false] 4, bk g60 #[.int .i64 (n0 : Nat)] 3] [koF W, kaF w71.heap.size W, bk g4 #[.int .i64 x1, .int .i64 x2, .int .i64 x3, .int .i64 x4, .int .i64 x5] 37, bk gB #[.int .i64 i, .int .i64 g, .slice A0 n0 c0, .slice A1 n1 c1] 25, pfRow fI FI 1 A1 n1 c1 es1, pfRow fJ FJ 5 A0 n0 c0 es0] := hst
      rcases body_cases hlen0 xj (x1, x2, x3, x4, x5) pre.length with ⟨hxi, hex⟩ | ⟨hxi, hmis⟩ | ⟨hxi, ⟨y1, y2, y3, y4, y5⟩, hex, hne, hmis⟩
      · refine wpIn_block ?_
        refine wpIn_seq ?_
        refine wpIn_seq ?_
        refine cutFIn (fun a w => Env 81 a [(2, .pointer (some ⟨g51, 0, none⟩)), (3, .pointer (some ⟨g53, 0, none⟩)), (4, .pointer (some ⟨g55, 0, none⟩)), (6, .pointer (some ⟨g60, 0, none⟩)), (8, .pointer (some ⟨g8, 0, none⟩)), (9, .pointer (some ⟨g69, 0, none⟩)), (11, .pointer (some ⟨g4, 0, none⟩)), (57, .bool false)] ∧ St w0 w [bk g69 #[.int .i64 (pre.length : Nat)] 3, bk g8 #[.int .i64 0] 3, bk g51 #[.int .i64 i, .int .i64 g, .slice A0 n0 c0, .slice A1 n1 c1] 25, bk g53 #[.int .i64 k] 3, bk g55 #[.bool false] 4, bk g60 #[.int .i64 (n0 : Nat)] 3] [koF W, kaF w71.heap.size W, bk g4 #[.int .i64 x1, .int .i64 x2, .int .i64 x3, .int .i64 x4, .int .i64 x5] 37, bk gB #[.int .i64 i, .int .i64 g, .slice A0 n0 c0, .slice A1 n1 c1] 25, pfRow fI FI 1 A1 n1 c1 es1, pfRow fJ FJ 5 A0 n0 c0 es0]) ?_ ?_
        · refine region_anyIn (n := 20) (Sk [bk g69 #[.int .i64 (pre.length : Nat)] 3, bk g8 #[.int .i64 0] 3, bk g51 #[.int .i64 i, .int .i64 g, .slice A0 n0 c0, .slice A1 n1 c1] 25, bk g53 #[.int .i64 k] 3, bk g55 #[.bool false] 4, bk g60 #[.int .i64 (n0 : Nat)] 3] [koF W, kaF w71.heap.size W, bk g4 #[.int .i64 x1, .int .i64 x2, .int .i64 x3, .int .i64 x4, .int .i64 x5] 37, bk gB #[.int .i64 i, .int .i64 g, .slice A0 n0 c0, .slice A1 n1 c1] 25, pfRow fI FI 1 A1 n1 c1 es1, pfRow fJ FJ 5 A0 n0 c0 es0] [] []) mixed rfl henv hst (by kernel_rfl) (fun _ _ h => h) ?_
          clear henv hst; intro w75 henv hst
          refine sAny_take (i := 0) [2, 3, 4, 5, 6, 7, 8, 9, 10, 11, 12, 13, 14, 15, 16, 17, 18, 19] (fun w' => w'.heap[g69]? = some (.cells #[.int .i64 (pre.length : Nat)] 3 (0, 0))) (v := .int .i64 (pre.length : Nat)) rfl (by kernel_rfl) (fun _ _ _ h => h) (fun _ _ _ hS => hS.1.oat (k := 0) rfl) henv rfl (hst.oat (k := 0) rfl) (fun w' hg => rn_load1 henv ty_int rfl hg rfl) ?_
          clear henv a; intro a henv
          refine sAny_take (i := 1) [2, 3, 4, 5, 6, 7, 8, 9, 10, 11, 12, 13, 14, 15, 16, 17, 18, 19] (fun w' => w'.heap[g60]? = some (.cells #[.int .i64 (n0 : Nat)] 3 (0, 0))) (v := .int .i64 (n0 : Nat)) rfl (by kernel_rfl) (fun _ _ _ h => h) (fun _ _ _ hS => hS.1.oat (k := 5) rfl) henv rfl (hst.oat (k := 5) rfl) (fun w' hg => rn_load1 henv ty_int rfl hg rfl) ?_
          clear henv a; intro a henv
          refine tA (i := 2) (rg 3 17) (v := .bool (decide (((pre.length : Nat) : Int) ≥ ((n0 : Nat) : Int)))) rfl (by kernel_rfl) (fun _ _ _ h => h) henv rfl (fun _ => rn_bin henv rfl rfl rfl) ?_
          clear henv a; intro a henv
          rw [show (decide (((pre.length : Nat) : Int) ≥ ((n0 : Nat) : Int))) = false from (decide_eq_false (by omega))] at henv
          refine tM (i := 3) (rg 4 16) rfl (by kernel_rfl) (fun _ _ _ h => h) henv rfl rfl ?_
          clear henv a; intro a henv
          refine tAg (i := 4) (rg 9 11) (v := .int .i64 (xj : Nat)) rfl (by kernel_rfl) (fun _ _ _ h => h) henv rfl rfl rfl rfl (fun _ => rn_move henv rfl) ?_
          clear henv a; intro a henv
          refine sAny_takeg (i := 5) [6, 8, 9, 10, 11, 12, 13, 14, 15, 16, 17, 18, 19] (fun w' => w'.heap[g60]? = some (.cells #[.int .i64 (n0 : Nat)] 3 (0, 0))) (v := .int .i64 (n0 : Nat)) rfl (by kernel_rfl) (fun _ _ _ h => h) (fun _ _ _ hS => hS.1.oat (k := 5) rfl) henv rfl rfl rfl rfl (hst.oat (k := 5) rfl) (fun w' hg => rn_load1 henv ty_int rfl hg rfl) ?_
          clear henv a; intro a henv
          refine tAg (i := 6) (rg 8 12) (v := .int .i64 (((n0 : Nat) : Int) - (1 : Int))) rfl (by kernel_rfl) (fun _ _ _ h => h) henv rfl rfl rfl rfl (fun _ => rn_sub henv rfl rfl (IntWalk.i64_in _ (by omega))) ?_
          clear henv a; intro a henv
          refine sAny_takeg (i := 7) [8, 9, 10, 11, 12, 13, 14, 15, 16, 17, 18, 19] (fun w' => w'.heap[g69]? = some (.cells #[.int .i64 (pre.length : Nat)] 3 (0, 0))) (v := .int .i64 (pre.length : Nat)) rfl (by kernel_rfl) (fun _ _ _ h => h) (fun _ _ _ hS => hS.1.oat (k := 0) rfl) henv rfl rfl rfl rfl (hst.oat (k := 0) rfl) (fun w' hg => rn_load1 henv ty_int rfl hg rfl) ?_
          clear henv a; intro a henv
          refine tAg (i := 8) (rg 9 11) (v := .int .i64 ((((n0 : Nat) : Int) - (1 : Int)) - ((pre.length : Nat) : Int))) rfl (by kernel_rfl) (fun _ _ _ h => h) henv rfl rfl rfl rfl (fun _ => rn_sub henv rfl rfl (IntWalk.i64_in _ (by omega))) ?_
          clear henv a; intro a henv
          refine tAg (i := 9) (rg 10 10) (v := .bool (((xj : Nat) : Int) != (((n0 : Nat) : Int) - (1 : Int)) - ((pre.length : Nat) : Int))) rfl (by kernel_rfl) (fun _ _ _ h => h) henv rfl rfl rfl rfl (fun _ => rn_bin henv rfl rfl rfl) ?_
          clear henv a; intro a henv
          rw [show (((xj : Nat) : Int) != (((n0 : Nat) : Int) - (1 : Int)) - ((pre.length : Nat) : Int)) = false from (bneF (by omega))] at henv
          refine tA (i := 10) (rg 11 9) (v := .bool false) rfl (by kernel_rfl) (fun _ _ _ h => h) henv rfl (fun _ => rn_pick henv rfl rfl) ?_
          clear henv a; intro a henv
          refine tM (i := 11) (rg 12 8) rfl (by kernel_rfl) (fun _ _ _ h => h) henv rfl rfl ?_
          clear henv a; intro a henv
          refine sAny_takeg (i := 12) [18, 19] (fun w' => (bk g4 #[.int .i64 x1, .int .i64 x2, .int .i64 x3, .int .i64 x4, .int .i64 x5] 37).P w') (v := .agg #[.int .i64 x1, .int .i64 x2, .int .i64 x3, .int .i64 x4, .int .i64 x5]) rfl (by kernel_rfl) (fun _ _ _ h => h) (fun _ _ _ hS => hS.1.pat (k := 2) rfl) henv rfl rfl rfl rfl (hst.pat (k := 2) rfl) (fun w' hg => rn_load0 henv ty_anvil_api_Instr rfl hg rfl) ?_
          clear henv a; intro a henv
          refine tAg (i := 13) [14, 16, 17, 18, 19] (v := .pointer (some ⟨g51, 2, none⟩)) rfl (by kernel_rfl) (fun _ _ _ h => h) henv rfl rfl rfl rfl (fun _ => rn_fieldAddr henv fd_anvil_api_Prog_2 (ty__api_Instr.size) (by decide) rfl) ?_
          clear henv a; intro a henv
          refine sAny_takeg (i := 14) [16, 17, 18, 19] (fun w' => w'.heap[g51]? = some (.cells #[.int .i64 i, .int .i64 g, .slice A0 n0 c0, .slice A1 n1 c1] 25 (0, 0))) (v := .slice A0 n0 c0) rfl (by kernel_rfl) (fun _ _ _ h => h) (fun _ _ _ hS => hS.1.oat (k := 2) rfl) henv rfl rfl rfl rfl (hst.oat (k := 2) rfl) (fun w' hg => rn_load1 henv ty__api_Instr rfl hg rfl) ?_
          clear henv a; intro a henv
          refine tAg (i := 15) (rg 16 4) (v := .int .i64 (xj : Nat)) rfl (by kernel_rfl) (fun _ _ _ h => h) henv rfl rfl rfl rfl (fun _ => rn_move henv rfl) ?_
          clear henv a; intro a henv
          refine sAny_takeg (i := 16) [17, 18, 19] (fun w' => (pfRow fJ FJ 5 A0 n0 c0 es0).P w') (v := .pointer (some ⟨ab A0, ao A0 + xj * 5, none⟩)) rfl (by kernel_rfl) (fun _ _ _ h => h) (fun _ _ _ hS => hS.1.pat (k := 5) rfl) henv rfl rfl rfl rfl (hst.pat (k := 5) rfl) (fun w' hg => rn_idxR (i := xj) henv Tryd.underlying22 (ty_anvil_api_Instr.size) rfl rfl (by omega) rfl (show (pfRow fJ FJ 5 A0 n0 c0 es0).P _ from hg).1) ?_
          clear henv a; intro a henv
          refine sAny_takeg (i := 17) [18, 19] (fun w' => (pfRow fJ FJ 5 A0 n0 c0 es0).P w') (v := .agg #[.int .i64 x1, .int .i64 x2, .int .i64 x3, .int .i64 x4, .int .i64 x5]) rfl (by kernel_rfl) (fun _ _ _ h => h) (fun _ _ _ hS => hS.1.pat (k := 5) rfl) henv rfl rfl rfl rfl (hst.pat (k := 5) rfl) (fun w' hg => rn_loadE (i := xj) (e := (x1, x2, x3, x4, x5)) henv ty_anvil_api_Instr rfl rfl fJ_len (show (pfRow fJ FJ 5 A0 n0 c0 es0).P _ from hg).1 (by omega) hex rfl) ?_
          clear henv a; intro a henv
          refine tAg (i := 18) [19] (v := .bool (!decide ([x1, x2, x3, x4, x5] = [x1, x2, x3, x4, x5]))) rfl (by kernel_rfl) (fun _ _ _ h => h) henv rfl rfl rfl rfl (fun _ => rn_neqI [x1, x2, x3, x4, x5] [x1, x2, x3, x4, x5] henv instrI rfl rfl rfl rfl) ?_
          clear henv a; intro a henv
          rw [show (!decide ([x1, x2, x3, x4, x5] = [x1, x2, x3, x4, x5])) = false from (by rw [decide_eq_true rfl]; rfl)] at henv
          refine tA (i := 19) [] (v := .bool false) rfl (by kernel_rfl) (fun _ _ _ h => h) henv rfl (fun _ => rn_pick henv rfl rfl) ?_
          clear henv a; intro a henv
          refine sAny_done (by kernel_rfl) ?_ _
          exact th_n ⟨henv.sub ⟨rfl, rfl, rfl, rfl, rfl, rfl, rfl, rfl, trivial⟩, hst.pick [0, 1, 2, 3, 4, 5] [0, 1, 2, 3, 4, 5] (by decide)⟩
        clear henv hst a
        rintro a w76 ⟨henv, hst⟩
        refine if_fIn henv rfl (rfl) ?_
        refine wpIn_skip ?_
        refine th_n ?_
        refine wpIn_seq ?_
        refine region_in ?_
        refine in_step rfl (fun _ h => by cases h) (op_val (v := .int .i64 (pre.length : Nat)) henv rfl (rn_load1 henv ty_int rfl (hst.oat (k := 0) rfl) rfl) ?_)
        clear henv a; intro a henv
        refine in_step rfl (fun _ h => by cases h) (op_val (v := .int .i64 (pre.length + 1 : Nat)) henv rfl (rn_add henv rfl rfl (by rw [IntWalk.i64_in _ (by omega)]; omega)) ?_)
        clear henv a; intro a henv
        refine in_step rfl (fun _ h => by cases h) (op_store1 (k := 0) (c' := #[.int .i64 (pre.length + 1 : Nat)]) henv hst (ty_int.size) rfl rfl rfl (by simp) rfl rfl ?_)
        clear henv hst a; intro a w77 henv hst
        refine in_nil ?_
        refine th_n ?_
        refine wpIn_seq ?_
        refine region_in ?_
        refine in_step rfl (fun _ h => by cases h) (op_val (v := .int .i64 0) henv rfl (rn_load1 henv ty_int rfl (hst.oat (k := 1) rfl) rfl) ?_)
        clear henv a; intro a henv
        refine in_step rfl (fun _ h => by cases h) (op_val (v := .bool true) henv rfl (rn_bin henv rfl rfl rfl) ?_)
        clear henv a; intro a henv
        refine in_step rfl (fun _ h => by cases h) (op_val (v := .bool true) henv rfl (rn_move henv rfl) ?_)
        clear henv a; intro a henv
        refine in_g rfl henv rfl rfl (fun _ h => by cases h) (op_val (v := .int .i64 (pre.length + 1 : Nat)) henv rfl (rn_load1 henv ty_int rfl (hst.oat (k := 0) rfl) rfl) ?_)
        clear henv a; intro a henv
        refine in_g rfl henv rfl rfl (fun _ h => by cases h) (op_val (v := .int .i64 k) henv rfl (rn_load1 henv ty_int rfl (hst.oat (k := 3) rfl) rfl) ?_)
        clear henv a; intro a henv
        refine in_g rfl henv rfl rfl (fun _ h => by cases h) (op_val (v := .bool (((pre.length + 1 : Nat) : Int) == k)) henv rfl (rn_bin henv rfl rfl rfl) ?_)
        clear henv a; intro a henv
        refine in_step rfl (fun _ h => by cases h) (op_val (v := .bool (((pre.length + 1 : Nat) : Int) == k)) henv rfl (rn_pick henv rfl rfl) ?_)
        clear henv a; intro a henv
        refine in_nil ?_
        refine th_n ?_
        refine if_splitIn henv rfl (fun hc78 => ?_) (fun hc78 => ?_)
        · have hkk : ((pre.length + 1 : Nat) : Int) = k := eq_of_beq hc78
          refine wpIn_exit ?_
          refine bl_o rfl ?_
          have hlen1 : (pre ++ [(xj, x1, x2, x3, x4, x5)]).length = pre.length + 1 := by simp
          have hfin : St w0 w77 [bk g69 #[.int .i64 ((pre.length + 1) : Nat)] 3, bk g8 #[.int .i64 0] 3, bk g51 #[.int .i64 i, .int .i64 g, .slice A0 n0 c0, .slice A1 n1 c1] 25, bk g53 #[.int .i64 k] 3, bk g55 #[.bool false] 4, bk g60 #[.int .i64 (n0 : Nat)] 3] [bk gB #[.int .i64 i, .int .i64 g, .slice A0 n0 c0, .slice A1 n1 c1] 25, pfRow fI FI 1 A1 n1 c1 es1, pfRow fJ FJ 5 A0 n0 c0 es0] ∧ w71.heap.size ≤ w77.heap.size := ⟨hst.pick [0, 1, 2, 3, 4, 5] [3, 4, 5] (by decide), Nat.le_trans hnB (hst.ka (k := 1) rfl).size⟩
          rw [← hlen1] at hfin
          exact ⟨hst.ka (k := 1) rfl, hst.kax (k := 1) rfl ⟨hst.pat (k := 3) rfl, hst.pat (k := 5) rfl, hst.pat (k := 4) rfl⟩, .inl ⟨rfl, by rw [hlen1]; exact hkk, hfin⟩⟩
        · refine wpIn_skip ?_
          refine bl_n ?_
          have hlen1 : (pre ++ [(xj, x1, x2, x3, x4, x5)]).length = pre.length + 1 := by simp
          have hfin : St w0 w77 [bk g69 #[.int .i64 ((pre.length + 1) : Nat)] 3, bk g8 #[.int .i64 0] 3, bk g51 #[.int .i64 i, .int .i64 g, .slice A0 n0 c0, .slice A1 n1 c1] 25, bk g53 #[.int .i64 k] 3, bk g55 #[.bool false] 4, bk g60 #[.int .i64 (n0 : Nat)] 3] [bk gB #[.int .i64 i, .int .i64 g, .slice A0 n0 c0, .slice A1 n1 c1] 25, pfRow fI FI 1 A1 n1 c1 es1, pfRow fJ FJ 5 A0 n0 c0 es0] ∧ w71.heap.size ≤ w77.heap.size := ⟨hst.pick [0, 1, 2, 3, 4, 5] [3, 4, 5] (by decide), Nat.le_trans hnB (hst.ka (k := 1) rfl).size⟩
          rw [← hlen1] at hfin
          exact ⟨hst.ka (k := 1) rfl, hst.kax (k := 1) rfl ⟨hst.pat (k := 3) rfl, hst.pat (k := 5) rfl, hst.pat (k := 4) rfl⟩, hfin⟩
      · refine wpIn_block ?_
        refine wpIn_seq ?_
        refine wpIn_seq ?_
        refine cutFIn (fun a w => Env 81 a [(2, .pointer (some ⟨g51, 0, none⟩)), (3, .pointer (some ⟨g53, 0, none⟩)), (4, .pointer (some ⟨g55, 0, none⟩)), (6, .pointer (some ⟨g60, 0, none⟩)), (8, .pointer (some ⟨g8, 0, none⟩)), (9, .pointer (some ⟨g69, 0, none⟩)), (11, .pointer (some ⟨g4, 0, none⟩)), (57, .bool true)] ∧ St w0 w [bk g69 #[.int .i64 (pre.length : Nat)] 3, bk g8 #[.int .i64 0] 3, bk g51 #[.int .i64 i, .int .i64 g, .slice A0 n0 c0, .slice A1 n1 c1] 25, bk g53 #[.int .i64 k] 3, bk g55 #[.bool false] 4, bk g60 #[.int .i64 (n0 : Nat)] 3] [koF W, kaF w71.heap.size W, bk g4 #[.int .i64 x1, .int .i64 x2, .int .i64 x3, .int .i64 x4, .int .i64 x5] 37, bk gB #[.int .i64 i, .int .i64 g, .slice A0 n0 c0, .slice A1 n1 c1] 25, pfRow fI FI 1 A1 n1 c1 es1, pfRow fJ FJ 5 A0 n0 c0 es0]) ?_ ?_
        · refine region_anyIn (n := 20) (Sk [bk g69 #[.int .i64 (pre.length : Nat)] 3, bk g8 #[.int .i64 0] 3, bk g51 #[.int .i64 i, .int .i64 g, .slice A0 n0 c0, .slice A1 n1 c1] 25, bk g53 #[.int .i64 k] 3, bk g55 #[.bool false] 4, bk g60 #[.int .i64 (n0 : Nat)] 3] [koF W, kaF w71.heap.size W, bk g4 #[.int .i64 x1, .int .i64 x2, .int .i64 x3, .int .i64 x4, .int .i64 x5] 37, bk gB #[.int .i64 i, .int .i64 g, .slice A0 n0 c0, .slice A1 n1 c1] 25, pfRow fI FI 1 A1 n1 c1 es1, pfRow fJ FJ 5 A0 n0 c0 es0] [] []) mixed rfl henv hst (by kernel_rfl) (fun _ _ h => h) ?_
          clear henv hst; intro w79 henv hst
          refine sAny_take (i := 0) [2, 3, 4, 5, 6, 7, 8, 9, 10, 11, 12, 13, 14, 15, 16, 17, 18, 19] (fun w' => w'.heap[g69]? = some (.cells #[.int .i64 (pre.length : Nat)] 3 (0, 0))) (v := .int .i64 (pre.length : Nat)) rfl (by kernel_rfl) (fun _ _ _ h => h) (fun _ _ _ hS => hS.1.oat (k := 0) rfl) henv rfl (hst.oat (k := 0) rfl) (fun w' hg => rn_load1 henv ty_int rfl hg rfl) ?_
          clear henv a; intro a henv
          refine sAny_take (i := 1) [2, 3, 4, 5, 6, 7, 8, 9, 10, 11, 12, 13, 14, 15, 16, 17, 18, 19] (fun w' => w'.heap[g60]? = some (.cells #[.int .i64 (n0 : Nat)] 3 (0, 0))) (v := .int .i64 (n0 : Nat)) rfl (by kernel_rfl) (fun _ _ _ h => h) (fun _ _ _ hS => hS.1.oat (k := 5) rfl) henv rfl (hst.oat (k := 5) rfl) (fun w' hg => rn_load1 henv ty_int rfl hg rfl) ?_
          clear henv a; intro a henv
          refine tA (i := 2) (rg 3 17) (v := .bool (decide (((pre.length : Nat) : Int) ≥ ((n0 : Nat) : Int)))) rfl (by kernel_rfl) (fun _ _ _ h => h) henv rfl (fun _ => rn_bin henv rfl rfl rfl) ?_
          clear henv a; intro a henv
          rw [show (decide (((pre.length : Nat) : Int) ≥ ((n0 : Nat) : Int))) = false from (decide_eq_false (by omega))] at henv
          refine tM (i := 3) (rg 4 16) rfl (by kernel_rfl) (fun _ _ _ h => h) henv rfl rfl ?_
          clear henv a; intro a henv
          refine tAg (i := 4) (rg 9 11) (v := .int .i64 (xj : Nat)) rfl (by kernel_rfl) (fun _ _ _ h => h) henv rfl rfl rfl rfl (fun _ => rn_move henv rfl) ?_
          clear henv a; intro a henv
          refine sAny_takeg (i := 5) [6, 8, 9, 10, 11, 12, 13, 14, 15, 16, 17, 18, 19] (fun w' => w'.heap[g60]? = some (.cells #[.int .i64 (n0 : Nat)] 3 (0, 0))) (v := .int .i64 (n0 : Nat)) rfl (by kernel_rfl) (fun _ _ _ h => h) (fun _ _ _ hS => hS.1.oat (k := 5) rfl) henv rfl rfl rfl rfl (hst.oat (k := 5) rfl) (fun w' hg => rn_load1 henv ty_int rfl hg rfl) ?_
          clear henv a; intro a henv
          refine tAg (i := 6) (rg 8 12) (v := .int .i64 (((n0 : Nat) : Int) - (1 : Int))) rfl (by kernel_rfl) (fun _ _ _ h => h) henv rfl rfl rfl rfl (fun _ => rn_sub henv rfl rfl (IntWalk.i64_in _ (by omega))) ?_
          clear henv a; intro a henv
          refine sAny_takeg (i := 7) [8, 9, 10, 11, 12, 13, 14, 15, 16, 17, 18, 19] (fun w' => w'.heap[g69]? = some (.cells #[.int .i64 (pre.length : Nat)] 3 (0, 0))) (v := .int .i64 (pre.length : Nat)) rfl (by kernel_rfl) (fun _ _ _ h => h) (fun _ _ _ hS => hS.1.oat (k := 0) rfl) henv rfl rfl rfl rfl (hst.oat (k := 0) rfl) (fun w' hg => rn_load1 henv ty_int rfl hg rfl) ?_
          clear henv a; intro a henv
          refine tAg (i := 8) (rg 9 11) (v := .int .i64 ((((n0 : Nat) : Int) - (1 : Int)) - ((pre.length : Nat) : Int))) rfl (by kernel_rfl) (fun _ _ _ h => h) henv rfl rfl rfl rfl (fun _ => rn_sub henv rfl rfl (IntWalk.i64_in _ (by omega))) ?_
          clear henv a; intro a henv
          refine tAg (i := 9) (rg 10 10) (v := .bool (((xj : Nat) : Int) != (((n0 : Nat) : Int) - (1 : Int)) - ((pre.length : Nat) : Int))) rfl (by kernel_rfl) (fun _ _ _ h => h) henv rfl rfl rfl rfl (fun _ => rn_bin henv rfl rfl rfl) ?_
          clear henv a; intro a henv
          rw [show (((xj : Nat) : Int) != (((n0 : Nat) : Int) - (1 : Int)) - ((pre.length : Nat) : Int)) = true from (bne_iff_ne.2 (by omega))] at henv
          refine tA (i := 10) (rg 11 9) (v := .bool true) rfl (by kernel_rfl) (fun _ _ _ h => h) henv rfl (fun _ => rn_pick henv rfl rfl) ?_
          clear henv a; intro a henv
          refine tM (i := 11) (rg 12 8) rfl (by kernel_rfl) (fun _ _ _ h => h) henv rfl rfl ?_
          clear henv a; intro a henv
          refine sAny_skipg (i := 12) [18, 19] rfl (by kernel_rfl) (fun _ _ _ h => h) henv rfl rfl rfl rfl rfl ?_
          clear henv a; intro a henv
          refine sAny_skipg (i := 13) [14, 16, 17, 18, 19] rfl (by kernel_rfl) (fun _ _ _ h => h) henv rfl rfl rfl rfl rfl ?_
          clear henv a; intro a henv
          refine sAny_skipg (i := 14) [16, 17, 18, 19] rfl (by kernel_rfl) (fun _ _ _ h => h) henv rfl rfl rfl rfl rfl ?_
          clear henv a; intro a henv
          refine sAny_skipg (i := 15) [16, 17, 18, 19] rfl (by kernel_rfl) (fun _ _ _ h => h) henv rfl rfl rfl rfl rfl ?_
          clear henv a; intro a henv
          refine sAny_skipg (i := 16) [17, 18, 19] rfl (by kernel_rfl) (fun _ _ _ h => h) henv rfl rfl rfl rfl rfl ?_
          clear henv a; intro a henv
          refine sAny_skipg (i := 17) [18, 19] rfl (by kernel_rfl) (fun _ _ _ h => h) henv rfl rfl rfl rfl rfl ?_
          clear henv a; intro a henv
          refine sAny_skipg (i := 18) [19] rfl (by kernel_rfl) (fun _ _ _ h => h) henv rfl rfl rfl rfl rfl ?_
          clear henv a; intro a henv
          refine tA (i := 19) [] (v := .bool true) rfl (by kernel_rfl) (fun _ _ _ h => h) henv rfl (fun _ => rn_pick henv rfl rfl) ?_
          clear henv a; intro a henv
          refine sAny_done (by kernel_rfl) ?_ _
          exact th_n ⟨henv.sub ⟨rfl, rfl, rfl, rfl, rfl, rfl, rfl, rfl, trivial⟩, hst.pick [0, 1, 2, 3, 4, 5] [0, 1, 2, 3, 4, 5] (by decide)⟩
        clear henv hst a
        rintro a w80 ⟨henv, hst⟩
        refine if_tIn henv rfl (rfl) ?_
        refine wpIn_seq ?_
        refine region_in ?_
        refine in_step rfl (fun _ h => by cases h) (op_store1 (k := 4) (c' := #[.bool false]) henv hst (ty_bool.size) rfl rfl rfl (by simp) rfl rfl ?_)
        clear henv hst a; intro a w81 henv hst
        refine in_nil ?_
        refine th_n ?_
        refine wpIn_ret ?_
        refine th_r (bl_r ?_)
        exact ⟨hst.ka (k := 1) rfl, hst.kax (k := 1) rfl ⟨hst.pat (k := 3) rfl, hst.pat (k := 5) rfl, hst.pat (k := 4) rfl⟩, .inr ⟨rfl, pre, (xj, x1, x2, x3, x4, x5), rfl, hlt, hmis⟩⟩
      · refine wpIn_block ?_
        refine wpIn_seq ?_
        refine wpIn_seq ?_
        refine cutFIn (fun a w => Env 81 a [(2, .pointer (some ⟨g51, 0, none⟩)), (3, .pointer (some ⟨g53, 0, none⟩)), (4, .pointer (some ⟨g55, 0, none⟩)), (6, .pointer (some ⟨g60, 0, none⟩)), (8, .pointer (some ⟨g8, 0, none⟩)), (9, .pointer (some ⟨g69, 0, none⟩)), (11, .pointer (some ⟨g4, 0, none⟩)), (57, .bool true)] ∧ St w0 w [bk g69 #[.int .i64 (pre.length : Nat)] 3, bk g8 #[.int .i64 0] 3, bk g51 #[.int .i64 i, .int .i64 g, .slice A0 n0 c0, .slice A1 n1 c1] 25, bk g53 #[.int .i64 k] 3, bk g55 #[.bool false] 4, bk g60 #[.int .i64 (n0 : Nat)] 3] [koF W, kaF w71.heap.size W, bk g4 #[.int .i64 x1, .int .i64 x2, .int .i64 x3, .int .i64 x4, .int .i64 x5] 37, bk gB #[.int .i64 i, .int .i64 g, .slice A0 n0 c0, .slice A1 n1 c1] 25, pfRow fI FI 1 A1 n1 c1 es1, pfRow fJ FJ 5 A0 n0 c0 es0]) ?_ ?_
        · refine region_anyIn (n := 20) (Sk [bk g69 #[.int .i64 (pre.length : Nat)] 3, bk g8 #[.int .i64 0] 3, bk g51 #[.int .i64 i, .int .i64 g, .slice A0 n0 c0, .slice A1 n1 c1] 25, bk g53 #[.int .i64 k] 3, bk g55 #[.bool false] 4, bk g60 #[.int .i64 (n0 : Nat)] 3] [koF W, kaF w71.heap.size W, bk g4 #[.int .i64 x1, .int .i64 x2, .int .i64 x3, .int .i64 x4, .int .i64 x5] 37, bk gB #[.int .i64 i, .int .i64 g, .slice A0 n0 c0, .slice A1 n1 c1] 25, pfRow fI FI 1 A1 n1 c1 es1, pfRow fJ FJ 5 A0 n0 c0 es0] [] []) mixed rfl henv hst (by kernel_rfl) (fun _ _ h => h) ?_
          clear henv hst; intro w82 henv hst
          refine sAny_take (i := 0) [2, 3, 4, 5, 6, 7, 8, 9, 10, 11, 12, 13, 14, 15, 16, 17, 18, 19] (fun w' => w'.heap[g69]? = some (.cells #[.int .i64 (pre.length : Nat)] 3 (0, 0))) (v := .int .i64 (pre.length : Nat)) rfl (by kernel_rfl) (fun _ _ _ h => h) (fun _ _ _ hS => hS.1.oat (k := 0) rfl) henv rfl (hst.oat (k := 0) rfl) (fun w' hg => rn_load1 henv ty_int rfl hg rfl) ?_
          clear henv a; intro a henv
          refine sAny_take (i := 1) [2, 3, 4, 5, 6, 7, 8, 9, 10, 11, 12, 13, 14, 15, 16, 17, 18, 19] (fun w' => w'.heap[g60]? = some (.cells #[.int .i64 (n0 : Nat)] 3 (0, 0))) (v := .int .i64 (n0 : Nat)) rfl (by kernel_rfl) (fun _ _ _ h => h) (fun _ _ _ hS => hS.1.oat (k := 5) rfl) henv rfl (hst.oat (k := 5) rfl) (fun w' hg => rn_load1 henv ty_int rfl hg rfl) ?_
          clear henv a; intro a henv
          refine tA (i := 2) (rg 3 17) (v := .bool (decide (((pre.length : Nat) : Int) ≥ ((n0 : Nat) : Int)))) rfl (by kernel_rfl) (fun _ _ _ h => h) henv rfl (fun _ => rn_bin henv rfl rfl rfl) ?_
          clear henv a; intro a henv
          rw [show (decide (((pre.length : Nat) : Int) ≥ ((n0 : Nat) : Int))) = false from (decide_eq_false (by omega))] at henv
          refine tM (i := 3) (rg 4 16) rfl (by kernel_rfl) (fun _ _ _ h => h) henv rfl rfl ?_
          clear henv a; intro a henv
          refine tAg (i := 4) (rg 9 11) (v := .int .i64 (xj : Nat)) rfl (by kernel_rfl) (fun _ _ _ h => h) henv rfl rfl rfl rfl (fun _ => rn_move henv rfl) ?_
          clear henv a; intro a henv
          refine sAny_takeg (i := 5) [6, 8, 9, 10, 11, 12, 13, 14, 15, 16, 17, 18, 19] (fun w' => w'.heap[g60]? = some (.cells #[.int .i64 (n0 : Nat)] 3 (0, 0))) (v := .int .i64 (n0 : Nat)) rfl (by kernel_rfl) (fun _ _ _ h => h) (fun _ _ _ hS => hS.1.oat (k := 5) rfl) henv rfl rfl rfl rfl (hst.oat (k := 5) rfl) (fun w' hg => rn_load1 henv ty_int rfl hg rfl) ?_
          clear henv a; intro a henv
          refine tAg (i := 6) (rg 8 12) (v := .int .i64 (((n0 : Nat) : Int) - (1 : Int))) rfl (by kernel_rfl) (fun _ _ _ h => h) henv rfl rfl rfl rfl (fun _ => rn_sub henv rfl rfl (IntWalk.i64_in _ (by omega))) ?_
          clear henv a; intro a henv
          refine sAny_takeg (i := 7) [8, 9, 10, 11, 12, 13, 14, 15, 16, 17, 18, 19] (fun w' => w'.heap[g69]? = some (.cells #[.int .i64 (pre.length : Nat)] 3 (0, 0))) (v := .int .i64 (pre.length : Nat)) rfl (by kernel_rfl) (fun _ _ _ h => h) (fun _ _ _ hS => hS.1.oat (k := 0) rfl) henv rfl rfl rfl rfl (hst.oat (k := 0) rfl) (fun w' hg => rn_load1 henv ty_int rfl hg rfl) ?_
          clear henv a; intro a henv
          refine tAg (i := 8) (rg 9 11) (v := .int .i64 ((((n0 : Nat) : Int) - (1 : Int)) - ((pre.length : Nat) : Int))) rfl (by kernel_rfl) (fun _ _ _ h => h) henv rfl rfl rfl rfl (fun _ => rn_sub henv rfl rfl (IntWalk.i64_in _ (by omega))) ?_
          clear henv a; intro a henv
          refine tAg (i := 9) (rg 10 10) (v := .bool (((xj : Nat) : Int) != (((n0 : Nat) : Int) - (1 : Int)) - ((pre.length : Nat) : Int))) rfl (by kernel_rfl) (fun _ _ _ h => h) henv rfl rfl rfl rfl (fun _ => rn_bin henv rfl rfl rfl) ?_
          clear henv a; intro a henv
          rw [show (((xj : Nat) : Int) != (((n0 : Nat) : Int) - (1 : Int)) - ((pre.length : Nat) : Int)) = false from (bneF (by omega))] at henv
          refine tA (i := 10) (rg 11 9) (v := .bool false) rfl (by kernel_rfl) (fun _ _ _ h => h) henv rfl (fun _ => rn_pick henv rfl rfl) ?_
          clear henv a; intro a henv
          refine tM (i := 11) (rg 12 8) rfl (by kernel_rfl) (fun _ _ _ h => h) henv rfl rfl ?_
          clear henv a; intro a henv
          refine sAny_takeg (i := 12) [18, 19] (fun w' => (bk g4 #[.int .i64 x1, .int .i64 x2, .int .i64 x3, .int .i64 x4, .int .i64 x5] 37).P w') (v := .agg #[.int .i64 x1, .int .i64 x2, .int .i64 x3, .int .i64 x4, .int .i64 x5]) rfl (by kernel_rfl) (fun _ _ _ h => h) (fun _ _ _ hS => hS.1.pat (k := 2) rfl) henv rfl rfl rfl rfl (hst.pat (k := 2) rfl) (fun w' hg => rn_load0 henv ty_anvil_api_Instr rfl hg rfl) ?_
          clear henv a; intro a henv
          refine tAg (i := 13) [14, 16, 17, 18, 19] (v := .pointer (some ⟨g51, 2, none⟩)) rfl (by kernel_rfl) (fun _ _ _ h => h) henv rfl rfl rfl rfl (fun _ => rn_fieldAddr henv fd_anvil_api_Prog_2 (ty__api_Instr.size) (by decide) rfl) ?_
          clear henv a; intro a henv
          refine sAny_takeg (i := 14) [16, 17, 18, 19] (fun w' => w'.heap[g51]? = some (.cells #[.int .i64 i, .int .i64 g, .slice A0 n0 c0, .slice A1 n1 c1] 25 (0, 0))) (v := .slice A0 n0 c0) rfl (by kernel_rfl) (fun _ _ _ h => h) (fun _ _ _ hS => hS.1.oat (k := 2) rfl) henv rfl rfl rfl rfl (hst.oat (k := 2) rfl) (fun w' hg => rn_load1 henv ty__api_Instr rfl hg rfl) ?_
          clear henv a; intro a henv
          refine tAg (i := 15) (rg 16 4) (v := .int .i64 (xj : Nat)) rfl (by kernel_rfl) (fun _ _ _ h => h) henv rfl rfl rfl rfl (fun _ => rn_move henv rfl) ?_
          clear henv a; intro a henv
          refine sAny_takeg (i := 16) [17, 18, 19] (fun w' => (pfRow fJ FJ 5 A0 n0 c0 es0).P w') (v := .pointer (some ⟨ab A0, ao A0 + xj * 5, none⟩)) rfl (by kernel_rfl) (fun _ _ _ h => h) (fun _ _ _ hS => hS.1.pat (k := 5) rfl) henv rfl rfl rfl rfl (hst.pat (k := 5) rfl) (fun w' hg => rn_idxR (i := xj) henv Tryd.underlying22 (ty_anvil_api_Instr.size) rfl rfl (by omega) rfl (show (pfRow fJ FJ 5 A0 n0 c0 es0).P _ from hg).1) ?_
          clear henv a; intro a henv
          refine sAny_takeg (i := 17) [18, 19] (fun w' => (pfRow fJ FJ 5 A0 n0 c0 es0).P w') (v := .agg #[.int .i64 y1, .int .i64 y2, .int .i64 y3, .int .i64 y4, .int .i64 y5]) rfl (by kernel_rfl) (fun _ _ _ h => h) (fun _ _ _ hS => hS.1.pat (k := 5) rfl) henv rfl rfl rfl rfl (hst.pat (k := 5) rfl) (fun w' hg => rn_loadE (i := xj) (e := (y1, y2, y3, y4, y5)) henv ty_anvil_api_Instr rfl rfl fJ_len (show (pfRow fJ FJ 5 A0 n0 c0 es0).P _ from hg).1 (by omega) hex rfl) ?_
          clear henv a; intro a henv
          refine tAg (i := 18) [19] (v := .bool (!decide ([x1, x2, x3, x4, x5] = [y1, y2, y3, y4, y5]))) rfl (by kernel_rfl) (fun _ _ _ h => h) henv rfl rfl rfl rfl (fun _ => rn_neqI [x1, x2, x3, x4, x5] [y1, y2, y3, y4, y5] henv instrI rfl rfl rfl rfl) ?_
          clear henv a; intro a henv
          rw [show (!decide ([x1, x2, x3, x4, x5] = [y1, y2, y3, y4, y5])) = true from (by rw [decide_eq_false (fun q => hne (ins_eq q))]; rfl)] at henv
          refine tA (i := 19) [] (v := .bool true) rfl (by kernel_rfl) (fun _ _ _ h => h) henv rfl (fun _ => rn_pick henv rfl rfl) ?_
          clear henv a; intro a henv
          refine sAny_done (by kernel_rfl) ?_ _
          exact th_n ⟨henv.sub ⟨rfl, rfl, rfl, rfl, rfl, rfl, rfl, rfl, trivial⟩, hst.pick [0, 1, 2, 3, 4, 5] [0, 1, 2, 3, 4, 5] (by decide)⟩
        clear henv hst a
        rintro a w83 ⟨henv, hst⟩
        refine if_tIn henv rfl (rfl) ?_
        refine wpIn_seq ?_
        refine region_in ?_
        refine in_step rfl (fun _ h => by cases h) (op_store1 (k := 4) (c' := #[.bool false]) henv hst (ty_bool.size) rfl rfl rfl (by simp) rfl rfl ?_)
        clear henv hst a; intro a w84 henv hst
        refine in_nil ?_
        refine th_n ?_
        refine wpIn_ret ?_
        refine th_r (bl_r ?_)
        exact ⟨hst.ka (k := 1) rfl, hst.kax (k := 1) rfl ⟨hst.pat (k := 3) rfl, hst.pat (k := 5) rfl, hst.pat (k := 4) rfl⟩, .inr ⟨rfl, pre, (xj, x1, x2, x3, x4, x5), rfl, hlt, hmis⟩⟩
    · intro D85 xs W a hD85 hS hI hK henv
      obtain ⟨hst, hnB⟩ := hI
      subst hS
      rw [rvT_len] at hst
      replace hst := hst.addD ⟨cf_bk, cf_bk, cf_bk, cf_bk, cf_bk, cf_bk, trivial⟩ hK
      have hDD85 := Nat.le_trans hsz hD85
      refine bl_n (th_n ?_)
      refine wp_seq ?_
      refine region_seq ?_
      revert a
      refine sA (v := .int .i64 (n0 : Nat)) rfl (fun _ henv => rn_load1 henv ty_int rfl (hst.oat (k := 0) rfl) rfl) ?_
      refine sA (v := .int .i64 (n0 : Nat)) rfl (fun _ henv => rn_load1 henv ty_int rfl (hst.oat (k := 5) rfl) rfl) ?_
      refine sA (v := .bool (((n0 : Nat) : Int) != ((n0 : Nat) : Int))) rfl (fun _ henv => rn_bin henv rfl rfl rfl) ?_
      intro a henv
      rw [show (((n0 : Nat) : Int) != ((n0 : Nat) : Int)) = false from (bneF rfl)] at henv
      revert a
      refine mA rfl rfl ?_
      refine kA rfl rfl rfl rfl rfl ?_
      refine kA rfl rfl rfl rfl rfl ?_
      refine kA rfl rfl rfl rfl rfl ?_
      refine kA rfl rfl rfl rfl rfl ?_
      refine kA rfl rfl rfl rfl rfl ?_
      refine kA rfl rfl rfl rfl rfl ?_
      refine kA rfl rfl rfl rfl rfl ?_
      refine kA rfl rfl rfl rfl rfl ?_
      refine sA (v := .bool false) rfl (fun _ henv => rn_pick henv rfl rfl) ?_
      intro a henv
      refine wpList_nil ?_
      refine th_n ?_
      refine if_f henv rfl (rfl) ?_
      refine wp_skip ?_
      refine bl_n (th_n ?_)
      refine wp_seq ?_
      refine wp_seq ?_
      refine region_seq ?_
      refine sv (v := .int .i64 0) henv rfl (rn_load1 henv ty_int rfl (hst.oat (k := 1) rfl) rfl) ?_
      clear henv a; intro a henv
      refine wpList_nil ?_
      refine th_n ?_
      refine region_seq ?_
      refine seq_step rfl (op_alloc (c := #[.int .i64 0]) henv hst rfl zero_int rfl ?_)
      clear henv hst a; intro a w87 g86 henv hst
      refine seq_step rfl (op_store1 (k := 0) (c' := #[.int .i64 0]) henv hst (ty_int.size) rfl rfl rfl (by simp) rfl rfl ?_)
      clear henv hst a; intro a w88 henv hst
      refine wpList_nil ?_
      refine th_n ?_
      refine region_seq ?_
      revert a
      refine sA (v := .int .i64 0) rfl (fun _ henv => rn_load1 henv ty_int rfl (hst.oat (k := 0) rfl) rfl) ?_
      refine sA (v := .int .i64 1) rfl (fun _ henv => rn_bin henv rfl rfl rfl) ?_
      intro a henv
      refine seq_step rfl (op_store1 (k := 0) (c' := #[.int .i64 1]) henv hst (ty_int.size) rfl rfl rfl (by simp) rfl rfl ?_)
      clear henv hst a; intro a w89 henv hst
      refine wpList_nil ?_
      exact th_n ⟨_, (by decide), (.inr (.inl ⟨D85, g86, rfl, henv.sub ⟨rfl, rfl, rfl, rfl, rfl, rfl, trivial⟩, hst.pick [0, 3, 4, 5, 6] [0, 1, 2, 3] (by decide), hDD85⟩))⟩
    · intro D90 c pre W a hD90 hS hI hK henv
      rcases hI with ⟨rfl, hkk, hst, hnB⟩ | ⟨rfl, hmis⟩
      rotate_left
      · exact (mis_absurd hlen0 hS hmis).elim
      have hple : pre.length ≤ n0 := by obtain ⟨q, hq, rfl⟩ := hS; rw [rvT_len]; exact hq
      rcases Nat.lt_or_ge pre.length n0 with hpl | hpl
      · replace hst := hst.addD ⟨cf_bk, cf_bk, cf_bk, cf_bk, cf_bk, cf_bk, trivial⟩ hK
        have hDD90 := Nat.le_trans hsz hD90
        refine wp_exit ?_
        refine bl_x (th_n ?_)
        refine wp_seq ?_
        refine region_seq ?_
        revert a
        refine sA (v := .int .i64 (pre.length : Nat)) rfl (fun _ henv => rn_load1 henv ty_int rfl (hst.oat (k := 0) rfl) rfl) ?_
        refine sA (v := .int .i64 (n0 : Nat)) rfl (fun _ henv => rn_load1 henv ty_int rfl (hst.oat (k := 5) rfl) rfl) ?_
        refine sA (v := .bool (((pre.length : Nat) : Int) != ((n0 : Nat) : Int))) rfl (fun _ henv => rn_bin henv rfl rfl rfl) ?_
        intro a henv
        rw [show (((pre.length : Nat) : Int) != ((n0 : Nat) : Int)) = true from (bne_iff_ne.2 (by omega))] at henv
        revert a
        refine mA rfl rfl ?_
        refine gA (v := .int .i64 0) rfl rfl rfl rfl (fun _ henv => rn_load1 henv ty_int rfl (hst.oat (k := 1) rfl) rfl) ?_
        refine gA (v := .bool true) rfl rfl rfl rfl (fun _ henv => rn_bin henv rfl rfl rfl) ?_
        refine gA (v := .bool true) rfl rfl rfl rfl (fun _ henv => rn_move henv rfl) ?_
        refine gA (v := .int .i64 (pre.length : Nat)) rfl rfl rfl rfl (fun _ henv => rn_load1 henv ty_int rfl (hst.oat (k := 0) rfl) rfl) ?_
        refine gA (v := .int .i64 k) rfl rfl rfl rfl (fun _ henv => rn_load1 henv ty_int rfl (hst.oat (k := 3) rfl) rfl) ?_
        refine gA (v := .bool (((pre.length : Nat) : Int) == k)) rfl rfl rfl rfl (fun _ henv => rn_bin henv rfl rfl rfl) ?_
        intro a henv
        rw [show (((pre.length : Nat) : Int) == k) = true from (beq_iff_eq.2 hkk)] at henv
        revert a
        refine gA (v := .bool true) rfl rfl rfl rfl (fun _ henv => rn_pick henv rfl rfl) ?_
        refine gA (v := .bool false) rfl rfl rfl rfl (fun _ henv => rn_un henv rfl rfl) ?_
        refine sA (v := .bool false) rfl (fun _ henv => rn_pick henv rfl rfl) ?_
        intro a henv
        refine wpList_nil ?_
        refine th_n ?_
        refine if_f henv rfl (rfl) ?_
        refine wp_skip ?_
        refine bl_n (th_n ?_)
        refine wp_seq ?_
        refine wp_seq ?_
        refine region_seq ?_
        refine sv (v := .int .i64 0) henv rfl (rn_load1 henv ty_int rfl (hst.oat (k := 1) rfl) rfl) ?_
        clear henv a; intro a henv
        refine wpList_nil ?_
        refine th_n ?_
        refine region_seq ?_
        refine seq_step rfl (op_alloc (c := #[.int .i64 0]) henv hst rfl zero_int rfl ?_)
        clear henv hst a; intro a w92 g91 henv hst
        refine seq_step rfl (op_store1 (k := 0) (c' := #[.int .i64 0]) henv hst (ty_int.size) rfl rfl rfl (by simp) rfl rfl ?_)
        clear henv hst a; intro a w93 henv hst
        refine wpList_nil ?_
        refine th_n ?_
        refine region_seq ?_
        revert a
        refine sA (v := .int .i64 0) rfl (fun _ henv => rn_load1 henv ty_int rfl (hst.oat (k := 0) rfl) rfl) ?_
        refine sA (v := .int .i64 1) rfl (fun _ henv => rn_bin henv rfl rfl rfl) ?_
        intro a henv
        refine seq_step rfl (op_store1 (k := 0) (c' := #[.int .i64 1]) henv hst (ty_int.size) rfl rfl rfl (by simp) rfl rfl ?_)
        clear henv hst a; intro a w94 henv hst
        refine wpList_nil ?_
        exact th_n ⟨_, (by decide), (.inr (.inl ⟨D90, g91, rfl, henv.sub ⟨rfl, rfl, rfl, rfl, rfl, rfl, trivial⟩, hst.pick [0, 3, 4, 5, 6] [0, 1, 2, 3] (by decide), hDD90⟩))⟩
      · replace hst := hst.addD ⟨cf_bk, cf_bk, cf_bk, cf_bk, cf_bk, cf_bk, trivial⟩ hK
        have hDD90 := Nat.le_trans hsz hD90
        refine wp_exit ?_
        refine bl_x (th_n ?_)
        refine wp_seq ?_
        refine region_seq ?_
        revert a
        refine sA (v := .int .i64 (pre.length : Nat)) rfl (fun _ henv => rn_load1 henv ty_int rfl (hst.oat (k := 0) rfl) rfl) ?_
        refine sA (v := .int .i64 (n0 : Nat)) rfl (fun _ henv => rn_load1 henv ty_int rfl (hst.oat (k := 5) rfl) rfl) ?_
        refine sA (v := .bool (((pre.length : Nat) : Int) != ((n0 : Nat) : Int))) rfl (fun _ henv => rn_bin henv rfl rfl rfl) ?_
        intro a henv
        rw [show (((pre.length : Nat) : Int) != ((n0 : Nat) : Int)) = false from (bneF (by omega))] at henv
        revert a
        refine mA rfl rfl ?_
        refine kA rfl rfl rfl rfl rfl ?_
        refine kA rfl rfl rfl rfl rfl ?_
        refine kA rfl rfl rfl rfl rfl ?_
        refine kA rfl rfl rfl rfl rfl ?_
        refine kA rfl rfl rfl rfl rfl ?_
        refine kA rfl rfl rfl rfl rfl ?_
        refine kA rfl rfl rfl rfl rfl ?_
        refine kA rfl rfl rfl rfl rfl ?_
        refine sA (v := .bool false) rfl (fun _ henv => rn_pick henv rfl rfl) ?_
        intro a henv
        refine wpList_nil ?_
        refine th_n ?_
        refine if_f henv rfl (rfl) ?_
        refine wp_skip ?_
        refine bl_n (th_n ?_)
        refine wp_seq ?_
        refine wp_seq ?_
        refine region_seq ?_
        refine sv (v := .int .i64 0) henv rfl (rn_load1 henv ty_int rfl (hst.oat (k := 1) rfl) rfl) ?_
        clear henv a; intro a henv
        refine wpList_nil ?_
        refine th_n ?_
        refine region_seq ?_
        refine seq_step rfl (op_alloc (c := #[.int .i64 0]) henv hst rfl zero_int rfl ?_)
        clear henv hst a; intro a w96 g95 henv hst
        refine seq_step rfl (op_store1 (k := 0) (c' := #[.int .i64 0]) henv hst (ty_int.size) rfl rfl rfl (by simp) rfl rfl ?_)
        clear henv hst a; intro a w97 henv hst
        refine wpList_nil ?_
        refine th_n ?_
        refine region_seq ?_
        revert a
        refine sA (v := .int .i64 0) rfl (fun _ henv => rn_load1 henv ty_int rfl (hst.oat (k := 0) rfl) rfl) ?_
        refine sA (v := .int .i64 1) rfl (fun _ henv => rn_bin henv rfl rfl rfl) ?_
        intro a henv
        refine seq_step rfl (op_store1 (k := 0) (c' := #[.int .i64 1]) henv hst (ty_int.size) rfl rfl rfl (by simp) rfl rfl ?_)
        clear henv hst a; intro a w98 henv hst
        refine wpList_nil ?_
        exact th_n ⟨_, (by decide), (.inr (.inl ⟨D90, g95, rfl, henv.sub ⟨rfl, rfl, rfl, rfl, rfl, rfl, trivial⟩, hst.pick [0, 3, 4, 5, 6] [0, 1, 2, 3] (by decide), hDD90⟩))⟩
  · refine wp_seq ?_
    refine wp_seq ?_
    refine region_seq ?_
    revert a
    refine sA (v := .int .i64 1) rfl (fun _ henv => rn_load1 henv ty_int rfl (hst.oat (k := 0) rfl) rfl) ?_
    refine sA (v := .bool true) rfl (fun _ henv => rn_bin henv rfl rfl rfl) ?_
    intro a henv
    refine wpList_nil ?_
    refine th_n ?_
    refine if_t henv rfl (rfl) ?_
    refine wp_skip ?_
    refine th_n ?_
    refine wp_seq ?_
    refine wp_block ?_
    refine wp_seq ?_
    refine region_seq ?_
    refine seq_step rfl (op_alloc (c := #[.int .i64 0]) henv hst rfl zero_int rfl ?_)
    clear henv hst a; intro a w100 g99 henv hst
    refine seq_step rfl (op_store1 (k := 0) (c' := #[.int .i64 0]) henv hst (ty_int.size) rfl rfl rfl (by simp) rfl rfl ?_)
    clear henv hst a; intro a w101 henv hst
    refine wpList_nil ?_
    refine th_n ?_
    refine wp_seq ?_
    refine wp_seq ?_
    refine region_seq ?_
    refine sv (v := .func (.func 36) #[] #[.pointer (some ⟨gB, 0, none⟩)]) henv rfl (rn_move henv rfl) ?_
    clear henv a; intro a henv
    refine wpList_nil ?_
    refine th_n ?_
    refine wp_block ?_
    have hsz := hst.below.size
    have hlow0 := low_of hst
    have hDk : _ = _ := hst.pat (k := 0) rfl
    have hD1lt := lt_of_block hDk
    refine wp_rangeO (α := YE) (enc := encI) (enc' := encJ) henv rfl Tryd.call36 rfl rfl (back_ok ⟨hst.pat (k := 1) rfl, hst.pat (k := 3) rfl, hst.pat (k := 2) rfl⟩ hR) kx_trans (fun Y o o' h hc => kx_put h hc) (fun pre W => St w0 W [bk g99 #[.int .i64 (pre.length : Nat)] 3, bk g8 #[.int .i64 1] 3, bk g51 #[.int .i64 i, .int .i64 g, .slice A0 n0 c0, .slice A1 n1 c1] 25, bk g53 #[.int .i64 k] 3, bk g55 #[.bool false] 4, bk g60 #[.int .i64 (n0 : Nat)] 3] [bk gB #[.int .i64 i, .int .i64 g, .slice A0 n0 c0, .slice A1 n1 c1] 25, pfRow fI FI 1 A1 n1 c1 es1, pfRow fJ FJ 5 A0 n0 c0 es0] ∧ w101.heap.size ≤ W.heap.size ∧ W.heap[D1]? = some (.deferred (some []))) (fun c pre W => (c = .ret ∧ Mis es0 n0 pre)) (fun _ _ _ _ ⟨hst, hnB, hDk⟩ hg hr => ⟨hst.grown hsz ⟨cf_bk, cf_bk, cf_bk, cf_bk, cf_bk, cf_bk, trivial⟩ ⟨cf_bk, cf_rowT (fun _ _ h => h) (by decide), cf_rowT (fun _ _ h => h) (by decide), trivial⟩ hg hr, Nat.le_trans hnB hg.size, (hg.block D1 (lt_of_block hDk) (fun e => by have := (hr _ e.symm).1; omega)).trans hDk⟩) (fun _ _ _ _ _ h _ _ => h) ⟨hst.pick [0, 1, 2, 3, 4, 5] [1, 2, 3] (by decide), Nat.le_refl _, hDk⟩ (fun x a' W => ∃ g4, w101.heap.size ≤ g4 ∧ EnvD [] 81 a' [(2, .pointer (some ⟨g51, 0, none⟩)), (3, .pointer (some ⟨g53, 0, none⟩)), (4, .pointer (some ⟨g55, 0, none⟩)), (6, .pointer (some ⟨g60, 0, none⟩)), (8, .pointer (some ⟨g8, 0, none⟩)), (9, .pointer (some ⟨g99, 0, none⟩)), (10, .int .i64 (x.1 : Nat)), (11, .pointer (some ⟨g4, 0, none⟩))] ∧ (bk g4 #[.int .i64 x.2.1, .int .i64 x.2.2.1, .int .i64 x.2.2.2.1, .int .i64 x.2.2.2.2.1, .int .i64 x.2.2.2.2.2] 37).P W) (fun x a' s Y Z row hs hg hr => hs.elim fun g4 h => ⟨g4, h.1, h.2.1, own_keep cf_bk h.2.2 hg hr⟩) ?_ ?_ ?_ ?_
    · intro ix pre x W K hi hK a henv
      have hst := St.start W
      refine wpIn_seq ?_
      refine region_in ?_
      refine in_step rfl (fun _ h => by cases h) (op_val (v := .int .i64 (x.1 : Nat)) henv rfl (rn_assign henv rfl) ?_)
      clear henv a; intro a henv
      refine in_nil ?_
      refine th_n ?_
      refine region_in ?_
      refine in_step rfl (fun _ h => by cases h) (op_alloc (c := #[.int .i64 0, .int .i64 0, .int .i64 0, .int .i64 0, .int .i64 0]) henv hst rfl zero_anvil_api_Instr rfl ?_)
      clear henv hst a; intro a w103 g102 henv hst
      refine in_step rfl (fun _ h => by cases h) (op_store (k := 0) (c' := #[.int .i64 x.2.1, .int .i64 x.2.2.1, .int .i64 x.2.2.2.1, .int .i64 x.2.2.2.2.1, .int .i64 x.2.2.2.2.2]) henv hst (ty_anvil_api_Instr.size) rfl rfl rfl rfl (by simp) rfl rfl ?_)
      clear henv hst a; intro a w104 henv hst
      refine in_nil ?_
      have hg0 := grown_of hst.below
      have hr0 : ∀ r, (none : Option Nat) = some r → w101.heap.size ≤ r ∧ ∃ o : Obj, W.heap[r]? = some o ∧ o.isCells = false := fun r e => by cases e
      obtain ⟨hsi, hnB, hDk⟩ := hi
      exact th_n (hK _ _ (kf_of hst.below) (kx_of hst.below) ⟨hsi.grown hsz ⟨cf_bk, cf_bk, cf_bk, cf_bk, cf_bk, cf_bk, trivial⟩ ⟨cf_bk, cf_rowT (fun _ _ h => h) (by decide), cf_rowT (fun _ _ h => h) (by decide), trivial⟩ hg0 hr0, (Nat.le_trans hnB hg0.size), ((hg0.block D1 (lt_of_block hDk) (fun e => by have := (hr0 _ e.symm).1; omega)).trans hDk)⟩ ⟨g102, Nat.le_trans hnB (hst.oge (k := 0) rfl), henv.sub ⟨rfl, rfl, rfl, rfl, rfl, rfl, rfl, rfl, trivial⟩, hst.oat (k := 0) rfl⟩)
    · rintro ix pre ⟨xj, x1, x2, x3, x4, x5⟩ a W hI ⟨g4, hg4, henv, hgb⟩ hlt
      obtain ⟨hst, hnB, hDk⟩ := hI
      have hlow : LowFs w101.heap.size [bk g99 #[.int .i64 (pre.length : Nat)] 3, bk g8 #[.int .i64 1] 3, bk g51 #[.int .i64 i, .int .i64 g, .slice A0 n0 c0, .slice A1 n1 c1] 25, bk g53 #[.int .i64 k] 3, bk g55 #[.bool false] 4, bk g60 #[.int .i64 (n0 : Nat)] 3] := hlow0
      replace hst := (((hst.addHi hlow hg4 hgb).addKA hlow).addKO ⟨cf_bk, cf_bk, cf_bk, cf_bk, cf_bk, cf_bk, trivial⟩)
      replace hst : St w0 W [bk g99 #[.int .i64 (pre.length : Nat)] 3, bk g8 #[.int .i64 1] 3, bk g51 #[.int .i64 i, .int .i64 g, .slice A0 n0 c0, .slice A1 n1 c1] 25, bk g53 #[.int .i64 k] 3, bk g55 #[.bool false] 4, bk g60 #[.int .i64 (n0 : Nat)] 3] [koF W, kaF w101.heap.size W, bk g4 #[.int .i64 x1, .int .i64 x2, .int .i64 x3, .int .i64 x4, .int .i64 x5] 37, bk gB #[.int .i64 i, .int .i64 g, .slice A0 n0 c0, .slice A1 n1 c1] 25, pfRow fI FI 1 A1 n1 c1 es1, pfRow fJ FJ 5 A0 n0 c0 es0] := hst
      rcases body_cases hlen0 xj (x1, x2, x3, x4, x5) pre.length with ⟨hxi, hex⟩ | ⟨hxi, hmis⟩ | ⟨hxi, ⟨y1, y2, y3, y4, y5⟩, hex, hne, hmis⟩
      · refine wpIn_block ?_
        refine wpIn_seq ?_
        refine wpIn_seq ?_
        refine cutFIn (fun a w => Env 81 a [(2, .pointer (some ⟨g51, 0, none⟩)), (3, .pointer (some ⟨g53, 0, none⟩)), (4, .pointer (some ⟨g55, 0, none⟩)), (6, .pointer (some ⟨g60, 0, none⟩)), (8, .pointer (some ⟨g8, 0, none⟩)), (9, .pointer (some ⟨g99, 0, none⟩)), (11, .pointer (some ⟨g4, 0, none⟩)), (57, .bool false)] ∧ St w0 w [bk g99 #[.int .i64 (pre.length : Nat)] 3, bk g8 #[.int .i64 1] 3, bk g51 #[.int .i64 i, .int .i64 g, .slice A0 n0 c0, .slice A1 n1 c1] 25, bk g53 #[.int .i64 k] 3, bk g55 #[.bool false] 4, bk g60 #[.int .i64 (n0 : Nat)] 3] [koF W, kaF w101.heap.size W, bk g4 #[.int .i64 x1, .int .i64 x2, .int .i64 x3, .int .i64 x4, .int .i64 x5] 37, bk gB #[.int .i64 i, .int .i64 g, .slice A0 n0 c0, .slice A1 n1 c1] 25, pfRow fI FI 1 A1 n1 c1 es1, pfRow fJ FJ 5 A0 n0 c0 es0]) ?_ ?_
        · refine region_anyIn (n := 20) (Sk [bk g99 #[.int .i64 (pre.length : Nat)] 3, bk g8 #[.int .i64 1] 3, bk g51 #[.int .i64 i, .int .i64 g, .slice A0 n0 c0, .slice A1 n1 c1] 25, bk g53 #[.int .i64 k] 3, bk g55 #[.bool false] 4, bk g60 #[.int .i64 (n0 : Nat)] 3] [koF W, kaF w101.heap.size W, bk g4 #[.int .i64 x1, .int .i64 x2, .int .i64 x3, .int .i64 x4, .int .i64 x5] 37, bk gB #[.int .i64 i, .int .i64 g, .slice A0 n0 c0, .slice A1 n1 c1] 25, pfRow fI FI 1 A1 n1 c1 es1, pfRow fJ FJ 5 A0 n0 c0 es0] [] []) mixed rfl henv hst (by kernel_rfl) (fun _ _ h => h) ?_
          clear henv hst; intro w105 henv hst
          refine sAny_take (i := 0) [2, 3, 4, 5, 6, 7, 8, 9, 10, 11, 12, 13, 14, 15, 16, 17, 18, 19] (fun w' => w'.heap[g99]? = some (.cells #[.int .i64 (pre.length : Nat)] 3 (0, 0))) (v := .int .i64 (pre.length : Nat)) rfl (by kernel_rfl) (fun _ _ _ h => h) (fun _ _ _ hS => hS.1.oat (k := 0) rfl) henv rfl (hst.oat (k := 0) rfl) (fun w' hg => rn_load1 henv ty_int rfl hg rfl) ?_
          clear henv a; intro a henv
          refine sAny_take (i := 1) [2, 3, 4, 5, 6, 7, 8, 9, 10, 11, 12, 13, 14, 15, 16, 17, 18, 19] (fun w' => w'.heap[g60]? = some (.cells #[.int .i64 (n0 : Nat)] 3 (0, 0))) (v := .int .i64 (n0 : Nat)) rfl (by kernel_rfl) (fun _ _ _ h => h) (fun _ _ _ hS => hS.1.oat (k := 5) rfl) henv rfl (hst.oat (k := 5) rfl) (fun w' hg => rn_load1 henv ty_int rfl hg rfl) ?_
          clear henv a; intro a henv
          refine tA (i := 2) (rg 3 17) (v := .bool (decide (((pre.length : Nat) : Int) ≥ ((n0 : Nat) : Int)))) rfl (by kernel_rfl) (fun _ _ _ h => h) henv rfl (fun _ => rn_bin henv rfl rfl rfl) ?_
          clear henv a; intro a henv
          rw [show (decide (((pre.length : Nat) : Int) ≥ ((n0 : Nat) : Int))) = false from (decide_eq_false (by omega))] at henv
          refine tM (i := 3) (rg 4 16) rfl (by kernel_rfl) (fun _ _ _ h => h) henv rfl rfl ?_
          clear henv a; intro a henv
          refine tAg (i := 4) (rg 9 11) (v := .int .i64 (xj : Nat)) rfl (by kernel_rfl) (fun _ _ _ h => h) henv rfl rfl rfl rfl (fun _ => rn_move henv rfl) ?_
          clear henv a; intro a henv
          refine sAny_takeg (i := 5) [6, 8, 9, 10, 11, 12, 13, 14, 15, 16, 17, 18, 19] (fun w' => w'.heap[g60]? = some (.cells #[.int .i64 (n0 : Nat)] 3 (0, 0))) (v := .int .i64 (n0 : Nat)) rfl (by kernel_rfl) (fun _ _ _ h => h) (fun _ _ _ hS => hS.1.oat (k := 5) rfl) henv rfl rfl rfl rfl (hst.oat (k := 5) rfl) (fun w' hg => rn_load1 henv ty_int rfl hg rfl) ?_
          clear henv a; intro a henv
          refine tAg (i := 6) (rg 8 12) (v := .int .i64 (((n0 : Nat) : Int) - (1 : Int))) rfl (by kernel_rfl) (fun _ _ _ h => h) henv rfl rfl rfl rfl (fun _ => rn_sub henv rfl rfl (IntWalk.i64_in _ (by omega))) ?_
          clear henv a; intro a henv
          refine sAny_takeg (i := 7) [8, 9, 10, 11, 12, 13, 14, 15, 16, 17, 18, 19] (fun w' => w'.heap[g99]? = some (.cells #[.int .i64 (pre.length : Nat)] 3 (0, 0))) (v := .int .i64 (pre.length : Nat)) rfl (by kernel_rfl) (fun _ _ _ h => h) (fun _ _ _ hS => hS.1.oat (k := 0) rfl) henv rfl rfl rfl rfl (hst.oat (k := 0) rfl) (fun w' hg => rn_load1 henv ty_int rfl hg rfl) ?_
          clear henv a; intro a henv
          refine tAg (i := 8) (rg 9 11) (v := .int .i64 ((((n0 : Nat) : Int) - (1 : Int)) - ((pre.length : Nat) : Int))) rfl (by kernel_rfl) (fun _ _ _ h => h) henv rfl rfl rfl rfl (fun _ => rn_sub henv rfl rfl (IntWalk.i64_in _ (by omega))) ?_
          clear henv a; intro a henv
          refine tAg (i := 9) (rg 10 10) (v := .bool (((xj : Nat) : Int) != (((n0 : Nat) : Int) - (1 : Int)) - ((pre.length : Nat) : Int))) rfl (by kernel_rfl) (fun _ _ _ h => h) henv rfl rfl rfl rfl (fun _ => rn_bin henv rfl rfl rfl) ?_
          clear henv a; intro a henv
          rw [show (((xj : Nat) : Int) != (((n0 : Nat) : Int) - (1 : Int)) - ((pre.length : Nat) : Int)) = false from (bneF (by omega))] at henv
          refine tA (i := 10) (rg 11 9) (v := .bool false) rfl (by kernel_rfl) (fun _ _ _ h => h) henv rfl (fun _ => rn_pick henv rfl rfl) ?_
          clear henv a; intro a henv
          refine tM (i := 11) (rg 12 8) rfl (by kernel_rfl) (fun _ _ _ h => h) henv rfl rfl ?_
          clear henv a; intro a henv
          refine sAny_takeg (i := 12) [18, 19] (fun w' => (bk g4 #[.int .i64 x1, .int .i64 x2, .int .i64 x3, .int .i64 x4, .int .i64 x5] 37).P w') (v := .agg #[.int .i64 x1, .int .i64 x2, .int .i64 x3, .int .i64 x4, .int .i64 x5]) rfl (by kernel_rfl) (fun _ _ _ h => h) (fun _ _ _ hS => hS.1.pat (k := 2) rfl) henv rfl rfl rfl rfl (hst.pat (k := 2) rfl) (fun w' hg => rn_load0 henv ty_anvil_api_Instr rfl hg rfl) ?_
          clear henv a; intro a henv
          refine tAg (i := 13) [14, 16, 17, 18, 19] (v := .pointer (some ⟨g51, 2, none⟩)) rfl (by kernel_rfl) (fun _ _ _ h => h) henv rfl rfl rfl rfl (fun _ => rn_fieldAddr henv fd_anvil_api_Prog_2 (ty__api_Instr.size) (by decide) rfl) ?_
          clear henv a; intro a henv
          refine sAny_takeg (i := 14) [16, 17, 18, 19] (fun w' => w'.heap[g51]? = some (.cells #[.int .i64 i, .int .i64 g, .slice A0 n0 c0, .slice A1 n1 c1] 25 (0, 0))) (v := .slice A0 n0 c0) rfl (by kernel_rfl) (fun _ _ _ h => h) (fun _ _ _ hS => hS.1.oat (k := 2) rfl) henv rfl rfl rfl rfl (hst.oat (k := 2) rfl) (fun w' hg => rn_load1 henv ty__api_Instr rfl hg rfl) ?_
          clear henv a; intro a henv
          refine tAg (i := 15) (rg 16 4) (v := .int .i64 (xj : Nat)) rfl (by kernel_rfl) (fun _ _ _ h => h) henv rfl rfl rfl rfl (fun _ => rn_move henv rfl) ?_
          clear henv a; intro a henv
          refine sAny_takeg (i := 16) [17, 18, 19] (fun w' => (pfRow fJ FJ 5 A0 n0 c0 es0).P w') (v := .pointer (some ⟨ab A0, ao A0 + xj * 5, none⟩)) rfl (by kernel_rfl) (fun _ _ _ h => h) (fun _ _ _ hS => hS.1.pat (k := 5) rfl) henv rfl rfl rfl rfl (hst.pat (k := 5) rfl) (fun w' hg => rn_idxR (i := xj) henv Tryd.underlying22 (ty_anvil_api_Instr.size) rfl rfl (by omega) rfl (show (pfRow fJ FJ 5 A0 n0 c0 es0).P _ from hg).1) ?_
          clear henv a; intro a henv
          refine sAny_takeg (i := 17) [18, 19] (fun w' => (pfRow fJ FJ 5 A0 n0 c0 es0).P w') (v := .agg #[.int .i64 x1, .int .i64 x2, .int .i64 x3, .int .i64 x4, .int .i64 x5]) rfl (by kernel_rfl) (fun _ _ _ h => h) (fun _ _ _ hS => hS.1.pat (k := 5) rfl) henv rfl rfl rfl rfl (hst.pat (k := 5) rfl) (fun w' hg => rn_loadE (i := xj) (e := (x1, x2, x3, x4, x5)) henv ty_anvil_api_Instr rfl rfl fJ_len (show (pfRow fJ FJ 5 A0 n0 c0 es0).P _ from hg).1 (by omega) hex rfl) ?_
          clear henv a; intro a henv
          refine tAg (i := 18) [19] (v := .bool (!decide ([x1, x2, x3, x4, x5] = [x1, x2, x3, x4, x5]))) rfl (by kernel_rfl) (fun _ _ _ h => h) henv rfl rfl rfl rfl (fun _ => rn_neqI [x1, x2, x3, x4, x5] [x1, x2, x3, x4, x5] henv instrI rfl rfl rfl rfl) ?_
          clear henv a; intro a henv
          rw [show (!decide ([x1, x2, x3, x4, x5] = [x1, x2, x3, x4, x5])) = false from (by rw [decide_eq_true rfl]; rfl)] at henv
          refine tA (i := 19) [] (v := .bool false) rfl (by kernel_rfl) (fun _ _ _ h => h) henv rfl (fun _ => rn_pick henv rfl rfl) ?_
          clear henv a; intro a henv
          refine sAny_done (by kernel_rfl) ?_ _
          exact th_n ⟨henv.sub ⟨rfl, rfl, rfl, rfl, rfl, rfl, rfl, rfl, trivial⟩, hst.pick [0, 1, 2, 3, 4, 5] [0, 1, 2, 3, 4, 5] (by decide)⟩
        clear henv hst a
        rintro a w106 ⟨henv, hst⟩
        refine if_fIn henv rfl (rfl) ?_
        refine wpIn_skip ?_
        refine th_n ?_
        refine wpIn_seq ?_
        refine region_in ?_
        refine in_step rfl (fun _ h => by cases h) (op_val (v := .int .i64 (pre.length : Nat)) henv rfl (rn_load1 henv ty_int rfl (hst.oat (k := 0) rfl) rfl) ?_)
        clear henv a; intro a henv
        refine in_step rfl (fun _ h => by cases h) (op_val (v := .int .i64 (pre.length + 1 : Nat)) henv rfl (rn_add henv rfl rfl (by rw [IntWalk.i64_in _ (by omega)]; omega)) ?_)
        clear henv a; intro a henv
        refine in_step rfl (fun _ h => by cases h) (op_store1 (k := 0) (c' := #[.int .i64 (pre.length + 1 : Nat)]) henv hst (ty_int.size) rfl rfl rfl (by simp) rfl rfl ?_)
        clear henv hst a; intro a w107 henv hst
        refine in_nil ?_
        refine th_n ?_
        refine wpIn_seq ?_
        refine region_in ?_
        refine in_step rfl (fun _ h => by cases h) (op_val (v := .int .i64 1) henv rfl (rn_load1 henv ty_int rfl (hst.oat (k := 1) rfl) rfl) ?_)
        clear henv a; intro a henv
        refine in_step rfl (fun _ h => by cases h) (op_val (v := .bool false) henv rfl (rn_bin henv rfl rfl rfl) ?_)
        clear henv a; intro a henv
        refine in_step rfl (fun _ h => by cases h) (op_val (v := .bool false) henv rfl (rn_move henv rfl) ?_)
        clear henv a; intro a henv
        refine in_skip rfl henv rfl rfl rfl rfl ?_
        clear henv a; intro a henv
        refine in_skip rfl henv rfl rfl rfl rfl ?_
        clear henv a; intro a henv
        refine in_skip rfl henv rfl rfl rfl rfl ?_
        clear henv a; intro a henv
        refine in_step rfl (fun _ h => by cases h) (op_val (v := .bool false) henv rfl (rn_pick henv rfl rfl) ?_)
        clear henv a; intro a henv
        refine in_nil ?_
        refine th_n ?_
        refine if_fIn henv rfl (rfl) ?_
        refine wpIn_skip ?_
        refine bl_n ?_
        have hlen1 : (pre ++ [(xj, x1, x2, x3, x4, x5)]).length = pre.length + 1 := by simp
        have hfin : St w0 w107 [bk g99 #[.int .i64 ((pre.length + 1) : Nat)] 3, bk g8 #[.int .i64 1] 3, bk g51 #[.int .i64 i, .int .i64 g, .slice A0 n0 c0, .slice A1 n1 c1] 25, bk g53 #[.int .i64 k] 3, bk g55 #[.bool false] 4, bk g60 #[.int .i64 (n0 : Nat)] 3] [bk gB #[.int .i64 i, .int .i64 g, .slice A0 n0 c0, .slice A1 n1 c1] 25, pfRow fI FI 1 A1 n1 c1 es1, pfRow fJ FJ 5 A0 n0 c0 es0] ∧ w101.heap.size ≤ w107.heap.size ∧ w107.heap[D1]? = some (.deferred (some [])) := ⟨hst.pick [0, 1, 2, 3, 4, 5] [3, 4, 5] (by decide), Nat.le_trans hnB (hst.ka (k := 1) rfl).size, (show (koF W).P _ from hst.pat (k := 0) rfl).2 D1 _ hDk rfl⟩
        rw [← hlen1] at hfin
        exact ⟨hst.ka (k := 1) rfl, hst.kax (k := 1) rfl ⟨hst.pat (k := 3) rfl, hst.pat (k := 5) rfl, hst.pat (k := 4) rfl⟩, hfin⟩
      · refine wpIn_block ?_
        refine wpIn_seq ?_
        refine wpIn_seq ?_
        refine cutFIn (fun a w => Env 81 a [(2, .pointer (some ⟨g51, 0, none⟩)), (3, .pointer (some ⟨g53, 0, none⟩)), (4, .pointer (some ⟨g55, 0, none⟩)), (6, .pointer (some ⟨g60, 0, none⟩)), (8, .pointer (some ⟨g8, 0, none⟩)), (9, .pointer (some ⟨g99, 0, none⟩)), (11, .pointer (some ⟨g4, 0, none⟩)), (57, .bool true)] ∧ St w0 w [bk g99 #[.int .i64 (pre.length : Nat)] 3, bk g8 #[.int .i64 1] 3, bk g51 #[.int .i64 i, .int .i64 g, .slice A0 n0 c0, .slice A1 n1 c1] 25, bk g53 #[.int .i64 k] 3, bk g55 #[.bool false] 4, bk g60 #[.int .i64 (n0 : Nat)] 3] [koF W, kaF w101.heap.size W, bk g4 #[.int .i64 x1, .int .i64 x2, .int .i64 x3, .int .i64 x4, .int .i64 x5] 37, bk gB #[.int .i64 i, .int .i64 g, .slice A0 n0 c0, .slice A1 n1 c1] 25, pfRow fI FI 1 A1 n1 c1 es1, pfRow fJ FJ 5 A0 n0 c0 es0]) ?_ ?_
        · refine region_anyIn (n := 20) (Sk [bk g99 #[.int .i64 (pre.length : Nat)] 3, bk g8 #[.int .i64 1] 3, bk g51 #[.int .i64 i, .int .i64 g, .slice A0 n0 c0, .slice A1 n1 c1] 25, bk g53 #[.int .i64 k] 3, bk g55 #[.bool false] 4, bk g60 #[.int .i64 (n0 : Nat)] 3] [koF W, kaF w101.heap.size W, bk g4 #[.int .i64 x1, .int .i64 x2, .int .i64 x3, .int .i64 x4, .int .i64 x5] 37, bk gB #[.int .i64 i, .int .i64 g, .slice A0 n0 c0, .slice A1 n1 c1] 25, pfRow fI FI 1 A1 n1 c1 es1, pfRow fJ FJ 5 A0 n0 c0 es0] [] []) mixed rfl henv hst (by kernel_rfl) (fun _ _ h => h) ?_
          clear henv hst; intro w108 henv hst
          refine sAny_take (i := 0) [2, 3, 4, 5, 6, 7, 8, 9, 10, 11, 12, 13, 14, 15, 16, 17, 18, 19] (fun w' => w'.heap[g99]? = some (.cells #[.int .i64 (pre.length : Nat)] 3 (0, 0))) (v := .int .i64 (pre.length : Nat)) rfl (by kernel_rfl) (fun _ _ _ h => h) (fun _ _ _ hS => hS.1.oat (k := 0) rfl) henv rfl (hst.oat (k := 0) rfl) (fun w' hg => rn_load1 henv ty_int rfl hg rfl) ?_
          clear henv a; intro a henv
          refine sAny_take (i := 1) [2, 3, 4, 5, 6, 7, 8, 9, 10, 11, 12, 13, 14, 15, 16, 17, 18, 19] (fun w' => w'.heap[g60]? = some (.cells #[.int .i64 (n0 : Nat)] 3 (0, 0))) (v := .int .i64 (n0 : Nat)) rfl (by kernel_rfl) (fun _ _ _ h => h) (fun _ _ _ hS => hS.1.oat (k := 5) rfl) henv rfl (hst.oat (k := 5) rfl) (fun w' hg => rn_load1 henv ty_int rfl hg rfl) ?_
          clear henv a; intro a henv
          refine tA (i := 2) (rg 3 17) (v := .bool (decide (((pre.length : Nat) : Int) ≥ ((n0 : Nat) : Int)))) rfl (by kernel_rfl) (fun _ _ _ h => h) henv rfl (fun _ => rn_bin henv rfl rfl rfl) ?_
          clear henv a; intro a henv
          rw [show (decide (((pre.length : Nat) : Int) ≥ ((n0 : Nat) : Int))) = false from (decide_eq_false (by omega))] at henv
          refine tM (i := 3) (rg 4 16) rfl (by kernel_rfl) (fun _ _ _ h => h) henv rfl rfl ?_
          clear henv a; intro a henv
          refine tAg (i := 4) (rg 9 11) (v := .int .i64 (xj : Nat)) rfl (by kernel_rfl) (fun _ _ _ h => h) henv rfl rfl rfl rfl (fun _ => rn_move henv rfl) ?_
          clear henv a; intro a henv
          refine sAny_takeg (i := 5) [6, 8, 9, 10, 11, 12, 13, 14, 15, 16, 17, 18, 19] (fun w' => w'.heap[g60]? = some (.cells #[.int .i64 (n0 : Nat)] 3 (0, 0))) (v := .int .i64 (n0 : Nat)) rfl (by kernel_rfl) (fun _ _ _ h => h) (fun _ _ _ hS => hS.1.oat (k := 5) rfl) henv rfl rfl rfl rfl (hst.oat (k := 5) rfl) (fun w' hg => rn_load1 henv ty_int rfl hg rfl) ?_
          clear henv a; intro a henv
          refine tAg (i := 6) (rg 8 12) (v := .int .i64 (((n0 : Nat) : Int) - (1 : Int))) rfl (by kernel_rfl) (fun _ _ _ h => h) henv rfl rfl rfl rfl (fun _ => rn_sub henv rfl rfl (IntWalk.i64_in _ (by omega))) ?_
          clear henv a; intro a henv
          refine sAny_takeg (i := 7) [8, 9, 10, 11, 12, 13, 14, 15, 16, 17, 18, 19] (fun w' => w'.heap[g99]? = some (.cells #[.int .i64 (pre.length : Nat)] 3 (0, 0))) (v := .int .i64 (pre.length : Nat)) rfl (by kernel_rfl) (fun _ _ _ h => h) (fun _ _ _ hS => hS.1.oat (k := 0) rfl) henv rfl rfl rfl rfl (hst.oat (k := 0) rfl) (fun w' hg => rn_load1 henv ty_int rfl hg rfl) ?_
          clear henv a; intro a henv
          refine tAg (i := 8) (rg 9 11) (v := .int .i64 ((((n0 : Nat) : Int) - (1 : Int)) - ((pre.length : Nat) : Int))) rfl (by kernel_rfl) (fun _ _ _ h => h) henv rfl rfl rfl rfl (fun _ => rn_sub henv rfl rfl (IntWalk.i64_in _ (by omega))) ?_
          clear henv a; intro a henv
          refine tAg (i := 9) (rg 10 10) (v := .bool (((xj : Nat) : Int) != (((n0 : Nat) : Int) - (1 : Int)) - ((pre.length : Nat) : Int))) rfl (by kernel_rfl) (fun _ _ _ h => h) henv rfl rfl rfl rfl (fun _ => rn_bin henv rfl rfl rfl) ?_
          clear henv a; intro a henv
          rw [show (((xj : Nat) : Int) != (((n0 : Nat) : Int) - (1 : Int)) - ((pre.length : Nat) : Int)) = true from (bne_iff_ne.2 (by omega))] at henv
          refine tA (i := 10) (rg 11 9) (v := .bool true) rfl (by kernel_rfl) (fun _ _ _ h => h) henv rfl (fun _ => rn_pick henv rfl rfl) ?_
          clear henv a; intro a henv
          refine tM (i := 11) (rg 12 8) rfl (by kernel_rfl) (fun _ _ _ h => h) henv rfl rfl ?_
          clear henv a; intro a henv
          refine sAny_skipg (i := 12) [18, 19] rfl (by kernel_rfl) (fun _ _ _ h => h) henv rfl rfl rfl rfl rfl ?_
          clear henv a; intro a henv
          refine sAny_skipg (i := 13) [14, 16, 17, 18, 19] rfl (by kernel_rfl) (fun _ _ _ h => h) henv rfl rfl rfl rfl rfl ?_
          clear henv a; intro a henv
          refine sAny_skipg (i := 14) [16, 17, 18, 19] rfl (by kernel_rfl) (fun _ _ _ h => h) henv rfl rfl rfl rfl rfl ?_
          clear henv a; intro a henv
          refine sAny_skipg (i := 15) [16, 17, 18, 19] rfl (by kernel_rfl) (fun _ _ _ h => h) henv rfl rfl rfl rfl rfl ?_
          clear henv a; intro a henv
          refine sAny_skipg (i := 16) [17, 18, 19] rfl (by kernel_rfl) (fun _ _ _ h => h) henv rfl rfl rfl rfl rfl ?_
          clear henv a; intro a henv
          refine sAny_skipg (i := 17) [18, 19] rfl (by kernel_rfl) (fun _ _ _ h => h) henv rfl rfl rfl rfl rfl ?_
          clear henv a; intro a henv
          refine sAny_skipg (i := 18) [19] rfl (by kernel_rfl) (fun _ _ _ h => h) henv rfl rfl rfl rfl rfl ?_
          clear henv a; intro a henv
          refine tA (i := 19) [] (v := .bool true) rfl (by kernel_rfl) (fun _ _ _ h => h) henv rfl (fun _ => rn_pick henv rfl rfl) ?_
          clear henv a; intro a henv
          refine sAny_done (by kernel_rfl) ?_ _
          exact th_n ⟨henv.sub ⟨rfl, rfl, rfl, rfl, rfl, rfl, rfl, rfl, trivial⟩, hst.pick [0, 1, 2, 3, 4, 5] [0, 1, 2, 3, 4, 5] (by decide)⟩
        clear henv hst a
        rintro a w109 ⟨henv, hst⟩
        refine if_tIn henv rfl (rfl) ?_
        refine wpIn_seq ?_
        refine region_in ?_
        refine in_step rfl (fun _ h => by cases h) (op_store1 (k := 4) (c' := #[.bool false]) henv hst (ty_bool.size) rfl rfl rfl (by simp) rfl rfl ?_)
        clear henv hst a; intro a w110 henv hst
        refine in_nil ?_
        refine th_n ?_
        refine wpIn_ret ?_
        refine th_r (bl_r ?_)
        exact ⟨hst.ka (k := 1) rfl, hst.kax (k := 1) rfl ⟨hst.pat (k := 3) rfl, hst.pat (k := 5) rfl, hst.pat (k := 4) rfl⟩, ⟨rfl, pre, (xj, x1, x2, x3, x4, x5), rfl, hlt, hmis⟩⟩
      · refine wpIn_block ?_
        refine wpIn_seq ?_
        refine wpIn_seq ?_
        refine cutFIn (fun a w => Env 81 a [(2, .pointer (some ⟨g51, 0, none⟩)), (3, .pointer (some ⟨g53, 0, none⟩)), (4, .pointer (some ⟨g55, 0, none⟩)), (6, .pointer (some ⟨g60, 0, none⟩)), (8, .pointer (some ⟨g8, 0, none⟩)), (9, .pointer (some ⟨g99, 0, none⟩)), (11, .pointer (some ⟨g4, 0, none⟩)), (57, .bool true)] ∧ St w0 w [bk g99 #[.int .i64 (pre.length : Nat)] 3, bk g8 #[.int .i64 1] 3, bk g51 #[.int .i64 i, .int .i64 g, .slice A0 n0 c0, .slice A1 n1 c1] 25, bk g53 #[.int .i64 k] 3, bk g55 #[.bool false] 4, bk g60 #[.int .i64 (n0 : Nat)] 3] [koF W, kaF w101.heap.size W, bk g4 #[.int .i64 x1, .int .i64 x2, .int .i64 x3, .int .i64 x4, .int .i64 x5] 37, bk gB #[.int .i64 i, .int .i64 g, .slice A0 n0 c0, .slice A1 n1 c1] 25, pfRow fI FI 1 A1 n1 c1 es1, pfRow fJ FJ 5 A0 n0 c0 es0]) ?_ ?_
        · refine region_anyIn (n := 20) (Sk [bk g99 #[.int .i64 (pre.length : Nat)] 3, bk g8 #[.int .i64 1] 3, bk g51 #[.int .i64 i, .int .i64 g, .slice A0 n0 c0, .slice A1 n1 c1] 25, bk g53 #[.int .i64 k] 3, bk g55 #[.bool false] 4, bk g60 #[.int .i64 (n0 : Nat)] 3] [koF W, kaF w101.heap.size W, bk g4 #[.int .i64 x1, .int .i64 x2, .int .i64 x3, .int .i64 x4, .int .i64 x5] 37, bk gB #[.int .i64 i, .int .i64 g, .slice A0 n0 c0, .slice A1 n1 c1] 25, pfRow fI FI 1 A1 n1 c1 es1, pfRow fJ FJ 5 A0 n0 c0 es0] [] []) mixed rfl henv hst (by kernel_rfl) (fun _ _ h => h) ?_
          clear henv hst; intro w111 henv hst
          refine sAny_take (i := 0) [2, 3, 4, 5, 6, 7, 8, 9, 10, 11, 12, 13, 14, 15, 16, 17, 18, 19] (fun w' => w'.heap[g99]? = some (.cells #[.int .i64 (pre.length : Nat)] 3 (0, 0))) (v := .int .i64 (pre.length : Nat)) rfl (by kernel_rfl) (fun _ _ _ h => h) (fun _ _ _ hS => hS.1.oat (k := 0) rfl) henv rfl (hst.oat (k := 0) rfl) (fun w' hg => rn_load1 henv ty_int rfl hg rfl) ?_
          clear henv a; intro a henv
          refine sAny_take (i := 1) [2, 3, 4, 5, 6, 7, 8, 9, 10, 11, 12, 13, 14, 15, 16, 17, 18, 19] (fun w' => w'.heap[g60]? = some (.cells #[.int .i64 (n0 : Nat)] 3 (0, 0))) (v := .int .i64 (n0 : Nat)) rfl (by kernel_rfl) (fun _ _ _ h => h) (fun _ _ _ hS => hS.1.oat (k := 5) rfl) henv rfl (hst.oat (k := 5) rfl) (fun w' hg => rn_load1 henv ty_int rfl hg rfl) ?_
          clear henv a; intro a henv
          refine tA (i := 2) (rg 3 17) (v := .bool (decide (((pre.length : Nat) : Int) ≥ ((n0 : Nat) : Int)))) rfl (by kernel_rfl) (fun _ _ _ h => h) henv rfl (fun _ => rn_bin henv rfl rfl rfl) ?_
          clear henv a; intro a henv
          rw [show (decide (((pre.length : Nat) : Int) ≥ ((n0 : Nat) : Int))) = false from (decide_eq_false (by omega))] at henv
          refine tM (i := 3) (rg 4 16) rfl (by kernel_rfl) (fun _ _ _ h => h) henv rfl rfl ?_
          clear henv a; intro a henv
          refine tAg (i := 4) (rg 9 11) (v := .int .i64 (xj : Nat)) rfl (by kernel_rfl) (fun _ _ _ h => h) henv rfl rfl rfl rfl (fun _ => rn_move henv rfl) ?_
          clear henv a; intro a henv
          refine sAny_takeg (i := 5) [6, 8, 9, 10, 11, 12, 13, 14, 15, 16, 17, 18, 19] (fun w' => w'.heap[g60]? = some (.cells #[.int .i64 (n0 : Nat)] 3 (0, 0))) (v := .int .i64 (n0 : Nat)) rfl (by kernel_rfl) (fun _ _ _ h => h) (fun _ _ _ hS => hS.1.oat (k := 5) rfl) henv rfl rfl rfl rfl (hst.oat (k := 5) rfl) (fun w' hg => rn_load1 henv ty_int rfl hg rfl) ?_
          clear henv a; intro a henv
          refine tAg (i := 6) (rg 8 12) (v := .int .i64 (((n0 : Nat) : Int) - (1 : Int))) rfl (by kernel_rfl) (fun _ _ _ h => h) henv rfl rfl rfl rfl (fun _ => rn_sub henv rfl rfl (IntWalk.i64_in _ (by omega))) ?_
          clear henv a; intro a henv
          refine sAny_takeg (i := 7) [8, 9, 10, 11, 12, 13, 14, 15, 16, 17, 18, 19] (fun w' => w'.heap[g99]? = some (.cells #[.int .i64 (pre.length : Nat)] 3 (0, 0))) (v := .int .i64 (pre.length : Nat)) rfl (by kernel_rfl) (fun _ _ _ h => h) (fun _ _ _ hS => hS.1.oat (k := 0) rfl) henv rfl rfl rfl rfl (hst.oat (k := 0) rfl) (fun w' hg => rn_load1 henv ty_int rfl hg rfl) ?_
          clear henv a; intro a henv
          refine tAg (i := 8) (rg 9 11) (v := .int .i64 ((((n0 : Nat) : Int) - (1 : Int)) - ((pre.length : Nat) : Int))) rfl (by kernel_rfl) (fun _ _ _ h => h) henv rfl rfl rfl rfl (fun _ => rn_sub henv rfl rfl (IntWalk.i64_in _ (by omega))) ?_
          clear henv a; intro a henv
          refine tAg (i := 9) (rg 10 10) (v := .bool (((xj : Nat) : Int) != (((n0 : Nat) : Int) - (1 : Int)) - ((pre.length : Nat) : Int))) rfl (by kernel_rfl) (fun _ _ _ h => h) henv rfl rfl rfl rfl (fun _ => rn_bin henv rfl rfl rfl) ?_
          clear henv a; intro a henv
          rw [show (((xj : Nat) : Int) != (((n0 : Nat) : Int) - (1 : Int)) - ((pre.length : Nat) : Int)) = false from (bneF (by omega))] at henv
          refine tA (i := 10) (rg 11 9) (v := .bool false) rfl (by kernel_rfl) (fun _ _ _ h => h) henv rfl (fun _ => rn_pick henv rfl rfl) ?_
          clear henv a; intro a henv
          refine tM (i := 11) (rg 12 8) rfl (by kernel_rfl) (fun _ _ _ h => h) henv rfl rfl ?_
          clear henv a; intro a henv
          refine sAny_takeg (i := 12) [18, 19] (fun w' => (bk g4 #[.int .i64 x1, .int .i64 x2, .int .i64 x3, .int .i64 x4, .int .i64 x5] 37).P w') (v := .agg #[.int .i64 x1, .int .i64 x2, .int .i64 x3, .int .i64 x4, .int .i64 x5]) rfl (by kernel_rfl) (fun _ _ _ h => h) (fun _ _ _ hS => hS.1.pat (k := 2) rfl) henv rfl rfl rfl rfl (hst.pat (k := 2) rfl) (fun w' hg => rn_load0 henv ty_anvil_api_Instr rfl hg rfl) ?_
          clear henv a; intro a henv
          refine tAg (i := 13) [14, 16, 17, 18, 19] (v := .pointer (some ⟨g51, 2, none⟩)) rfl (by kernel_rfl) (fun _ _ _ h => h) henv rfl rfl rfl rfl (fun _ => rn_fieldAddr henv fd_anvil_api_Prog_2 (ty__api_Instr.size) (by decide) rfl) ?_
          clear henv a; intro a henv
          refine sAny_takeg (i := 14) [16, 17, 18, 19] (fun w' => w'.heap[g51]? = some (.cells #[.int .i64 i, .int .i64 g, .slice A0 n0 c0, .slice A1 n1 c1] 25 (0, 0))) (v := .slice A0 n0 c0) rfl (by kernel_rfl) (fun _ _ _ h => h) (fun _ _ _ hS => hS.1.oat (k := 2) rfl) henv rfl rfl rfl rfl (hst.oat (k := 2) rfl) (fun w' hg => rn_load1 henv ty__api_Instr rfl hg rfl) ?_
          clear henv a; intro a henv
          refine tAg (i := 15) (rg 16 4) (v := .int .i64 (xj : Nat)) rfl (by kernel_rfl) (fun _ _ _ h => h) henv rfl rfl rfl rfl (fun _ => rn_move henv rfl) ?_
          clear henv a; intro a henv
          refine sAny_takeg (i := 16) [17, 18, 19] (fun w' => (pfRow fJ FJ 5 A0 n0 c0 es0).P w') (v := .pointer (some ⟨ab A0, ao A0 + xj * 5, none⟩)) rfl (by kernel_rfl) (fun _ _ _ h => h) (fun _ _ _ hS => hS.1.pat (k := 5) rfl) henv rfl rfl rfl rfl (hst.pat (k := 5) rfl) (fun w' hg => rn_idxR (i := xj) henv Tryd.underlying22 (ty_anvil_api_Instr.size) rfl rfl (by omega) rfl (show (pfRow fJ FJ 5 A0 n0 c0 es0).P _ from hg).1) ?_
          clear henv a; intro a henv
          refine sAny_takeg (i := 17) [18, 19] (fun w' => (pfRow fJ FJ 5 A0 n0 c0 es0).P w') (v := .agg #[.int .i64 y1, .int .i64 y2, .int .i64 y3, .int .i64 y4, .int .i64 y5]) rfl (by kernel_rfl) (fun _ _ _ h => h) (fun _ _ _ hS => hS.1.pat (k := 5) rfl) henv rfl rfl rfl rfl (hst.pat (k := 5) rfl) (fun w' hg => rn_loadE (i := xj) (e := (y1, y2, y3, y4, y5)) henv ty_anvil_api_Instr rfl rfl fJ_len (show (pfRow fJ FJ 5 A0 n0 c0 es0).P _ from hg).1 (by omega) hex rfl) ?_
          clear henv a; intro a henv
          refine tAg (i := 18) [19] (v := .bool (!decide ([x1, x2, x3, x4, x5] = [y1, y2, y3, y4, y5]))) rfl (by kernel_rfl) (fun _ _ _ h => h) henv rfl rfl rfl rfl (fun _ => rn_neqI [x1, x2, x3, x4, x5] [y1, y2, y3, y4, y5] henv instrI rfl rfl rfl rfl) ?_
          clear henv a; intro a henv
          rw [show (!decide ([x1, x2, x3, x4, x5] = [y1, y2, y3, y4, y5])) = true from (by rw [decide_eq_false (fun q => hne (ins_eq q))]; rfl)] at henv
          refine tA (i := 19) [] (v := .bool true) rfl (by kernel_rfl) (fun _ _ _ h => h) henv rfl (fun _ => rn_pick henv rfl rfl) ?_
          clear henv a; intro a henv
          refine sAny_done (by kernel_rfl) ?_ _
          exact th_n ⟨henv.sub ⟨rfl, rfl, rfl, rfl, rfl, rfl, rfl, rfl, trivial⟩, hst.pick [0, 1, 2, 3, 4, 5] [0, 1, 2, 3, 4, 5] (by decide)⟩
        clear henv hst a
        rintro a w112 ⟨henv, hst⟩
        refine if_tIn henv rfl (rfl) ?_
        refine wpIn_seq ?_
        refine region_in ?_
        refine in_step rfl (fun _ h => by cases h) (op_store1 (k := 4) (c' := #[.bool false]) henv hst (ty_bool.size) rfl rfl rfl (by simp) rfl rfl ?_)
        clear henv hst a; intro a w113 henv hst
        refine in_nil ?_
        refine th_n ?_
        refine wpIn_ret ?_
        refine th_r (bl_r ?_)
        exact ⟨hst.ka (k := 1) rfl, hst.kax (k := 1) rfl ⟨hst.pat (k := 3) rfl, hst.pat (k := 5) rfl, hst.pat (k := 4) rfl⟩, ⟨rfl, pre, (xj, x1, x2, x3, x4, x5), rfl, hlt, hmis⟩⟩
    · intro D114 xs W a hD114 hS hI hK henv
      obtain ⟨hst, hnB, hDk⟩ := hI
      subst hS
      rw [rvT_len] at hst
      replace hst := hst.addD ⟨cf_bk, cf_bk, cf_bk, cf_bk, cf_bk, cf_bk, trivial⟩ hDk
      replace hst := hst.addD ⟨cf_bk, cf_bk, cf_bk, cf_bk, cf_bk, cf_bk, trivial⟩ hK
      have hDD114 := Nat.le_trans hsz hD114
      refine bl_n (th_n ?_)
      refine wp_seq ?_
      refine region_seq ?_
      revert a
      refine sA (v := .int .i64 (n0 : Nat)) rfl (fun _ henv => rn_load1 henv ty_int rfl (hst.oat (k := 0) rfl) rfl) ?_
      refine sA (v := .int .i64 (n0 : Nat)) rfl (fun _ henv => rn_load1 henv ty_int rfl (hst.oat (k := 5) rfl) rfl) ?_
      refine sA (v := .bool (((n0 : Nat) : Int) != ((n0 : Nat) : Int))) rfl (fun _ henv => rn_bin henv rfl rfl rfl) ?_
      intro a henv
      rw [show (((n0 : Nat) : Int) != ((n0 : Nat) : Int)) = false from (bneF rfl)] at henv
      revert a
      refine mA rfl rfl ?_
      refine kA rfl rfl rfl rfl rfl ?_
      refine kA rfl rfl rfl rfl rfl ?_
      refine kA rfl rfl rfl rfl rfl ?_
      refine kA rfl rfl rfl rfl rfl ?_
      refine kA rfl rfl rfl rfl rfl ?_
      refine kA rfl rfl rfl rfl rfl ?_
      refine kA rfl rfl rfl rfl rfl ?_
      refine kA rfl rfl rfl rfl rfl ?_
      refine sA (v := .bool false) rfl (fun _ henv => rn_pick henv rfl rfl) ?_
      intro a henv
      refine wpList_nil ?_
      refine th_n ?_
      refine if_f henv rfl (rfl) ?_
      refine wp_skip ?_
      refine bl_n (th_n ?_)
      refine wp_seq ?_
      refine wp_seq ?_
      refine region_seq ?_
      refine sv (v := .int .i64 1) henv rfl (rn_load1 henv ty_int rfl (hst.oat (k := 1) rfl) rfl) ?_
      clear henv a; intro a henv
      refine wpList_nil ?_
      refine th_n ?_
      refine region_seq ?_
      refine seq_step rfl (op_alloc (c := #[.int .i64 0]) henv hst rfl zero_int rfl ?_)
      clear henv hst a; intro a w116 g115 henv hst
      refine seq_step rfl (op_store1 (k := 0) (c' := #[.int .i64 1]) henv hst (ty_int.size) rfl rfl rfl (by simp) rfl rfl ?_)
      clear henv hst a; intro a w117 henv hst
      refine wpList_nil ?_
      refine th_n ?_
      refine region_seq ?_
      revert a
      refine sA (v := .int .i64 1) rfl (fun _ henv => rn_load1 henv ty_int rfl (hst.oat (k := 0) rfl) rfl) ?_
      refine sA (v := .int .i64 2) rfl (fun _ henv => rn_bin henv rfl rfl rfl) ?_
      intro a henv
      refine seq_step rfl (op_store1 (k := 0) (c' := #[.int .i64 2]) henv hst (ty_int.size) rfl rfl rfl (by simp) rfl rfl ?_)
      clear henv hst a; intro a w118 henv hst
      refine wpList_nil ?_
      exact th_n ⟨_, (by decide), (.inr (.inr ⟨D1, D114, g115, rfl, henv.sub ⟨rfl, rfl, rfl, rfl, rfl, rfl, trivial⟩, hst.pick [0, 3, 4, 5, 6] [0, 1, 2, 3, 4] (by decide), hDD1, hDD114, (Nat.lt_of_lt_of_le hD1lt hD114)⟩))⟩
    · intro D119 c pre W a hD119 hS hI hK henv
      exact (mis_absurd hlen0 hS hI.2).elim
  · refine wp_seq ?_
    refine wp_seq ?_
    refine region_seq ?_
    revert a
    refine sA (v := .int .i64 2) rfl (fun _ henv => rn_load1 henv ty_int rfl (hst.oat (k := 0) rfl) rfl) ?_
    refine sA (v := .bool false) rfl (fun _ henv => rn_bin henv rfl rfl rfl) ?_
    intro a henv
    refine wpList_nil ?_
    refine th_n ?_
    refine if_f henv rfl (rfl) ?_
    refine wp_exit ?_
    refine th_x (th_x (bl_x (th_n ?_)))
    refine wp_seq ?_
    refine region_seq ?_
    refine seq_step rfl (op_store1 (k := 3) (c' := #[.bool true]) henv hst (ty_bool.size) rfl rfl rfl (by simp) rfl rfl ?_)
    clear henv hst a; intro a w120 henv hst
    refine wpList_nil ?_
    refine th_n ?_
    refine wp_ret ?_
    have hdD2 : _ = _ := hst.pat (k := 0) rfl
    have hdD1 : _ = _ := hst.pat (k := 1) rfl
    replace hst : St w0 _ [bk g8 #[.int .i64 2] 3, bk g51 #[.int .i64 i, .int .i64 g, .slice A0 n0 c0, .slice A1 n1 c1] 25, bk g53 #[.int .i64 k] 3, bk g55 #[.bool true] 4, bk g60 #[.int .i64 (n0 : Nat)] 3] [bk gB #[.int .i64 i, .int .i64 g, .slice A0 n0 c0, .slice A1 n1 c1] 25] := hst.pick [0, 1, 2, 3, 4] [2] (by decide)
    have hneD1 : D1 ≠ D2 := by omega
    replace hst := hst.putD0 hdD2 hDD2 ⟨cf_bk, cf_bk, cf_bk, cf_bk, cf_bk, trivial⟩ ⟨cf_bk, trivial⟩
    replace hdD1 := putD_other (o' := .deferred none) hdD1 hneD1
    replace hst := hst.putD0 hdD1 hDD1 ⟨cf_bk, cf_bk, cf_bk, cf_bk, cf_bk, trivial⟩ ⟨cf_bk, trivial⟩
    refine leaveM2 henv hdD2 hdD1 (res1 Tryd.results4 (RV.cell1 henv ty_bool rfl (hst.oat (k := 3) rfl) rfl)) ?_
    exact ⟨rfl, hst.below⟩
set_option maxRecDepth 100000 in
set_option maxHeartbeats 8000000 in
theorem gback_bad {i g k : Int} {A0 A1 : Option Addr} {n0 c0 n1 c1 : Nat} {es0 : List IE} {es1 : List Int} {w0 : World} (h0 : (pfRow fJ FJ 5 A0 n0 c0 es0).P w0) (h1 : (pfRow fI FI 1 A1 n1 c1 es1).P w0) {kk : Int} (hv : ¬ (400 < n0 ∨ 400 < n1)) (hR : Wrong i g n0 n1 es0 es1 kk) :
    Calls Tryd.prog 4 #[.agg #[.int .i64 i, .int .i64 g, .slice A0 n0 c0, .slice A1 n1 c1], .int .i64 k] w0 fun e w' => e = .returned (.bool true) ∧ Below w0.heap.size w0 w' := by
  refine enterM Tryd.func4 rfl Tryd.ntmps4 rfl ?_
  intro a henv hst
  have hlen0 := h0.2.1
  have hbig0 := Nat.le_trans h0.1.cap h0.1.big
  unfold maxLen at hbig0
  have hlen1 := h1.2.1
  have hbig1 := Nat.le_trans h1.1.cap h1.1.big
  unfold maxLen at hbig1
  replace hst := hst.argRow h0
  replace hst := hst.argRow h1
  clear h0 h1
  refine wp_seq ?_
  refine region_seq ?_
  refine seq_step rfl (op_box (c := #[.int .i64 i, .int .i64 g, .slice A0 n0 c0, .slice A1 n1 c1]) henv hst rfl rfl rfl ?_)
  clear henv hst a; intro a w52 g51 henv hst
  refine seq_step rfl (op_box (c := #[.int .i64 k]) henv hst rfl rfl rfl ?_)
  clear henv hst a; intro a w54 g53 henv hst
  refine seq_step rfl (op_alloc (c := #[.bool false]) henv hst rfl zero_bool rfl ?_)
  clear henv hst a; intro a w56 g55 henv hst
  refine wpList_nil ?_
  refine th_n ?_
  refine wp_seq ?_
  refine wp_seq ?_
  refine region_seq ?_
  refine seq_step rfl (op_call henv rfl Tryd.call10 rfl g_live ?_)
  rintro e w57 ⟨rfl, hb⟩
  refine ⟨_, rfl, ?_⟩
  clear henv a; intro a henv
  replace hst := hst.call hb
  clear hb
  refine sv (v := .bool false) henv rfl (rn_un henv rfl rfl) ?_
  clear henv a; intro a henv
  refine wpList_nil ?_
  refine th_n ?_
  refine if_f henv rfl (rfl) ?_
  refine wp_skip ?_
  refine th_n ?_
  refine wp_seq ?_
  refine wp_seq ?_
  refine region_seq ?_
  refine sv (v := .agg #[.int .i64 i, .int .i64 g, .slice A0 n0 c0, .slice A1 n1 c1]) henv rfl (rn_load0 henv ty_anvil_api_Prog rfl (hst.oat (k := 2) rfl) rfl) ?_
  clear henv a; intro a henv
  refine seq_step rfl (op_call henv rfl Tryd.call13 rfl (g_long (i := i) (g := g) (A0 := A0) (n0 := n0) (c0 := c0) (A1 := A1) (n1 := n1) (c1 := c1)) ?_)
  rintro e w58 ⟨rfl, hb⟩
  refine ⟨_, rfl, ?_⟩
  clear henv a; intro a henv
  replace hst := hst.call hb
  clear hb
  rw [show (decide (400 < n0 ∨ 400 < n1)) = false from (decide_eq_false hv)] at henv
  refine wpList_nil ?_
  refine th_n ?_
  refine if_f henv rfl (rfl) ?_
  refine wp_skip ?_
  refine th_n ?_
  refine wp_seq ?_
  refine region_seq ?_
  refine sv (v := .agg #[.int .i64 i, .int .i64 g, .slice A0 n0 c0, .slice A1 n1 c1]) henv rfl (rn_load0 henv ty_anvil_api_Prog rfl (hst.oat (k := 2) rfl) rfl) ?_
  clear henv a; intro a henv
  refine seq_step rfl (op_call henv rfl Tryd.call14 rfl (g_back (i := i) (g := g) (A0 := A0) (n0 := n0) (c0 := c0) (A1 := A1) (n1 := n1) (c1 := c1)) ?_)
  rintro e w59 ⟨gB, rfl, hS, hge, hb⟩
  refine ⟨_, rfl, ?_⟩
  clear henv a; intro a henv
  replace hst := hst.fresh hb (bk gB #[.int .i64 i, .int .i64 g, .slice A0 n0 c0, .slice A1 n1 c1] 25) hS (fun _ hb => hb ▸ hge)
  clear hS hge
  clear hb
  refine sv (v := .func (.func 36) #[] #[.pointer (some ⟨gB, 0, none⟩)]) henv rfl (rn_assign henv rfl) ?_
  clear henv a; intro a henv
  refine wpList_nil ?_
  refine th_n ?_
  refine wp_seq ?_
  refine region_seq ?_
  revert a
  refine sA (v := .pointer (some ⟨g51, 2, none⟩)) rfl (fun _ henv => rn_fieldAddr henv fd_anvil_api_Prog_2 (ty__api_Instr.size) (by decide) rfl) ?_
  refine sA (v := .slice A0 n0 c0) rfl (fun _ henv => rn_load1 henv ty__api_Instr rfl (hst.oat (k := 2) rfl) rfl) ?_
  refine sA (v := .int .i64 (n0 : Nat)) rfl (fun _ henv => rn_len henv Tryd.underlying22 rfl) ?_
  intro a henv
  refine seq_step rfl (op_alloc (c := #[.int .i64 0]) henv hst rfl zero_int rfl ?_)
  clear henv hst a; intro a w61 g60 henv hst
  refine seq_step rfl (op_store1 (k := 0) (c' := #[.int .i64 (n0 : Nat)]) henv hst (ty_int.size) rfl rfl rfl (by simp) rfl rfl ?_)
  clear henv hst a; intro a w62 henv hst
  refine wpList_nil ?_
  refine th_n ?_
  refine wp_seq ?_
  refine region_seq ?_
  refine sv (v := .agg #[.int .i64 i, .int .i64 g, .slice A0 n0 c0, .slice A1 n1 c1]) henv rfl (rn_load0 henv ty_anvil_api_Prog rfl (hst.oat (k := 3) rfl) rfl) ?_
  clear henv a; intro a henv
  refine seq_step rfl (op_call henv rfl Tryd.call15 rfl (r_right_bad (hst.pat (k := 2) rfl) (hst.pat (k := 1) rfl) hR) ?_)
  rintro e w63 ⟨rfl, hb⟩
  refine ⟨_, rfl, ?_⟩
  clear henv a; intro a henv
  replace hst := hst.call hb
  clear hb
  refine sv (v := .bool false) henv rfl (rn_assign henv rfl) ?_
  clear henv a; intro a henv
  refine wpList_nil ?_
  refine th_n ?_
  refine wp_seq ?_
  refine wp_seq ?_
  refine region_seq ?_
  revert a
  refine mA rfl rfl ?_
  refine sA (v := .bool true) rfl (fun _ henv => rn_un henv rfl rfl) ?_
  intro a henv
  refine wpList_nil ?_
  refine th_n ?_
  refine if_t henv rfl (rfl) ?_
  refine region_seq ?_
  refine seq_step rfl (op_store1 (k := 0) (c' := #[.int .i64 0]) henv hst (ty_int.size) rfl rfl rfl (by simp) rfl rfl ?_)
  clear henv hst a; intro a w64 henv hst
  refine wpList_nil ?_
  refine th_n ?_
  refine wp_seq ?_
  refine wp_seq ?_
  refine region_seq ?_
  revert a
  refine mA rfl rfl ?_
  refine sA (v := .bool false) rfl (fun _ henv => rn_nilFn henv Tryd.underlying34 rfl) ?_
  refine mA rfl rfl ?_
  intro a henv
  refine seq_g rfl henv rfl rfl (op_call henv rfl Tryd.call10 rfl g_live ?_)
  rintro e w65 ⟨rfl, hb⟩
  refine ⟨_, rfl, ?_⟩
  clear henv a; intro a henv
  replace hst := hst.call hb
  clear hb
  revert a
  refine gA (v := .bool false) rfl rfl rfl rfl (fun _ henv => rn_un henv rfl rfl) ?_
  refine sA (v := .bool false) rfl (fun _ henv => rn_pick henv rfl rfl) ?_
  intro a henv
  refine wpList_nil ?_
  refine th_n ?_
  refine if_f henv rfl (rfl) ?_
  refine wp_skip ?_
  refine th_n ?_
  refine wp_seq ?_
  refine wp_seq ?_
  refine region_seq ?_
  refine seq_step rfl (op_alloc (c := #[.int .i64 0]) henv hst rfl zero_int rfl ?_)
  clear henv hst a; intro a w67 g66 henv hst
  refine seq_step rfl (op_store1 (k := 0) (c' := #[.int .i64 0]) henv hst (ty_int.size) rfl rfl rfl (by simp) rfl rfl ?_)
  clear henv hst a; intro a w68 henv hst
  refine wpList_nil ?_
  refine th_n ?_
  refine wp_block ?_
  refine wp_loop_ghost (fun mz a w => (∃ g8 : Nat, 2 = mz ∧ EnvD [] 81 a [(2, .pointer (some ⟨g51, 0, none⟩)), (3, .pointer (some ⟨g53, 0, none⟩)), (4, .pointer (some ⟨g55, 0, none⟩)), (5, .func (.func 36) #[] #[.pointer (some ⟨gB, 0, none⟩)]), (6, .pointer (some ⟨g60, 0, none⟩)), (8, .pointer (some ⟨g8, 0, none⟩))] ∧ St w0 w [bk g8 #[.int .i64 0] 3, bk g51 #[.int .i64 i, .int .i64 g, .slice A0 n0 c0, .slice A1 n1 c1] 25, bk g53 #[.int .i64 k] 3, bk g55 #[.bool false] 4, bk g60 #[.int .i64 0] 3] [bk gB #[.int .i64 i, .int .i64 g, .slice A0 n0 c0, .slice A1 n1 c1] 25, pfRow fI FI 1 A1 n1 c1 es1, pfRow fJ FJ 5 A0 n0 c0 es0]) ∨ (∃ D1 : Nat, ∃ g8 : Nat, 1 = mz ∧ EnvD [{ target := .collected D1, args := #[] }] 81 a [(2, .pointer (some ⟨g51, 0, none⟩)), (3, .pointer (some ⟨g53, 0, none⟩)), (4, .pointer (some ⟨g55, 0, none⟩)), (5, .func (.func 36) #[] #[.pointer (some ⟨gB, 0, none⟩)]), (6, .pointer (some ⟨g60, 0, none⟩)), (8, .pointer (some ⟨g8, 0, none⟩))] ∧ St w0 w [bk g8 #[.int .i64 1] 3, bk g51 #[.int .i64 i, .int .i64 g, .slice A0 n0 c0, .slice A1 n1 c1] 25, bk g53 #[.int .i64 k] 3, bk g55 #[.bool false] 4, bk g60 #[.int .i64 0] 3] [defF D1, bk gB #[.int .i64 i, .int .i64 g, .slice A0 n0 c0, .slice A1 n1 c1] 25, pfRow fI FI 1 A1 n1 c1 es1, pfRow fJ FJ 5 A0 n0 c0 es0] ∧ w0.heap.size ≤ D1) ∨ (∃ D1 : Nat, ∃ D2 : Nat, ∃ g8 : Nat, 0 = mz ∧ EnvD [{ target := .collected D2, args := #[] }, { target := .collected D1, args := #[] }] 81 a [(2, .pointer (some ⟨g51, 0, none⟩)), (3, .pointer (some ⟨g53, 0, none⟩)), (4, .pointer (some ⟨g55, 0, none⟩)), (5, .func (.func 36) #[] #[.pointer (some ⟨gB, 0, none⟩)]), (6, .pointer (some ⟨g60, 0, none⟩)), (8, .pointer (some ⟨g8, 0, none⟩))] ∧ St w0 w [bk g8 #[.int .i64 2] 3, bk g51 #[.int .i64 i, .int .i64 g, .slice A0 n0 c0, .slice A1 n1 c1] 25, bk g53 #[.int .i64 k] 3, bk g55 #[.bool false] 4, bk g60 #[.int .i64 0] 3] [defF D2, defF D1, bk gB #[.int .i64 i, .int .i64 g, .slice A0 n0 c0, .slice A1 n1 c1] 25, pfRow fI FI 1 A1 n1 c1 es1, pfRow fJ FJ 5 A0 n0 c0 es0] ∧ w0.heap.size ≤ D1 ∧ w0.heap.size ≤ D2 ∧ D1 < D2)) 2 (.inl ⟨g66, rfl, henv.sub ⟨rfl, rfl, rfl, rfl, rfl, rfl, trivial⟩, hst.pick [0, 4, 3, 2, 1] [0, 1, 2] (by decide)⟩) ?_
  clear henv hst a
  rintro mz a w69 (⟨g8, rfl, henv, hst⟩ | ⟨D1, g8, rfl, henv, hst, hDD1⟩ | ⟨D1, D2, g8, rfl, henv, hst, hDD1, hDD2, hD12⟩)
  · refine wp_seq ?_
    refine wp_seq ?_
    refine region_seq ?_
    revert a
    refine sA (v := .int .i64 0) rfl (fun _ henv => rn_load1 henv ty_int rfl (hst.oat (k := 0) rfl) rfl) ?_
    refine sA (v := .bool true) rfl (fun _ henv => rn_bin henv rfl rfl rfl) ?_
    intro a henv
    refine wpList_nil ?_
    refine th_n ?_
    refine if_t henv rfl (rfl) ?_
    refine wp_skip ?_
    refine th_n ?_
    refine wp_seq ?_
    refine wp_block ?_
    refine wp_seq ?_
    refine region_seq ?_
    refine seq_step rfl (op_alloc (c := #[.int .i64 0]) henv hst rfl zero_int rfl ?_)
    clear henv hst a; intro a w71 g70 henv hst
    refine seq_step rfl (op_store1 (k := 0) (c' := #[.int .i64 0]) henv hst (ty_int.size) rfl rfl rfl (by simp) rfl rfl ?_)
    clear henv hst a; intro a w72 henv hst
    refine wpList_nil ?_
    refine th_n ?_
    refine wp_seq ?_
    refine wp_seq ?_
    refine region_seq ?_
    refine sv (v := .func (.func 36) #[] #[.pointer (some ⟨gB, 0, none⟩)]) henv rfl (rn_move henv rfl) ?_
    clear henv a; intro a henv
    refine wpList_nil ?_
    refine th_n ?_
    refine wp_block ?_
    have hsz := hst.below.size
    have hlow0 := low_of hst
    refine wp_rangeO (α := YE) (enc := encI) (enc' := encJ) henv rfl Tryd.call36 rfl rfl (back_bad ⟨hst.pat (k := 0) rfl, hst.pat (k := 2) rfl, hst.pat (k := 1) rfl⟩ hR) kx_trans (fun Y o o' h hc => kx_put h hc) (fun pre W => St w0 W [bk g70 #[.int .i64 (pre.length : Nat)] 3, bk g8 #[.int .i64 0] 3, bk g51 #[.int .i64 i, .int .i64 g, .slice A0 n0 c0, .slice A1 n1 c1] 25, bk g53 #[.int .i64 k] 3, bk g55 #[.bool false] 4, bk g60 #[.int .i64 0] 3] [bk gB #[.int .i64 i, .int .i64 g, .slice A0 n0 c0, .slice A1 n1 c1] 25, pfRow fI FI 1 A1 n1 c1 es1, pfRow fJ FJ 5 A0 n0 c0 es0] ∧ w72.heap.size ≤ W.heap.size) (fun c pre W => (c = .ret ∧ Mis es0 n0 pre)) (fun _ _ _ _ ⟨hst, hnB⟩ hg hr => ⟨hst.grown hsz ⟨cf_bk, cf_bk, cf_bk, cf_bk, cf_bk, cf_bk, trivial⟩ ⟨cf_bk, cf_rowT (fun _ _ h => h) (by decide), cf_rowT (fun _ _ h => h) (by decide), trivial⟩ hg hr, Nat.le_trans hnB hg.size⟩) (fun _ _ _ _ _ h _ _ => h) ⟨hst.pick [0, 1, 2, 3, 4, 5] [0, 1, 2] (by decide), Nat.le_refl _⟩ (fun x a' W => ∃ g4, w72.heap.size ≤ g4 ∧ EnvD [] 81 a' [(2, .pointer (some ⟨g51, 0, none⟩)), (3, .pointer (some ⟨g53, 0, none⟩)), (4, .pointer (some ⟨g55, 0, none⟩)), (6, .pointer (some ⟨g60, 0, none⟩)), (8, .pointer (some ⟨g8, 0, none⟩)), (9, .pointer (some ⟨g70, 0, none⟩)), (10, .int .i64 (x.1 : Nat)), (11, .pointer (some ⟨g4, 0, none⟩))] ∧ (bk g4 #[.int .i64 x.2.1, .int .i64 x.2.2.1, .int .i64 x.2.2.2.1, .int .i64 x.2.2.2.2.1, .int .i64 x.2.2.2.2.2] 37).P W) (fun x a' s Y Z row hs hg hr => hs.elim fun g4 h => ⟨g4, h.1, h.2.1, own_keep cf_bk h.2.2 hg hr⟩) ?_ ?_ ?_ ?_
    · intro ix pre x W K hi hK a henv
      have hst := St.start W
      refine wpIn_seq ?_
      refine region_in ?_
      refine in_step rfl (fun _ h => by cases h) (op_val (v := .int .i64 (x.1 : Nat)) henv rfl (rn_assign henv rfl) ?_)
      clear henv a; intro a henv
      refine in_nil ?_
      refine th_n ?_
      refine region_in ?_
      refine in_step rfl (fun _ h => by cases h) (op_alloc (c := #[.int .i64 0, .int .i64 0, .int .i64 0, .int .i64 0, .int .i64 0]) henv hst rfl zero_anvil_api_Instr rfl ?_)
      clear henv hst a; intro a w74 g73 henv hst
      refine in_step rfl (fun _ h => by cases h) (op_store (k := 0) (c' := #[.int .i64 x.2.1, .int .i64 x.2.2.1, .int .i64 x.2.2.2.1, .int .i64 x.2.2.2.2.1, .int .i64 x.2.2.2.2.2]) henv hst (ty_anvil_api_Instr.size) rfl rfl rfl rfl (by simp) rfl rfl ?_)
      clear henv hst a; intro a w75 henv hst
      refine in_nil ?_
      have hg0 := grown_of hst.below
      have hr0 : ∀ r, (none : Option Nat) = some r → w72.heap.size ≤ r ∧ ∃ o : Obj, W.heap[r]? = some o ∧ o.isCells = false := fun r e => by cases e
      obtain ⟨hsi, hnB⟩ := hi
      exact th_n (hK _ _ (kf_of hst.below) (kx_of hst.below) ⟨hsi.grown hsz ⟨cf_bk, cf_bk, cf_bk, cf_bk, cf_bk, cf_bk, trivial⟩ ⟨cf_bk, cf_rowT (fun _ _ h => h) (by decide), cf_rowT (fun _ _ h => h) (by decide), trivial⟩ hg0 hr0, (Nat.le_trans hnB hg0.size)⟩ ⟨g73, Nat.le_trans hnB (hst.oge (k := 0) rfl), henv.sub ⟨rfl, rfl, rfl, rfl, rfl, rfl, rfl, rfl, trivial⟩, hst.oat (k := 0) rfl⟩)
    · rintro ix pre ⟨xj, x1, x2, x3, x4, x5⟩ a W hI ⟨g4, hg4, henv, hgb⟩ hlt
      obtain ⟨hst, hnB⟩ := hI
      exact absurd hlt (Nat.not_lt_zero _)
    · intro D76 xs W a hD76 hS hI hK henv
      obtain ⟨hst, hnB⟩ := hI
      subst hS
      rw [show ([] : List YE).length = 0 from rfl] at hst
      replace hst := hst.addD ⟨cf_bk, cf_bk, cf_bk, cf_bk, cf_bk, cf_bk, trivial⟩ hK
      have hDD76 := Nat.le_trans hsz hD76
      refine bl_n (th_n ?_)
      refine wp_seq ?_
      refine region_seq ?_
      revert a
      refine sA (v := .int .i64 0) rfl (fun _ henv => rn_load1 henv ty_int rfl (hst.oat (k := 0) rfl) rfl) ?_
      refine sA (v := .int .i64 0) rfl (fun _ henv => rn_load1 henv ty_int rfl (hst.oat (k := 5) rfl) rfl) ?_
      refine sA (v := .bool false) rfl (fun _ henv => rn_bin henv rfl rfl rfl) ?_
      refine mA rfl rfl ?_
      refine kA rfl rfl rfl rfl rfl ?_
      refine kA rfl rfl rfl rfl rfl ?_
      refine kA rfl rfl rfl rfl rfl ?_
      refine kA rfl rfl rfl rfl rfl ?_
      refine kA rfl rfl rfl rfl rfl ?_
      refine kA rfl rfl rfl rfl rfl ?_
      refine kA rfl rfl rfl rfl rfl ?_
      refine kA rfl rfl rfl rfl rfl ?_
      refine sA (v := .bool false) rfl (fun _ henv => rn_pick henv rfl rfl) ?_
      intro a henv
      refine wpList_nil ?_
      refine th_n ?_
      refine if_f henv rfl (rfl) ?_
      refine wp_skip ?_
      refine bl_n (th_n ?_)
      refine wp_seq ?_
      refine wp_seq ?_
      refine region_seq ?_
      refine sv (v := .int .i64 0) henv rfl (rn_load1 henv ty_int rfl (hst.oat (k := 1) rfl) rfl) ?_
      clear henv a; intro a henv
      refine wpList_nil ?_
      refine th_n ?_
      refine region_seq ?_
      refine seq_step rfl (op_alloc (c := #[.int .i64 0]) henv hst rfl zero_int rfl ?_)
      clear henv hst a; intro a w78 g77 henv hst
      refine seq_step rfl (op_store1 (k := 0) (c' := #[.int .i64 0]) henv hst (ty_int.size) rfl rfl rfl (by simp) rfl rfl ?_)
      clear henv hst a; intro a w79 henv hst
      refine wpList_nil ?_
      refine th_n ?_
      refine region_seq ?_
      revert a
      refine sA (v := .int .i64 0) rfl (fun _ henv => rn_load1 henv ty_int rfl (hst.oat (k := 0) rfl) rfl) ?_
      refine sA (v := .int .i64 1) rfl (fun _ henv => rn_bin henv rfl rfl rfl) ?_
      intro a henv
      refine seq_step rfl (op_store1 (k := 0) (c' := #[.int .i64 1]) henv hst (ty_int.size) rfl rfl rfl (by simp) rfl rfl ?_)
      clear henv hst a; intro a w80 henv hst
      refine wpList_nil ?_
      exact th_n ⟨_, (by decide), (.inr (.inl ⟨D76, g77, rfl, henv.sub ⟨rfl, rfl, rfl, rfl, rfl, rfl, trivial⟩, hst.pick [0, 3, 4, 5, 6] [0, 1, 2, 3] (by decide), hDD76⟩))⟩
    · intro D81 c pre W a hD81 hS hI hK henv
      exact hS.elim
  · refine wp_seq ?_
    refine wp_seq ?_
    refine region_seq ?_
    revert a
    refine sA (v := .int .i64 1) rfl (fun _ henv => rn_load1 henv ty_int rfl (hst.oat (k := 0) rfl) rfl) ?_
    refine sA (v := .bool true) rfl (fun _ henv => rn_bin henv rfl rfl rfl) ?_
    intro a henv
    refine wpList_nil ?_
    refine th_n ?_
    refine if_t henv rfl (rfl) ?_
    refine wp_skip ?_
    refine th_n ?_
    refine wp_seq ?_
    refine wp_block ?_
    refine wp_seq ?_
    refine region_seq ?_
    refine seq_step rfl (op_alloc (c := #[.int .i64 0]) henv hst rfl zero_int rfl ?_)
    clear henv hst a; intro a w83 g82 henv hst
    refine seq_step rfl (op_store1 (k := 0) (c' := #[.int .i64 0]) henv hst (ty_int.size) rfl rfl rfl (by simp) rfl rfl ?_)
    clear henv hst a; intro a w84 henv hst
    refine wpList_nil ?_
    refine th_n ?_
    refine wp_seq ?_
    refine wp_seq ?_
    refine region_seq ?_
    refine sv (v := .func (.func 36) #[] #[.pointer (some ⟨gB, 0, none⟩)]) henv rfl (rn_move henv rfl) ?_
    clear henv a; intro a henv
    refine wpList_nil ?_
    refine th_n ?_
    refine wp_block ?_
    have hsz := hst.below.size
    have hlow0 := low_of hst
    have hDk : _ = _ := hst.pat (k := 0) rfl
    have hD1lt := lt_of_block hDk
    refine wp_rangeO (α := YE) (enc := encI) (enc' := encJ) henv rfl Tryd.call36 rfl rfl (back_bad ⟨hst.pat (k := 1) rfl, hst.pat (k := 3) rfl, hst.pat (k := 2) rfl⟩ hR) kx_trans (fun Y o o' h hc => kx_put h hc) (fun pre W => St w0 W [bk g82 #[.int .i64 (pre.length : Nat)] 3, bk g8 #[.int .i64 1] 3, bk g51 #[.int .i64 i, .int .i64 g, .slice A0 n0 c0, .slice A1 n1 c1] 25, bk g53 #[.int .i64 k] 3, bk g55 #[.bool false] 4, bk g60 #[.int .i64 0] 3] [bk gB #[.int .i64 i, .int .i64 g, .slice A0 n0 c0, .slice A1 n1 c1] 25, pfRow fI FI 1 A1 n1 c1 es1, pfRow fJ FJ 5 A0 n0 c0 es0] ∧ w84.heap.size ≤ W.heap.size ∧ W.heap[D1]? = some (.deferred (some []))) (fun c pre W => (c = .ret ∧ Mis es0 n0 pre)) (fun _ _ _ _ ⟨hst, hnB, hDk⟩ hg hr => ⟨hst.grown hsz ⟨cf_bk, cf_bk, cf_bk, cf_bk, cf_bk, cf_bk, trivial⟩ ⟨cf_bk, cf_rowT (fun _ _ h => h) (by decide), cf_rowT (fun _ _ h => h) (by decide), trivial⟩ hg hr, Nat.le_trans hnB hg.size, (hg.block D1 (lt_of_block hDk) (fun e => by have := (hr _ e.symm).1; omega)).trans hDk⟩) (fun _ _ _ _ _ h _ _ => h) ⟨hst.pick [0, 1, 2, 3, 4, 5] [1, 2, 3] (by decide), Nat.le_refl _, hDk⟩ (fun x a' W => ∃ g4, w84.heap.size ≤ g4 ∧ EnvD [] 81 a' [(2, .pointer (some ⟨g51, 0, none⟩)), (3, .pointer (some ⟨g53, 0, none⟩)), (4, .pointer (some ⟨g55, 0, none⟩)), (6, .pointer (some ⟨g60, 0, none⟩)), (8, .pointer (some ⟨g8, 0, none⟩)), (9, .pointer (some ⟨g82, 0, none⟩)), (10, .int .i64 (x.1 : Nat)), (11, .pointer (some ⟨g4, 0, none⟩))] ∧ (bk g4 #[.int .i64 x.2.1, .int .i64 x.2.2.1, .int .i64 x.2.2.2.1, .int .i64 x.2.2.2.2.1, .int .i64 x.2.2.2.2.2] 37).P W) (fun x a' s Y Z row hs hg hr => hs.elim fun g4 h => ⟨g4, h.1, h.2.1, own_keep cf_bk h.2.2 hg hr⟩) ?_ ?_ ?_ ?_
    · intro ix pre x W K hi hK a henv
      have hst := St.start W
      refine wpIn_seq ?_
      refine region_in ?_
      refine in_step rfl (fun _ h => by cases h) (op_val (v := .int .i64 (x.1 : Nat)) henv rfl (rn_assign henv rfl) ?_)
      clear henv a; intro a henv
      refine in_nil ?_
      refine th_n ?_
      refine region_in ?_
      refine in_step rfl (fun _ h => by cases h) (op_alloc (c := #[.int .i64 0, .int .i64 0, .int .i64 0, .int .i64 0, .int .i64 0]) henv hst rfl zero_anvil_api_Instr rfl ?_)
      clear henv hst a; intro a w86 g85 henv hst
      refine in_step rfl (fun _ h => by cases h) (op_store (k := 0) (c' := #[.int .i64 x.2.1, .int .i64 x.2.2.1, .int .i64 x.2.2.2.1, .int .i64 x.2.2.2.2.1, .int .i64 x.2.2.2.2.2]) henv hst (ty_anvil_api_Instr.size) rfl rfl rfl rfl (by simp) rfl rfl ?_)
      clear henv hst a; intro a w87 henv hst
      refine in_nil ?_
      have hg0 := grown_of hst.below
      have hr0 : ∀ r, (none : Option Nat) = some r → w84.heap.size ≤ r ∧ ∃ o : Obj, W.heap[r]? = some o ∧ o.isCells = false := fun r e => by cases e
      obtain ⟨hsi, hnB, hDk⟩ := hi
      exact th_n (hK _ _ (kf_of hst.below) (kx_of hst.below) ⟨hsi.grown hsz ⟨cf_bk, cf_bk, cf_bk, cf_bk, cf_bk, cf_bk, trivial⟩ ⟨cf_bk, cf_rowT (fun _ _ h => h) (by decide), cf_rowT (fun _ _ h => h) (by decide), trivial⟩ hg0 hr0, (Nat.le_trans hnB hg0.size), ((hg0.block D1 (lt_of_block hDk) (fun e => by have := (hr0 _ e.symm).1; omega)).trans hDk)⟩ ⟨g85, Nat.le_trans hnB (hst.oge (k := 0) rfl), henv.sub ⟨rfl, rfl, rfl, rfl, rfl, rfl, rfl, rfl, trivial⟩, hst.oat (k := 0) rfl⟩)
    · rintro ix pre ⟨xj, x1, x2, x3, x4, x5⟩ a W hI ⟨g4, hg4, henv, hgb⟩ hlt
      obtain ⟨hst, hnB, hDk⟩ := hI
      exact absurd hlt (Nat.not_lt_zero _)
    · intro D88 xs W a hD88 hS hI hK henv
      obtain ⟨hst, hnB, hDk⟩ := hI
      subst hS
      rw [show ([] : List YE).length = 0 from rfl] at hst
      replace hst := hst.addD ⟨cf_bk, cf_bk, cf_bk, cf_bk, cf_bk, cf_bk, trivial⟩ hDk
      replace hst := hst.addD ⟨cf_bk, cf_bk, cf_bk, cf_bk, cf_bk, cf_bk, trivial⟩ hK
      have hDD88 := Nat.le_trans hsz hD88
      refine bl_n (th_n ?_)
      refine wp_seq ?_
      refine region_seq ?_
      revert a
      refine sA (v := .int .i64 0) rfl (fun _ henv => rn_load1 henv ty_int rfl (hst.oat (k := 0) rfl) rfl) ?_
      refine sA (v := .int .i64 0) rfl (fun _ henv => rn_load1 henv ty_int rfl (hst.oat (k := 5) rfl) rfl) ?_
      refine sA (v := .bool false) rfl (fun _ henv => rn_bin henv rfl rfl rfl) ?_
      refine mA rfl rfl ?_
      refine kA rfl rfl rfl rfl rfl ?_
      refine kA rfl rfl rfl rfl rfl ?_
      refine kA rfl rfl rfl rfl rfl ?_
      refine kA rfl rfl rfl rfl rfl ?_
      refine kA rfl rfl rfl rfl rfl ?_
      refine kA rfl rfl rfl rfl rfl ?_
      refine kA rfl rfl rfl rfl rfl ?_
      refine kA rfl rfl rfl rfl rfl ?_
      refine sA (v := .bool false) rfl (fun _ henv => rn_pick henv rfl rfl) ?_
      intro a henv
      refine wpList_nil ?_
      refine th_n ?_
      refine if_f henv rfl (rfl) ?_
      refine wp_skip ?_
      refine bl_n (th_n ?_)
      refine wp_seq ?_
      refine wp_seq ?_
      refine region_seq ?_
      refine sv (v := .int .i64 1) henv rfl (rn_load1 henv ty_int rfl (hst.oat (k := 1) rfl) rfl) ?_
      clear henv a; intro a henv
      refine wpList_nil ?_
      refine th_n ?_
      refine region_seq ?_
      refine seq_step rfl (op_alloc (c := #[.int .i64 0]) henv hst rfl zero_int rfl ?_)
      clear henv hst a; intro a w90 g89 henv hst
      refine seq_step rfl (op_store1 (k := 0) (c' := #[.int .i64 1]) henv hst (ty_int.size) rfl rfl rfl (by simp) rfl rfl ?_)
      clear henv hst a; intro a w91 henv hst
      refine wpList_nil ?_
      refine th_n ?_
      refine region_seq ?_
      revert a
      refine sA (v := .int .i64 1) rfl (fun _ henv => rn_load1 henv ty_int rfl (hst.oat (k := 0) rfl) rfl) ?_
      refine sA (v := .int .i64 2) rfl (fun _ henv => rn_bin henv rfl rfl rfl) ?_
      intro a henv
      refine seq_step rfl (op_store1 (k := 0) (c' := #[.int .i64 2]) henv hst (ty_int.size) rfl rfl rfl (by simp) rfl rfl ?_)
      clear henv hst a; intro a w92 henv hst
      refine wpList_nil ?_
      exact th_n ⟨_, (by decide), (.inr (.inr ⟨D1, D88, g89, rfl, henv.sub ⟨rfl, rfl, rfl, rfl, rfl, rfl, trivial⟩, hst.pick [0, 3, 4, 5, 6] [0, 1, 2, 3, 4] (by decide), hDD1, hDD88, (Nat.lt_of_lt_of_le hD1lt hD88)⟩))⟩
    · intro D93 c pre W a hD93 hS hI hK henv
      exact hS.elim
  · refine wp_seq ?_
    refine wp_seq ?_
    refine region_seq ?_
    revert a
    refine sA (v := .int .i64 2) rfl (fun _ henv => rn_load1 henv ty_int rfl (hst.oat (k := 0) rfl) rfl) ?_
    refine sA (v := .bool false) rfl (fun _ henv => rn_bin henv rfl rfl rfl) ?_
    intro a henv
    refine wpList_nil ?_
    refine th_n ?_
    refine if_f henv rfl (rfl) ?_
    refine wp_exit ?_
    refine th_x (th_x (bl_x (th_n ?_)))
    refine wp_seq ?_
    refine region_seq ?_
    refine seq_step rfl (op_store1 (k := 3) (c' := #[.bool true]) henv hst (ty_bool.size) rfl rfl rfl (by simp) rfl rfl ?_)
    clear henv hst a; intro a w94 henv hst
    refine wpList_nil ?_
    refine th_n ?_
    refine wp_ret ?_
    have hdD2 : _ = _ := hst.pat (k := 0) rfl
    have hdD1 : _ = _ := hst.pat (k := 1) rfl
    replace hst : St w0 _ [bk g8 #[.int .i64 2] 3, bk g51 #[.int .i64 i, .int .i64 g, .slice A0 n0 c0, .slice A1 n1 c1] 25, bk g53 #[.int .i64 k] 3, bk g55 #[.bool true] 4, bk g60 #[.int .i64 0] 3] [bk gB #[.int .i64 i, .int .i64 g, .slice A0 n0 c0, .slice A1 n1 c1] 25] := hst.pick [0, 1, 2, 3, 4] [2] (by decide)
    have hneD1 : D1 ≠ D2 := by omega
    replace hst := hst.putD0 hdD2 hDD2 ⟨cf_bk, cf_bk, cf_bk, cf_bk, cf_bk, trivial⟩ ⟨cf_bk, trivial⟩
    replace hdD1 := putD_other (o' := .deferred none) hdD1 hneD1
    replace hst := hst.putD0 hdD1 hDD1 ⟨cf_bk, cf_bk, cf_bk, cf_bk, cf_bk, trivial⟩ ⟨cf_bk, trivial⟩
    refine leaveM2 henv hdD2 hdD1 (res1 Tryd.results4 (RV.cell1 henv ty_bool rfl (hst.oat (k := 3) rfl) rfl)) ?_
    exact ⟨rfl, hst.below⟩
theorem gback_law {i g k : Int} {A0 A1 : Option Addr} {n0 c0 n1 c1 : Nat} {es0 : List IE} {es1 : List Int} {w0 : World} (h0 : (pfRow fJ FJ 5 A0 n0 c0 es0).P w0) (h1 : (pfRow fI FI 1 A1 n1 c1 es1).P w0) :
    Calls Tryd.prog 4 #[.agg #[.int .i64 i, .int .i64 g, .slice A0 n0 c0, .slice A1 n1 c1], .int .i64 k] w0 fun e w' => e = .returned (.bool true) ∧ Below w0.heap.size w0 w' := by
  by_cases a : 400 < n0 ∨ 400 < n1
  · exact gback_w h0 h1 a
  rcases right_or i g n0 n1 es0 es1 with h | ⟨q, h⟩
  · exact gback_ok h0 h1 a h
  · exact gback_bad h0 h1 a h
end Go.Proofs.YtbdngknpngcojaaDoor.W
