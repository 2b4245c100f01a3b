/- strconv.Itoa of one digit, live; ProgChecks. Printed by pv/gen_g2.py. No condition. -/
import Derived.Test.YtbdngknpngcojaaDoorM48
import Derived.Test.YtbdngknpngcojaaDoorM15
import Derived.Test.YtbdngknpngcojaaDoorM46
import Derived.Test.YtbdngknpngcojaaDoorM16
import Derived.Test.YtbdngknpngcojaaDoorM40
import Derived.Test.YtbdngknpngcojaaDoorM36
import Derived.Test.YtbdngknpngcojaaDoorM47

namespace Go.Proofs.YtbdngknpngcojaaDoor.W
open Go.RowKit Anv Go.Lib
theorem small_text {n : Nat} (h : n < 10) : (([48, 49, 50, 51, 52, 53, 54, 55, 56, 57, 97, 98, 99, 100, 101, 102, 103, 104, 105, 106, 107, 108, 109, 110, 111, 112, 113, 114, 115, 116, 117, 118, 119, 120, 121, 122] : List UInt8).drop n).take (n + 1 - n) = textZ (n : Nat) := by
  have : ∀ m : Fin 10, (([48, 49, 50, 51, 52, 53, 54, 55, 56, 57, 97, 98, 99, 100, 101, 102, 103, 104, 105, 106, 107, 108, 109, 110, 111, 112, 113, 114, 115, 116, 117, 118, 119, 120, 121, 122] : List UInt8).drop m.1).take (m.1 + 1 - m.1) = textZ (m.1 : Nat) := by decide +kernel
  exact this ⟨n, h⟩
theorem tz1 : textZ 1 = [49] := by decide +kernel
theorem tz0 : textZ 0 = [48] := by decide +kernel
def outT (r : Int) : List UInt8 := 32 :: 114 :: textZ r
theorem one_out : ((([0] : List Int).take 0).flatMap outT) = [] := rfl
theorem one_outs : (([0] : List Int).take 1).flatMap outT = [32, 114, 48] := by simp [outT, tz0]
theorem out_step {X : List UInt8} {es : List Int} {j : Nat} (h : es[j]? = some 0) : (X ++ (es.take j).flatMap outT) ++ ([32] ++ [114, 48]) = X ++ (es.take (j + 1)).flatMap outT := by
  rw [take_one h, List.flatMap_append, List.append_assoc, show ([0] : List Int).flatMap outT = [32] ++ [114, 48] by simp [outT, tz0]]
theorem right_one : Right 1 1 0 1 [] [0] := ⟨by unfold HeadOk; omega, fun x hx => by rw [List.mem_singleton.1 hx]; omega, fun e h => by cases h⟩
section
variable {N : Nat} {dq : List Deferred} {a : Act} {l : List (Nat × Value)} {w : World} {d : Nat} {ty : TypeId} {pos : String} {af : Array Edge} {gd : Option (Nat × Bool)}
theorem rn_prog013 {x0 x1 x3 : Operand} {v0 : Int} {v1 : Int} {A3 : Option Addr} {n3 c3 : Nat} (h : EnvD dq N a l) (h0 : evl l x0 = some (.int .i64 v0)) (h1 : evl l x1 = some (.int .i64 v1)) (h3 : evl l x3 = some (.slice A3 n3 c3)) :
    (execOp a.eval ⟨some d, .build 25 #[(0, x0), (1, x1), (3, x3)], ty, pos, af, gd⟩).run Tryd.prog w = .ok (.value (.agg #[.int .i64 v0, .int .i64 v1, .slice none 0 0, .slice A3 n3 c3])) w := by
  have hz : (zeroValue 25).run Tryd.prog w = .ok (.agg #[.int .i64 0, .int .i64 0, .slice none 0 0, .slice none 0 0]) w := by obtain ⟨i, hi, hv⟩ := zero_anvil_api_Prog; simp [zeroValue, typeInfo, hi, hv]
  simp [execOp, h.ev h0, h.ev h1, h.ev h3, Instr.build, hz, run_underlying Tryd.underlying25, Sem.run_bind, run_sizeOf ty_int.size, run_sizeOf ty__api_Instr.size, run_sizeOf ty__int.size, Instr.fill, Value.cells]
end
set_option maxRecDepth 100000 in
set_option maxHeartbeats 2000000 in
theorem g_small {n : Nat} {w0 : World} (hn : n < 10) :
    Calls Tryd.prog 78 #[.int .i64 (n : Nat)] w0 fun e w' => e = .returned (.string ⟨(textZ (n : Nat)).toArray⟩) ∧ Below w0.heap.size w0 w' := by
  refine enter Tryd.func78 rfl Tryd.ntmps78 rfl ?_
  intro a henv hst
  refine wp_seq ?_
  refine region_seq ?_
  refine sv (v := .string ⟨#[]⟩) henv rfl (rn_assign henv rfl) ?_
  clear henv a; intro a henv
  refine wpList_nil ?_
  refine th_n ?_
  refine wp_seq ?_
  refine wp_seq ?_
  refine region_seq ?_
  revert a
  refine mA rfl rfl ?_
  refine sA (v := .bool (decide (((n : Nat) : Int) < (10 : Int)))) rfl (fun _ henv => rn_bin henv rfl rfl rfl) ?_
  intro a henv
  rw [show (decide (((n : Nat) : Int) < (10 : Int))) = true from (decide_eq_true (by omega))] at henv
  refine wpList_nil ?_
  refine th_n ?_
  refine if_t henv rfl (rfl) ?_
  refine wp_seq ?_
  refine region_seq ?_
  revert a
  refine mA rfl rfl ?_
  refine mA rfl rfl ?_
  refine sA (v := .int .i64 (n + 1 : Nat)) rfl (fun _ henv => rn_add henv rfl rfl (by rw [IntWalk.i64_in _ (by omega)]; omega)) ?_
  refine sA (v := .string ⟨((([48, 49, 50, 51, 52, 53, 54, 55, 56, 57, 97, 98, 99, 100, 101, 102, 103, 104, 105, 106, 107, 108, 109, 110, 111, 112, 113, 114, 115, 116, 117, 118, 119, 120, 121, 122]).drop n).take ((n + 1) - n)).toArray⟩) rfl (fun _ henv => rn_cutS (n := n) (m := n + 1) henv Tryd.underlying9 rfl rfl rfl (by (try simp only [List.length_append, List.length_cons, List.length_nil, tz1, tz0]); omega) (by (try simp only [List.length_append, List.length_cons, List.length_nil, tz1, tz0]); omega)) ?_
  refine aA rfl rfl ?_
  intro a henv
  refine wpList_nil ?_
  refine th_n ?_
  refine wp_ret ?_
  refine th_r ?_
  refine leave henv (res1 Tryd.results78 (RV.tmp henv rfl)) ?_
  exact ⟨by rw [small_text hn], hst.below⟩
set_option maxRecDepth 100000 in
set_option maxHeartbeats 2000000 in
theorem g_format {n : Nat} {w0 : World} (hn : n < 10) :
    Calls Tryd.prog 71 #[.int .i64 (n : Nat), .int .i64 10] w0 fun e w' => e = .returned (.string ⟨(textZ (n : Nat)).toArray⟩) ∧ Below w0.heap.size w0 w' := by
  refine enter Tryd.func71 rfl Tryd.ntmps71 rfl ?_
  intro a henv hst
  refine wp_seq ?_
  refine region_seq ?_
  refine sv (v := .string ⟨#[]⟩) henv rfl (rn_assign henv rfl) ?_
  clear henv a; intro a henv
  refine wpList_nil ?_
  refine th_n ?_
  refine wp_seq ?_
  refine wp_seq ?_
  refine region_seq ?_
  revert a
  refine mA rfl rfl ?_
  refine sA (v := .bool true) rfl (fun _ henv => rn_bin henv rfl rfl rfl) ?_
  intro a henv
  refine wpList_nil ?_
  refine th_n ?_
  refine if_t henv rfl (rfl) ?_
  refine wp_seq ?_
  refine wp_seq ?_
  refine region_seq ?_
  revert a
  refine mA rfl rfl ?_
  refine sA (v := .bool (decide ((0 : Int) ≤ ((n : Nat) : Int)))) rfl (fun _ henv => rn_bin henv rfl rfl rfl) ?_
  intro a henv
  rw [show (decide ((0 : Int) ≤ ((n : Nat) : Int))) = true from (decide_eq_true (by omega))] at henv
  revert a
  refine mA rfl rfl ?_
  refine gA (v := .int .i64 (n : Nat)) rfl rfl rfl rfl (fun _ henv => rn_move henv rfl) ?_
  refine gA (v := .bool (decide (((n : Nat) : Int) < (100 : Int)))) rfl rfl rfl rfl (fun _ henv => rn_bin henv rfl rfl rfl) ?_
  intro a henv
  rw [show (decide (((n : Nat) : Int) < (100 : Int))) = true from (decide_eq_true (by omega))] at henv
  refine sv (v := .bool true) henv rfl (rn_pick henv rfl rfl) ?_
  clear henv a; intro a henv
  refine wpList_nil ?_
  refine th_n ?_
  refine if_t henv rfl (rfl) ?_
  refine wp_seq ?_
  refine region_seq ?_
  refine sv (v := .int .i64 (n : Nat)) henv rfl (rn_move henv rfl) ?_
  clear henv a; intro a henv
  refine seq_step rfl (op_call henv rfl Tryd.call78 rfl (g_small hn) ?_)
  rintro e w51 ⟨rfl, hb⟩
  refine ⟨_, rfl, ?_⟩
  clear henv a; intro a henv
  replace hst := hst.call hb
  clear hb
  refine sv (v := .string ⟨(textZ (n : Nat)).toArray⟩) henv rfl (rn_assign henv rfl) ?_
  clear henv a; intro a henv
  refine wpList_nil ?_
  refine th_n ?_
  refine wp_ret ?_
  refine th_r (th_r ?_)
  refine leave henv (res1 Tryd.results71 (RV.tmp henv rfl)) ?_
  exact ⟨rfl, hst.below⟩
set_option maxRecDepth 100000 in
set_option maxHeartbeats 2000000 in
theorem g_itoa0 {n : Nat} {w0 : World} (hn : n < 10) :
    Calls Tryd.prog 61 #[.int .i64 (n : Nat)] w0 fun e w' => e = .returned (.string ⟨(textZ (n : Nat)).toArray⟩) ∧ Below w0.heap.size w0 w' := by
  refine enter Tryd.func61 rfl Tryd.ntmps61 rfl ?_
  intro a henv hst
  refine wp_seq ?_
  refine region_seq ?_
  refine sv (v := .string ⟨#[]⟩) henv rfl (rn_assign henv rfl) ?_
  clear henv a; intro a henv
  refine wpList_nil ?_
  refine th_n ?_
  refine wp_seq ?_
  refine region_seq ?_
  refine sv (v := .int .i64 (n : Nat)) henv rfl (rn_move henv rfl) ?_
  clear henv a; intro a henv
  refine seq_step rfl (op_call henv rfl Tryd.call71 rfl (g_format hn) ?_)
  rintro e w51 ⟨rfl, hb⟩
  refine ⟨_, rfl, ?_⟩
  clear henv a; intro a henv
  replace hst := hst.call hb
  clear hb
  refine sv (v := .string ⟨(textZ (n : Nat)).toArray⟩) henv rfl (rn_assign henv rfl) ?_
  clear henv a; intro a henv
  refine wpList_nil ?_
  refine th_n ?_
  refine wp_ret ?_
  refine leave henv (res1 Tryd.results61 (RV.tmp henv rfl)) ?_
  exact ⟨rfl, hst.below⟩
set_option maxRecDepth 100000 in
set_option maxHeartbeats 2000000 in
theorem g_itoa {n : Nat} {w0 : World} (hn : n < 10) :
    Calls Tryd.prog 45 #[.int .i64 (n : Nat)] w0 fun e w' => e = .returned (.string ⟨(textZ (n : Nat)).toArray⟩) ∧ Below w0.heap.size w0 w' := by
  refine enter Tryd.func45 rfl Tryd.ntmps45 rfl ?_
  intro a henv hst
  refine wp_seq ?_
  refine region_seq ?_
  refine sv (v := .string ⟨#[]⟩) henv rfl (rn_assign henv rfl) ?_
  clear henv a; intro a henv
  refine wpList_nil ?_
  refine th_n ?_
  refine wp_seq ?_
  refine region_seq ?_
  refine sv (v := .int .i64 (n : Nat)) henv rfl (rn_move henv rfl) ?_
  clear henv a; intro a henv
  refine seq_step rfl (op_call henv rfl Tryd.call61 rfl (g_itoa0 hn) ?_)
  rintro e w51 ⟨rfl, hb⟩
  refine ⟨_, rfl, ?_⟩
  clear henv a; intro a henv
  replace hst := hst.call hb
  clear hb
  refine sv (v := .string ⟨(textZ (n : Nat)).toArray⟩) henv rfl (rn_assign henv rfl) ?_
  clear henv a; intro a henv
  refine wpList_nil ?_
  refine th_n ?_
  refine wp_ret ?_
  refine leave henv (res1 Tryd.results45 (RV.tmp henv rfl)) ?_
  exact ⟨rfl, hst.below⟩
set_option maxRecDepth 100000 in
set_option maxHeartbeats 2000000 in
theorem g_reg0 {w0 : World} :
    Calls Tryd.prog 47 #[.int .i64 0] w0 fun e w' => e = .returned (.string ⟨[114, 48].toArray⟩) ∧ Below w0.heap.size w0 w' := by
  refine enter Tryd.func47 rfl Tryd.ntmps47 rfl ?_
  intro a henv hst
  refine wp_seq ?_
  refine region_seq ?_
  refine sv (v := .string ⟨#[]⟩) henv rfl (rn_assign henv rfl) ?_
  clear henv a; intro a henv
  refine wpList_nil ?_
  refine th_n ?_
  refine wp_seq ?_
  refine region_seq ?_
  refine sv (v := .int .i64 0) henv rfl (rn_move henv rfl) ?_
  clear henv a; intro a henv
  refine seq_step rfl (op_call henv rfl Tryd.call45 rfl (g_itoa (n := 0) (by decide)) ?_)
  rintro e w51 ⟨rfl, hb⟩
  refine ⟨_, rfl, ?_⟩
  clear henv a; intro a henv
  replace hst := hst.call hb
  clear hb
  revert a
  refine sA (v := .string ⟨(([114]) ++ (textZ (0 : Int))).toArray⟩) rfl (fun _ henv => rn_catS (s := [114]) (t := (textZ (0 : Int))) henv rfl rfl (by (try simp only [List.length_append, List.length_cons, List.length_nil, tz1, tz0]); omega)) ?_
  refine aA rfl rfl ?_
  intro a henv
  refine wpList_nil ?_
  refine th_n ?_
  refine wp_ret ?_
  refine leave henv (res1 Tryd.results47 (RV.tmp henv rfl)) ?_
  exact ⟨by rw [show textZ 0 = [48] by decide +kernel]; rfl, hst.below⟩
set_option maxRecDepth 100000 in
set_option maxHeartbeats 4000000 in
theorem g_text1 {A1 : Option Addr} {c1 : Nat} {w0 : World} (h1 : (pfRow fI FI 1 A1 1 c1 ([0])).P w0) :
    Calls Tryd.prog 31 #[.agg #[.int .i64 1, .int .i64 1, .slice none 0 0, .slice A1 1 c1]] w0 fun e w' => e = .returned (.tuple #[.string ⟨[105, 110, 32, 49, 32, 114, 101, 103, 115, 32, 49, 10, 111, 117, 116, 32, 114, 48, 10].toArray⟩, .int .i64 0]) ∧ Below w0.heap.size w0 w' := by
  refine enter Tryd.func31 rfl Tryd.ntmps31 rfl ?_
  intro a henv hst
  replace hst := hst.argRow h1
  refine wp_seq ?_
  refine region_seq ?_
  refine seq_step rfl (op_box (c := #[.int .i64 1, .int .i64 1, .slice none 0 0, .slice A1 1 c1]) henv hst rfl rfl rfl ?_)
  clear henv hst a; intro a w52 g51 henv hst
  revert a
  refine aA rfl rfl ?_
  refine aA rfl rfl ?_
  intro a henv
  refine wpList_nil ?_
  refine th_n ?_
  refine wp_seq ?_
  refine wp_seq ?_
  refine region_seq ?_
  refine sv (v := .agg #[.int .i64 1, .int .i64 1, .slice none 0 0, .slice A1 1 c1]) henv rfl (rn_load0 henv ty_anvil_api_Prog rfl (hst.oat (k := 0) rfl) rfl) ?_
  clear henv a; intro a henv
  refine seq_step rfl (op_call henv rfl Tryd.call37 rfl (g_right_ok (es0 := []) (es1 := [0]) (row_nil fJ FJ 5 _) (hst.pat (k := 0) rfl) right_one) ?_)
  rintro e w53 ⟨rfl, hb⟩
  refine ⟨_, rfl, ?_⟩
  clear henv a; intro a henv
  replace hst := hst.call hb
  clear hb
  refine sv (v := .bool false) henv rfl (rn_un henv rfl rfl) ?_
  clear henv a; intro a henv
  refine wpList_nil ?_
  refine th_n ?_
  refine if_f henv rfl (rfl) ?_
  refine wp_skip ?_
  refine th_n ?_
  refine wp_seq ?_
  refine region_seq ?_
  refine seq_step rfl (op_alloc (c := #[.pointer none, .slice none 0 0]) henv hst rfl zero_strings_Builder rfl ?_)
  clear henv hst a; intro a w55 g54 henv hst
  refine wpList_nil ?_
  replace hst := hst.bld (k := 0) rfl
  replace hst : St w0 _ [bldF g54 (.slice none 0 0) ([] : List UInt8).length (byteCells ([] : List UInt8)), bk g51 #[.int .i64 1, .int .i64 1, .slice none 0 0, .slice A1 1 c1] 25] [pfRow fI FI 1 A1 1 c1 ([0])] := hst
  refine th_n ?_
  refine wp_seq ?_
  refine region_any (n := 11) (Sk [bk g51 #[.int .i64 1, .int .i64 1, .slice none 0 0, .slice A1 1 c1] 25] [pfRow fI FI 1 A1 1 c1 ([0])] [] []) mixed rfl henv hst ?_
  clear henv hst; intro w56 henv hst
  refine tA (i := 0) [1, 2, 3, 4, 7, 8, 9, 10] (v := .pointer (some ⟨g51, 0, none⟩)) rfl (by kernel_rfl) (fun _ _ _ h => h) henv rfl (fun _ => rn_fieldAddr henv fd_anvil_api_Prog_0 (ty_int.size) (by decide) rfl) ?_
  clear henv a; intro a henv
  refine sAny_take (i := 1) [2, 3, 4, 7, 8, 9, 10] (fun w' => w'.heap[g51]? = some (.cells #[.int .i64 1, .int .i64 1, .slice none 0 0, .slice A1 1 c1] 25 (0, 0))) (v := .int .i64 1) rfl (by kernel_rfl) (fun _ _ _ h => h) (fun _ _ _ hS => hS.1.oat (k := 0) rfl) henv rfl (hst.oat (k := 1) rfl) (fun w' hg => rn_load1 henv ty_int rfl hg rfl) ?_
  clear henv a; intro a henv
  refine tA (i := 5) (rg 6 5) (v := .pointer (some ⟨g51, 1, none⟩)) rfl (by kernel_rfl) (fun _ _ _ h => h) henv rfl (fun _ => rn_fieldAddr henv fd_anvil_api_Prog_1 (ty_int.size) (by decide) rfl) ?_
  clear henv a; intro a henv
  refine sAny_take (i := 6) [7, 8, 9, 10] (fun w' => w'.heap[g51]? = some (.cells #[.int .i64 1, .int .i64 1, .slice none 0 0, .slice A1 1 c1] 25 (0, 0))) (v := .int .i64 1) rfl (by kernel_rfl) (fun _ _ _ h => h) (fun _ _ _ hS => hS.1.oat (k := 0) rfl) henv rfl (hst.oat (k := 1) rfl) (fun w' hg => rn_load1 henv ty_int rfl hg rfl) ?_
  clear henv a; intro a henv
  refine sAny_one (i := 2) (by kernel_rfl) rfl rfl (op_call henv rfl Tryd.call45 rfl (g_itoa (n := 1) (by decide)) ?_)
  rintro e w57 ⟨rfl, hb⟩
  refine ⟨_, rfl, ?_⟩
  clear henv a; intro a henv
  replace hst := hst.call hb
  clear hb
  refine ⟨.inr ⟨hst.kn.pick [1] [0], .inr (hst.kn.pick [] [])⟩, ?_⟩
  refine tA (i := 3) [4, 8, 9, 10] (v := .string ⟨(([105, 110, 32]) ++ (textZ (1 : Int))).toArray⟩) rfl (by kernel_rfl) (fun _ _ _ h => h) henv rfl (fun _ => rn_catS (s := [105, 110, 32]) (t := (textZ (1 : Int))) henv rfl rfl (by (try simp only [List.length_append, List.length_cons, List.length_nil, tz1, tz0]); omega)) ?_
  clear henv a; intro a henv
  refine tA (i := 4) [8, 9, 10] (v := .string ⟨((([105, 110, 32]) ++ (textZ (1 : Int))) ++ ([32, 114, 101, 103, 115, 32])).toArray⟩) rfl (by kernel_rfl) (fun _ _ _ h => h) henv rfl (fun _ => rn_catS (s := (([105, 110, 32]) ++ (textZ (1 : Int)))) (t := [32, 114, 101, 103, 115, 32]) henv rfl rfl (by (try simp only [List.length_append, List.length_cons, List.length_nil, tz1, tz0]); omega)) ?_
  clear henv a; intro a henv
  refine sAny_one (i := 7) (by kernel_rfl) rfl rfl (op_call henv rfl Tryd.call45 rfl (g_itoa (n := 1) (by decide)) ?_)
  rintro e w58 ⟨rfl, hb⟩
  refine ⟨_, rfl, ?_⟩
  clear henv a; intro a henv
  replace hst := hst.call hb
  clear hb
  refine ⟨.inr ⟨hst.kn.pick [1] [0], .inr (hst.kn.pick [] [])⟩, ?_⟩
  refine tA (i := 8) [9, 10] (v := .string ⟨(((([105, 110, 32]) ++ (textZ (1 : Int))) ++ ([32, 114, 101, 103, 115, 32])) ++ (textZ (1 : Int))).toArray⟩) rfl (by kernel_rfl) (fun _ _ _ h => h) henv rfl (fun _ => rn_catS (s := ((([105, 110, 32]) ++ (textZ (1 : Int))) ++ ([32, 114, 101, 103, 115, 32]))) (t := (textZ (1 : Int))) henv rfl rfl (by (try simp only [List.length_append, List.length_cons, List.length_nil, tz1, tz0]); omega)) ?_
  clear henv a; intro a henv
  refine tA (i := 9) [10] (v := .string ⟨((((([105, 110, 32]) ++ (textZ (1 : Int))) ++ ([32, 114, 101, 103, 115, 32])) ++ (textZ (1 : Int))) ++ ([10])).toArray⟩) rfl (by kernel_rfl) (fun _ _ _ h => h) henv rfl (fun _ => rn_catS (s := (((([105, 110, 32]) ++ (textZ (1 : Int))) ++ ([32, 114, 101, 103, 115, 32])) ++ (textZ (1 : Int)))) (t := [10]) henv rfl rfl (by (try simp only [List.length_append, List.length_cons, List.length_nil, tz1, tz0]); omega)) ?_
  clear henv a; intro a henv
  refine sAny_one (i := 10) (by kernel_rfl) rfl rfl (op_write (s := ⟨(((((([105, 110, 32]) ++ (textZ (1 : Int))) ++ ([32, 114, 101, 103, 115, 32])) ++ (textZ (1 : Int))) ++ ([10])) : List UInt8).toArray⟩) (k := 0) henv hst rfl rfl rfl rfl (by rw [ba_size]; simp only [List.length_append, List.length_cons, List.length_nil, tz1, tz0, one_out, one_outs]; omega) ?_)
  clear henv hst a; intro a w59 v60 henv hst
  rw [ba_size, byteCells_app, ← List.length_append] at hst
  rw [List.nil_append] at hst
  refine ⟨.inr ⟨hst.kn.pick [1] [0], .inr (hst.kn.pick [] [])⟩, ?_⟩
  refine sAny_done (by kernel_rfl) ?_ _
  refine th_n ?_
  refine wp_seq ?_
  refine wp_seq ?_
  refine region_seq ?_
  revert a
  refine sA (v := .pointer (some ⟨g51, 2, none⟩)) rfl (fun _ henv => rn_fieldAddr henv fd_anvil_api_Prog_2 (ty__api_Instr.size) (by decide) rfl) ?_
  refine sA (v := .slice none 0 0) rfl (fun _ henv => rn_load1 henv ty__api_Instr rfl (hst.oat (k := 1) rfl) rfl) ?_
  refine sA (v := .int .i64 0) rfl (fun _ henv => rn_len henv Tryd.underlying22 rfl) ?_
  refine mA rfl rfl ?_
  intro a henv
  refine wpList_nil ?_
  refine th_n ?_
  refine wp_block ?_
  refine wp_loop_ghost (fun mz a w => 0 = mz ∧ Env 50 a [(4, .pointer (some ⟨g54, 0, none⟩)), (1, .pointer (some ⟨g51, 0, none⟩)), (24, .slice none 0 0), (25, .int .i64 0), (26, .int .i64 0)] ∧ St w0 w [bldF g54 v60 ((((((([105, 110, 32]) ++ (textZ (1 : Int))) ++ ([32, 114, 101, 103, 115, 32])) ++ (textZ (1 : Int))) ++ ([10]))) : List UInt8).length (byteCells ((((((([105, 110, 32]) ++ (textZ (1 : Int))) ++ ([32, 114, 101, 103, 115, 32])) ++ (textZ (1 : Int))) ++ ([10]))) : List UInt8)), bk g51 #[.int .i64 1, .int .i64 1, .slice none 0 0, .slice A1 1 c1] 25] [pfRow fI FI 1 A1 1 c1 ([0])]) _ ⟨rfl, henv.sub ⟨rfl, rfl, rfl, rfl, rfl, trivial⟩, hst.pick [0, 1] [0] (by decide)⟩ ?_
  clear henv hst a
  rintro mz a w61 ⟨rfl, henv, hst⟩
  refine wp_seq ?_
  refine region_seq ?_
  refine sv (v := .bool false) henv rfl (rn_bin henv rfl rfl rfl) ?_
  clear henv a; intro a henv
  refine wpList_nil ?_
  refine th_n ?_
  refine wp_seq ?_
  refine if_f henv rfl (rfl) ?_
  refine wp_exit ?_
  refine th_x (th_x (bl_x (th_n ?_)))
  refine wp_seq ?_
  refine region_seq ?_
  refine seq_step rfl (op_write (s := ⟨([111, 117, 116] : List UInt8).toArray⟩) (k := 0) henv hst rfl rfl rfl rfl (by rw [ba_size]; simp only [List.length_append, List.length_cons, List.length_nil, tz1, tz0, one_out, one_outs]; omega) ?_)
  clear henv hst a; intro a w62 v63 henv hst
  rw [ba_size, byteCells_app, ← List.length_append] at hst
  refine wpList_nil ?_
  refine th_n ?_
  refine wp_seq ?_
  refine wp_seq ?_
  refine region_seq ?_
  revert a
  refine sA (v := .pointer (some ⟨g51, 3, none⟩)) rfl (fun _ henv => rn_fieldAddr henv fd_anvil_api_Prog_3 (ty__int.size) (by decide) rfl) ?_
  refine sA (v := .slice A1 1 c1) rfl (fun _ henv => rn_load1 henv ty__int rfl (hst.oat (k := 1) rfl) rfl) ?_
  refine sA (v := .int .i64 1) rfl (fun _ henv => rn_len henv Tryd.underlying23 rfl) ?_
  refine mA rfl rfl ?_
  intro a henv
  refine wpList_nil ?_
  refine th_n ?_
  refine wp_block ?_
  replace hst : St w0 w62 [bldF g54 v63 ((((((((([105, 110, 32]) ++ (textZ (1 : Int))) ++ ([32, 114, 101, 103, 115, 32])) ++ (textZ (1 : Int))) ++ ([10]))) ++ ([111, 117, 116])) ++ (([0] : List Int).take 0).flatMap outT) : List UInt8).length (byteCells ((((((((([105, 110, 32]) ++ (textZ (1 : Int))) ++ ([32, 114, 101, 103, 115, 32])) ++ (textZ (1 : Int))) ++ ([10]))) ++ ([111, 117, 116])) ++ (([0] : List Int).take 0).flatMap outT) : List UInt8))] [pfRow fI FI 1 A1 1 c1 ([0])] := by rw [show ((((((([105, 110, 32]) ++ (textZ (1 : Int))) ++ ([32, 114, 101, 103, 115, 32])) ++ (textZ (1 : Int))) ++ ([10]))) ++ ([111, 117, 116])) ++ (([0] : List Int).take 0).flatMap outT = ((((((([105, 110, 32]) ++ (textZ (1 : Int))) ++ ([32, 114, 101, 103, 115, 32])) ++ (textZ (1 : Int))) ++ ([10]))) ++ ([111, 117, 116])) by simp]; exact hst.pick [0] [0] (by decide)
  refine wp_loop_ghost (fun mz a w => ∃ j : Nat, ∃ vb : Value, 1 - j = mz ∧ Env 50 a [(4, .pointer (some ⟨g54, 0, none⟩)), (37, .slice A1 1 c1), (38, .int .i64 1), (39, .int .i64 (j : Nat))] ∧ St w0 w [bldF g54 vb ((((((((([105, 110, 32]) ++ (textZ (1 : Int))) ++ ([32, 114, 101, 103, 115, 32])) ++ (textZ (1 : Int))) ++ ([10]))) ++ ([111, 117, 116])) ++ ([0].take j).flatMap outT) : List UInt8).length (byteCells ((((((((([105, 110, 32]) ++ (textZ (1 : Int))) ++ ([32, 114, 101, 103, 115, 32])) ++ (textZ (1 : Int))) ++ ([10]))) ++ ([111, 117, 116])) ++ ([0].take j).flatMap outT) : List UInt8))] [pfRow fI FI 1 A1 1 c1 ([0])] ∧ j ≤ 1) _ ⟨0, v63, rfl, henv.sub ⟨rfl, rfl, rfl, rfl, trivial⟩, hst.pick [0] [0] (by decide), (Nat.zero_le _)⟩ ?_
  clear henv hst a
  rintro mz a w64 ⟨j, vb, rfl, henv, hst, hj⟩
  refine wp_seq ?_
  refine region_seq ?_
  refine sv (v := .bool (decide (((j : Nat) : Int) < (1 : Int)))) henv rfl (rn_bin henv rfl rfl rfl) ?_
  clear henv a; intro a henv
  refine wpList_nil ?_
  refine th_n ?_
  refine wp_seq ?_
  refine if_split henv rfl (fun hc65 => ?_) (fun hc65 => ?_)
  · have hlt : j < 1 := by have := of_decide_eq_true hc65; omega
    obtain rfl : j = 0 := by omega
    have hz : ([0] : List Int)[0]? = some 0 := rfl
    refine wp_skip ?_
    refine th_n ?_
    refine wp_seq ?_
    refine wp_block ?_
    refine wp_seq ?_
    refine region_seq ?_
    revert a
    refine sA (v := .pointer (some ⟨ab A1, ao A1 + 0 * 1, none⟩)) rfl (fun _ henv => rn_idxR (i := 0) henv Tryd.underlying23 (ty_int.size) rfl rfl (by omega) rfl (show (pfRow fI FI 1 A1 1 c1 ([0])).P _ from (hst.pat (k := 0) rfl)).1) ?_
    refine sA (v := .int .i64 0) rfl (fun _ henv => rn_loadE1 (i := 0) (j := 0) (e := 0) henv ty_int rfl rfl fI_len (by decide) (show (pfRow fI FI 1 A1 1 c1 ([0])).P _ from (hst.pat (k := 0) rfl)).1 (by omega) hz rfl) ?_
    refine aA rfl rfl ?_
    intro a henv
    refine wpList_nil ?_
    refine th_n ?_
    refine region_seq ?_
    refine sv (v := .int .i64 0) henv rfl (rn_move henv rfl) ?_
    clear henv a; intro a henv
    refine seq_step rfl (op_call henv rfl Tryd.call47 rfl g_reg0 ?_)
    rintro e w66 ⟨rfl, hb⟩
    refine ⟨_, rfl, ?_⟩
    clear henv a; intro a henv
    replace hst := hst.call hb
    clear hb
    refine sv (v := .string ⟨(([32]) ++ ([114, 48] : List UInt8)).toArray⟩) henv rfl (rn_catS (s := [32]) (t := ([114, 48] : List UInt8)) henv rfl rfl (by (try simp only [List.length_append, List.length_cons, List.length_nil, tz1, tz0]); omega)) ?_
    clear henv a; intro a henv
    refine seq_step rfl (op_write (s := ⟨((([32]) ++ ([114, 48] : List UInt8)) : List UInt8).toArray⟩) (k := 0) henv hst rfl rfl rfl rfl (by rw [ba_size]; simp only [List.length_append, List.length_cons, List.length_nil, tz1, tz0, one_out, one_outs]; omega) ?_)
    clear henv hst a; intro a w67 v68 henv hst
    rw [ba_size, byteCells_app, ← List.length_append] at hst
    refine wpList_nil ?_
    refine bl_n (th_n ?_)
    refine region_seq ?_
    revert a
    refine sA (v := .int .i64 (0 + 1 : Nat)) rfl (fun _ henv => rn_add henv rfl rfl (by rw [IntWalk.i64_in _ (by omega)]; omega)) ?_
    refine mA rfl rfl ?_
    intro a henv
    refine wpList_nil ?_
    rw [show ((((((((([105, 110, 32]) ++ (textZ (1 : Int))) ++ ([32, 114, 101, 103, 115, 32])) ++ (textZ (1 : Int))) ++ ([10]))) ++ ([111, 117, 116])) ++ ([0].take 0).flatMap outT) ++ (([32]) ++ ([114, 48] : List UInt8))) = ((((((([105, 110, 32]) ++ (textZ (1 : Int))) ++ ([32, 114, 101, 103, 115, 32])) ++ (textZ (1 : Int))) ++ ([10]))) ++ ([111, 117, 116])) ++ (([0] : List Int).take (0 + 1)).flatMap outT from out_step hz] at hst
    exact th_n ⟨_, (by omega), ⟨1, v68, rfl, henv.sub ⟨rfl, rfl, rfl, rfl, trivial⟩, hst.pick [0] [0] (by decide), (by omega)⟩⟩
  · obtain rfl : j = 1 := by have := of_decide_eq_false hc65; omega
    refine wp_exit ?_
    refine th_x (th_x (bl_x (th_n ?_)))
    refine wp_seq ?_
    refine region_seq ?_
    refine seq_step rfl (op_write (s := ⟨([10] : List UInt8).toArray⟩) (k := 0) henv hst rfl rfl rfl rfl (by rw [ba_size]; simp only [List.length_append, List.length_cons, List.length_nil, tz1, tz0, one_out, one_outs]; omega) ?_)
    clear henv hst a; intro a w69 v70 henv hst
    rw [ba_size, byteCells_app, ← List.length_append] at hst
    refine wpList_nil ?_
    refine th_n ?_
    refine wp_seq ?_
    refine region_seq ?_
    refine seq_step rfl (op_bstr (k := 0) henv hst rfl rfl rfl ?_)
    clear henv hst a; intro a w71 henv hst
    revert a
    refine aA rfl rfl ?_
    refine aA rfl rfl ?_
    intro a henv
    refine wpList_nil ?_
    refine th_n ?_
    refine wp_ret ?_
    refine leave henv (res2 Tryd.results31 (RV.tmp henv rfl) (RV.tmp henv rfl)) ?_
    exact ⟨by rw [show ((((((((([105, 110, 32]) ++ (textZ (1 : Int))) ++ ([32, 114, 101, 103, 115, 32])) ++ (textZ (1 : Int))) ++ ([10]))) ++ ([111, 117, 116])) ++ ([0].take 1).flatMap outT) ++ ([10])) = [105, 110, 32, 49, 32, 114, 101, 103, 115, 32, 49, 10, 111, 117, 116, 32, 114, 48, 10] by decide +kernel], hst.below⟩
set_option maxRecDepth 100000 in
set_option maxHeartbeats 2000000 in
theorem g_live {w0 : World} :
    Calls Tryd.prog 10 #[] w0 fun e w' => e = .returned (.bool true) ∧ Below w0.heap.size w0 w' := by
  refine enter Tryd.func10 rfl Tryd.ntmps10 rfl ?_
  intro a henv hst
  refine wp_seq ?_
  refine region_seq ?_
  refine sv (v := .bool false) henv rfl (rn_assign henv rfl) ?_
  clear henv a; intro a henv
  refine wpList_nil ?_
  refine th_n ?_
  refine wp_seq ?_
  refine region_seq ?_
  refine seq_step rfl (op_buildSlice (z := 1) (pv := #[(0, .int .i64 0)]) (c := #[.int .i64 0]) henv hst rfl Tryd.underlying23 (ty_int.size) zero_int (by decide) (by decide) rfl (by kernel_rfl) ?_)
  clear henv hst a; intro a w52 g51 henv hst
  refine sv (v := .agg #[.int .i64 1, .int .i64 1, .slice none 0 0, .slice (some ⟨g51, 0, none⟩) 1 1]) henv rfl (rn_prog013 henv rfl rfl rfl) ?_
  clear henv a; intro a henv
  replace hst := hst.giveBk (f := fI) (F := FI) (k := 0) (n := 1) (es := [0]) rfl rfl fI_len rfl (by decide) (esT_P (fun _ => rfl) _ _) (fun _ _ _ _ => esT_foot (fun _ => rfl))
  refine seq_step rfl (op_call henv rfl Tryd.call31 rfl (g_text1 (hst.pat (k := 0) rfl)) ?_)
  rintro e w53 ⟨rfl, hb⟩
  refine ⟨_, rfl, ?_⟩
  clear henv a; intro a henv
  replace hst := hst.call hb
  clear hb
  revert a
  refine mA rfl rfl ?_
  refine sA (v := .string ⟨([105, 110, 32, 49, 32, 114, 101, 103, 115, 32, 49, 10, 111, 117, 116, 32, 114, 48, 10] : List UInt8).toArray⟩) rfl (fun _ henv => rn_extract henv rfl rfl) ?_
  refine sA (v := .int .i64 0) rfl (fun _ henv => rn_extract henv rfl rfl) ?_
  refine aA rfl rfl ?_
  refine aA rfl rfl ?_
  intro a henv
  refine wpList_nil ?_
  refine th_n ?_
  refine wp_seq ?_
  refine region_seq ?_
  revert a
  refine mA rfl rfl ?_
  refine sA (v := .bool (decide (([105, 110, 32, 49, 32, 114, 101, 103, 115, 32, 49, 10, 111, 117, 116, 32, 114, 48, 10] : List UInt8) = [105, 110, 32, 49, 32, 114, 101, 103, 115, 32, 49, 10, 111, 117, 116, 32, 114, 48, 10]))) rfl (fun _ henv => rn_eqls (s := ([105, 110, 32, 49, 32, 114, 101, 103, 115, 32, 49, 10, 111, 117, 116, 32, 114, 48, 10] : List UInt8)) (t := [105, 110, 32, 49, 32, 114, 101, 103, 115, 32, 49, 10, 111, 117, 116, 32, 114, 48, 10]) henv rfl rfl) ?_
  intro a henv
  rw [show (decide (([105, 110, 32, 49, 32, 114, 101, 103, 115, 32, 49, 10, 111, 117, 116, 32, 114, 48, 10] : List UInt8) = [105, 110, 32, 49, 32, 114, 101, 103, 115, 32, 49, 10, 111, 117, 116, 32, 114, 48, 10])) = true from (by decide)] at henv
  revert a
  refine mA rfl rfl ?_
  refine gA (v := .int .i64 0) rfl rfl rfl rfl (fun _ henv => rn_move henv rfl) ?_
  refine gA (v := .bool true) rfl rfl rfl rfl (fun _ henv => rn_bin henv rfl rfl rfl) ?_
  refine sA (v := .bool true) rfl (fun _ henv => rn_pick henv rfl rfl) ?_
  refine aA rfl rfl ?_
  intro a henv
  refine wpList_nil ?_
  refine th_n ?_
  refine wp_ret ?_
  refine leave henv (res1 Tryd.results10 (RV.tmp henv rfl)) ?_
  exact ⟨rfl, hst.below⟩
end Go.Proofs.YtbdngknpngcojaaDoor.W

/- Programs held against each other, copied. Printed by pv/gen_g3.py. No condition. -/
namespace Go.Proofs.YtbdngknpngcojaaDoor.W
open Go.RowKit Anv Go.Lib
theorem instrI : IntS Tryd.prog 37 5 := ⟨by kernel_rfl, by kernel_rfl, by kernel_rfl, by kernel_rfl, by kernel_rfl⟩
theorem row_none {α : Type} {f : α → List Value} {F : α → PF} {z n c : Nat} {A : Option Addr} {es : List α} {w : World} (h : (pfRow f F z A n c es).P w) (hA : A = none) : n = 0 := by
  subst hA
  rcases Nat.eq_zero_or_pos n with h0 | h0
  · exact h0
  · obtain ⟨b, off, e, _⟩ := h.1.cells h0
    cases e
theorem newrow_nil {α : Type} {f : α → List Value} {F : α → PF} {E z B : Nat} {w : World} : NewRow notU E z f F B w none 0 0 [] :=
  ⟨⟨World.ownsRow_nil w 0 E z, fun g hg => by simp [Value.ownBlock] at hg⟩, es_nil F w, fun a h => by cases h⟩
theorem newrow_of {α : Type} {f : α → List Value} {F : α → PF} {E z B n m c : Nat} {A : Option Addr} {es : List α} {w : World} (h : (rowS notU E z A n c (fl f es)).P w) (hf : ∀ b, (rowS notU E z A n c (fl f es)).foot b → B ≤ b) (hn : n = m) (hE : (pfEs F es).P w := by exact fun _ _ => trivial) : NewRow notU E z f F B w A m c es := by
  subst hn
  exact ⟨h, hE, fun a ha => hf _ (by subst ha; rfl)⟩
set_option maxRecDepth 100000 in
set_option maxHeartbeats 2000000 in
theorem r_same {i g i2 g2 : Int} {A0 A1 A2 A3 : Option Addr} {n0 c0 n1 c1 n2 c2 n3 c3 : Nat} {es0 : List IE} {es1 : List Int} {es2 : List IE} {es3 : List Int} {w0 : World} (h0 : (pfRow fJ FJ 5 A0 n0 c0 es0).P w0) (h1 : (pfRow fI FI 1 A1 n1 c1 es1).P w0) (h2 : (pfRow fJ FJ 5 A2 n2 c2 es2).P w0) (h3 : (pfRow fI FI 1 A3 n3 c3 es3).P w0) :
    Calls Tryd.prog 16 #[.agg #[.int .i64 i, .int .i64 g, .slice A0 n0 c0, .slice A1 n1 c1], .agg #[.int .i64 i2, .int .i64 g2, .slice A2 n2 c2, .slice A3 n3 c3]] w0 fun e w' => e = .returned (.bool (decide (i = i2 ∧ g = g2 ∧ es0 = es2 ∧ es1 = es3))) ∧ Below w0.heap.size w0 w' := by
  refine enter Tryd.func16 rfl Tryd.ntmps16 rfl ?_
  intro a henv hst
  have hlen0 := h0.2.1
  have hbig0 := Nat.le_trans h0.1.cap h0.1.big
  unfold maxLen at hbig0
  have hlen1 := h1.2.1
  have hbig1 := Nat.le_trans h1.1.cap h1.1.big
  unfold maxLen at hbig1
  have hlen2 := h2.2.1
  have hbig2 := Nat.le_trans h2.1.cap h2.1.big
  unfold maxLen at hbig2
  have hlen3 := h3.2.1
  have hbig3 := Nat.le_trans h3.1.cap h3.1.big
  unfold maxLen at hbig3
  replace hst := hst.argRow h0
  replace hst := hst.argRow h1
  replace hst := hst.argRow h2
  replace hst := hst.argRow h3
  clear h0 h1 h2 h3
  refine wp_seq ?_
  refine region_seq ?_
  refine seq_step rfl (op_box (c := #[.int .i64 i, .int .i64 g, .slice A0 n0 c0, .slice A1 n1 c1]) henv hst rfl rfl rfl ?_)
  clear henv hst a; intro a w52 g51 henv hst
  refine seq_step rfl (op_box (c := #[.int .i64 i2, .int .i64 g2, .slice A2 n2 c2, .slice A3 n3 c3]) henv hst rfl rfl rfl ?_)
  clear henv hst a; intro a w54 g53 henv hst
  refine sv (v := .bool false) henv rfl (rn_assign henv rfl) ?_
  clear henv a; intro a henv
  refine wpList_nil ?_
  refine th_n ?_
  refine wp_seq ?_
  refine wp_seq ?_
  refine region_seq ?_
  revert a
  refine sA (v := .pointer (some ⟨g51, 0, none⟩)) rfl (fun _ henv => rn_fieldAddr henv fd_anvil_api_Prog_0 (ty_int.size) (by decide) rfl) ?_
  refine sA (v := .int .i64 i) rfl (fun _ henv => rn_load1 henv ty_int rfl (hst.oat (k := 1) rfl) rfl) ?_
  refine sA (v := .pointer (some ⟨g53, 0, none⟩)) rfl (fun _ henv => rn_fieldAddr henv fd_anvil_api_Prog_0 (ty_int.size) (by decide) rfl) ?_
  refine sA (v := .int .i64 i2) rfl (fun _ henv => rn_load1 henv ty_int rfl (hst.oat (k := 0) rfl) rfl) ?_
  refine sA (v := .bool (i != i2)) rfl (fun _ henv => rn_bin henv rfl rfl rfl) ?_
  refine mA rfl rfl ?_
  intro a henv
  rcases bool_em (i != i2) with hg55 | hg55
  · rw [hg55] at henv
    have hx56 := bne_yes hg55
    revert a
    refine kA rfl rfl rfl rfl rfl ?_
    refine kA rfl rfl rfl rfl rfl ?_
    refine kA rfl rfl rfl rfl rfl ?_
    refine kA rfl rfl rfl rfl rfl ?_
    refine kA rfl rfl rfl rfl rfl ?_
    refine sA (v := .bool true) rfl (fun _ henv => rn_pick henv rfl rfl) ?_
    refine mA rfl rfl ?_
    refine kA rfl rfl rfl rfl rfl ?_
    refine kA rfl rfl rfl rfl rfl ?_
    refine kA rfl rfl rfl rfl rfl ?_
    refine kA rfl rfl rfl rfl rfl ?_
    refine kA rfl rfl rfl rfl rfl ?_
    refine kA rfl rfl rfl rfl rfl ?_
    refine kA rfl rfl rfl rfl rfl ?_
    refine sA (v := .bool true) rfl (fun _ henv => rn_pick henv rfl rfl) ?_
    refine mA rfl rfl ?_
    refine kA rfl rfl rfl rfl rfl ?_
    refine kA rfl rfl rfl rfl rfl ?_
    refine kA rfl rfl rfl rfl rfl ?_
    refine kA rfl rfl rfl rfl rfl ?_
    refine kA rfl rfl rfl rfl rfl ?_
    refine kA rfl rfl rfl rfl rfl ?_
    refine kA rfl rfl rfl rfl rfl ?_
    refine sA (v := .bool true) rfl (fun _ henv => rn_pick henv rfl rfl) ?_
    intro a henv
    refine wpList_nil ?_
    refine th_n ?_
    refine if_t henv rfl (rfl) ?_
    refine wp_seq ?_
    refine region_seq ?_
    refine sv (v := .bool false) henv rfl (rn_assign henv rfl) ?_
    clear henv a; intro a henv
    refine wpList_nil ?_
    refine th_n ?_
    refine wp_ret ?_
    refine th_r ?_
    refine leave henv (res1 Tryd.results16 (RV.tmp henv rfl)) ?_
    exact ⟨by rw [decide_eq_false (fun q => by obtain ⟨q1, q2, q3, q4⟩ := q; contradiction)], hst.below⟩
  · rw [hg55] at henv
    have hx57 := bne_no hg55
    revert a
    refine gA (v := .pointer (some ⟨g51, 1, none⟩)) rfl rfl rfl rfl (fun _ henv => rn_fieldAddr henv fd_anvil_api_Prog_1 (ty_int.size) (by decide) rfl) ?_
    refine gA (v := .int .i64 g) rfl rfl rfl rfl (fun _ henv => rn_load1 henv ty_int rfl (hst.oat (k := 1) rfl) rfl) ?_
    refine gA (v := .pointer (some ⟨g53, 1, none⟩)) rfl rfl rfl rfl (fun _ henv => rn_fieldAddr henv fd_anvil_api_Prog_1 (ty_int.size) (by decide) rfl) ?_
    refine gA (v := .int .i64 g2) rfl rfl rfl rfl (fun _ henv => rn_load1 henv ty_int rfl (hst.oat (k := 0) rfl) rfl) ?_
    refine gA (v := .bool (g != g2)) rfl rfl rfl rfl (fun _ henv => rn_bin henv rfl rfl rfl) ?_
    refine sA (v := .bool (g != g2)) rfl (fun _ henv => rn_pick henv rfl rfl) ?_
    refine mA rfl rfl ?_
    intro a henv
    rcases bool_em (g != g2) with hg58 | hg58
    · rw [hg58] at henv
      have hx59 := bne_yes hg58
      revert a
      refine kA rfl rfl rfl rfl rfl ?_
      refine kA rfl rfl rfl rfl rfl ?_
      refine kA rfl rfl rfl rfl rfl ?_
      refine kA rfl rfl rfl rfl rfl ?_
      refine kA rfl rfl rfl rfl rfl ?_
      refine kA rfl rfl rfl rfl rfl ?_
      refine kA rfl rfl rfl rfl rfl ?_
      refine sA (v := .bool true) rfl (fun _ henv => rn_pick henv rfl rfl) ?_
      refine mA rfl rfl ?_
      refine kA rfl rfl rfl rfl rfl ?_
      refine kA rfl rfl rfl rfl rfl ?_
      refine kA rfl rfl rfl rfl rfl ?_
      refine kA rfl rfl rfl rfl rfl ?_
      refine kA rfl rfl rfl rfl rfl ?_
      refine kA rfl rfl rfl rfl rfl ?_
      refine kA rfl rfl rfl rfl rfl ?_
      refine sA (v := .bool true) rfl (fun _ henv => rn_pick henv rfl rfl) ?_
      intro a henv
      refine wpList_nil ?_
      refine th_n ?_
      refine if_t henv rfl (rfl) ?_
      refine wp_seq ?_
      refine region_seq ?_
      refine sv (v := .bool false) henv rfl (rn_assign henv rfl) ?_
      clear henv a; intro a henv
      refine wpList_nil ?_
      refine th_n ?_
      refine wp_ret ?_
      refine th_r ?_
      refine leave henv (res1 Tryd.results16 (RV.tmp henv rfl)) ?_
      exact ⟨by rw [decide_eq_false (fun q => by obtain ⟨q1, q2, q3, q4⟩ := q; contradiction)], hst.below⟩
    · rw [hg58] at henv
      have hx60 := bne_no hg58
      revert a
      refine gA (v := .pointer (some ⟨g51, 2, none⟩)) rfl rfl rfl rfl (fun _ henv => rn_fieldAddr henv fd_anvil_api_Prog_2 (ty__api_Instr.size) (by decide) rfl) ?_
      refine gA (v := .slice A0 n0 c0) rfl rfl rfl rfl (fun _ henv => rn_load1 henv ty__api_Instr rfl (hst.oat (k := 1) rfl) rfl) ?_
      refine gA (v := .int .i64 (n0 : Nat)) rfl rfl rfl rfl (fun _ henv => rn_len henv Tryd.underlying22 rfl) ?_
      refine gA (v := .pointer (some ⟨g53, 2, none⟩)) rfl rfl rfl rfl (fun _ henv => rn_fieldAddr henv fd_anvil_api_Prog_2 (ty__api_Instr.size) (by decide) rfl) ?_
      refine gA (v := .slice A2 n2 c2) rfl rfl rfl rfl (fun _ henv => rn_load1 henv ty__api_Instr rfl (hst.oat (k := 0) rfl) rfl) ?_
      refine gA (v := .int .i64 (n2 : Nat)) rfl rfl rfl rfl (fun _ henv => rn_len henv Tryd.underlying22 rfl) ?_
      refine gA (v := .bool (((n0 : Nat) : Int) != ((n2 : Nat) : Int))) rfl rfl rfl rfl (fun _ henv => rn_bin henv rfl rfl rfl) ?_
      refine sA (v := .bool (((n0 : Nat) : Int) != ((n2 : Nat) : Int))) rfl (fun _ henv => rn_pick henv rfl rfl) ?_
      refine mA rfl rfl ?_
      intro a henv
      rcases bool_em (((n0 : Nat) : Int) != ((n2 : Nat) : Int)) with hg61 | hg61
      · rw [hg61] at henv
        have hx62 := bne_yes hg61
        have hne : ¬ (es0 = es2) := fun q => hx62 (by rw [← hlen0, ← hlen2, q])
        revert a
        refine kA rfl rfl rfl rfl rfl ?_
        refine kA rfl rfl rfl rfl rfl ?_
        refine kA rfl rfl rfl rfl rfl ?_
        refine kA rfl rfl rfl rfl rfl ?_
        refine kA rfl rfl rfl rfl rfl ?_
        refine kA rfl rfl rfl rfl rfl ?_
        refine kA rfl rfl rfl rfl rfl ?_
        refine sA (v := .bool true) rfl (fun _ henv => rn_pick henv rfl rfl) ?_
        intro a henv
        refine wpList_nil ?_
        refine th_n ?_
        refine if_t henv rfl (rfl) ?_
        refine wp_seq ?_
        refine region_seq ?_
        refine sv (v := .bool false) henv rfl (rn_assign henv rfl) ?_
        clear henv a; intro a henv
        refine wpList_nil ?_
        refine th_n ?_
        refine wp_ret ?_
        refine th_r ?_
        refine leave henv (res1 Tryd.results16 (RV.tmp henv rfl)) ?_
        exact ⟨by rw [decide_eq_false (fun q => by obtain ⟨q1, q2, q3, q4⟩ := q; contradiction)], hst.below⟩
      · rw [hg61] at henv
        have hx63 := bne_no hg61
        have hnnfJ : n0 = n2 := by omega
        revert a
        refine gA (v := .pointer (some ⟨g51, 3, none⟩)) rfl rfl rfl rfl (fun _ henv => rn_fieldAddr henv fd_anvil_api_Prog_3 (ty__int.size) (by decide) rfl) ?_
        refine gA (v := .slice A1 n1 c1) rfl rfl rfl rfl (fun _ henv => rn_load1 henv ty__int rfl (hst.oat (k := 1) rfl) rfl) ?_
        refine gA (v := .int .i64 (n1 : Nat)) rfl rfl rfl rfl (fun _ henv => rn_len henv Tryd.underlying23 rfl) ?_
        refine gA (v := .pointer (some ⟨g53, 3, none⟩)) rfl rfl rfl rfl (fun _ henv => rn_fieldAddr henv fd_anvil_api_Prog_3 (ty__int.size) (by decide) rfl) ?_
        refine gA (v := .slice A3 n3 c3) rfl rfl rfl rfl (fun _ henv => rn_load1 henv ty__int rfl (hst.oat (k := 0) rfl) rfl) ?_
        refine gA (v := .int .i64 (n3 : Nat)) rfl rfl rfl rfl (fun _ henv => rn_len henv Tryd.underlying23 rfl) ?_
        refine gA (v := .bool (((n1 : Nat) : Int) != ((n3 : Nat) : Int))) rfl rfl rfl rfl (fun _ henv => rn_bin henv rfl rfl rfl) ?_
        refine sA (v := .bool (((n1 : Nat) : Int) != ((n3 : Nat) : Int))) rfl (fun _ henv => rn_pick henv rfl rfl) ?_
        intro a henv
        refine wpList_nil ?_
        refine th_n ?_
        refine if_split henv rfl (fun hc64 => ?_) (fun hc64 => ?_)
        · have hx65 := bne_yes hc64
          have hne : ¬ (es1 = es3) := fun q => hx65 (by rw [← hlen1, ← hlen3, q])
          refine wp_seq ?_
          refine region_seq ?_
          refine sv (v := .bool false) henv rfl (rn_assign henv rfl) ?_
          clear henv a; intro a henv
          refine wpList_nil ?_
          refine th_n ?_
          refine wp_ret ?_
          refine th_r ?_
          refine leave henv (res1 Tryd.results16 (RV.tmp henv rfl)) ?_
          exact ⟨by rw [decide_eq_false (fun q => by obtain ⟨q1, q2, q3, q4⟩ := q; contradiction)], hst.below⟩
        · have hx66 := bne_no hc64
          have hnnfI : n1 = n3 := by omega
          refine wp_skip ?_
          refine th_n ?_
          refine wp_seq ?_
          refine wp_seq ?_
          refine region_seq ?_
          refine sv (v := .int .i64 0) henv rfl (rn_assign henv rfl) ?_
          clear henv a; intro a henv
          refine wpList_nil ?_
          refine th_n ?_
          refine wp_block ?_
          refine wp_loop_ghost (fun mz a w => ∃ j : Nat, n0 - j = mz ∧ Env 73 a [(2, .pointer (some ⟨g51, 0, none⟩)), (3, .pointer (some ⟨g53, 0, none⟩)), (5, .int .i64 (j : Nat))] ∧ St w0 w [bk g53 #[.int .i64 i2, .int .i64 g2, .slice A2 n2 c2, .slice A3 n3 c3] 25, bk g51 #[.int .i64 i, .int .i64 g, .slice A0 n0 c0, .slice A1 n1 c1] 25] [pfRow fI FI 1 A3 n3 c3 es3, pfRow fJ FJ 5 A2 n2 c2 es2, pfRow fI FI 1 A1 n1 c1 es1, pfRow fJ FJ 5 A0 n0 c0 es0] ∧ j ≤ n0 ∧ es0.take j = es2.take j) _ ⟨0, rfl, henv.sub ⟨rfl, rfl, rfl, trivial⟩, hst.pick [0, 1] [0, 1, 2, 3] (by decide), (Nat.zero_le _), rfl⟩ ?_
          clear henv hst a
          rintro mz a w67 ⟨j, rfl, henv, hst, hj, hefJ⟩
          refine wp_seq ?_
          refine wp_seq ?_
          refine region_seq ?_
          revert a
          refine mA rfl rfl ?_
          refine sA (v := .pointer (some ⟨g51, 2, none⟩)) rfl (fun _ henv => rn_fieldAddr henv fd_anvil_api_Prog_2 (ty__api_Instr.size) (by decide) rfl) ?_
          refine sA (v := .slice A0 n0 c0) rfl (fun _ henv => rn_load1 henv ty__api_Instr rfl (hst.oat (k := 1) rfl) rfl) ?_
          refine sA (v := .int .i64 (n0 : Nat)) rfl (fun _ henv => rn_len henv Tryd.underlying22 rfl) ?_
          refine sA (v := .bool (decide (((j : Nat) : Int) < ((n0 : Nat) : Int)))) rfl (fun _ henv => rn_bin henv rfl rfl rfl) ?_
          intro a henv
          refine wpList_nil ?_
          refine th_n ?_
          refine if_split henv rfl (fun hc68 => ?_) (fun hc68 => ?_)
          · have hlt : j < n0 := by have := of_decide_eq_true hc68; omega
            obtain ⟨⟨a1, a2, a3, a4, a5⟩, hxfJ⟩ : ∃ e, es0[j]? = some e := ⟨_, List.getElem?_eq_getElem (by omega)⟩
            obtain ⟨⟨b1, b2, b3, b4, b5⟩, hyfJ⟩ : ∃ e, es2[j]? = some e := ⟨_, List.getElem?_eq_getElem (by omega)⟩
            refine wp_skip ?_
            refine th_n ?_
            refine wp_seq ?_
            refine wp_block ?_
            refine wp_seq ?_
            refine region_any (n := 11) (Sk [bk g53 #[.int .i64 i2, .int .i64 g2, .slice A2 n2 c2, .slice A3 n3 c3] 25, bk g51 #[.int .i64 i, .int .i64 g, .slice A0 n0 c0, .slice A1 n1 c1] 25] [pfRow fI FI 1 A3 n3 c3 es3, pfRow fJ FJ 5 A2 n2 c2 es2, pfRow fI FI 1 A1 n1 c1 es1, pfRow fJ FJ 5 A0 n0 c0 es0] [] []) mixed rfl henv hst ?_
            clear henv hst; intro w69 henv hst
            refine tA (i := 0) [1, 3, 4, 10] (v := .pointer (some ⟨g51, 2, none⟩)) rfl (by kernel_rfl) (fun _ _ _ h => h) henv rfl (fun _ => rn_fieldAddr henv fd_anvil_api_Prog_2 (ty__api_Instr.size) (by decide) rfl) ?_
            clear henv a; intro a henv
            refine sAny_take (i := 1) [3, 4, 10] (fun w' => w'.heap[g51]? = some (.cells #[.int .i64 i, .int .i64 g, .slice A0 n0 c0, .slice A1 n1 c1] 25 (0, 0))) (v := .slice A0 n0 c0) rfl (by kernel_rfl) (fun _ _ _ h => h) (fun _ _ _ hS => hS.1.oat (k := 1) rfl) henv rfl (hst.oat (k := 1) rfl) (fun w' hg => rn_load1 henv ty__api_Instr rfl hg rfl) ?_
            clear henv a; intro a henv
            refine tM (i := 2) [3, 4, 10] rfl (by kernel_rfl) (fun _ _ _ h => h) henv rfl rfl ?_
            clear henv a; intro a henv
            refine sAny_take (i := 3) [4, 10] (fun w' => (pfRow fJ FJ 5 A0 n0 c0 es0).P w') (v := .pointer (some ⟨ab A0, ao A0 + j * 5, none⟩)) rfl (by kernel_rfl) (fun _ _ _ h => h) (fun _ _ _ hS => hS.1.pat (k := 3) rfl) henv rfl (hst.pat (k := 3) rfl) (fun w' hg => rn_idxR (i := j) henv Tryd.underlying22 (ty_anvil_api_Instr.size) rfl rfl (by omega) rfl (show (pfRow fJ FJ 5 A0 n0 c0 es0).P _ from hg).1) ?_
            clear henv a; intro a henv
            refine sAny_take (i := 4) [10] (fun w' => (pfRow fJ FJ 5 A0 n0 c0 es0).P w') (v := .agg #[.int .i64 a1, .int .i64 a2, .int .i64 a3, .int .i64 a4, .int .i64 a5]) rfl (by kernel_rfl) (fun _ _ _ h => h) (fun _ _ _ hS => hS.1.pat (k := 3) rfl) henv rfl (hst.pat (k := 3) rfl) (fun w' hg => rn_loadE (i := j) (e := (a1, a2, a3, a4, a5)) henv ty_anvil_api_Instr rfl rfl fJ_len (show (pfRow fJ FJ 5 A0 n0 c0 es0).P _ from hg).1 (by omega) hxfJ rfl) ?_
            clear henv a; intro a henv
            refine tA (i := 5) [6, 8, 9, 10] (v := .pointer (some ⟨g53, 2, none⟩)) rfl (by kernel_rfl) (fun _ _ _ h => h) henv rfl (fun _ => rn_fieldAddr henv fd_anvil_api_Prog_2 (ty__api_Instr.size) (by decide) rfl) ?_
            clear henv a; intro a henv
            refine sAny_take (i := 6) [8, 9, 10] (fun w' => w'.heap[g53]? = some (.cells #[.int .i64 i2, .int .i64 g2, .slice A2 n2 c2, .slice A3 n3 c3] 25 (0, 0))) (v := .slice A2 n2 c2) rfl (by kernel_rfl) (fun _ _ _ h => h) (fun _ _ _ hS => hS.1.oat (k := 0) rfl) henv rfl (hst.oat (k := 0) rfl) (fun w' hg => rn_load1 henv ty__api_Instr rfl hg rfl) ?_
            clear henv a; intro a henv
            refine tM (i := 7) [8, 9, 10] rfl (by kernel_rfl) (fun _ _ _ h => h) henv rfl rfl ?_
            clear henv a; intro a henv
            refine sAny_take (i := 8) [9, 10] (fun w' => (pfRow fJ FJ 5 A2 n2 c2 es2).P w') (v := .pointer (some ⟨ab A2, ao A2 + j * 5, none⟩)) rfl (by kernel_rfl) (fun _ _ _ h => h) (fun _ _ _ hS => hS.1.pat (k := 1) rfl) henv rfl (hst.pat (k := 1) rfl) (fun w' hg => rn_idxR (i := j) henv Tryd.underlying22 (ty_anvil_api_Instr.size) rfl rfl (by omega) rfl (show (pfRow fJ FJ 5 A2 n2 c2 es2).P _ from hg).1) ?_
            clear henv a; intro a henv
            refine sAny_take (i := 9) [10] (fun w' => (pfRow fJ FJ 5 A2 n2 c2 es2).P w') (v := .agg #[.int .i64 b1, .int .i64 b2, .int .i64 b3, .int .i64 b4, .int .i64 b5]) rfl (by kernel_rfl) (fun _ _ _ h => h) (fun _ _ _ hS => hS.1.pat (k := 1) rfl) henv rfl (hst.pat (k := 1) rfl) (fun w' hg => rn_loadE (i := j) (e := (b1, b2, b3, b4, b5)) henv ty_anvil_api_Instr rfl rfl fJ_len (show (pfRow fJ FJ 5 A2 n2 c2 es2).P _ from hg).1 (by omega) hyfJ rfl) ?_
            clear henv a; intro a henv
            refine tA (i := 10) [] (v := .bool (!decide ([a1, a2, a3, a4, a5] = [b1, b2, b3, b4, b5]))) rfl (by kernel_rfl) (fun _ _ _ h => h) henv rfl (fun _ => rn_neqI [a1, a2, a3, a4, a5] [b1, b2, b3, b4, b5] henv instrI rfl rfl rfl rfl) ?_
            clear henv a; intro a henv
            refine sAny_done (by kernel_rfl) ?_ _
            refine th_n ?_
            refine if_split henv rfl (fun hc70 => ?_) (fun hc70 => ?_)
            · have hne : ¬ (es0 = es2) := fun q => by rw [q] at hxfJ; rw [hxfJ] at hyfJ; exact of_decide_eq_false (bnot_t hc70) (by injection hyfJ with q; injection q with q1 q; injection q with q2 q; injection q with q3 q; injection q with q4 q5; rw [q1, q2, q3, q4, q5])
              refine wp_seq ?_
              refine region_seq ?_
              refine sv (v := .bool false) henv rfl (rn_assign henv rfl) ?_
              clear henv a; intro a henv
              refine wpList_nil ?_
              refine th_n ?_
              refine wp_ret ?_
              refine bl_r (th_r (th_r (bl_r (th_r ?_))))
              refine leave henv (res1 Tryd.results16 (RV.tmp henv rfl)) ?_
              exact ⟨by rw [decide_eq_false (fun q => by obtain ⟨q1, q2, q3, q4⟩ := q; contradiction)], hst.below⟩
            · have heq : ((a1, a2, a3, a4, a5) : IE) = (b1, b2, b3, b4, b5) := by have q := of_decide_eq_true (bnot_f hc70); simp only [List.cons.injEq, and_true] at q; obtain ⟨q1, q2, q3, q4, q5⟩ := q; rw [q1, q2, q3, q4, q5]
              refine wp_skip ?_
              refine bl_n (th_n ?_)
              refine region_seq ?_
              revert a
              refine mA rfl rfl ?_
              refine sA (v := .int .i64 (j + 1 : Nat)) rfl (fun _ henv => rn_add henv rfl rfl (by rw [IntWalk.i64_in _ (by omega)]; omega)) ?_
              refine aA rfl rfl ?_
              intro a henv
              refine wpList_nil ?_
              exact th_n ⟨_, (by omega), ⟨j + 1, rfl, henv.sub ⟨rfl, rfl, rfl, trivial⟩, hst.pick [0, 1] [0, 1, 2, 3] (by decide), (by omega), (by rw [take_one hxfJ, take_one hyfJ, hefJ, heq])⟩⟩
          · have hjfJ : j = n0 := by have := of_decide_eq_false hc68; omega
            have hsfJ : es0 = es2 := by rw [List.take_of_length_le (by omega), List.take_of_length_le (by omega)] at hefJ; exact hefJ
            refine wp_exit ?_
            refine th_x (th_x (bl_x (th_n ?_)))
            refine wp_seq ?_
            refine wp_seq ?_
            refine region_seq ?_
            refine sv (v := .int .i64 0) henv rfl (rn_assign henv rfl) ?_
            clear henv a; intro a henv
            refine wpList_nil ?_
            refine th_n ?_
            refine wp_block ?_
            refine wp_loop_ghost (fun mz a w => ∃ j : Nat, n1 - j = mz ∧ Env 73 a [(2, .pointer (some ⟨g51, 0, none⟩)), (3, .pointer (some ⟨g53, 0, none⟩)), (6, .int .i64 (j : Nat))] ∧ St w0 w [bk g53 #[.int .i64 i2, .int .i64 g2, .slice A2 n2 c2, .slice A3 n3 c3] 25, bk g51 #[.int .i64 i, .int .i64 g, .slice A0 n0 c0, .slice A1 n1 c1] 25] [pfRow fI FI 1 A3 n3 c3 es3, pfRow fJ FJ 5 A2 n2 c2 es2, pfRow fI FI 1 A1 n1 c1 es1, pfRow fJ FJ 5 A0 n0 c0 es0] ∧ j ≤ n1 ∧ es1.take j = es3.take j) _ ⟨0, rfl, henv.sub ⟨rfl, rfl, rfl, trivial⟩, hst.pick [0, 1] [0, 1, 2, 3] (by decide), (Nat.zero_le _), rfl⟩ ?_
            clear henv hst a
            rintro mz a w71 ⟨j, rfl, henv, hst, hj, hefI⟩
            refine wp_seq ?_
            refine wp_seq ?_
            refine region_seq ?_
            revert a
            refine mA rfl rfl ?_
            refine sA (v := .pointer (some ⟨g51, 3, none⟩)) rfl (fun _ henv => rn_fieldAddr henv fd_anvil_api_Prog_3 (ty__int.size) (by decide) rfl) ?_
            refine sA (v := .slice A1 n1 c1) rfl (fun _ henv => rn_load1 henv ty__int rfl (hst.oat (k := 1) rfl) rfl) ?_
            refine sA (v := .int .i64 (n1 : Nat)) rfl (fun _ henv => rn_len henv Tryd.underlying23 rfl) ?_
            refine sA (v := .bool (decide (((j : Nat) : Int) < ((n1 : Nat) : Int)))) rfl (fun _ henv => rn_bin henv rfl rfl rfl) ?_
            intro a henv
            refine wpList_nil ?_
            refine th_n ?_
            refine if_split henv rfl (fun hc72 => ?_) (fun hc72 => ?_)
            · have hlt : j < n1 := by have := of_decide_eq_true hc72; omega
              obtain ⟨x, hxfI⟩ : ∃ e, es1[j]? = some e := ⟨_, List.getElem?_eq_getElem (by omega)⟩
              obtain ⟨y, hyfI⟩ : ∃ e, es3[j]? = some e := ⟨_, List.getElem?_eq_getElem (by omega)⟩
              refine wp_skip ?_
              refine th_n ?_
              refine wp_seq ?_
              refine wp_block ?_
              refine wp_seq ?_
              refine region_any (n := 11) (Sk [bk g53 #[.int .i64 i2, .int .i64 g2, .slice A2 n2 c2, .slice A3 n3 c3] 25, bk g51 #[.int .i64 i, .int .i64 g, .slice A0 n0 c0, .slice A1 n1 c1] 25] [pfRow fI FI 1 A3 n3 c3 es3, pfRow fJ FJ 5 A2 n2 c2 es2, pfRow fI FI 1 A1 n1 c1 es1, pfRow fJ FJ 5 A0 n0 c0 es0] [] []) mixed rfl henv hst ?_
              clear henv hst; intro w73 henv hst
              refine tA (i := 0) [1, 3, 4, 10] (v := .pointer (some ⟨g51, 3, none⟩)) rfl (by kernel_rfl) (fun _ _ _ h => h) henv rfl (fun _ => rn_fieldAddr henv fd_anvil_api_Prog_3 (ty__int.size) (by decide) rfl) ?_
              clear henv a; intro a henv
              refine sAny_take (i := 1) [3, 4, 10] (fun w' => w'.heap[g51]? = some (.cells #[.int .i64 i, .int .i64 g, .slice A0 n0 c0, .slice A1 n1 c1] 25 (0, 0))) (v := .slice A1 n1 c1) rfl (by kernel_rfl) (fun _ _ _ h => h) (fun _ _ _ hS => hS.1.oat (k := 1) rfl) henv rfl (hst.oat (k := 1) rfl) (fun w' hg => rn_load1 henv ty__int rfl hg rfl) ?_
              clear henv a; intro a henv
              refine tM (i := 2) [3, 4, 10] rfl (by kernel_rfl) (fun _ _ _ h => h) henv rfl rfl ?_
              clear henv a; intro a henv
              refine sAny_take (i := 3) [4, 10] (fun w' => (pfRow fI FI 1 A1 n1 c1 es1).P w') (v := .pointer (some ⟨ab A1, ao A1 + j * 1, none⟩)) rfl (by kernel_rfl) (fun _ _ _ h => h) (fun _ _ _ hS => hS.1.pat (k := 2) rfl) henv rfl (hst.pat (k := 2) rfl) (fun w' hg => rn_idxR (i := j) henv Tryd.underlying23 (ty_int.size) rfl rfl (by omega) rfl (show (pfRow fI FI 1 A1 n1 c1 es1).P _ from hg).1) ?_
              clear henv a; intro a henv
              refine sAny_take (i := 4) [10] (fun w' => (pfRow fI FI 1 A1 n1 c1 es1).P w') (v := .int .i64 x) rfl (by kernel_rfl) (fun _ _ _ h => h) (fun _ _ _ hS => hS.1.pat (k := 2) rfl) henv rfl (hst.pat (k := 2) rfl) (fun w' hg => rn_loadE1 (i := j) (j := 0) (e := x) henv ty_int rfl rfl fI_len (by decide) (show (pfRow fI FI 1 A1 n1 c1 es1).P _ from hg).1 (by omega) hxfI rfl) ?_
              clear henv a; intro a henv
              refine tA (i := 5) [6, 8, 9, 10] (v := .pointer (some ⟨g53, 3, none⟩)) rfl (by kernel_rfl) (fun _ _ _ h => h) henv rfl (fun _ => rn_fieldAddr henv fd_anvil_api_Prog_3 (ty__int.size) (by decide) rfl) ?_
              clear henv a; intro a henv
              refine sAny_take (i := 6) [8, 9, 10] (fun w' => w'.heap[g53]? = some (.cells #[.int .i64 i2, .int .i64 g2, .slice A2 n2 c2, .slice A3 n3 c3] 25 (0, 0))) (v := .slice A3 n3 c3) rfl (by kernel_rfl) (fun _ _ _ h => h) (fun _ _ _ hS => hS.1.oat (k := 0) rfl) henv rfl (hst.oat (k := 0) rfl) (fun w' hg => rn_load1 henv ty__int rfl hg rfl) ?_
              clear henv a; intro a henv
              refine tM (i := 7) [8, 9, 10] rfl (by kernel_rfl) (fun _ _ _ h => h) henv rfl rfl ?_
              clear henv a; intro a henv
              refine sAny_take (i := 8) [9, 10] (fun w' => (pfRow fI FI 1 A3 n3 c3 es3).P w') (v := .pointer (some ⟨ab A3, ao A3 + j * 1, none⟩)) rfl (by kernel_rfl) (fun _ _ _ h => h) (fun _ _ _ hS => hS.1.pat (k := 0) rfl) henv rfl (hst.pat (k := 0) rfl) (fun w' hg => rn_idxR (i := j) henv Tryd.underlying23 (ty_int.size) rfl rfl (by omega) rfl (show (pfRow fI FI 1 A3 n3 c3 es3).P _ from hg).1) ?_
              clear henv a; intro a henv
              refine sAny_take (i := 9) [10] (fun w' => (pfRow fI FI 1 A3 n3 c3 es3).P w') (v := .int .i64 y) rfl (by kernel_rfl) (fun _ _ _ h => h) (fun _ _ _ hS => hS.1.pat (k := 0) rfl) henv rfl (hst.pat (k := 0) rfl) (fun w' hg => rn_loadE1 (i := j) (j := 0) (e := y) henv ty_int rfl rfl fI_len (by decide) (show (pfRow fI FI 1 A3 n3 c3 es3).P _ from hg).1 (by omega) hyfI rfl) ?_
              clear henv a; intro a henv
              refine tA (i := 10) [] (v := .bool (x != y)) rfl (by kernel_rfl) (fun _ _ _ h => h) henv rfl (fun _ => rn_bin henv rfl rfl rfl) ?_
              clear henv a; intro a henv
              refine sAny_done (by kernel_rfl) ?_ _
              refine th_n ?_
              refine if_split henv rfl (fun hc74 => ?_) (fun hc74 => ?_)
              · have hne : ¬ (es1 = es3) := fun q => by rw [q] at hxfI; rw [hxfI] at hyfI; exact bne_yes hc74 (Option.some.inj hyfI)
                refine wp_seq ?_
                refine region_seq ?_
                refine sv (v := .bool false) henv rfl (rn_assign henv rfl) ?_
                clear henv a; intro a henv
                refine wpList_nil ?_
                refine th_n ?_
                refine wp_ret ?_
                refine bl_r (th_r (th_r (bl_r (th_r ?_))))
                refine leave henv (res1 Tryd.results16 (RV.tmp henv rfl)) ?_
                exact ⟨by rw [decide_eq_false (fun q => by obtain ⟨q1, q2, q3, q4⟩ := q; contradiction)], hst.below⟩
              · have heq : x = y := bne_no hc74
                refine wp_skip ?_
                refine bl_n (th_n ?_)
                refine region_seq ?_
                revert a
                refine mA rfl rfl ?_
                refine sA (v := .int .i64 (j + 1 : Nat)) rfl (fun _ henv => rn_add henv rfl rfl (by rw [IntWalk.i64_in _ (by omega)]; omega)) ?_
                refine aA rfl rfl ?_
                intro a henv
                refine wpList_nil ?_
                exact th_n ⟨_, (by omega), ⟨j + 1, rfl, henv.sub ⟨rfl, rfl, rfl, trivial⟩, hst.pick [0, 1] [0, 1, 2, 3] (by decide), (by omega), (by rw [take_one hxfI, take_one hyfI, hefI, heq])⟩⟩
            · have hjfI : j = n1 := by have := of_decide_eq_false hc72; omega
              have hsfI : es1 = es3 := by rw [List.take_of_length_le (by omega), List.take_of_length_le (by omega)] at hefI; exact hefI
              refine wp_exit ?_
              refine th_x (th_x (bl_x (th_n ?_)))
              refine wp_seq ?_
              refine region_seq ?_
              refine sv (v := .bool true) henv rfl (rn_assign henv rfl) ?_
              clear henv a; intro a henv
              refine wpList_nil ?_
              refine th_n ?_
              refine wp_ret ?_
              refine leave henv (res1 Tryd.results16 (RV.tmp henv rfl)) ?_
              exact ⟨by rw [decide_eq_true (show (i = i2 ∧ g = g2 ∧ es0 = es2 ∧ es1 = es3) from ⟨by assumption, by assumption, hsfJ, hsfI⟩)], hst.below⟩
set_option maxRecDepth 100000 in
set_option maxHeartbeats 2000000 in
theorem g_cloneJ_nil {c0 : Nat} {es0 : List IE} {w0 : World} (h0 : (pfRow fJ FJ 5 none 0 c0 es0).P w0) :
    Calls Tryd.prog 41 #[.slice none 0 c0] w0 fun e w' => ∃ A c, e = .returned (.slice A 0 c) ∧ NewRow notU 37 5 fJ FJ w0.heap.size w' A 0 c es0 ∧ Below w0.heap.size w0 w' := by
  refine enter Tryd.func41 rfl Tryd.ntmps41 rfl ?_
  intro a henv hst
  have hlen0 := h0.2.1
  have hcap0 := h0.1.cap
  have hmx0 := h0.1.big
  replace hst := hst.argRow h0
  clear h0
  refine wp_seq ?_
  refine region_seq ?_
  refine sv (v := .slice none 0 0) henv rfl (rn_assign henv rfl) ?_
  clear henv a; intro a henv
  refine wpList_nil ?_
  refine th_n ?_
  refine wp_seq ?_
  refine wp_seq ?_
  refine region_seq ?_
  revert a
  refine mA rfl rfl ?_
  refine sA (v := .bool none.isNone) rfl (fun _ henv => rn_nilS henv Tryd.underlying22 rfl) ?_
  intro a henv
  rw [show none.isNone = true from rfl] at henv
  refine wpList_nil ?_
  refine th_n ?_
  refine if_t henv rfl (rfl) ?_
  refine wp_seq ?_
  refine region_seq ?_
  refine sv (v := .slice none 0 0) henv rfl (rn_assign henv rfl) ?_
  clear henv a; intro a henv
  refine wpList_nil ?_
  refine th_n ?_
  refine wp_ret ?_
  refine th_r ?_
  refine leave henv (res1 Tryd.results41 (RV.tmp henv rfl)) ?_
  obtain rfl : es0 = [] := List.eq_nil_of_length_eq_zero hlen0
  exact ⟨_, _, rfl, newrow_nil, hst.below⟩
set_option maxRecDepth 100000 in
set_option maxHeartbeats 2000000 in
theorem g_cloneJ_e {A0 : Option Addr} {c0 : Nat} {es0 : List IE} {w0 : World} (h0 : (pfRow fJ FJ 5 A0 0 c0 es0).P w0) (hA : A0.isNone = false) :
    Calls Tryd.prog 41 #[.slice A0 0 c0] w0 fun e w' => ∃ A c, e = .returned (.slice A 0 c) ∧ NewRow notU 37 5 fJ FJ w0.heap.size w' A 0 c es0 ∧ Below w0.heap.size w0 w' := by
  refine enter Tryd.func41 rfl Tryd.ntmps41 rfl ?_
  intro a henv hst
  have hlen0 := h0.2.1
  have hcap0 := h0.1.cap
  have hmx0 := h0.1.big
  replace hst := hst.argRow h0
  clear h0
  refine wp_seq ?_
  refine region_seq ?_
  refine sv (v := .slice none 0 0) henv rfl (rn_assign henv rfl) ?_
  clear henv a; intro a henv
  refine wpList_nil ?_
  refine th_n ?_
  refine wp_seq ?_
  refine wp_seq ?_
  refine region_seq ?_
  revert a
  refine mA rfl rfl ?_
  refine sA (v := .bool A0.isNone) rfl (fun _ henv => rn_nilS henv Tryd.underlying22 rfl) ?_
  intro a henv
  rw [show A0.isNone = false from hA] at henv
  refine wpList_nil ?_
  refine th_n ?_
  refine if_f henv rfl (rfl) ?_
  refine wp_skip ?_
  refine th_n ?_
  refine wp_seq ?_
  refine region_seq ?_
  refine seq_step rfl (op_buildSlice0 henv hst rfl Tryd.underlying22 (ty_anvil_api_Instr.size) ?_)
  clear henv hst a; intro a w52 g51 henv hst
  replace hst := (hst.bkRow0 (k := 0) rfl 5)
  replace hst : St w0 _ [rowS notU 37 5 (some ⟨g51, 0, none⟩) 0 0 (fl fJ ([]))] [pfRow fJ FJ 5 A0 0 c0 es0] := hst
  refine sv (v := .slice A0 0 c0) henv rfl (rn_move henv rfl) ?_
  clear henv a; intro a henv
  refine seq_step rfl (op_appendR0 (k := 0) henv hst rfl Tryd.underlying22 (ty_anvil_api_Instr.size) rfl rfl rfl ?_)
  clear henv a; intro a henv
  refine sv (v := .slice (some ⟨g51, 0, none⟩) 0 0) henv rfl (rn_assign henv rfl) ?_
  clear henv a; intro a henv
  refine wpList_nil ?_
  refine th_n ?_
  refine wp_ret ?_
  refine leave henv (res1 Tryd.results41 (RV.tmp henv rfl)) ?_
  obtain rfl : es0 = [] := List.eq_nil_of_length_eq_zero hlen0
  exact ⟨_, _, rfl, newrow_of (hst.owns (k := 0) rfl) (fun b hb => hst.new _ (List.mem_of_getElem? (i := 0) rfl) b hb) rfl, hst.below⟩
set_option maxRecDepth 100000 in
set_option maxHeartbeats 2000000 in
theorem g_cloneJ_ok {A0 : Option Addr} {n0 c0 : Nat} {es0 : List IE} {w0 : World} (h0 : (pfRow fJ FJ 5 A0 n0 c0 es0).P w0) (hp : 0 < n0)  (hA : A0.isNone = false) (hn : n0 ≤ 100000) :
    Calls Tryd.prog 41 #[.slice A0 n0 c0] w0 fun e w' => ∃ A c, e = .returned (.slice A n0 c) ∧ NewRow notU 37 5 fJ FJ w0.heap.size w' A n0 c es0 ∧ Below w0.heap.size w0 w' := by
  refine enter Tryd.func41 rfl Tryd.ntmps41 rfl ?_
  intro a henv hst
  have hlen0 := h0.2.1
  have hcap0 := h0.1.cap
  have hmx0 := h0.1.big
  replace hst := hst.argRow h0
  clear h0
  refine wp_seq ?_
  refine region_seq ?_
  refine sv (v := .slice none 0 0) henv rfl (rn_assign henv rfl) ?_
  clear henv a; intro a henv
  refine wpList_nil ?_
  refine th_n ?_
  refine wp_seq ?_
  refine wp_seq ?_
  refine region_seq ?_
  revert a
  refine mA rfl rfl ?_
  refine sA (v := .bool A0.isNone) rfl (fun _ henv => rn_nilS henv Tryd.underlying22 rfl) ?_
  intro a henv
  rw [show A0.isNone = false from hA] at henv
  refine wpList_nil ?_
  refine th_n ?_
  refine if_f henv rfl (rfl) ?_
  refine wp_skip ?_
  refine th_n ?_
  refine wp_seq ?_
  refine region_seq ?_
  refine seq_step rfl (op_buildSlice0 henv hst rfl Tryd.underlying22 (ty_anvil_api_Instr.size) ?_)
  clear henv hst a; intro a w52 g51 henv hst
  replace hst := (hst.bkRow0 (k := 0) rfl 5)
  replace hst : St w0 _ [rowS notU 37 5 (some ⟨g51, 0, none⟩) 0 0 (fl fJ ([]))] [pfRow fJ FJ 5 A0 n0 c0 es0] := hst
  refine sv (v := .slice A0 n0 c0) henv rfl (rn_move henv rfl) ?_
  clear henv a; intro a henv
  refine seq_step rfl (op_appendR (k := 0) henv hst rfl Tryd.underlying22 inf_anvil_api_Instr rfl rfl rfl rfl rfl (hst.pat (k := 0) rfl).1 (fl_all (fun _ => rfl) _) (fl_all (fun _ => rfl) _) rfl (by omega) (by unfold maxLen; omega) (by omega) ?_)
  clear henv hst a; intro a w55 g53 c54 henv hst
  rw [show fl fJ ([]) ++ fl fJ es0 = fl fJ es0 from rfl] at hst
  replace hst : St w0 _ [rowS notU 37 5 (some ⟨g53, 0, none⟩) (0 + n0) c54 (fl fJ es0)] [pfRow fJ FJ 5 A0 n0 c0 es0] := hst
  refine sv (v := .slice (some ⟨g53, 0, none⟩) (0 + n0) c54) henv rfl (rn_assign henv rfl) ?_
  clear henv a; intro a henv
  refine wpList_nil ?_
  refine th_n ?_
  refine wp_ret ?_
  refine leave henv (res1 Tryd.results41 (RV.tmp henv rfl)) ?_
  exact ⟨_, _, congrArg (fun k => Ending.returned (Value.slice _ k _)) (Nat.zero_add _), newrow_of (hst.owns (k := 0) rfl) (fun b hb => hst.new _ (List.mem_of_getElem? (i := 0) rfl) b hb) (Nat.zero_add _), hst.below⟩
theorem g_cloneJ {A0 : Option Addr} {n0 c0 : Nat} {es0 : List IE} {w0 : World} (h0 : (pfRow fJ FJ 5 A0 n0 c0 es0).P w0) (hn : n0 ≤ 100000) :
    Calls Tryd.prog 41 #[.slice A0 n0 c0] w0 fun e w' => ∃ A c, e = .returned (.slice A n0 c) ∧ NewRow notU 37 5 fJ FJ w0.heap.size w' A n0 c es0 ∧ Below w0.heap.size w0 w' := by
  cases A0 with
  | none =>
    have hn0 := row_none h0 rfl
    subst hn0
    exact g_cloneJ_nil h0
  | some a =>
    rcases Nat.eq_zero_or_pos n0 with h | h
    · subst h
      exact g_cloneJ_e h0 rfl
    · exact g_cloneJ_ok h0 h rfl hn
end Go.Proofs.YtbdngknpngcojaaDoor.W

/- Copy; ProgCopies. Printed by pv/gen_g4.py. No condition. -/
namespace Go.Proofs.YtbdngknpngcojaaDoor.W
open Go.RowKit Anv Go.Lib
section
variable {N : Nat} {dq : List Deferred} {a : Act} {l : List (Nat × Value)} {w : World} {d : Nat} {ty : TypeId} {pos : String} {af : Array Edge} {gd : Option (Nat × Bool)}
theorem rn_prog01 {x0 x1 : Operand} {v0 : Int} {v1 : Int} (h : EnvD dq N a l) (h0 : evl l x0 = some (.int .i64 v0)) (h1 : evl l x1 = some (.int .i64 v1)) :
    (execOp a.eval ⟨some d, .build 25 #[(0, x0), (1, x1)], ty, pos, af, gd⟩).run Tryd.prog w = .ok (.value (.agg #[.int .i64 v0, .int .i64 v1, .slice none 0 0, .slice none 0 0])) w := by
  have hz : (zeroValue 25).run Tryd.prog w = .ok (.agg #[.int .i64 0, .int .i64 0, .slice none 0 0, .slice none 0 0]) w := by obtain ⟨i, hi, hv⟩ := zero_anvil_api_Prog; simp [zeroValue, typeInfo, hi, hv]
  simp [execOp, h.ev h0, h.ev h1, Instr.build, hz, run_underlying Tryd.underlying25, Sem.run_bind, run_sizeOf ty_int.size, run_sizeOf ty__api_Instr.size, run_sizeOf ty__int.size, Instr.fill, Value.cells]
end
def TwoR (b0 : Nat) (w : World) (A : Option Addr) (n c : Nat) (es : List IE) (B : Option Addr) (m d : Nat) (os : List Int) : Prop :=
  NewRow notU 37 5 fJ FJ b0 w A n c es ∧ NewRow notU 3 1 fI FI b0 w B m d os ∧ ∀ a b, A = some a → B = some b → a.block ≠ b.block
abbrev V5 := Value × Value × Value × Value × Value
def fV5 (p : V5) : List Value := [p.1, p.2.1, p.2.2.1, p.2.2.2.1, p.2.2.2.2]
def fV1 (v : Value) : List Value := [v]
end Go.Proofs.YtbdngknpngcojaaDoor.W

/- prog.moved, Depth. Printed by pv/gen_g5.py. No condition. -/
namespace Go.Proofs.YtbdngknpngcojaaDoor.W
open Go.RowKit Anv Go.Lib
section
variable {N : Nat} {dq : List Deferred} {a : Act} {l : List (Nat × Value)} {w : World} {d : Nat} {ty : TypeId} {pos : String} {af : Array Edge} {gd : Option (Nat × Bool)}
theorem rn_maxI {P : Program} {x y : Operand} {T T' : Nat} {m n : Int} (h : EnvD dq N a l) (hx : evl l x = some (.int .i64 m)) (hy : evl l y = some (.int .i64 n)) :
    (execOp a.eval ⟨some d, .call ⟨.builtin .max, #[x, y], #[T, T']⟩, ty, pos, af, gd⟩).run P w = .ok (.value (.int .i64 (max m n))) w := by
  have hv := h.ev hx
  have hv' := h.ev hy
  have e : (max m n : Int) = if m < n then n else m := by split <;> omega
  rw [e]
  generalize a.eval = ρ at hv hv' ⊢
  simp [hv, hv', go_sem]
  split <;> omega
end
def mvB (op rb g : Int) : Int := if op = 3 ∨ op = 4 then rb + g else rb
def mvI (g : Int) (e : IE) : IE := (e.1, e.2.1 + g, e.2.2.1 + g, mvB e.1 e.2.2.2.1 g, e.2.2.2.2)
def mxL (d : List Int) (l : List Int) : Int := l.foldl (fun m r => max m (d.getD r.toNat 0)) 0
def dstep (d : List Int) (e : IE) : List Int := d.set e.2.1.toNat (mxL d (asksL e.1 e.2.2.1 e.2.2.2.1) + 1)
def dpt (g : Nat) (es : List IE) (os : List Int) : Int := mxL (es.foldl dstep (List.replicate g 0)) os
theorem mx_step {d l : List Int} {m : Nat} {x : Int} (h : l[m]? = some x) : mxL d (l.take (m + 1)) = max (mxL d (l.take m)) (d.getD x.toNat 0) := by
  rw [mxL, take_one h, List.foldl_append]
  rfl
theorem dstep_take {ds : List Int} {es : List IE} {g j t : Nat} {op ra rb cn v : Int} (hd : ds = (es.take j).foldl dstep (List.replicate g 0)) (he : es[j]? = some (op, (t : Int), ra, rb, cn)) (hv : v = mxL ds (asksL op ra rb)) : ds.set t (v + 1) = (es.take (j + 1)).foldl dstep (List.replicate g 0) := by
  rw [take_one he, List.foldl_append, ← hd, hv]
  rfl
theorem set_bd {ds : List Int} {j t : Nat} {v : Int} (h : ∀ x ∈ ds, 0 ≤ x ∧ x ≤ (j : Nat)) (hv : 0 ≤ v ∧ v ≤ (j : Nat) + 1) : ∀ x ∈ ds.set t v, 0 ≤ x ∧ x ≤ ((j + 1 : Nat) : Int) := fun x hx => by
  rcases mem_set_cases hx with q | q
  · have := h x q; omega
  · rw [q]; omega
theorem may_asks {e : IE} {g : Int} (h : May e g) : ∀ x ∈ asksL e.1 e.2.2.1 e.2.2.2.1, 0 ≤ x ∧ x < g := by
  rw [asks_all]
  unfold May at h
  omega
set_option maxRecDepth 100000 in
set_option maxHeartbeats 2000000 in
theorem g_moved {op tr ra rb cn : Int} {g : Int} {w0 : World} (b1 : -1000000 ≤ tr ∧ tr ≤ 1000000) (b2 : -1000000 ≤ ra ∧ ra ≤ 1000000) (b3 : -1000000 ≤ rb ∧ rb ≤ 1000000) (b4 : -1000000 ≤ g ∧ g ≤ 1000000) :
    Calls Tryd.prog 43 #[.agg #[.int .i64 op, .int .i64 tr, .int .i64 ra, .int .i64 rb, .int .i64 cn], .int .i64 g] w0 fun e w' => e = .returned (.agg #[.int .i64 op, .int .i64 (tr + g), .int .i64 (ra + g), .int .i64 (mvB op rb g), .int .i64 cn]) ∧ Below w0.heap.size w0 w' := by
  refine enter Tryd.func43 rfl Tryd.ntmps43 rfl ?_
  intro a henv hst
  refine wp_seq ?_
  refine region_seq ?_
  refine seq_step rfl (op_box (c := #[.int .i64 op, .int .i64 tr, .int .i64 ra, .int .i64 rb, .int .i64 cn]) henv hst rfl rfl rfl ?_)
  clear henv hst a; intro a w52 g51 henv hst
  refine seq_step rfl (op_alloc (c := #[.int .i64 0, .int .i64 0, .int .i64 0, .int .i64 0, .int .i64 0]) henv hst rfl zero_anvil_api_Instr rfl ?_)
  clear henv hst a; intro a w54 g53 henv hst
  refine wpList_nil ?_
  refine th_n ?_
  refine wp_seq ?_
  refine region_seq ?_
  revert a
  refine sA (v := .pointer (some ⟨g51, 1, none⟩)) rfl (fun _ henv => rn_fieldAddr henv fd_anvil_api_Instr_1 (ty_int.size) (by decide) rfl) ?_
  refine sA (v := .int .i64 tr) rfl (fun _ henv => rn_load1 henv ty_int rfl (hst.oat (k := 1) rfl) rfl) ?_
  refine mA rfl rfl ?_
  refine sA (v := .int .i64 (tr + g)) rfl (fun _ henv => rn_add henv rfl rfl (IntWalk.i64_in _ (by omega))) ?_
  refine sA (v := .pointer (some ⟨g51, 2, none⟩)) rfl (fun _ henv => rn_fieldAddr henv fd_anvil_api_Instr_2 (ty_int.size) (by decide) rfl) ?_
  refine sA (v := .int .i64 ra) rfl (fun _ henv => rn_load1 henv ty_int rfl (hst.oat (k := 1) rfl) rfl) ?_
  refine mA rfl rfl ?_
  refine sA (v := .int .i64 (ra + g)) rfl (fun _ henv => rn_add henv rfl rfl (IntWalk.i64_in _ (by omega))) ?_
  refine sA (v := .pointer (some ⟨g51, 1, none⟩)) rfl (fun _ henv => rn_fieldAddr henv fd_anvil_api_Instr_1 (ty_int.size) (by decide) rfl) ?_
  intro a henv
  refine seq_step rfl (op_store1 (k := 1) (c' := #[.int .i64 op, .int .i64 (tr + g), .int .i64 ra, .int .i64 rb, .int .i64 cn]) henv hst (ty_int.size) rfl rfl rfl (by simp) rfl rfl ?_)
  clear henv hst a; intro a w55 henv hst
  refine sv (v := .pointer (some ⟨g51, 2, none⟩)) henv rfl (rn_fieldAddr henv fd_anvil_api_Instr_2 (ty_int.size) (by decide) rfl) ?_
  clear henv a; intro a henv
  refine seq_step rfl (op_store1 (k := 1) (c' := #[.int .i64 op, .int .i64 (tr + g), .int .i64 (ra + g), .int .i64 rb, .int .i64 cn]) henv hst (ty_int.size) rfl rfl rfl (by simp) rfl rfl ?_)
  clear henv hst a; intro a w56 henv hst
  refine wpList_nil ?_
  refine th_n ?_
  refine wp_seq ?_
  refine wp_seq ?_
  refine region_seq ?_
  revert a
  refine sA (v := .pointer (some ⟨g51, 0, none⟩)) rfl (fun _ henv => rn_fieldAddr henv fd_anvil_api_Instr_0 (ty_int.size) (by decide) rfl) ?_
  refine sA (v := .int .i64 op) rfl (fun _ henv => rn_load1 henv ty_int rfl (hst.oat (k := 1) rfl) rfl) ?_
  intro a henv
  refine seq_step rfl (op_call henv rfl Tryd.call57 rfl (g_two (op := op)) ?_)
  rintro e w57 ⟨rfl, hb⟩
  refine ⟨_, rfl, ?_⟩
  clear henv a; intro a henv
  replace hst := hst.call hb
  clear hb
  refine wpList_nil ?_
  refine th_n ?_
  refine if_split henv rfl (fun hc58 => ?_) (fun hc58 => ?_)
  · have hx59 := of_decide_eq_true hc58
    refine region_seq ?_
    revert a
    refine sA (v := .pointer (some ⟨g51, 3, none⟩)) rfl (fun _ henv => rn_fieldAddr henv fd_anvil_api_Instr_3 (ty_int.size) (by decide) rfl) ?_
    refine sA (v := .int .i64 rb) rfl (fun _ henv => rn_load1 henv ty_int rfl (hst.oat (k := 1) rfl) rfl) ?_
    refine mA rfl rfl ?_
    refine sA (v := .int .i64 (rb + g)) rfl (fun _ henv => rn_add henv rfl rfl (IntWalk.i64_in _ (by omega))) ?_
    refine sA (v := .pointer (some ⟨g51, 3, none⟩)) rfl (fun _ henv => rn_fieldAddr henv fd_anvil_api_Instr_3 (ty_int.size) (by decide) rfl) ?_
    intro a henv
    refine seq_step rfl (op_store1 (k := 1) (c' := #[.int .i64 op, .int .i64 (tr + g), .int .i64 (ra + g), .int .i64 (rb + g), .int .i64 cn]) henv hst (ty_int.size) rfl rfl rfl (by simp) rfl rfl ?_)
    clear henv hst a; intro a w60 henv hst
    refine wpList_nil ?_
    refine th_n ?_
    refine wp_seq ?_
    refine region_seq ?_
    refine sv (v := .agg #[.int .i64 op, .int .i64 (tr + g), .int .i64 (ra + g), .int .i64 (rb + g), .int .i64 cn]) henv rfl (rn_load0 henv ty_anvil_api_Instr rfl (hst.oat (k := 1) rfl) rfl) ?_
    clear henv a; intro a henv
    refine seq_step rfl (op_store (k := 0) (c' := #[.int .i64 op, .int .i64 (tr + g), .int .i64 (ra + g), .int .i64 (rb + g), .int .i64 cn]) henv hst (ty_anvil_api_Instr.size) rfl rfl rfl rfl (by simp) rfl rfl ?_)
    clear henv hst a; intro a w61 henv hst
    refine wpList_nil ?_
    refine th_n ?_
    refine wp_ret ?_
    refine leave henv (res1 Tryd.results43 (RV.cell henv ty_anvil_api_Instr rfl (hst.oat (k := 0) rfl) rfl)) ?_
    exact ⟨by rw [show mvB op rb g = rb + g from if_pos (by omega)], hst.below⟩
  · have hx62 := of_decide_eq_false hc58
    refine wp_skip ?_
    refine th_n ?_
    refine wp_seq ?_
    refine region_seq ?_
    refine sv (v := .agg #[.int .i64 op, .int .i64 (tr + g), .int .i64 (ra + g), .int .i64 rb, .int .i64 cn]) henv rfl (rn_load0 henv ty_anvil_api_Instr rfl (hst.oat (k := 1) rfl) rfl) ?_
    clear henv a; intro a henv
    refine seq_step rfl (op_store (k := 0) (c' := #[.int .i64 op, .int .i64 (tr + g), .int .i64 (ra + g), .int .i64 rb, .int .i64 cn]) henv hst (ty_anvil_api_Instr.size) rfl rfl rfl rfl (by simp) rfl rfl ?_)
    clear henv hst a; intro a w63 henv hst
    refine wpList_nil ?_
    refine th_n ?_
    refine wp_ret ?_
    refine leave henv (res1 Tryd.results43 (RV.cell henv ty_anvil_api_Instr rfl (hst.oat (k := 0) rfl) rfl)) ?_
    exact ⟨by rw [show mvB op rb g = rb from if_neg (by omega)], hst.below⟩
set_option maxRecDepth 100000 in
set_option maxHeartbeats 2000000 in
theorem g_empty {w0 : World} :
    Calls Tryd.prog 23 #[.agg #[.int .i64 0, .int .i64 0, .slice none 0 0, .slice none 0 0]] w0 fun e w' => e = .returned (.bool true) ∧ Below w0.heap.size w0 w' := by
  refine enter Tryd.func23 rfl Tryd.ntmps23 rfl ?_
  intro a henv hst
  refine wp_seq ?_
  refine region_seq ?_
  refine seq_step rfl (op_box (c := #[.int .i64 0, .int .i64 0, .slice none 0 0, .slice none 0 0]) henv hst rfl rfl rfl ?_)
  clear henv hst a; intro a w52 g51 henv hst
  refine sv (v := .bool false) henv rfl (rn_assign henv rfl) ?_
  clear henv a; intro a henv
  refine wpList_nil ?_
  refine th_n ?_
  refine wp_seq ?_
  refine region_seq ?_
  revert a
  refine sA (v := .pointer (some ⟨g51, 0, none⟩)) rfl (fun _ henv => rn_fieldAddr henv fd_anvil_api_Prog_0 (ty_int.size) (by decide) rfl) ?_
  refine sA (v := .int .i64 0) rfl (fun _ henv => rn_load1 henv ty_int rfl (hst.oat (k := 0) rfl) rfl) ?_
  refine sA (v := .bool true) rfl (fun _ henv => rn_bin henv rfl rfl rfl) ?_
  refine mA rfl rfl ?_
  refine gA (v := .pointer (some ⟨g51, 1, none⟩)) rfl rfl rfl rfl (fun _ henv => rn_fieldAddr henv fd_anvil_api_Prog_1 (ty_int.size) (by decide) rfl) ?_
  refine gA (v := .int .i64 0) rfl rfl rfl rfl (fun _ henv => rn_load1 henv ty_int rfl (hst.oat (k := 0) rfl) rfl) ?_
  refine gA (v := .bool true) rfl rfl rfl rfl (fun _ henv => rn_bin henv rfl rfl rfl) ?_
  refine sA (v := .bool true) rfl (fun _ henv => rn_pick henv rfl rfl) ?_
  refine mA rfl rfl ?_
  refine gA (v := .pointer (some ⟨g51, 2, none⟩)) rfl rfl rfl rfl (fun _ henv => rn_fieldAddr henv fd_anvil_api_Prog_2 (ty__api_Instr.size) (by decide) rfl) ?_
  refine gA (v := .slice none 0 0) rfl rfl rfl rfl (fun _ henv => rn_load1 henv ty__api_Instr rfl (hst.oat (k := 0) rfl) rfl) ?_
  refine gA (v := .int .i64 0) rfl rfl rfl rfl (fun _ henv => rn_len henv Tryd.underlying22 rfl) ?_
  refine gA (v := .bool true) rfl rfl rfl rfl (fun _ henv => rn_bin henv rfl rfl rfl) ?_
  refine sA (v := .bool true) rfl (fun _ henv => rn_pick henv rfl rfl) ?_
  refine mA rfl rfl ?_
  refine gA (v := .pointer (some ⟨g51, 3, none⟩)) rfl rfl rfl rfl (fun _ henv => rn_fieldAddr henv fd_anvil_api_Prog_3 (ty__int.size) (by decide) rfl) ?_
  refine gA (v := .slice none 0 0) rfl rfl rfl rfl (fun _ henv => rn_load1 henv ty__int rfl (hst.oat (k := 0) rfl) rfl) ?_
  refine gA (v := .int .i64 0) rfl rfl rfl rfl (fun _ henv => rn_len henv Tryd.underlying23 rfl) ?_
  refine gA (v := .bool true) rfl rfl rfl rfl (fun _ henv => rn_bin henv rfl rfl rfl) ?_
  refine sA (v := .bool true) rfl (fun _ henv => rn_pick henv rfl rfl) ?_
  refine aA rfl rfl ?_
  intro a henv
  refine wpList_nil ?_
  refine th_n ?_
  refine wp_ret ?_
  refine leave henv (res1 Tryd.results23 (RV.tmp henv rfl)) ?_
  exact ⟨rfl, hst.below⟩
set_option maxRecDepth 100000 in
set_option maxHeartbeats 4000000 in
theorem g_depth {i : Int} {g : Nat} {A0 A1 : Option Addr} {n0 c0 n1 c1 : Nat} {es0 : List IE} {es1 : List Int} {w0 : World} (h0 : (pfRow fJ FJ 5 A0 n0 c0 es0).P w0) (h1 : (pfRow fI FI 1 A1 n1 c1 es1).P w0) (hR : Right i g n0 n1 es0 es1) :
    Calls Tryd.prog 25 #[.agg #[.int .i64 i, .int .i64 (g : Nat), .slice A0 n0 c0, .slice A1 n1 c1]] w0 fun e w' => e = .returned (.tuple #[.int .i64 (dpt g es0 es1), .int .i64 0]) ∧ Below w0.heap.size w0 w' := by
  obtain ⟨hh1, hh2, hh3, hh4, hh5, hh6⟩ := hR.1
  refine enter Tryd.func25 rfl Tryd.ntmps25 rfl ?_
  intro a henv hst
  have hlen0 := h0.2.1
  have hbig0 := Nat.le_trans h0.1.cap h0.1.big
  unfold maxLen at hbig0
  have hlen1 := h1.2.1
  have hbig1 := Nat.le_trans h1.1.cap h1.1.big
  unfold maxLen at hbig1
  replace hst := hst.argRow h0
  replace hst := hst.argRow h1
  clear h0 h1
  refine wp_seq ?_
  refine region_seq ?_
  refine seq_step rfl (op_box (c := #[.int .i64 i, .int .i64 (g : Nat), .slice A0 n0 c0, .slice A1 n1 c1]) henv hst rfl rfl rfl ?_)
  clear henv hst a; intro a w52 g51 henv hst
  revert a
  refine aA rfl rfl ?_
  refine aA rfl rfl ?_
  intro a henv
  refine wpList_nil ?_
  refine th_n ?_
  refine wp_seq ?_
  refine wp_seq ?_
  refine region_seq ?_
  refine sv (v := .agg #[.int .i64 i, .int .i64 (g : Nat), .slice A0 n0 c0, .slice A1 n1 c1]) henv rfl (rn_load0 henv ty_anvil_api_Prog rfl (hst.oat (k := 0) rfl) rfl) ?_
  clear henv a; intro a henv
  refine seq_step rfl (op_call henv rfl Tryd.call37 rfl (g_right_ok (hst.pat (k := 1) rfl) (hst.pat (k := 0) rfl) hR) ?_)
  rintro e w53 ⟨rfl, hb⟩
  refine ⟨_, rfl, ?_⟩
  clear henv a; intro a henv
  replace hst := hst.call hb
  clear hb
  refine sv (v := .bool false) henv rfl (rn_un henv rfl rfl) ?_
  clear henv a; intro a henv
  refine wpList_nil ?_
  refine th_n ?_
  refine if_f henv rfl (rfl) ?_
  refine wp_skip ?_
  refine th_n ?_
  refine wp_seq ?_
  refine region_seq ?_
  revert a
  refine sA (v := .pointer (some ⟨g51, 1, none⟩)) rfl (fun _ henv => rn_fieldAddr henv fd_anvil_api_Prog_1 (ty_int.size) (by decide) rfl) ?_
  refine sA (v := .int .i64 (g : Nat)) rfl (fun _ henv => rn_load1 henv ty_int rfl (hst.oat (k := 0) rfl) rfl) ?_
  intro a henv
  refine seq_step rfl (op_makeS (f := fI) (e0 := 0) (q := notU) (n := g) henv hst rfl Tryd.underlying23 inf_int rfl rfl rfl rfl rfl rfl (by omega) (by unfold maxLen; omega) ?_)
  clear henv hst a; intro a w55 g54 henv hst
  refine sv (v := .slice (some ⟨g54, 0, none⟩) g g) henv rfl (rn_assign henv rfl) ?_
  clear henv a; intro a henv
  refine wpList_nil ?_
  refine th_n ?_
  refine wp_seq ?_
  refine wp_seq ?_
  refine region_seq ?_
  revert a
  refine sA (v := .pointer (some ⟨g51, 2, none⟩)) rfl (fun _ henv => rn_fieldAddr henv fd_anvil_api_Prog_2 (ty__api_Instr.size) (by decide) rfl) ?_
  refine sA (v := .slice A0 n0 c0) rfl (fun _ henv => rn_load1 henv ty__api_Instr rfl (hst.oat (k := 1) rfl) rfl) ?_
  refine sA (v := .int .i64 (n0 : Nat)) rfl (fun _ henv => rn_len henv Tryd.underlying22 rfl) ?_
  refine mA rfl rfl ?_
  intro a henv
  refine wpList_nil ?_
  refine th_n ?_
  refine wp_block ?_
  refine wp_loop_ghost (fun mz a w => ∃ j : Nat, ∃ ds : List Int, n0 - j = mz ∧ Env 62 a [(1, .pointer (some ⟨g51, 0, none⟩)), (4, .slice (some ⟨g54, 0, none⟩) g g), (20, .slice A0 n0 c0), (21, .int .i64 (n0 : Nat)), (22, .int .i64 (j : Nat))] ∧ St w0 w [rowS notU 3 1 (some ⟨g54, 0, none⟩) g g (fl fI ds), bk g51 #[.int .i64 i, .int .i64 (g : Nat), .slice A0 n0 c0, .slice A1 n1 c1] 25] [pfRow fI FI 1 A1 n1 c1 es1, pfRow fJ FJ 5 A0 n0 c0 es0] ∧ j ≤ n0 ∧ ds = (es0.take j).foldl dstep (List.replicate g 0) ∧ ds.length = g ∧ (∀ x ∈ ds, 0 ≤ x ∧ x ≤ (j : Nat))) _ ⟨0, (List.replicate g 0), rfl, henv.sub ⟨rfl, rfl, rfl, rfl, rfl, trivial⟩, hst.pick [0, 1] [0, 1] (by decide), (Nat.zero_le _), rfl, List.length_replicate, (fun x hx => by rw [List.eq_of_mem_replicate hx]; omega)⟩ ?_
  clear henv hst a
  rintro mz a w56 ⟨j, ds, rfl, henv, hst, hj, hd, hdl, hdb⟩
  refine wp_seq ?_
  refine region_seq ?_
  refine sv (v := .bool (decide (((j : Nat) : Int) < ((n0 : Nat) : Int)))) henv rfl (rn_bin henv rfl rfl rfl) ?_
  clear henv a; intro a henv
  refine wpList_nil ?_
  refine th_n ?_
  refine wp_seq ?_
  refine if_split henv rfl (fun hc57 => ?_) (fun hc57 => ?_)
  · have hlt : j < n0 := by have := of_decide_eq_true hc57; omega
    obtain ⟨⟨a1, a2, a3, a4, a5⟩, he0⟩ : ∃ e, es0[j]? = some e := ⟨_, List.getElem?_eq_getElem (by omega)⟩
    have hmy : May (a1, a2, a3, a4, a5) g := hR.2.2 _ (List.mem_of_getElem? he0)
    obtain ⟨t, ht⟩ : ∃ t : Nat, a2 = t := ⟨a2.toNat, by have := hmy.2.2.1; simp only at this; omega⟩
    subst ht
    have htg : t < g := by have := hmy.2.2.2.1; simp only at this; omega
    have hak := may_asks hmy
    have hal := asks_len a1 a3 a4
    simp only at hak
    refine wp_skip ?_
    refine th_n ?_
    refine wp_seq ?_
    refine wp_block ?_
    refine wp_seq ?_
    refine region_seq ?_
    revert a
    refine sA (v := .pointer (some ⟨ab A0, ao A0 + j * 5, none⟩)) rfl (fun _ henv => rn_idxR (i := j) henv Tryd.underlying22 (ty_anvil_api_Instr.size) rfl rfl (by omega) rfl (show (pfRow fJ FJ 5 A0 n0 c0 es0).P _ from (hst.pat (k := 1) rfl)).1) ?_
    refine sA (v := .agg #[.int .i64 a1, .int .i64 (t : Nat), .int .i64 a3, .int .i64 a4, .int .i64 a5]) rfl (fun _ henv => rn_loadE (i := j) (e := (a1, (t : Int), a3, a4, a5)) henv ty_anvil_api_Instr rfl rfl fJ_len (show (pfRow fJ FJ 5 A0 n0 c0 es0).P _ from (hst.pat (k := 1) rfl)).1 (by omega) he0 rfl) ?_
    intro a henv
    refine seq_step rfl (op_alloc (c := #[.int .i64 0, .int .i64 0, .int .i64 0, .int .i64 0, .int .i64 0]) henv hst rfl zero_anvil_api_Instr rfl ?_)
    clear henv hst a; intro a w59 g58 henv hst
    refine seq_step rfl (op_store (k := 0) (c' := #[.int .i64 a1, .int .i64 (t : Nat), .int .i64 a3, .int .i64 a4, .int .i64 a5]) henv hst (ty_anvil_api_Instr.size) rfl rfl rfl rfl (by simp) rfl rfl ?_)
    clear henv hst a; intro a w60 henv hst
    refine wpList_nil ?_
    refine th_n ?_
    refine wp_seq ?_
    refine region_seq ?_
    refine sv (v := .int .i64 0) henv rfl (rn_assign henv rfl) ?_
    clear henv a; intro a henv
    refine wpList_nil ?_
    refine th_n ?_
    refine wp_seq ?_
    refine wp_seq ?_
    refine region_seq ?_
    refine sv (v := .agg #[.int .i64 a1, .int .i64 (t : Nat), .int .i64 a3, .int .i64 a4, .int .i64 a5]) henv rfl (rn_load0 henv ty_anvil_api_Instr rfl (hst.oat (k := 0) rfl) rfl) ?_
    clear henv a; intro a henv
    refine seq_step rfl (op_call henv rfl Tryd.call18 rfl (g_asks (op := a1) (tr := (t : Nat)) (ra := a3) (rb := a4) (cn := a5)) ?_)
    rintro e w63 ⟨_, rfl, ⟨A61, c62, rfl, hr, hfr⟩, hb⟩
    refine ⟨_, rfl, ?_⟩
    clear henv a; intro a henv
    replace hst := hst.freshI hb hr hfr
    clear hr
    clear hb
    revert a
    refine sA (v := .int .i64 ((asksL a1 a3 a4).length : Nat)) rfl (fun _ henv => rn_len henv Tryd.underlying23 rfl) ?_
    refine mA rfl rfl ?_
    intro a henv
    refine wpList_nil ?_
    refine th_n ?_
    refine wp_block ?_
    refine wp_loop_ghost (fun mz a w => ∃ m : Nat, ∃ v : Int, (asksL a1 a3 a4).length - m = mz ∧ Env 62 a [(1, .pointer (some ⟨g51, 0, none⟩)), (4, .slice (some ⟨g54, 0, none⟩) g g), (20, .slice A0 n0 c0), (21, .int .i64 (n0 : Nat)), (22, .int .i64 (j : Nat)), (6, .pointer (some ⟨g58, 0, none⟩)), (27, .slice A61 ((asksL a1 a3 a4).length) c62), (28, .int .i64 ((asksL a1 a3 a4).length : Nat)), (7, .int .i64 v), (29, .int .i64 (m : Nat))] ∧ St w0 w [bk g58 #[.int .i64 a1, .int .i64 (t : Nat), .int .i64 a3, .int .i64 a4, .int .i64 a5] 37, rowS notU 3 1 (some ⟨g54, 0, none⟩) g g (fl fI ds), bk g51 #[.int .i64 i, .int .i64 (g : Nat), .slice A0 n0 c0, .slice A1 n1 c1] 25] [pfRow fI FI 1 A61 ((asksL a1 a3 a4).length) c62 (asksL a1 a3 a4), pfRow fI FI 1 A1 n1 c1 es1, pfRow fJ FJ 5 A0 n0 c0 es0] ∧ m ≤ (asksL a1 a3 a4).length ∧ v = mxL ds ((asksL a1 a3 a4).take m) ∧ (0 ≤ v ∧ v ≤ (j : Nat))) _ ⟨0, 0, rfl, henv.sub ⟨rfl, rfl, rfl, rfl, rfl, rfl, rfl, rfl, rfl, rfl, trivial⟩, hst.pick [0, 1, 2] [0, 1, 2] (by decide), (Nat.zero_le _), rfl, ⟨by omega, by omega⟩⟩ ?_
    clear henv hst a
    rintro mz a w64 ⟨m, v, rfl, henv, hst, hm, hv, hvb⟩
    refine wp_seq ?_
    refine region_seq ?_
    refine sv (v := .bool (decide (((m : Nat) : Int) < (((asksL a1 a3 a4).length : Nat) : Int)))) henv rfl (rn_bin henv rfl rfl rfl) ?_
    clear henv a; intro a henv
    refine wpList_nil ?_
    refine th_n ?_
    refine wp_seq ?_
    refine if_split henv rfl (fun hc65 => ?_) (fun hc65 => ?_)
    · have hlm : m < (asksL a1 a3 a4).length := by have := of_decide_eq_true hc65; omega
      obtain ⟨x, hea⟩ : ∃ x, (asksL a1 a3 a4)[m]? = some x := ⟨_, List.getElem?_eq_getElem hlm⟩
      have hxr := hak x (List.mem_of_getElem? hea)
      obtain ⟨q, rfl⟩ := Int.eq_ofNat_of_zero_le hxr.1
      have hqg : q < g := by omega
      obtain ⟨y, hye⟩ : ∃ y, ds[q]? = some y := ⟨_, List.getElem?_eq_getElem (by omega)⟩
      have hyd : ds.getD q 0 = y := by rw [List.getD_eq_getElem?_getD, hye]; rfl
      have hyb := hdb y (List.mem_of_getElem? hye)
      refine wp_skip ?_
      refine th_n ?_
      refine wp_seq ?_
      refine wp_block ?_
      refine wp_seq ?_
      refine region_seq ?_
      revert a
      refine sA (v := .pointer (some ⟨ab A61, ao A61 + m * 1, none⟩)) rfl (fun _ henv => rn_idxR (i := m) henv Tryd.underlying23 (ty_int.size) rfl rfl (by omega) rfl (show (pfRow fI FI 1 A61 ((asksL a1 a3 a4).length) c62 (asksL a1 a3 a4)).P _ from (hst.pat (k := 0) rfl)).1) ?_
      refine sA (v := .int .i64 (q : Nat)) rfl (fun _ henv => rn_loadE1 (i := m) (j := 0) (e := ((q : Nat) : Int)) henv ty_int rfl rfl fI_len (by decide) (show (pfRow fI FI 1 A61 ((asksL a1 a3 a4).length) c62 (asksL a1 a3 a4)).P _ from (hst.pat (k := 0) rfl)).1 (by omega) hea rfl) ?_
      refine aA rfl rfl ?_
      intro a henv
      refine wpList_nil ?_
      refine th_n ?_
      refine region_seq ?_
      revert a
      refine mA rfl rfl ?_
      refine mA rfl rfl ?_
      refine mA rfl rfl ?_
      refine sA (v := .pointer (some ⟨ab (some ⟨g54, 0, none⟩), ao (some ⟨g54, 0, none⟩) + q * 1, none⟩)) rfl (fun _ henv => rn_idxR (i := q) henv Tryd.underlying23 (ty_int.size) rfl rfl (by omega) rfl (rowS_rd (hst.owns (k := 1) rfl))) ?_
      refine sA (v := .int .i64 y) rfl (fun _ henv => rn_loadE1 (i := q) (j := 0) (e := y) henv ty_int rfl rfl fI_len (by decide) (rowS_rd (hst.owns (k := 1) rfl)) (by omega) hye rfl) ?_
      refine sA (v := .int .i64 (max v y)) rfl (fun _ henv => rn_maxI (m := v) (n := y) henv rfl rfl) ?_
      refine aA rfl rfl ?_
      intro a henv
      refine wpList_nil ?_
      refine bl_n (th_n ?_)
      refine region_seq ?_
      revert a
      refine sA (v := .int .i64 (m + 1 : Nat)) rfl (fun _ henv => rn_add henv rfl rfl (by rw [IntWalk.i64_in _ (by omega)]; omega)) ?_
      refine mA rfl rfl ?_
      intro a henv
      refine wpList_nil ?_
      exact th_n ⟨_, (by omega), ⟨m + 1, (max v y), rfl, henv.sub ⟨rfl, rfl, rfl, rfl, rfl, rfl, rfl, rfl, rfl, rfl, trivial⟩, hst.pick [0, 1, 2] [0, 1, 2] (by decide), (by omega), (by rw [mx_step hea, ← hv]; show _ = max v (ds.getD q 0); rw [hyd]), ⟨by omega, by omega⟩⟩⟩
    · have hvf : v = mxL ds (asksL a1 a3 a4) := by rw [hv, List.take_of_length_le (by have := of_decide_eq_false hc65; omega)]
      refine wp_exit ?_
      refine th_x (th_x (bl_x (th_n ?_)))
      refine region_seq ?_
      revert a
      refine mA rfl rfl ?_
      refine sA (v := .pointer (some ⟨g58, 1, none⟩)) rfl (fun _ henv => rn_fieldAddr henv fd_anvil_api_Instr_1 (ty_int.size) (by decide) rfl) ?_
      refine sA (v := .int .i64 (t : Nat)) rfl (fun _ henv => rn_load1 henv ty_int rfl (hst.oat (k := 0) rfl) rfl) ?_
      refine mA rfl rfl ?_
      refine sA (v := .int .i64 (v + (1 : Int))) rfl (fun _ henv => rn_add henv rfl rfl (IntWalk.i64_in _ (by omega))) ?_
      refine sA (v := .pointer (some ⟨ab (some ⟨g54, 0, none⟩), ao (some ⟨g54, 0, none⟩) + t * 1, none⟩)) rfl (fun _ henv => rn_idxR (i := t) henv Tryd.underlying23 (ty_int.size) rfl rfl (by omega) rfl (rowS_rd (hst.owns (k := 1) rfl))) ?_
      intro a henv
      refine seq_step rfl (op_storeW1 (f := fI) (i := t) (e := v + (1 : Int)) (k := 1) henv hst (ty_int.size) rfl rfl rfl rfl fI_len (by omega) hdl rfl rfl rfl ?_)
      clear henv hst a; intro a w66 henv hst
      refine wpList_nil ?_
      refine bl_n (th_n ?_)
      refine region_seq ?_
      revert a
      refine sA (v := .int .i64 (j + 1 : Nat)) rfl (fun _ henv => rn_add henv rfl rfl (by rw [IntWalk.i64_in _ (by omega)]; omega)) ?_
      refine mA rfl rfl ?_
      intro a henv
      refine wpList_nil ?_
      exact th_n ⟨_, (by omega), ⟨j + 1, (ds.set t (v + (1 : Int))), rfl, henv.sub ⟨rfl, rfl, rfl, rfl, rfl, trivial⟩, hst.pick [1, 2] [1, 2] (by decide), (by omega), (dstep_take hd he0 hvf), (by rw [List.length_set]; exact hdl), (set_bd hdb (by omega))⟩⟩
  · have hje : j = n0 := by have := of_decide_eq_false hc57; omega
    rw [List.take_of_length_le (by omega)] at hd
    refine wp_exit ?_
    refine th_x (th_x (bl_x (th_n ?_)))
    refine wp_seq ?_
    refine region_seq ?_
    refine sv (v := .int .i64 0) henv rfl (rn_assign henv rfl) ?_
    clear henv a; intro a henv
    refine wpList_nil ?_
    refine th_n ?_
    refine wp_seq ?_
    refine wp_seq ?_
    refine region_seq ?_
    revert a
    refine sA (v := .pointer (some ⟨g51, 3, none⟩)) rfl (fun _ henv => rn_fieldAddr henv fd_anvil_api_Prog_3 (ty__int.size) (by decide) rfl) ?_
    refine sA (v := .slice A1 n1 c1) rfl (fun _ henv => rn_load1 henv ty__int rfl (hst.oat (k := 1) rfl) rfl) ?_
    refine sA (v := .int .i64 (n1 : Nat)) rfl (fun _ henv => rn_len henv Tryd.underlying23 rfl) ?_
    refine mA rfl rfl ?_
    intro a henv
    refine wpList_nil ?_
    refine th_n ?_
    refine wp_block ?_
    refine wp_loop_ghost (fun mz a w => ∃ m : Nat, ∃ v : Int, n1 - m = mz ∧ Env 62 a [(4, .slice (some ⟨g54, 0, none⟩) g g), (48, .slice A1 n1 c1), (49, .int .i64 (n1 : Nat)), (10, .int .i64 v), (50, .int .i64 (m : Nat))] ∧ St w0 w [rowS notU 3 1 (some ⟨g54, 0, none⟩) g g (fl fI ds)] [pfRow fI FI 1 A1 n1 c1 es1, pfRow fJ FJ 5 A0 n0 c0 es0] ∧ m ≤ n1 ∧ v = mxL ds (es1.take m)) _ ⟨0, 0, rfl, henv.sub ⟨rfl, rfl, rfl, rfl, rfl, trivial⟩, hst.pick [0] [0, 1] (by decide), (Nat.zero_le _), rfl⟩ ?_
    clear henv hst a
    rintro mz a w67 ⟨m, v, rfl, henv, hst, hm, hv⟩
    refine wp_seq ?_
    refine region_seq ?_
    refine sv (v := .bool (decide (((m : Nat) : Int) < ((n1 : Nat) : Int)))) henv rfl (rn_bin henv rfl rfl rfl) ?_
    clear henv a; intro a henv
    refine wpList_nil ?_
    refine th_n ?_
    refine wp_seq ?_
    refine if_split henv rfl (fun hc68 => ?_) (fun hc68 => ?_)
    · have hlm : m < n1 := by have := of_decide_eq_true hc68; omega
      obtain ⟨x, hea⟩ : ∃ x, es1[m]? = some x := ⟨_, List.getElem?_eq_getElem (by omega)⟩
      have hxr := hR.2.1 x (List.mem_of_getElem? hea)
      obtain ⟨q, rfl⟩ := Int.eq_ofNat_of_zero_le hxr.1
      have hqg : q < g := by omega
      obtain ⟨y, hye⟩ : ∃ y, ds[q]? = some y := ⟨_, List.getElem?_eq_getElem (by omega)⟩
      have hyd : ds.getD q 0 = y := by rw [List.getD_eq_getElem?_getD, hye]; rfl
      have hyb := hdb y (List.mem_of_getElem? hye)
      refine wp_skip ?_
      refine th_n ?_
      refine wp_seq ?_
      refine wp_block ?_
      refine wp_seq ?_
      refine region_seq ?_
      revert a
      refine sA (v := .pointer (some ⟨ab A1, ao A1 + m * 1, none⟩)) rfl (fun _ henv => rn_idxR (i := m) henv Tryd.underlying23 (ty_int.size) rfl rfl (by omega) rfl (show (pfRow fI FI 1 A1 n1 c1 es1).P _ from (hst.pat (k := 0) rfl)).1) ?_
      refine sA (v := .int .i64 (q : Nat)) rfl (fun _ henv => rn_loadE1 (i := m) (j := 0) (e := ((q : Nat) : Int)) henv ty_int rfl rfl fI_len (by decide) (show (pfRow fI FI 1 A1 n1 c1 es1).P _ from (hst.pat (k := 0) rfl)).1 (by omega) hea rfl) ?_
      refine aA rfl rfl ?_
      intro a henv
      refine wpList_nil ?_
      refine th_n ?_
      refine region_seq ?_
      revert a
      refine mA rfl rfl ?_
      refine mA rfl rfl ?_
      refine mA rfl rfl ?_
      refine sA (v := .pointer (some ⟨ab (some ⟨g54, 0, none⟩), ao (some ⟨g54, 0, none⟩) + q * 1, none⟩)) rfl (fun _ henv => rn_idxR (i := q) henv Tryd.underlying23 (ty_int.size) rfl rfl (by omega) rfl (rowS_rd (hst.owns (k := 0) rfl))) ?_
      refine sA (v := .int .i64 y) rfl (fun _ henv => rn_loadE1 (i := q) (j := 0) (e := y) henv ty_int rfl rfl fI_len (by decide) (rowS_rd (hst.owns (k := 0) rfl)) (by omega) hye rfl) ?_
      refine sA (v := .int .i64 (max v y)) rfl (fun _ henv => rn_maxI (m := v) (n := y) henv rfl rfl) ?_
      refine aA rfl rfl ?_
      intro a henv
      refine wpList_nil ?_
      refine bl_n (th_n ?_)
      refine region_seq ?_
      revert a
      refine sA (v := .int .i64 (m + 1 : Nat)) rfl (fun _ henv => rn_add henv rfl rfl (by rw [IntWalk.i64_in _ (by omega)]; omega)) ?_
      refine mA rfl rfl ?_
      intro a henv
      refine wpList_nil ?_
      exact th_n ⟨_, (by omega), ⟨m + 1, (max v y), rfl, henv.sub ⟨rfl, rfl, rfl, rfl, rfl, trivial⟩, hst.pick [0] [0, 1] (by decide), (by omega), (by rw [mx_step hea, ← hv]; show _ = max v (ds.getD q 0); rw [hyd])⟩⟩
    · have hvf : v = mxL ds es1 := by rw [hv, List.take_of_length_le (by have := of_decide_eq_false hc68; omega)]
      refine wp_exit ?_
      refine th_x (th_x (bl_x (th_n ?_)))
      refine wp_seq ?_
      refine region_seq ?_
      revert a
      refine mA rfl rfl ?_
      refine aA rfl rfl ?_
      refine aA rfl rfl ?_
      intro a henv
      refine wpList_nil ?_
      refine th_n ?_
      refine wp_ret ?_
      refine leave henv (res2 Tryd.results25 (RV.tmp henv rfl) (RV.tmp henv rfl)) ?_
      have hfin : v = dpt g es0 es1 := by rw [hvf, hd]; rfl
      exact ⟨by rw [← hfin], hst.below⟩
end Go.Proofs.YtbdngknpngcojaaDoor.W

/- Plain laws of programs joined: they may be, and how deep they are. No program. No condition. -/
namespace Go.Proofs.YtbdngknpngcojaaDoor.W
open Go.RowKit Anv Go.Lib
def moveI (g : Int) (os : List Int) (k : Nat) : IE := (1, g + (k : Nat), os.getD k 0, 0, 0)
def jnC (g : Int) (es : List IE) (os : List Int) (es2 : List IE) : List IE := (es ++ (List.range os.length).map (moveI g os)) ++ es2.map (mvI g)
def jnO (g : Int) (os : List Int) : List Int := os.map (· + g)
theorem jn_step1 {es os : List IE} {ou : List Int} {g x : Int} {j : Nat} (ho : os = es ++ (List.range j).map (moveI g ou)) (hx : ou[j]? = some x) : os ++ [(1, g + (j : Nat), x, 0, 0)] = es ++ (List.range (j + 1)).map (moveI g ou) := by
  rw [ho, List.range_succ, List.map_append, List.append_assoc, List.map_cons, List.map_nil, show moveI g ou j = (1, g + (j : Nat), x, 0, 0) by rw [moveI, List.getD_eq_getElem?_getD, hx]; rfl]
theorem jn_step2 {pre os es : List IE} {g : Int} {j : Nat} {e : IE} (ho : os = pre ++ (es.take j).map (mvI g)) (he : es[j]? = some e) : os ++ [mvI g e] = pre ++ (es.take (j + 1)).map (mvI g) := by
  rw [ho, take_one he, List.map_append, List.append_assoc]; rfl
theorem jn_step3 {os es : List Int} {g x : Int} {j : Nat} (ho : os = (es.take j).map (· + g)) (he : es[j]? = some x) : os ++ [x + g] = (es.take (j + 1)).map (· + g) := by
  rw [ho, take_one he, List.map_append]; rfl
theorem jn_step1n {es os : List IE} {ou : List Int} {g j : Nat} {x : Int} (ho : os = es ++ (List.range j).map (moveI (g : Int) ou)) (hx : ou[j]? = some x) : os ++ [(1, ((g + j : Nat) : Int), x, 0, 0)] = es ++ (List.range (j + 1)).map (moveI (g : Int) ou) := by
  rw [Int.natCast_add]; exact jn_step1 ho hx
theorem jn_step2x {pre os es : List IE} {g a1 a2 a3 a4 a5 b : Int} {j : Nat} (ho : os = pre ++ (es.take j).map (mvI g)) (he : es[j]? = some (a1, a2, a3, a4, a5)) (hb : mvB a1 a4 g = b) : os ++ [(a1, a2 + g, a3 + g, b, a5)] = pre ++ (es.take (j + 1)).map (mvI g) := by
  subst hb; exact jn_step2 ho he
theorem jnC_len (g : Int) (es : List IE) (os : List Int) (es2 : List IE) : (jnC g es os es2).length = es.length + os.length + es2.length := by
  simp only [jnC, List.length_append, List.length_map, List.length_range]
theorem may_more {e : IE} {g g' : Int} (h : May e g) (hg : g ≤ g') : May e g' := by
  unfold May at *
  omega
theorem may_moved {e : IE} {g g2 : Int} (h : May e g2) (hg : 0 ≤ g) : May (mvI g e) (g + g2) := by
  obtain ⟨op, tr, ra, rb, cn⟩ := e
  unfold May mvI mvB at *
  simp only at *
  by_cases q : op = 3 ∨ op = 4
  · rw [if_pos q]; omega
  · rw [if_neg q]; omega
theorem right_join {i i2 : Int} {g g2 n0 n1 n2 n3 : Nat} {es0 es2 : List IE} {es1 es3 : List Int} (hp : Right i g n0 n1 es0 es1) (hq : Right i2 g2 n2 n3 es2 es3) (hl : es1.length = n1) (hi : i2 = (n1 : Nat)) (hg : g + g2 ≤ 128) (hn : n0 + n1 + n2 ≤ 16384) : Right i ((g + g2 : Nat) : Int) (n0 + n1 + n2) n3 (jnC g es0 es1 es2) (jnO g es3) := by
  obtain ⟨h1, h2, h3⟩ := hp
  obtain ⟨k1, k2, k3⟩ := hq
  unfold HeadOk at h1 k1
  refine ⟨by unfold HeadOk; omega, fun x hx => ?_, fun e he => ?_⟩
  · obtain ⟨y, hy, rfl⟩ := List.mem_map.1 hx
    have := k2 y hy
    show 0 ≤ y + (g : Int) ∧ y + (g : Int) < ((g + g2 : Nat) : Int)
    omega
  · rcases List.mem_append.1 he with he | he
    · rcases List.mem_append.1 he with he | he
      · exact may_more (h3 e he) (by omega)
      · obtain ⟨k, hk, rfl⟩ := List.mem_map.1 he
        have hk : k < es1.length := List.mem_range.1 hk
        have hx := h2 (es1.getD k 0) (by rw [List.getD_eq_getElem?_getD, List.getElem?_eq_getElem hk]; exact List.getElem_mem hk)
        show May (1, g + (k : Nat), es1.getD k 0, 0, 0) ((g + g2 : Nat) : Int)
        unfold May
        dsimp only
        omega
    · obtain ⟨y, hy, rfl⟩ := List.mem_map.1 he
      exact Int.natCast_add g g2 ▸ may_moved (k3 y hy) (by omega)
theorem mx_ge0 (d l : List Int) : 0 ≤ mxL d l := by
  have : ∀ (l : List Int) (m : Int), m ≤ l.foldl (fun m r => max m (d.getD r.toNat 0)) m := by
    intro l
    induction l with
    | nil => intro m; exact Int.le_refl _
    | cons x l ih => intro m; exact Int.le_trans (Int.le_max_left ..) (ih _)
  exact this l 0
theorem mx_ge {d l : List Int} {x : Int} (h : x ∈ l) : d.getD x.toNat 0 ≤ mxL d l := by
  have mono : ∀ (l : List Int) (m : Int), m ≤ l.foldl (fun m r => max m (d.getD r.toNat 0)) m := by
    intro l
    induction l with
    | nil => intro m; exact Int.le_refl _
    | cons x l ih => intro m; exact Int.le_trans (Int.le_max_left ..) (ih _)
  have : ∀ (l : List Int) (m : Int), x ∈ l → d.getD x.toNat 0 ≤ l.foldl (fun m r => max m (d.getD r.toNat 0)) m := by
    intro l
    induction l with
    | nil => intro m hx; cases hx
    | cons y l ih =>
      intro m hx
      rcases List.mem_cons.1 hx with rfl | hx
      · exact Int.le_trans (Int.le_max_right ..) (mono l _)
      · exact ih _ hx
  exact this l 0 h
theorem mx_le {d l : List Int} {M : Int} (h0 : 0 ≤ M) (h : ∀ x ∈ l, d.getD x.toNat 0 ≤ M) : mxL d l ≤ M := by
  have : ∀ (l : List Int) (m : Int), m ≤ M → (∀ x ∈ l, d.getD x.toNat 0 ≤ M) → l.foldl (fun m r => max m (d.getD r.toNat 0)) m ≤ M := by
    intro l
    induction l with
    | nil => intro m hm _; exact hm
    | cons y l ih =>
      intro m hm hl
      exact ih _ (Int.max_le.2 ⟨hm, hl y (List.mem_cons_self ..)⟩) fun x hx => hl x (List.mem_cons_of_mem _ hx)
  exact this l 0 h0 h
theorem mx_congr {d d' l : List Int} (h : ∀ x ∈ l, d.getD x.toNat 0 = d'.getD x.toNat 0) : mxL d l = mxL d' l :=
  Int.le_antisymm (mx_le (mx_ge0 _ _) fun x hx => h x hx ▸ mx_ge hx) (mx_le (mx_ge0 _ _) fun x hx => h x hx ▸ mx_ge hx)
theorem getD_setI (l : List Int) (p k : Nat) (v : Int) : (l.set p v).getD k 0 = if p = k ∧ k < l.length then v else l.getD k 0 := by
  rw [List.getD_eq_getElem?_getD, List.getD_eq_getElem?_getD, List.getElem?_set]
  by_cases h : p = k
  · subst h
    by_cases h1 : p < l.length
    · simp [h1]
    · simp [h1]
  · simp [h]
theorem dstep_at (d : List Int) (e : IE) (k : Nat) : ((e.2.1.toNat = k ∧ k < d.length) ∧ (dstep d e).getD k 0 = mxL d (asksL e.1 e.2.2.1 e.2.2.2.1) + 1) ∨ (¬ (e.2.1.toNat = k ∧ k < d.length) ∧ (dstep d e).getD k 0 = d.getD k 0) := by
  rw [dstep, getD_setI]
  by_cases h : e.2.1.toNat = k ∧ k < d.length
  · exact .inl ⟨h, if_pos h⟩
  · exact .inr ⟨h, if_neg h⟩
theorem dstep_len (es : List IE) : ∀ d, (es.foldl dstep d).length = d.length := by
  induction es with
  | nil => intro d; rfl
  | cons e es ih => intro d; rw [List.foldl_cons, ih, dstep, List.length_set]
theorem getD_rep (n k : Nat) : (List.replicate n (0 : Int)).getD k 0 = 0 := by
  rw [List.getD_eq_getElem?_getD, List.getElem?_replicate]
  split <;> rfl
theorem dsim_bd (es : List IE) : ∀ (d : List Int) (j : Nat), (∀ k, 0 ≤ d.getD k 0 ∧ d.getD k 0 ≤ (j : Nat)) → ∀ k, 0 ≤ (es.foldl dstep d).getD k 0 ∧ (es.foldl dstep d).getD k 0 ≤ ((j + es.length : Nat) : Int) := by
  induction es with
  | nil => intro d j h k; exact h k
  | cons e es ih =>
    intro d j h k
    rw [List.foldl_cons]
    have h1 := mx_ge0 d (asksL e.1 e.2.2.1 e.2.2.2.1)
    have h2 := mx_le (d := d) (l := asksL e.1 e.2.2.1 e.2.2.2.1) (M := (j : Nat)) (by omega) fun x _ => (h _).2
    have := ih (dstep d e) (j + 1) (fun k => by
      rw [dstep, getD_setI]
      have := h k
      split <;> omega) k
    rw [List.length_cons]
    omega
theorem dpt_bd (g : Nat) (es : List IE) (os : List Int) : 0 ≤ dpt g es os ∧ dpt g es os ≤ (es.length : Nat) := by
  have h := dsim_bd es (List.replicate g 0) 0 fun k => by rw [getD_rep]; omega
  refine ⟨mx_ge0 _ _, mx_le (by omega) fun x _ => ?_⟩
  have := (h x.toNat).2
  omega
theorem sim_more (es : List IE) (g : Int) : (∀ e ∈ es, May e g) → ∀ d D : List Int, d.length = g.toNat → d.length ≤ D.length → (∀ k, D.getD k 0 = d.getD k 0) → ∀ k, (es.foldl dstep D).getD k 0 = (es.foldl dstep d).getD k 0 := by
  induction es with
  | nil => intro _ d D _ _ h k; exact h k
  | cons e es ih =>
    intro hm d D hl hL h
    have he := hm e (List.mem_cons_self ..)
    rw [List.foldl_cons, List.foldl_cons]
    refine ih (fun x hx => hm x (List.mem_cons_of_mem _ hx)) _ _ (by rw [dstep, List.length_set, hl]) (by rw [dstep, dstep, List.length_set, List.length_set]; exact hL) fun k => ?_
    rw [dstep, dstep, getD_setI, getD_setI, mx_congr (fun x _ => h x.toNat), h k]
    have ht : e.2.1.toNat < d.length := by unfold May at he; omega
    by_cases q : e.2.1.toNat = k
    · rw [if_pos ⟨q, by omega⟩, if_pos ⟨q, by omega⟩]
    · rw [if_neg fun z => q z.1, if_neg fun z => q z.1]
theorem sim_moves {g : Int} {os : List Int} {d : List Int} {a : Int} (hg : 0 ≤ g) (ha0 : 0 ≤ a) (hO : ∀ x ∈ os, 0 ≤ x ∧ x < g) (ha : ∀ x ∈ os, d.getD x.toNat 0 ≤ a) : ∀ (n : Nat), n ≤ os.length → ∀ D : List Int, (∀ k, k < g.toNat → D.getD k 0 = d.getD k 0) → (∀ k, D.getD (g.toNat + k) 0 ≤ a + 1) →
    (∀ k, k < g.toNat → (((List.range n).map (moveI g os)).foldl dstep D).getD k 0 = d.getD k 0) ∧ ∀ k, (((List.range n).map (moveI g os)).foldl dstep D).getD (g.toNat + k) 0 ≤ a + 1
  | 0, _, D, h1, h2 => ⟨h1, h2⟩
  | n + 1, hn, D, h1, h2 => by
    obtain ⟨k1, k2⟩ := sim_moves hg ha0 hO ha n (by omega) D h1 h2
    rw [List.range_succ, List.map_append, List.foldl_append]
    generalize hE : ((List.range n).map (moveI g os)).foldl dstep D = E at k1 k2 ⊢
    show (∀ k, k < g.toNat → (dstep E (moveI g os n)).getD k 0 = _) ∧ ∀ k, (dstep E (moveI g os n)).getD (g.toNat + k) 0 ≤ a + 1
    have hx : os.getD n 0 ∈ os := by rw [List.getD_eq_getElem?_getD, List.getElem?_eq_getElem (by omega)]; exact List.getElem_mem _
    have hr := hO _ hx
    have hask : asksL 1 (os.getD n 0) 0 = [os.getD n 0] := by unfold asksL; rw [if_neg (by omega), if_pos (by omega)]
    have hm : mxL E (asksL 1 (os.getD n 0) 0) ≤ a := by
      rw [hask]
      exact mx_le ha0 fun x hx2 => by
        rw [List.mem_singleton.1 hx2, k1 _ (by omega)]
        exact ha _ hx
    have ht : (moveI g os n).2.1.toNat = g.toNat + n := by show (g + (n : Nat)).toNat = _; omega
    have hz : asksL (moveI g os n).1 (moveI g os n).2.2.1 (moveI g os n).2.2.2.1 = asksL 1 (os.getD n 0) 0 := rfl
    refine ⟨fun k hk => ?_, fun k => ?_⟩
    · rcases dstep_at E (moveI g os n) k with ⟨⟨q, _⟩, _⟩ | ⟨_, q⟩
      · rw [ht] at q; omega
      · rw [q, k1 k hk]
    · rcases dstep_at E (moveI g os n) (g.toNat + k) with ⟨_, q⟩ | ⟨_, q⟩
      · rw [q, hz]; omega
      · rw [q]; exact k2 k
theorem asks_moved {op ra rb g x : Int} (h : x ∈ asksL op (ra + g) (mvB op rb g)) : ∃ y ∈ asksL op ra rb, x = y + g := by
  unfold asksL mvB at *
  by_cases q : op = 3 ∨ op = 4
  · rw [if_pos q, if_pos q] at h
    rw [if_pos q]
    rcases List.mem_cons.1 h with rfl | h
    · exact ⟨ra, List.mem_cons_self .., rfl⟩
    · rw [List.mem_singleton.1 h]
      exact ⟨rb, List.mem_cons_of_mem _ (List.mem_cons_self ..), rfl⟩
  · rw [if_neg q] at h
    rw [if_neg q]
    by_cases q2 : 1 ≤ op ∧ op ≤ 8
    · rw [if_pos q2] at h ⊢
      rw [List.mem_singleton.1 h]
      exact ⟨ra, List.mem_cons_self .., rfl⟩
    · rw [if_neg q2] at h; cases h
theorem sim_second {g g2 a : Int} (hg : 0 ≤ g) (ha0 : 0 ≤ a) (es : List IE) : (∀ e ∈ es, May e g2) → ∀ d D : List Int, d.length = g2.toNat → (∀ k, 0 ≤ d.getD k 0) → (∀ k, D.getD (g.toNat + k) 0 ≤ a + d.getD k 0) → ∀ k, ((es.map (mvI g)).foldl dstep D).getD (g.toNat + k) 0 ≤ a + (es.foldl dstep d).getD k 0 := by
  induction es with
  | nil => intro _ d D _ _ h k; exact h k
  | cons e es ih =>
    intro hm d D hl h0 h
    have he := hm e (List.mem_cons_self ..)
    obtain ⟨op, tr, ra, rb, cn⟩ := e
    have hak := may_asks he
    simp only at hak
    rw [List.map_cons, List.foldl_cons, List.foldl_cons]
    have hmx : mxL D (asksL op (ra + g) (mvB op rb g)) ≤ a + mxL d (asksL op ra rb) := by
      have := mx_ge0 d (asksL op ra rb)
      refine mx_le (by omega) fun x hx => ?_
      obtain ⟨y, hy, rfl⟩ := asks_moved hx
      have hy2 := hak y hy
      rw [show (y + g).toNat = g.toNat + y.toNat by omega]
      have := h y.toNat
      have := mx_ge (d := d) hy
      omega
    have htr : 0 ≤ tr ∧ tr < g2 := by unfold May at he; simp only at he; omega
    refine ih (fun x hx => hm x (List.mem_cons_of_mem _ hx)) _ _ (by rw [dstep, List.length_set, hl]) (fun k => ?_) fun k => ?_
    · have h1 := mx_ge0 d (asksL op ra rb)
      have h2 := h0 k
      rcases dstep_at d (op, tr, ra, rb, cn) k with ⟨_, q⟩ | ⟨_, q⟩
      · rw [q]; dsimp only; omega
      · rw [q]; exact h2
    · have h1 := mx_ge0 d (asksL op ra rb)
      have h2 := h k
      have hN : D.length ≤ g.toNat + k → D.getD (g.toNat + k) 0 = 0 := fun z => by rw [List.getD_eq_getElem?_getD, List.getElem?_eq_none z]; rfl
      have hz : asksL (mvI g (op, tr, ra, rb, cn)).1 (mvI g (op, tr, ra, rb, cn)).2.2.1 (mvI g (op, tr, ra, rb, cn)).2.2.2.1 = asksL op (ra + g) (mvB op rb g) := rfl
      have hy : (mvI g (op, tr, ra, rb, cn)).2.1 = tr + g := rfl
      rcases dstep_at D (mvI g (op, tr, ra, rb, cn)) (g.toNat + k) with ⟨⟨q1, _⟩, q⟩ | ⟨n1, q⟩ <;> rcases dstep_at d (op, tr, ra, rb, cn) k with ⟨⟨r1, _⟩, r⟩ | ⟨m1, r⟩ <;> dsimp only at * <;> rw [q, r]
      · rw [hz]; omega
      · exact absurd ⟨by rw [hy] at q1; omega, by rw [hy] at q1; omega⟩ m1
      · rw [hy] at n1
        have := hN (by omega)
        omega
      · exact h2
theorem join_depth {i i2 : Int} {g g2 n0 n1 n2 n3 : Nat} {es0 es2 : List IE} {es1 es3 : List Int} (hp : Right i g n0 n1 es0 es1) (hq : Right i2 g2 n2 n3 es2 es3) : dpt (g + g2) (jnC g es0 es1 es2) (jnO g es3) ≤ dpt g es0 es1 + dpt g2 es2 es3 + 1 := by
  have ha0 := (dpt_bd g es0 es1).1
  have h1 := sim_more es0 g hp.2.2 (List.replicate g 0) (List.replicate (g + g2) 0) (by simp) (by simp) fun k => by rw [getD_rep, getD_rep]
  have hlen : (es0.foldl dstep (List.replicate g 0)).length = g := by rw [dstep_len, List.length_replicate]
  obtain ⟨_, h2⟩ := sim_moves (g := g) (os := es1) (d := es0.foldl dstep (List.replicate g 0)) (a := dpt g es0 es1) (by omega) ha0 hp.2.1 (fun x hx => mx_ge hx) es1.length (Nat.le_refl _) (es0.foldl dstep (List.replicate (g + g2) 0)) (fun k _ => h1 k) fun k => by
    rw [h1, List.getD_eq_getElem?_getD, List.getElem?_eq_none (by rw [hlen]; omega)]
    show (0 : Int) ≤ _
    omega
  have h2' : ∀ k, (((List.range es1.length).map (moveI g es1)).foldl dstep (es0.foldl dstep (List.replicate (g + g2) 0))).getD ((g : Int).toNat + k) 0 ≤ dpt g es0 es1 + 1 + (List.replicate g2 (0 : Int)).getD k 0 := fun k => by
    have h4 := h2 k
    have hz := getD_rep g2 k
    omega
  have h3 := sim_second (g := g) (g2 := g2) (a := dpt g es0 es1 + 1) (by omega) (by omega) es2 hq.2.2 (List.replicate g2 0) _ (by simp) (fun k => by rw [getD_rep]; omega) h2'
  have hb := mx_ge0 (es2.foldl dstep (List.replicate g2 0)) es3
  unfold dpt jnC
  rw [List.foldl_append, List.foldl_append]
  refine mx_le (by unfold dpt at ha0; omega) fun x hx => ?_
  obtain ⟨y, hy, rfl⟩ := List.mem_map.1 hx
  have hy2 := hq.2.1 y hy
  have := h3 y.toNat
  have := mx_ge (d := es2.foldl dstep (List.replicate g2 0)) hy
  rw [show (y + (g : Int)).toNat = (g : Int).toNat + y.toNat by omega]
  unfold dpt at *
  omega
end Go.Proofs.YtbdngknpngcojaaDoor.W
