/- strconv.Itoa of numbers of at most three figures. Printed by pv/gen_h1.py. Condition: the table uint64pow10 is as laid (Pw). -/
import Derived.Test.YtbdngknpngcojaaDoorM49
import Derived.Test.YtbdngknpngcojaaDoorM15
import Derived.Test.YtbdngknpngcojaaDoorM34
import Derived.Test.YtbdngknpngcojaaDoorM36
import Derived.Test.YtbdngknpngcojaaDoorM39

namespace Go.Proofs.YtbdngknpngcojaaDoor.W
open Go.RowKit Anv Go.Lib
set_option maxRecDepth 100000 in
def sm200 : List UInt8 := [48, 48, 48, 49, 48, 50, 48, 51, 48, 52, 48, 53, 48, 54, 48, 55, 48, 56, 48, 57, 49, 48, 49, 49, 49, 50, 49, 51, 49, 52, 49, 53, 49, 54, 49, 55, 49, 56, 49, 57, 50, 48, 50, 49, 50, 50, 50, 51, 50, 52, 50, 53, 50, 54, 50, 55, 50, 56, 50, 57, 51, 48, 51, 49, 51, 50, 51, 51, 51, 52, 51, 53, 51, 54, 51, 55, 51, 56, 51, 57, 52, 48, 52, 49, 52, 50, 52, 51, 52, 52, 52, 53, 52, 54, 52, 55, 52, 56, 52, 57, 53, 48, 53, 49, 53, 50, 53, 51, 53, 52, 53, 53, 53, 54, 53, 55, 53, 56, 53, 57, 54, 48, 54, 49, 54, 50, 54, 51, 54, 52, 54, 53, 54, 54, 54, 55, 54, 56, 54, 57, 55, 48, 55, 49, 55, 50, 55, 51, 55, 52, 55, 53, 55, 54, 55, 55, 55, 56, 55, 57, 56, 48, 56, 49, 56, 50, 56, 51, 56, 52, 56, 53, 56, 54, 56, 55, 56, 56, 56, 57, 57, 48, 57, 49, 57, 50, 57, 51, 57, 52, 57, 53, 57, 54, 57, 55, 57, 56, 57, 57]
theorem sm200_len : sm200.length = 200 := by decide +kernel
set_option maxRecDepth 100000 in
def ln256 : List UInt8 := [0, 1, 2, 2, 3, 3, 3, 3, 4, 4, 4, 4, 4, 4, 4, 4, 5, 5, 5, 5, 5, 5, 5, 5, 5, 5, 5, 5, 5, 5, 5, 5, 6, 6, 6, 6, 6, 6, 6, 6, 6, 6, 6, 6, 6, 6, 6, 6, 6, 6, 6, 6, 6, 6, 6, 6, 6, 6, 6, 6, 6, 6, 6, 6, 7, 7, 7, 7, 7, 7, 7, 7, 7, 7, 7, 7, 7, 7, 7, 7, 7, 7, 7, 7, 7, 7, 7, 7, 7, 7, 7, 7, 7, 7, 7, 7, 7, 7, 7, 7, 7, 7, 7, 7, 7, 7, 7, 7, 7, 7, 7, 7, 7, 7, 7, 7, 7, 7, 7, 7, 7, 7, 7, 7, 7, 7, 7, 7, 8, 8, 8, 8, 8, 8, 8, 8, 8, 8, 8, 8, 8, 8, 8, 8, 8, 8, 8, 8, 8, 8, 8, 8, 8, 8, 8, 8, 8, 8, 8, 8, 8, 8, 8, 8, 8, 8, 8, 8, 8, 8, 8, 8, 8, 8, 8, 8, 8, 8, 8, 8, 8, 8, 8, 8, 8, 8, 8, 8, 8, 8, 8, 8, 8, 8, 8, 8, 8, 8, 8, 8, 8, 8, 8, 8, 8, 8, 8, 8, 8, 8, 8, 8, 8, 8, 8, 8, 8, 8, 8, 8, 8, 8, 8, 8, 8, 8, 8, 8, 8, 8, 8, 8, 8, 8, 8, 8, 8, 8, 8, 8, 8, 8, 8, 8, 8, 8, 8, 8, 8, 8, 8, 8, 8, 8, 8, 8]
theorem ln256_len : ln256.length = 256 := by decide +kernel
def dg36 : List UInt8 := [48, 49, 50, 51, 52, 53, 54, 55, 56, 57, 97, 98, 99, 100, 101, 102, 103, 104, 105, 106, 107, 108, 109, 110, 111, 112, 113, 114, 115, 116, 117, 118, 119, 120, 121, 122]
theorem dg36_len : dg36.length = 36 := by decide +kernel
theorem small_one {n : Nat} (h : n < 10) : (dg36.drop n).take (n + 1 - n) = textZ (n : Nat) := small_text h
def pw10 : List Nat := [1, 10, 100, 1000, 10000, 100000, 1000000, 10000000, 100000000, 1000000000, 10000000000, 100000000000, 1000000000000, 10000000000000, 100000000000000, 1000000000000000, 10000000000000000, 100000000000000000, 1000000000000000000, 10000000000000000000]
def Pw (w : World) : Prop := ∀ j, j < 20 → w.cell? ⟨1, j, none⟩ = some (.int .u64 (pw10.getD j 0 : Nat))
theorem Pw.lt {w : World} (h : Pw w) : 1 < w.heap.size := block_lt_of_cell (h 0 (by omega))
def pfPw : PF := ⟨Pw, fun b => b = 1, fun h e => by subst e; exact h.lt, fun h _ hk j hj => (World.cell?_of_block (hk 1 rfl)).trans (h j hj)⟩
def b2 (b : Bool) : Nat := if b then 1 else 0
def len10 (u : Nat) : Nat := if 256 ≤ u then 8 + (ln256.getD (u / 2 ^ 8) 0).toNat else (ln256.getD u 0).toNat
def nd10 (u : Nat) : Nat := if u < 10 then 1 else if u < 100 then 2 else 3
theorem nd10_le (u : Nat) : nd10 u ≤ 3 := by unfold nd10; split <;> (try split) <;> omega
set_option maxRecDepth 100000 in
theorem len10_all : ∀ u, u < 1000 → len10 u ≤ 64 := by decide +kernel
theorem len10_le {u : Nat} (h : u < 1000) : len10 u ≤ 64 := len10_all u h
set_option maxRecDepth 100000 in
theorem nd_all : ∀ u, u < 1000 → 0 < u → len10 u * 78913 / 2 ^ 18 + b2 (decide (((u : Nat) : Int) ≥ ((pw10.getD (len10 u * 78913 / 2 ^ 18) 0 : Nat) : Int))) = nd10 u := by decide +kernel
theorem nd_eq {u : Nat} (h0 : 0 < u) (h : u < 1000) : len10 u * 78913 / 2 ^ 18 + b2 (decide (((u : Nat) : Int) ≥ ((pw10.getD (len10 u * 78913 / 2 ^ 18) 0 : Nat) : Int))) = nd10 u := nd_all u h h0
def fm10 (u : Nat) : List Nat := if u < 10 then [48 + u] else if u < 100 then [(sm200.getD (u % 100 * 2) 0).toNat, (sm200.getD (u % 100 * 2 + 1) 0).toNat] else [48 + u / 100, (sm200.getD (u % 100 * 2) 0).toNat, (sm200.getD (u % 100 * 2 + 1) 0).toNat]
set_option maxRecDepth 100000 in
theorem fm_all : ∀ u, u < 1000 → (textN u).map (·.toNat) = fm10 u := by decide +kernel
set_option maxRecDepth 100000 in
theorem two_all : ∀ u, u < 100 → 10 ≤ u → (sm200.drop (u * 2)).take (u * 2 + 2 - u * 2) = textN u := by decide +kernel
theorem neg_pos (u : Nat) : neg (u : Int) = false := by unfold neg; exact decide_eq_false (by omega)
theorem textZ_nat (u : Nat) : textZ ((u : Nat) : Int) = textN u := by
  unfold textZ
  rw [neg_pos, Int.natAbs_natCast]; rfl
theorem textZ_neg {u : Nat} (h : 0 < u) : textZ (-((u : Nat) : Int)) = 45 :: textN u := by
  unfold textZ
  rw [show neg (-((u : Nat) : Int)) = true by unfold neg; exact decide_eq_true (by omega), Int.natAbs_neg, Int.natAbs_natCast]; rfl
theorem small_two {n : Nat} (h : ¬ n < 10) (hn : n < 100) : (sm200.drop (n * 2)).take (n * 2 + 2 - n * 2) = textZ (n : Nat) := (two_all n hn (by omega)).trans (textZ_nat n).symm
theorem cells_fm {l : List UInt8} {f : List Nat} (h : l.map (·.toNat) = f) : byteCells l = f.map fun k => Value.int .u8 ((k : Nat) : Int) := by
  rw [← h, List.map_map]
  rfl
theorem len_fm {l : List UInt8} {f : List Nat} (h : l.map (·.toNat) = f) : l.length = f.length := by rw [← h, List.length_map]
theorem fm3 {u : Nat} (h0 : 100 ≤ u) : fm10 u = [48 + u / 100, (sm200.getD (u % 100 * 2) 0).toNat, (sm200.getD (u % 100 * 2 + 1) 0).toNat] := by unfold fm10; rw [if_neg (by omega), if_neg (by omega)]
theorem fm2 {u : Nat} (h0 : 10 ≤ u) (h : u < 100) : fm10 u = [(sm200.getD (u % 100 * 2) 0).toNat, (sm200.getD (u % 100 * 2 + 1) 0).toNat] := by unfold fm10; rw [if_neg (by omega), if_pos h]
theorem fm1 {u : Nat} (h : u < 10) : fm10 u = [48 + u] := if_pos h
theorem byte_45 (l : List UInt8) : byteCells (45 :: l) = Value.int .u8 45 :: byteCells l := rfl
section
variable {u : Nat} {a b c d e f g h i j k l m n o p q r s t v : Value}
theorem str_b (h0 : 100 ≤ u) (hu : u < 1000) {x0 : Value} {rest : List Value} : byteCells (textZ ((u : Nat) : Int)) = ((x0 :: .int .u8 ((48 + u / 100 : Nat) : Int) :: .int .u8 (((sm200.getD (u % 100 * 2) 0).toNat : Nat) : Int) :: .int .u8 (((sm200.getD (u % 100 * 2 + 1) 0).toNat : Nat) : Int) :: rest).drop 1).take 3 := by
  rw [textZ_nat, cells_fm ((fm_all u hu).trans (fm3 h0))]; rfl
theorem len_b (h0 : 100 ≤ u) (hu : u < 1000) : (textZ ((u : Nat) : Int)).length = 3 := by rw [textZ_nat, len_fm ((fm_all u hu).trans (fm3 h0))]; rfl
theorem str_n3 (h0 : 100 ≤ u) (hu : u < 1000) {rest : List Value} : byteCells (textZ (-((u : Nat) : Int))) = ((.int .u8 45 :: .int .u8 ((48 + u / 100 : Nat) : Int) :: .int .u8 (((sm200.getD (u % 100 * 2) 0).toNat : Nat) : Int) :: .int .u8 (((sm200.getD (u % 100 * 2 + 1) 0).toNat : Nat) : Int) :: rest).drop 0).take 4 := by
  rw [textZ_neg (by omega), byte_45, cells_fm ((fm_all u hu).trans (fm3 h0))]; rfl
theorem len_n3 (h0 : 100 ≤ u) (hu : u < 1000) : (textZ (-((u : Nat) : Int))).length = 4 := by rw [textZ_neg (by omega), List.length_cons, len_fm ((fm_all u hu).trans (fm3 h0))]; rfl
theorem str_n2 (h0 : 10 ≤ u) (hu : u < 100) {rest : List Value} : byteCells (textZ (-((u : Nat) : Int))) = ((.int .u8 45 :: .int .u8 (((sm200.getD (u % 100 * 2) 0).toNat : Nat) : Int) :: .int .u8 (((sm200.getD (u % 100 * 2 + 1) 0).toNat : Nat) : Int) :: rest).drop 0).take 3 := by
  rw [textZ_neg (by omega), byte_45, cells_fm ((fm_all u (by omega)).trans (fm2 h0 hu))]; rfl
theorem len_n2 (h0 : 10 ≤ u) (hu : u < 100) : (textZ (-((u : Nat) : Int))).length = 3 := by rw [textZ_neg (by omega), List.length_cons, len_fm ((fm_all u (by omega)).trans (fm2 h0 hu))]; rfl
theorem str_n1 (h0 : 0 < u) (hu : u < 10) {rest : List Value} : byteCells (textZ (-((u : Nat) : Int))) = ((.int .u8 45 :: .int .u8 ((48 + u : Nat) : Int) :: rest).drop 0).take 2 := by
  rw [textZ_neg h0, byte_45, cells_fm ((fm_all u (by omega)).trans (fm1 hu))]; rfl
theorem len_n1 (h0 : 0 < u) (hu : u < 10) : (textZ (-((u : Nat) : Int))).length = 2 := by rw [textZ_neg h0, List.length_cons, len_fm ((fm_all u (by omega)).trans (fm1 hu))]; rfl
end
theorem wrap_neg {u : Nat} (h0 : 0 < u) (h : u < 1000) : IntKind.u64.wrap (-((u : Nat) : Int)) = 18446744073709551616 - (u : Nat) := by
  simp [IntKind.wrap, IntKind.bits, IntKind.signed]
  omega
theorem neg_u64 {P : Program} {w : World} {u : Nat} (h0 : 0 < u) (h : u < 1000) : (Op.unary .neg (.int .u64 (18446744073709551616 - (u : Nat)))).run P w = .ok (.int .u64 (u : Nat)) w := by
  have e : IntKind.u64.wrap (-(18446744073709551616 - (u : Nat))) = (u : Nat) := by
    simp [IntKind.wrap, IntKind.bits, IntKind.signed]
    omega
  simp [Op.unary, Op.intArith, e]
theorem St.restSet {w0 w w' : World} {own ps : List PF} {k : Nat} {o o' : PF} (h : St w0 w own ps) (hk : own[k]? = some o) (h' : St w0 w' [o'] [restF w o]) (hf : ∀ b, o'.foot b → o.foot b) : St w0 w' (own.set k o') ps := by
  obtain ⟨hs, hr⟩ := h'.pat (k := 0) rfl
  exact h.step' hk (h'.owns (k := 0) rfl) (fun b hb => .inl (hf b hb)) (h'.below.os.trans h.below.os.symm) (h'.below.tape.trans h.below.tape.symm) (h'.below.output.trans h.below.output.symm) hs hr
section
variable {P : Program} {N : Nat} {dq : List Deferred} {a : Act} {l : List (Nat × Value)} {w : World} {d : Nat} {ty : TypeId} {pos : String} {af : Array Edge} {gd : Option (Nat × Bool)}
theorem rn_arrLH {x y y2 : Operand} {T E n l0 m g z o : Nat} {k k2 : IntKind} (h : EnvD dq N a l) (hT : P.underlying T = some (.array n E)) (hE : ∃ j, P.info? E = some j ∧ j.size = z) (hx : evl l x = some (.pointer (some ⟨g, o, none⟩))) (hy : evl l y = some (.int k (l0 : Nat))) (hy2 : evl l y2 = some (.int k2 (m : Nat))) (h1 : l0 ≤ m) (h2 : m ≤ n) (h3 : l0 < n) :
    (execOp a.eval ⟨some d, .slice T x (some y) (some y2) none, ty, pos, af, gd⟩).run P w = .ok (.value (.slice (some ⟨g, o + l0 * z, none⟩) (m - l0) (n - l0))) w := by
  have hl : P.arrayLen T = n := by simp [Program.arrayLen, hT]
  have he : P.elem T = E := by simp [Program.elem, hT]
  have := run_sliceAt_array_lh (P := P) w T ⟨g, o, none⟩ (by rw [hl, he]; exact hT) k k2 l0 m (by omega) (by omega) (by rw [hl]; omega)
  rw [hl, he, run_sizeOf hE] at this
  simp only [execOp, h.ev hx, h.ev hy, h.ev hy2, Option.map_some, Option.map_none]
  rw [Sem.run_bind, this]
  simp [slicedAt, Result.andThen, Addr.add_mid, show ¬ n = l0 by omega]
theorem rn_arrH {x y : Operand} {T E n m g z o : Nat} {k : IntKind} (h : EnvD dq N a l) (hT : P.underlying T = some (.array n E)) (hE : ∃ j, P.info? E = some j ∧ j.size = z) (hx : evl l x = some (.pointer (some ⟨g, o, none⟩))) (hy : evl l y = some (.int k (m : Nat))) (h2 : m ≤ n) :
    (execOp a.eval ⟨some d, .slice T x none (some y) none, ty, pos, af, gd⟩).run P w = .ok (.value (.slice (some ⟨g, o, none⟩) m n)) w := by
  have hl : P.arrayLen T = n := by simp [Program.arrayLen, hT]
  have he : P.elem T = E := by simp [Program.elem, hT]
  have := run_sliceAt_array_h (P := P) w T ⟨g, o, none⟩ (by rw [hl, he]; exact hT) k m (by omega) (by rw [hl]; omega)
  rw [hl, he, run_sizeOf hE] at this
  simp only [execOp, h.ev hx, h.ev hy, Option.map_some, Option.map_none]
  rw [Sem.run_bind, this]
  simp [slicedAt, Result.andThen, Addr.add_mid]
theorem rn_strCells {x : Operand} {S T E g o cap n : Nat} {t : TypeId} {c : Array Value} {s : List UInt8} (h : EnvD dq N a l) (hS : P.underlying S = some (.slice E)) (hE : P.underlying E = some (.int .u8)) (hT : P.underlying T = some .string)
    (hx : evl l x = some (.slice (some ⟨g, o, none⟩) n cap)) (hg : w.heap[g]? = some (.cells c t (0, 0))) (hc : byteCells s = (c.toList.drop o).take n) (hn : s.length = n) :
    (execOp a.eval ⟨some d, .convert S T x, ty, pos, af, gd⟩).run P w = .ok (.value (.string ⟨s.toArray⟩)) w := by
  subst hn
  have := run_convert_bytes_back (P := P) w S T E ⟨g, o, none⟩ cap s hS hE hT (fun j hj => by
    have e1 : (⟨g, o, none⟩ : Addr).add j = ⟨g, o + j, none⟩ := by unfold Addr.add; split <;> simp_all
    have e2 : (byteCells s)[j]? = some (.int .u8 (s[j].toNat : Int)) := by simp [byteCells, hj]
    rw [hc, List.getElem?_take_of_lt hj, List.getElem?_drop] at e2
    rw [e1, cell_of_row w g (o + j) c t (0, 0) hg, ← e2]
    simp)
  simp only [execOp, h.ev hx]
  rw [Sem.run_bind, this]
  rfl
end
set_option maxRecDepth 100000 in
set_option maxHeartbeats 2000000 in
theorem h_small {n : Nat} {w0 : World} (hn : n < 100) :
    Calls Tryd.prog 78 #[.int .i64 (n : Nat)] w0 fun e w' => e = .returned (.string ⟨(textZ (n : Nat)).toArray⟩) ∧ Below w0.heap.size w0 w' := by
  refine enter Tryd.func78 rfl Tryd.ntmps78 rfl ?_
  intro a henv hst
  refine wp_seq ?_
  refine region_seq ?_
  refine sv (v := .string ⟨#[]⟩) henv rfl (rn_assign henv rfl) ?_
  clear henv a; intro a henv
  refine wpList_nil ?_
  refine th_n ?_
  refine wp_seq ?_
  refine wp_seq ?_
  refine region_seq ?_
  revert a
  refine mA rfl rfl ?_
  refine sA (v := .bool (decide (((n : Nat) : Int) < (10 : Int)))) rfl (fun _ henv => rn_bin henv rfl rfl rfl) ?_
  intro a henv
  refine wpList_nil ?_
  refine th_n ?_
  refine if_split henv rfl (fun hc51 => ?_) (fun hc51 => ?_)
  · have hv := of_decide_eq_true hc51
    refine wp_seq ?_
    refine region_seq ?_
    revert a
    refine mA rfl rfl ?_
    refine mA rfl rfl ?_
    refine sA (v := .int .i64 (n + 1 : Nat)) rfl (fun _ henv => rn_add henv rfl rfl (by rw [IntWalk.i64_in _ (by omega)]; omega)) ?_
    refine sA (v := .string ⟨((dg36.drop n).take ((n + 1) - n)).toArray⟩) rfl (fun _ henv => rn_cutS (s := dg36) (n := n) (m := n + 1) henv Tryd.underlying9 rfl rfl rfl (by omega) (by rw [dg36_len]; omega)) ?_
    refine aA rfl rfl ?_
    intro a henv
    refine wpList_nil ?_
    refine th_n ?_
    refine wp_ret ?_
    refine th_r ?_
    refine leave henv (res1 Tryd.results78 (RV.tmp henv rfl)) ?_
    exact ⟨by rw [show ((dg36.drop n).take ((n + 1) - n)) = textZ (n : Nat) from small_one (by omega)], hst.below⟩
  · have hv := of_decide_eq_false hc51
    refine wp_skip ?_
    refine th_n ?_
    refine wp_seq ?_
    refine region_seq ?_
    revert a
    refine mA rfl rfl ?_
    refine sA (v := .int .i64 (n * 2 : Nat)) rfl (fun _ henv => rn_mul henv rfl rfl (by rw [IntWalk.i64_in _ (by omega)]; omega)) ?_
    refine mA rfl rfl ?_
    refine sA (v := .int .i64 (n * 2 : Nat)) rfl (fun _ henv => rn_mul henv rfl rfl (by rw [IntWalk.i64_in _ (by omega)]; omega)) ?_
    refine sA (v := .int .i64 ((n * 2) + 2 : Nat)) rfl (fun _ henv => rn_add henv rfl rfl (by rw [IntWalk.i64_in _ (by omega)]; omega)) ?_
    refine sA (v := .string ⟨((sm200.drop (n * 2)).take (((n * 2) + 2) - (n * 2))).toArray⟩) rfl (fun _ henv => rn_cutS (s := sm200) (n := n * 2) (m := (n * 2) + 2) henv Tryd.underlying9 rfl rfl rfl (by omega) (by rw [sm200_len]; omega)) ?_
    refine aA rfl rfl ?_
    intro a henv
    refine wpList_nil ?_
    refine th_n ?_
    refine wp_ret ?_
    refine leave henv (res1 Tryd.results78 (RV.tmp henv rfl)) ?_
    exact ⟨by rw [show ((sm200.drop (n * 2)).take (((n * 2) + 2) - (n * 2))) = textZ (n : Nat) from small_two (by omega) hn], hst.below⟩
set_option maxRecDepth 100000 in
set_option maxHeartbeats 2000000 in
theorem h_len64 {u : Nat} {w0 : World} (hu : u < 1000) :
    Calls Tryd.prog 93 #[.int .u64 (u : Nat)] w0 fun e w' => e = .returned (.int .i64 (len10 u : Nat)) ∧ Below w0.heap.size w0 w' := by
  refine enter Tryd.func93 rfl Tryd.ntmps93 rfl ?_
  intro a henv hst
  refine wp_seq ?_
  refine region_seq ?_
  refine sv (v := .int .i64 0) henv rfl (rn_assign henv rfl) ?_
  clear henv a; intro a henv
  refine wpList_nil ?_
  refine th_n ?_
  refine wp_seq ?_
  refine wp_seq ?_
  refine region_seq ?_
  revert a
  refine mA rfl rfl ?_
  refine sA (v := .bool (decide (((u : Nat) : Int) ≥ (4294967296 : Int)))) rfl (fun _ henv => rn_bin henv rfl rfl rfl) ?_
  intro a henv
  rw [show (decide (((u : Nat) : Int) ≥ (4294967296 : Int))) = false from (decide_eq_false (by omega))] at henv
  refine wpList_nil ?_
  refine th_n ?_
  refine if_f henv rfl (rfl) ?_
  refine wp_skip ?_
  refine th_n ?_
  refine wp_seq ?_
  refine wp_seq ?_
  refine region_seq ?_
  revert a
  refine mA rfl rfl ?_
  refine sA (v := .bool (decide (((u : Nat) : Int) ≥ (65536 : Int)))) rfl (fun _ henv => rn_bin henv rfl rfl rfl) ?_
  intro a henv
  rw [show (decide (((u : Nat) : Int) ≥ (65536 : Int))) = false from (decide_eq_false (by omega))] at henv
  refine wpList_nil ?_
  refine th_n ?_
  refine if_f henv rfl (rfl) ?_
  refine wp_skip ?_
  refine th_n ?_
  refine wp_seq ?_
  refine wp_seq ?_
  refine region_seq ?_
  revert a
  refine mA rfl rfl ?_
  refine sA (v := .bool (decide (((u : Nat) : Int) ≥ (256 : Int)))) rfl (fun _ henv => rn_bin henv rfl rfl rfl) ?_
  intro a henv
  refine wpList_nil ?_
  refine th_n ?_
  refine if_split henv rfl (fun hc51 => ?_) (fun hc51 => ?_)
  · have hv := of_decide_eq_true hc51
    have hlt := UInt8.toNat_lt (ln256.getD (u / 2 ^ 8) 0)
    refine wp_seq ?_
    refine region_seq ?_
    revert a
    refine mA rfl rfl ?_
    refine sA (v := .int .u64 (u / 2 ^ 8 : Nat)) rfl (fun _ henv => rn_shr (s := 8) henv rfl rfl (shb_u64 (by omega)) (fdiv_pow u 8)) ?_
    refine aA rfl rfl ?_
    intro a henv
    refine wpList_nil ?_
    refine th_n ?_
    refine region_seq ?_
    revert a
    refine mA rfl rfl ?_
    refine sA (v := .int .i64 8) rfl (fun _ henv => rn_bin henv rfl rfl rfl) ?_
    refine aA rfl rfl ?_
    intro a henv
    refine wpList_nil ?_
    refine th_n ?_
    refine wp_seq ?_
    refine region_seq ?_
    revert a
    refine mA rfl rfl ?_
    refine mA rfl rfl ?_
    refine sA (v := .int .u8 (u / 2 ^ 8 : Nat)) rfl (fun _ henv => rn_conv henv rfl Tryd.underlying106 Tryd.underlying5 (IntWalk.u8_in _ (by omega))) ?_
    refine sA (v := .int .u8 ((ln256.getD (u / 2 ^ 8) 0).toNat : Nat)) rfl (fun _ henv => rn_idxS (s := ln256) (i := u / 2 ^ 8) henv Tryd.underlying9 rfl rfl (by rw [ln256_len]; omega)) ?_
    refine sA (v := .int .i64 ((ln256.getD (u / 2 ^ 8) 0).toNat : Nat)) rfl (fun _ henv => rn_conv henv rfl Tryd.underlying5 Tryd.underlying3 (IntWalk.i64_in _ (by omega))) ?_
    refine sA (v := .int .i64 (8 + ((ln256.getD (u / 2 ^ 8) 0).toNat) : Nat)) rfl (fun _ henv => rn_add henv rfl rfl (by rw [IntWalk.i64_in _ (by omega)]; omega)) ?_
    refine aA rfl rfl ?_
    intro a henv
    refine wpList_nil ?_
    refine th_n ?_
    refine wp_ret ?_
    refine leave henv (res1 Tryd.results93 (RV.tmp henv rfl)) ?_
    exact ⟨congrArg (fun k : Nat => Ending.returned (Value.int .i64 (k : Int))) (by unfold len10; rw [if_pos (by omega)]), hst.below⟩
  · have hv := of_decide_eq_false hc51
    have hlt := UInt8.toNat_lt (ln256.getD u 0)
    refine wp_skip ?_
    refine th_n ?_
    refine wp_seq ?_
    refine region_seq ?_
    revert a
    refine mA rfl rfl ?_
    refine mA rfl rfl ?_
    refine sA (v := .int .u8 (u : Nat)) rfl (fun _ henv => rn_conv henv rfl Tryd.underlying106 Tryd.underlying5 (IntWalk.u8_in _ (by omega))) ?_
    refine sA (v := .int .u8 ((ln256.getD u 0).toNat : Nat)) rfl (fun _ henv => rn_idxS (s := ln256) (i := u) henv Tryd.underlying9 rfl rfl (by rw [ln256_len]; omega)) ?_
    refine sA (v := .int .i64 ((ln256.getD u 0).toNat : Nat)) rfl (fun _ henv => rn_conv henv rfl Tryd.underlying5 Tryd.underlying3 (IntWalk.i64_in _ (by omega))) ?_
    refine sA (v := .int .i64 (0 + ((ln256.getD u 0).toNat) : Nat)) rfl (fun _ henv => rn_add henv rfl rfl (by rw [IntWalk.i64_in _ (by omega)]; omega)) ?_
    refine aA rfl rfl ?_
    intro a henv
    refine wpList_nil ?_
    refine th_n ?_
    refine wp_ret ?_
    refine leave henv (res1 Tryd.results93 (RV.tmp henv rfl)) ?_
    exact ⟨congrArg (fun k : Nat => Ending.returned (Value.int .i64 (k : Int))) (by unfold len10; rw [if_neg (by omega)]; omega), hst.below⟩
set_option maxRecDepth 100000 in
set_option maxHeartbeats 2000000 in
theorem h_log {x : Nat} {w0 : World} (hx : x ≤ 64) :
    Calls Tryd.prog 92 #[.int .i64 (x : Nat)] w0 fun e w' => e = .returned (.int .i64 (x * 78913 / 2 ^ 18 : Nat)) ∧ Below w0.heap.size w0 w' := by
  refine enter Tryd.func92 rfl Tryd.ntmps92 rfl ?_
  intro a henv hst
  refine wp_seq ?_
  refine region_seq ?_
  refine sv (v := .int .i64 0) henv rfl (rn_assign henv rfl) ?_
  clear henv a; intro a henv
  refine wpList_nil ?_
  refine th_n ?_
  refine wp_seq ?_
  refine region_seq ?_
  revert a
  refine mA rfl rfl ?_
  refine sA (v := .int .i64 (x * 78913 : Nat)) rfl (fun _ henv => rn_mul henv rfl rfl (by rw [IntWalk.i64_in _ (by omega)]; omega)) ?_
  refine sA (v := .int .i64 ((x * 78913) / 2 ^ 18 : Nat)) rfl (fun _ henv => rn_shr (s := 18) henv rfl rfl (shb_i64 (by omega)) (fdiv_pow (x * 78913) 18)) ?_
  refine aA rfl rfl ?_
  intro a henv
  refine wpList_nil ?_
  refine th_n ?_
  refine wp_ret ?_
  refine leave henv (res1 Tryd.results92 (RV.tmp henv rfl)) ?_
  exact ⟨rfl, hst.below⟩
set_option maxRecDepth 100000 in
set_option maxHeartbeats 2000000 in
theorem h_bool2 {b : Bool} {w0 : World} :
    Calls Tryd.prog 94 #[.bool b] w0 fun e w' => e = .returned (.int .i64 (b2 b : Nat)) ∧ Below w0.heap.size w0 w' := by
  refine enter Tryd.func94 rfl Tryd.ntmps94 rfl ?_
  intro a henv hst
  refine wp_seq ?_
  refine region_seq ?_
  refine sv (v := .int .i64 0) henv rfl (rn_assign henv rfl) ?_
  clear henv a; intro a henv
  refine wpList_nil ?_
  refine th_n ?_
  refine wp_seq ?_
  refine wp_seq ?_
  refine region_seq ?_
  refine sv (v := .bool b) henv rfl (rn_move henv rfl) ?_
  clear henv a; intro a henv
  refine wpList_nil ?_
  refine th_n ?_
  refine if_split henv rfl (fun hc51 => ?_) (fun hc51 => ?_)
  · obtain rfl : b = true := hc51
    refine wp_seq ?_
    refine region_seq ?_
    refine sv (v := .int .i64 1) henv rfl (rn_assign henv rfl) ?_
    clear henv a; intro a henv
    refine wpList_nil ?_
    refine th_n ?_
    refine wp_ret ?_
    refine th_r ?_
    refine leave henv (res1 Tryd.results94 (RV.tmp henv rfl)) ?_
    exact ⟨rfl, hst.below⟩
  · obtain rfl : b = false := hc51
    refine wp_skip ?_
    refine th_n ?_
    refine wp_seq ?_
    refine region_seq ?_
    refine sv (v := .int .i64 0) henv rfl (rn_assign henv rfl) ?_
    clear henv a; intro a henv
    refine wpList_nil ?_
    refine th_n ?_
    refine wp_ret ?_
    refine leave henv (res1 Tryd.results94 (RV.tmp henv rfl)) ?_
    exact ⟨rfl, hst.below⟩
set_option maxRecDepth 100000 in
set_option maxHeartbeats 2000000 in
theorem h_nd {u k : Nat} {w0 : World} (hP : Pw w0) (h0 : 0 < u) (hu : u < 1000) (hk : nd10 u = k) :
    Calls Tryd.prog 79 #[.int .u64 (u : Nat)] w0 fun e w' => e = .returned (.int .i64 (k : Nat)) ∧ Below w0.heap.size w0 w' := by
  have hlj : len10 u * 78913 / 2 ^ 18 < 20 := by have := len10_le hu; omega
  have hnd := nd_eq h0 hu
  have hk3 : nd10 u ≤ 3 := nd10_le u
  refine enter Tryd.func79 rfl Tryd.ntmps79 rfl ?_
  intro a henv hst
  replace hst := hst.argP pfPw hP
  refine wp_seq ?_
  refine region_seq ?_
  refine sv (v := .int .i64 0) henv rfl (rn_assign henv rfl) ?_
  clear henv a; intro a henv
  refine wpList_nil ?_
  refine th_n ?_
  refine wp_seq ?_
  refine region_seq ?_
  refine sv (v := .int .u64 (u : Nat)) henv rfl (rn_move henv rfl) ?_
  clear henv a; intro a henv
  refine seq_step rfl (op_call henv rfl Tryd.call93 rfl (h_len64 (by omega)) ?_)
  rintro e w51 ⟨rfl, hb⟩
  refine ⟨_, rfl, ?_⟩
  clear henv a; intro a henv
  replace hst := hst.call hb
  clear hb
  refine seq_step rfl (op_call henv rfl Tryd.call92 rfl (h_log (by have := len10_le (u := u) (by omega); omega)) ?_)
  rintro e w52 ⟨rfl, hb⟩
  refine ⟨_, rfl, ?_⟩
  clear henv a; intro a henv
  replace hst := hst.call hb
  clear hb
  refine sv (v := .int .i64 (len10 u * 78913 / 2 ^ 18 : Nat)) henv rfl (rn_assign henv rfl) ?_
  clear henv a; intro a henv
  refine wpList_nil ?_
  refine th_n ?_
  refine wp_seq ?_
  refine region_seq ?_
  revert a
  refine mA rfl rfl ?_
  refine mA rfl rfl ?_
  refine mA rfl rfl ?_
  refine sA (v := .pointer (some ⟨1, len10 u * 78913 / 2 ^ 18, none⟩)) rfl (fun _ henv => rn_idxA (i := len10 u * 78913 / 2 ^ 18) henv Tryd.underlying124 (ty_uint64.size) rfl rfl (by omega) (by omega)) ?_
  refine sA (v := .int .u64 (pw10.getD (len10 u * 78913 / 2 ^ 18) 0 : Nat)) rfl (fun _ henv => rn_loadc henv ty_uint64 rfl ((show Pw _ from hst.pat (k := 0) rfl) _ (by omega))) ?_
  refine sA (v := .bool (decide (((u : Nat) : Int) ≥ ((pw10.getD (len10 u * 78913 / 2 ^ 18) 0 : Nat) : Int)))) rfl (fun _ henv => rn_bin henv rfl rfl rfl) ?_
  intro a henv
  refine seq_step rfl (op_call henv rfl Tryd.call94 rfl (h_bool2 (b := (decide (((u : Nat) : Int) ≥ ((pw10.getD (len10 u * 78913 / 2 ^ 18) 0 : Nat) : Int))))) ?_)
  rintro e w53 ⟨rfl, hb⟩
  refine ⟨_, rfl, ?_⟩
  clear henv a; intro a henv
  replace hst := hst.call hb
  clear hb
  revert a
  refine sA (v := .int .i64 ((len10 u * 78913 / 2 ^ 18) + (b2 (decide (((u : Nat) : Int) ≥ ((pw10.getD (len10 u * 78913 / 2 ^ 18) 0 : Nat) : Int)))) : Nat)) rfl (fun _ henv => rn_add henv rfl rfl (by rw [IntWalk.i64_in _ (by omega)]; omega)) ?_
  refine aA rfl rfl ?_
  intro a henv
  refine wpList_nil ?_
  refine th_n ?_
  refine wp_ret ?_
  refine leave henv (res1 Tryd.results79 (RV.tmp henv rfl)) ?_
  exact ⟨congrArg (fun k : Nat => Ending.returned (Value.int .i64 (k : Int))) (hnd.trans hk), hst.below⟩
set_option maxRecDepth 100000 in
set_option maxHeartbeats 2000000 in
theorem h_fb1 {E : PF} {g u : Nat} {w0 w1 : World} (hS : St w0 w1 [bk g #[.int .u8 0, .int .u8 0, .int .u8 0, .int .u8 0, .int .u8 0, .int .u8 0, .int .u8 0, .int .u8 0, .int .u8 0, .int .u8 0, .int .u8 0, .int .u8 0, .int .u8 0, .int .u8 0, .int .u8 0, .int .u8 0, .int .u8 0, .int .u8 0, .int .u8 0, .int .u8 0, .int .u8 0, .int .u8 0, .int .u8 0, .int .u8 0] 110] [E]) (hu : u < 10) :
    Calls Tryd.prog 80 #[.slice (some ⟨g, 1, none⟩) 1 23, .int .u64 (u : Nat)] w1 fun e w' => (∃ v, e = .returned v) ∧ St w0 w' [bk g #[.int .u8 0, .int .u8 (48 + u : Nat), .int .u8 0, .int .u8 0, .int .u8 0, .int .u8 0, .int .u8 0, .int .u8 0, .int .u8 0, .int .u8 0, .int .u8 0, .int .u8 0, .int .u8 0, .int .u8 0, .int .u8 0, .int .u8 0, .int .u8 0, .int .u8 0, .int .u8 0, .int .u8 0, .int .u8 0, .int .u8 0, .int .u8 0, .int .u8 0] 110] [E] := by
  refine enter Tryd.func80 rfl Tryd.ntmps80 rfl ?_
  intro a henv hst
  clear hst
  have hst := hS
  clear hS
  refine wp_seq ?_
  refine region_seq ?_
  revert a
  refine mA rfl rfl ?_
  refine sA (v := .int .i64 1) rfl (fun _ henv => rn_len henv Tryd.underlying62 rfl) ?_
  refine aA rfl rfl ?_
  intro a henv
  refine wpList_nil ?_
  refine th_n ?_
  refine wp_seq ?_
  refine wp_block ?_
  refine wp_loop_ghost (fun mz a w => ∃ z : Nat, z = mz ∧ Env 167 a [(0, .slice (some ⟨g, 1, none⟩) 1 23), (1, .int .u64 (u : Nat)), (4, .int .i64 1)] ∧ St w0 w [bk g #[.int .u8 0, .int .u8 0, .int .u8 0, .int .u8 0, .int .u8 0, .int .u8 0, .int .u8 0, .int .u8 0, .int .u8 0, .int .u8 0, .int .u8 0, .int .u8 0, .int .u8 0, .int .u8 0, .int .u8 0, .int .u8 0, .int .u8 0, .int .u8 0, .int .u8 0, .int .u8 0, .int .u8 0, .int .u8 0, .int .u8 0, .int .u8 0] 110] [E]) _ ⟨0, rfl, henv.sub ⟨rfl, rfl, rfl, trivial⟩, hst.pick [0] [0] (by decide)⟩ ?_
  clear henv hst a
  rintro mz a w51 ⟨z, rfl, henv, hst⟩
  refine wp_seq ?_
  refine wp_seq ?_
  refine region_seq ?_
  revert a
  refine mA rfl rfl ?_
  refine sA (v := .bool false) rfl (fun _ henv => rn_bin henv rfl rfl rfl) ?_
  intro a henv
  refine wpList_nil ?_
  refine th_n ?_
  refine if_f henv rfl (rfl) ?_
  refine wp_exit ?_
  refine th_x (th_x (bl_x (th_n ?_)))
  refine wp_seq ?_
  refine region_seq ?_
  revert a
  refine mA rfl rfl ?_
  refine sA (v := .int .u32 (u : Nat)) rfl (fun _ henv => rn_conv henv rfl Tryd.underlying106 Tryd.underlying105 (IntWalk.u32_in _ (by omega))) ?_
  refine aA rfl rfl ?_
  intro a henv
  refine wpList_nil ?_
  refine th_n ?_
  refine wp_seq ?_
  refine wp_seq ?_
  refine region_seq ?_
  revert a
  refine mA rfl rfl ?_
  refine sA (v := .bool false) rfl (fun _ henv => rn_bin henv rfl rfl rfl) ?_
  intro a henv
  refine wpList_nil ?_
  refine th_n ?_
  refine if_f henv rfl (rfl) ?_
  refine wp_skip ?_
  refine th_n ?_
  refine wp_seq ?_
  refine wp_seq ?_
  refine region_seq ?_
  revert a
  refine mA rfl rfl ?_
  refine sA (v := .bool false) rfl (fun _ henv => rn_bin henv rfl rfl rfl) ?_
  intro a henv
  refine wpList_nil ?_
  refine th_n ?_
  refine if_f henv rfl (rfl) ?_
  refine wp_skip ?_
  refine th_n ?_
  refine wp_seq ?_
  refine region_seq ?_
  revert a
  refine mA rfl rfl ?_
  refine sA (v := .bool true) rfl (fun _ henv => rn_bin henv rfl rfl rfl) ?_
  intro a henv
  refine wpList_nil ?_
  refine th_n ?_
  refine if_t henv rfl (rfl) ?_
  refine region_seq ?_
  revert a
  refine mA rfl rfl ?_
  refine mA rfl rfl ?_
  refine sA (v := .int .u32 (48 + u : Nat)) rfl (fun _ henv => rn_add henv rfl rfl (by rw [IntWalk.u32_in _ (by omega)]; omega)) ?_
  refine sA (v := .int .u8 (48 + u : Nat)) rfl (fun _ henv => rn_conv henv rfl Tryd.underlying105 Tryd.underlying5 (IntWalk.u8_in _ (by omega))) ?_
  refine sA (v := .pointer (some ⟨g, 1, none⟩)) rfl (fun _ henv => rn_indexAddr (i := 0) henv Tryd.underlying62 (ty_uint8.size) rfl rfl (by decide)) ?_
  intro a henv
  refine seq_step rfl (op_store1 (k := 0) (c' := #[.int .u8 0, .int .u8 (48 + u : Nat), .int .u8 0, .int .u8 0, .int .u8 0, .int .u8 0, .int .u8 0, .int .u8 0, .int .u8 0, .int .u8 0, .int .u8 0, .int .u8 0, .int .u8 0, .int .u8 0, .int .u8 0, .int .u8 0, .int .u8 0, .int .u8 0, .int .u8 0, .int .u8 0, .int .u8 0, .int .u8 0, .int .u8 0, .int .u8 0]) henv hst (ty_uint8.size) rfl rfl rfl (by simp) rfl rfl ?_)
  clear henv hst a; intro a w52 henv hst
  refine wpList_nil ?_
  refine leave_end henv (res0 Tryd.results80 ) ?_
  exact ⟨⟨_, rfl⟩, hst⟩
set_option maxRecDepth 100000 in
set_option maxHeartbeats 2000000 in
theorem h_fb2 {E : PF} {g u : Nat} {w0 w1 : World} (hS : St w0 w1 [bk g #[.int .u8 0, .int .u8 0, .int .u8 0, .int .u8 0, .int .u8 0, .int .u8 0, .int .u8 0, .int .u8 0, .int .u8 0, .int .u8 0, .int .u8 0, .int .u8 0, .int .u8 0, .int .u8 0, .int .u8 0, .int .u8 0, .int .u8 0, .int .u8 0, .int .u8 0, .int .u8 0, .int .u8 0, .int .u8 0, .int .u8 0, .int .u8 0] 110] [E]) (h0 : 10 ≤ u) (hu : u < 100) :
    Calls Tryd.prog 80 #[.slice (some ⟨g, 1, none⟩) 2 23, .int .u64 (u : Nat)] w1 fun e w' => (∃ v, e = .returned v) ∧ St w0 w' [bk g #[.int .u8 0, .int .u8 ((sm200.getD (u % 100 * 2) 0).toNat : Nat), .int .u8 ((sm200.getD (u % 100 * 2 + 1) 0).toNat : Nat), .int .u8 0, .int .u8 0, .int .u8 0, .int .u8 0, .int .u8 0, .int .u8 0, .int .u8 0, .int .u8 0, .int .u8 0, .int .u8 0, .int .u8 0, .int .u8 0, .int .u8 0, .int .u8 0, .int .u8 0, .int .u8 0, .int .u8 0, .int .u8 0, .int .u8 0, .int .u8 0, .int .u8 0] 110] [E] := by
  refine enter Tryd.func80 rfl Tryd.ntmps80 rfl ?_
  intro a henv hst
  clear hst
  have hst := hS
  clear hS
  refine wp_seq ?_
  refine region_seq ?_
  revert a
  refine mA rfl rfl ?_
  refine sA (v := .int .i64 2) rfl (fun _ henv => rn_len henv Tryd.underlying62 rfl) ?_
  refine aA rfl rfl ?_
  intro a henv
  refine wpList_nil ?_
  refine th_n ?_
  refine wp_seq ?_
  refine wp_block ?_
  refine wp_loop_ghost (fun mz a w => ∃ z : Nat, z = mz ∧ Env 167 a [(0, .slice (some ⟨g, 1, none⟩) 2 23), (1, .int .u64 (u : Nat)), (4, .int .i64 2)] ∧ St w0 w [bk g #[.int .u8 0, .int .u8 0, .int .u8 0, .int .u8 0, .int .u8 0, .int .u8 0, .int .u8 0, .int .u8 0, .int .u8 0, .int .u8 0, .int .u8 0, .int .u8 0, .int .u8 0, .int .u8 0, .int .u8 0, .int .u8 0, .int .u8 0, .int .u8 0, .int .u8 0, .int .u8 0, .int .u8 0, .int .u8 0, .int .u8 0, .int .u8 0] 110] [E]) _ ⟨0, rfl, henv.sub ⟨rfl, rfl, rfl, trivial⟩, hst.pick [0] [0] (by decide)⟩ ?_
  clear henv hst a
  rintro mz a w51 ⟨z, rfl, henv, hst⟩
  refine wp_seq ?_
  refine wp_seq ?_
  refine region_seq ?_
  revert a
  refine mA rfl rfl ?_
  refine sA (v := .bool false) rfl (fun _ henv => rn_bin henv rfl rfl rfl) ?_
  intro a henv
  refine wpList_nil ?_
  refine th_n ?_
  refine if_f henv rfl (rfl) ?_
  refine wp_exit ?_
  refine th_x (th_x (bl_x (th_n ?_)))
  refine wp_seq ?_
  refine region_seq ?_
  revert a
  refine mA rfl rfl ?_
  refine sA (v := .int .u32 (u : Nat)) rfl (fun _ henv => rn_conv henv rfl Tryd.underlying106 Tryd.underlying105 (IntWalk.u32_in _ (by omega))) ?_
  refine aA rfl rfl ?_
  intro a henv
  refine wpList_nil ?_
  refine th_n ?_
  refine wp_seq ?_
  refine wp_seq ?_
  refine region_seq ?_
  revert a
  refine mA rfl rfl ?_
  refine sA (v := .bool false) rfl (fun _ henv => rn_bin henv rfl rfl rfl) ?_
  intro a henv
  refine wpList_nil ?_
  refine th_n ?_
  refine if_f henv rfl (rfl) ?_
  refine wp_skip ?_
  refine th_n ?_
  refine wp_seq ?_
  refine wp_seq ?_
  refine region_seq ?_
  revert a
  refine mA rfl rfl ?_
  refine sA (v := .bool true) rfl (fun _ henv => rn_bin henv rfl rfl rfl) ?_
  intro a henv
  refine wpList_nil ?_
  refine th_n ?_
  refine if_t henv rfl (rfl) ?_
  refine wp_seq ?_
  refine region_seq ?_
  revert a
  refine mA rfl rfl ?_
  refine sA (v := .int .u32 (u % 100 : Nat)) rfl (fun _ henv => rn_rem henv rfl rfl (by decide) (tmod_nat u 100)) ?_
  refine sA (v := .int .u32 ((u % 100) * 2 : Nat)) rfl (fun _ henv => rn_mul henv rfl rfl (by rw [IntWalk.u32_in _ (by omega)]; omega)) ?_
  refine aA rfl rfl ?_
  intro a henv
  refine wpList_nil ?_
  refine th_n ?_
  refine wp_seq ?_
  refine region_seq ?_
  revert a
  refine mA rfl rfl ?_
  refine sA (v := .int .u32 (u / 100 : Nat)) rfl (fun _ henv => rn_quo henv rfl rfl (by decide) (quo_u32 (t := u) (c := 100) (by omega))) ?_
  refine aA rfl rfl ?_
  intro a henv
  refine wpList_nil ?_
  refine th_n ?_
  refine wp_seq ?_
  refine region_any (n := 15) (Sk [] [E] [12, 14] [bk g #[.int .u8 0, .int .u8 0, .int .u8 0, .int .u8 0, .int .u8 0, .int .u8 0, .int .u8 0, .int .u8 0, .int .u8 0, .int .u8 0, .int .u8 0, .int .u8 0, .int .u8 0, .int .u8 0, .int .u8 0, .int .u8 0, .int .u8 0, .int .u8 0, .int .u8 0, .int .u8 0, .int .u8 0, .int .u8 0, .int .u8 0, .int .u8 0] 110]) mixed rfl henv hst ?_
  clear henv hst; intro w52 henv hst
  refine tM (i := 0) (rg 11 4) rfl (by kernel_rfl) (fun _ _ _ h => h) henv rfl rfl ?_
  clear henv a; intro a henv
  refine tM (i := 1) [2, 11, 12, 13, 14] rfl (by kernel_rfl) (fun _ _ _ h => h) henv rfl rfl ?_
  clear henv a; intro a henv
  refine tA (i := 2) (rg 11 4) (v := .int .i64 1) rfl (by kernel_rfl) (fun _ _ _ h => h) henv rfl (fun _ => rn_bin henv rfl rfl rfl) ?_
  clear henv a; intro a henv
  refine tM (i := 3) [13, 14] rfl (by kernel_rfl) (fun _ _ _ h => h) henv rfl rfl ?_
  clear henv a; intro a henv
  refine tM (i := 4) [5, 13, 14] rfl (by kernel_rfl) (fun _ _ _ h => h) henv rfl rfl ?_
  clear henv a; intro a henv
  refine tA (i := 5) [13, 14] (v := .int .i64 0) rfl (by kernel_rfl) (fun _ _ _ h => h) henv rfl (fun _ => rn_bin henv rfl rfl rfl) ?_
  clear henv a; intro a henv
  refine tM (i := 6) [7, 8, 11, 12, 13, 14] rfl (by kernel_rfl) (fun _ _ _ h => h) henv rfl rfl ?_
  clear henv a; intro a henv
  refine tA (i := 7) [8, 11, 12, 13, 14] (v := .int .u32 (((u % 100) * 2) + 1 : Nat)) rfl (by kernel_rfl) (fun _ _ _ h => h) henv rfl (fun _ => rn_add henv rfl rfl (by rw [IntWalk.u32_in _ (by omega)]; omega)) ?_
  clear henv a; intro a henv
  refine tA (i := 8) (rg 11 4) (v := .int .u8 ((sm200.getD (((u % 100) * 2) + 1) 0).toNat : Nat)) rfl (by kernel_rfl) (fun _ _ _ h => h) henv rfl (fun _ => rn_idxS (s := sm200) (i := ((u % 100) * 2) + 1) henv Tryd.underlying9 rfl rfl (by rw [sm200_len]; omega)) ?_
  clear henv a; intro a henv
  refine tM (i := 9) [10, 13, 14] rfl (by kernel_rfl) (fun _ _ _ h => h) henv rfl rfl ?_
  clear henv a; intro a henv
  refine tA (i := 10) [13, 14] (v := .int .u8 ((sm200.getD ((u % 100) * 2) 0).toNat : Nat)) rfl (by kernel_rfl) (fun _ _ _ h => h) henv rfl (fun _ => rn_idxS (s := sm200) (i := (u % 100) * 2) henv Tryd.underlying9 rfl rfl (by rw [sm200_len]; omega)) ?_
  clear henv a; intro a henv
  refine tA (i := 11) [12, 13, 14] (v := .pointer (some ⟨g, 2, none⟩)) rfl (by kernel_rfl) (fun _ _ _ h => h) henv rfl (fun _ => rn_indexAddr (i := 1) henv Tryd.underlying62 (ty_uint8.size) rfl rfl (by decide)) ?_
  clear henv a; intro a henv
  refine sAny_one (i := 12) (by kernel_rfl) rfl rfl (op_store1 (k := 0) (c' := #[.int .u8 0, .int .u8 0, .int .u8 ((sm200.getD (((u % 100) * 2) + 1) 0).toNat : Nat), .int .u8 0, .int .u8 0, .int .u8 0, .int .u8 0, .int .u8 0, .int .u8 0, .int .u8 0, .int .u8 0, .int .u8 0, .int .u8 0, .int .u8 0, .int .u8 0, .int .u8 0, .int .u8 0, .int .u8 0, .int .u8 0, .int .u8 0, .int .u8 0, .int .u8 0, .int .u8 0, .int .u8 0]) henv hst (ty_uint8.size) rfl rfl rfl (by simp) rfl rfl ?_)
  clear henv hst a; intro a w53 henv hst
  refine ⟨.inr ⟨hst.kn.pick [] [0], .inl rfl⟩, ?_⟩
  refine tA (i := 13) [14] (v := .pointer (some ⟨g, 1, none⟩)) rfl (by kernel_rfl) (fun _ _ _ h => h) henv rfl (fun _ => rn_indexAddr (i := 0) henv Tryd.underlying62 (ty_uint8.size) rfl rfl (by decide)) ?_
  clear henv a; intro a henv
  refine sAny_one (i := 14) (by kernel_rfl) rfl rfl (op_store1 (k := 0) (c' := #[.int .u8 0, .int .u8 ((sm200.getD ((u % 100) * 2) 0).toNat : Nat), .int .u8 ((sm200.getD (((u % 100) * 2) + 1) 0).toNat : Nat), .int .u8 0, .int .u8 0, .int .u8 0, .int .u8 0, .int .u8 0, .int .u8 0, .int .u8 0, .int .u8 0, .int .u8 0, .int .u8 0, .int .u8 0, .int .u8 0, .int .u8 0, .int .u8 0, .int .u8 0, .int .u8 0, .int .u8 0, .int .u8 0, .int .u8 0, .int .u8 0, .int .u8 0]) henv hst (ty_uint8.size) rfl rfl rfl (by simp) rfl rfl ?_)
  clear henv hst a; intro a w54 henv hst
  refine ⟨.inr ⟨hst.kn.pick [] [0], .inl rfl⟩, ?_⟩
  refine sAny_done (by kernel_rfl) ?_ _
  refine th_n ?_
  refine region_seq ?_
  revert a
  refine mA rfl rfl ?_
  refine sA (v := .int .i64 0) rfl (fun _ henv => rn_bin henv rfl rfl rfl) ?_
  refine aA rfl rfl ?_
  intro a henv
  refine wpList_nil ?_
  refine th_n ?_
  refine wp_seq ?_
  refine region_seq ?_
  revert a
  refine mA rfl rfl ?_
  refine sA (v := .bool false) rfl (fun _ henv => rn_bin henv rfl rfl rfl) ?_
  intro a henv
  refine wpList_nil ?_
  refine th_n ?_
  refine if_f henv rfl (rfl) ?_
  refine wp_skip ?_
  refine leave_end henv (res0 Tryd.results80 ) ?_
  exact ⟨⟨_, rfl⟩, hst⟩
set_option maxRecDepth 100000 in
set_option maxHeartbeats 2000000 in
theorem h_fb3 {E : PF} {g u : Nat} {w0 w1 : World} (hS : St w0 w1 [bk g #[.int .u8 0, .int .u8 0, .int .u8 0, .int .u8 0, .int .u8 0, .int .u8 0, .int .u8 0, .int .u8 0, .int .u8 0, .int .u8 0, .int .u8 0, .int .u8 0, .int .u8 0, .int .u8 0, .int .u8 0, .int .u8 0, .int .u8 0, .int .u8 0, .int .u8 0, .int .u8 0, .int .u8 0, .int .u8 0, .int .u8 0, .int .u8 0] 110] [E]) (h0 : 100 ≤ u) (hu : u < 1000) :
    Calls Tryd.prog 80 #[.slice (some ⟨g, 1, none⟩) 3 23, .int .u64 (u : Nat)] w1 fun e w' => (∃ v, e = .returned v) ∧ St w0 w' [bk g #[.int .u8 0, .int .u8 (48 + u / 100 : Nat), .int .u8 ((sm200.getD (u % 100 * 2) 0).toNat : Nat), .int .u8 ((sm200.getD (u % 100 * 2 + 1) 0).toNat : Nat), .int .u8 0, .int .u8 0, .int .u8 0, .int .u8 0, .int .u8 0, .int .u8 0, .int .u8 0, .int .u8 0, .int .u8 0, .int .u8 0, .int .u8 0, .int .u8 0, .int .u8 0, .int .u8 0, .int .u8 0, .int .u8 0, .int .u8 0, .int .u8 0, .int .u8 0, .int .u8 0] 110] [E] := by
  refine enter Tryd.func80 rfl Tryd.ntmps80 rfl ?_
  intro a henv hst
  clear hst
  have hst := hS
  clear hS
  refine wp_seq ?_
  refine region_seq ?_
  revert a
  refine mA rfl rfl ?_
  refine sA (v := .int .i64 3) rfl (fun _ henv => rn_len henv Tryd.underlying62 rfl) ?_
  refine aA rfl rfl ?_
  intro a henv
  refine wpList_nil ?_
  refine th_n ?_
  refine wp_seq ?_
  refine wp_block ?_
  refine wp_loop_ghost (fun mz a w => ∃ z : Nat, z = mz ∧ Env 167 a [(0, .slice (some ⟨g, 1, none⟩) 3 23), (1, .int .u64 (u : Nat)), (4, .int .i64 3)] ∧ St w0 w [bk g #[.int .u8 0, .int .u8 0, .int .u8 0, .int .u8 0, .int .u8 0, .int .u8 0, .int .u8 0, .int .u8 0, .int .u8 0, .int .u8 0, .int .u8 0, .int .u8 0, .int .u8 0, .int .u8 0, .int .u8 0, .int .u8 0, .int .u8 0, .int .u8 0, .int .u8 0, .int .u8 0, .int .u8 0, .int .u8 0, .int .u8 0, .int .u8 0] 110] [E]) _ ⟨0, rfl, henv.sub ⟨rfl, rfl, rfl, trivial⟩, hst.pick [0] [0] (by decide)⟩ ?_
  clear henv hst a
  rintro mz a w51 ⟨z, rfl, henv, hst⟩
  refine wp_seq ?_
  refine wp_seq ?_
  refine region_seq ?_
  revert a
  refine mA rfl rfl ?_
  refine sA (v := .bool false) rfl (fun _ henv => rn_bin henv rfl rfl rfl) ?_
  intro a henv
  refine wpList_nil ?_
  refine th_n ?_
  refine if_f henv rfl (rfl) ?_
  refine wp_exit ?_
  refine th_x (th_x (bl_x (th_n ?_)))
  refine wp_seq ?_
  refine region_seq ?_
  revert a
  refine mA rfl rfl ?_
  refine sA (v := .int .u32 (u : Nat)) rfl (fun _ henv => rn_conv henv rfl Tryd.underlying106 Tryd.underlying105 (IntWalk.u32_in _ (by omega))) ?_
  refine aA rfl rfl ?_
  intro a henv
  refine wpList_nil ?_
  refine th_n ?_
  refine wp_seq ?_
  refine wp_seq ?_
  refine region_seq ?_
  revert a
  refine mA rfl rfl ?_
  refine sA (v := .bool false) rfl (fun _ henv => rn_bin henv rfl rfl rfl) ?_
  intro a henv
  refine wpList_nil ?_
  refine th_n ?_
  refine if_f henv rfl (rfl) ?_
  refine wp_skip ?_
  refine th_n ?_
  refine wp_seq ?_
  refine wp_seq ?_
  refine region_seq ?_
  revert a
  refine mA rfl rfl ?_
  refine sA (v := .bool true) rfl (fun _ henv => rn_bin henv rfl rfl rfl) ?_
  intro a henv
  refine wpList_nil ?_
  refine th_n ?_
  refine if_t henv rfl (rfl) ?_
  refine wp_seq ?_
  refine region_seq ?_
  revert a
  refine mA rfl rfl ?_
  refine sA (v := .int .u32 (u % 100 : Nat)) rfl (fun _ henv => rn_rem henv rfl rfl (by decide) (tmod_nat u 100)) ?_
  refine sA (v := .int .u32 ((u % 100) * 2 : Nat)) rfl (fun _ henv => rn_mul henv rfl rfl (by rw [IntWalk.u32_in _ (by omega)]; omega)) ?_
  refine aA rfl rfl ?_
  intro a henv
  refine wpList_nil ?_
  refine th_n ?_
  refine wp_seq ?_
  refine region_seq ?_
  revert a
  refine mA rfl rfl ?_
  refine sA (v := .int .u32 (u / 100 : Nat)) rfl (fun _ henv => rn_quo henv rfl rfl (by decide) (quo_u32 (t := u) (c := 100) (by omega))) ?_
  refine aA rfl rfl ?_
  intro a henv
  refine wpList_nil ?_
  refine th_n ?_
  refine wp_seq ?_
  refine region_any (n := 15) (Sk [] [E] [12, 14] [bk g #[.int .u8 0, .int .u8 0, .int .u8 0, .int .u8 0, .int .u8 0, .int .u8 0, .int .u8 0, .int .u8 0, .int .u8 0, .int .u8 0, .int .u8 0, .int .u8 0, .int .u8 0, .int .u8 0, .int .u8 0, .int .u8 0, .int .u8 0, .int .u8 0, .int .u8 0, .int .u8 0, .int .u8 0, .int .u8 0, .int .u8 0, .int .u8 0] 110]) mixed rfl henv hst ?_
  clear henv hst; intro w52 henv hst
  refine tM (i := 0) (rg 11 4) rfl (by kernel_rfl) (fun _ _ _ h => h) henv rfl rfl ?_
  clear henv a; intro a henv
  refine tM (i := 1) [2, 11, 12, 13, 14] rfl (by kernel_rfl) (fun _ _ _ h => h) henv rfl rfl ?_
  clear henv a; intro a henv
  refine tA (i := 2) (rg 11 4) (v := .int .i64 2) rfl (by kernel_rfl) (fun _ _ _ h => h) henv rfl (fun _ => rn_bin henv rfl rfl rfl) ?_
  clear henv a; intro a henv
  refine tM (i := 3) [13, 14] rfl (by kernel_rfl) (fun _ _ _ h => h) henv rfl rfl ?_
  clear henv a; intro a henv
  refine tM (i := 4) [5, 13, 14] rfl (by kernel_rfl) (fun _ _ _ h => h) henv rfl rfl ?_
  clear henv a; intro a henv
  refine tA (i := 5) [13, 14] (v := .int .i64 1) rfl (by kernel_rfl) (fun _ _ _ h => h) henv rfl (fun _ => rn_bin henv rfl rfl rfl) ?_
  clear henv a; intro a henv
  refine tM (i := 6) [7, 8, 11, 12, 13, 14] rfl (by kernel_rfl) (fun _ _ _ h => h) henv rfl rfl ?_
  clear henv a; intro a henv
  refine tA (i := 7) [8, 11, 12, 13, 14] (v := .int .u32 (((u % 100) * 2) + 1 : Nat)) rfl (by kernel_rfl) (fun _ _ _ h => h) henv rfl (fun _ => rn_add henv rfl rfl (by rw [IntWalk.u32_in _ (by omega)]; omega)) ?_
  clear henv a; intro a henv
  refine tA (i := 8) (rg 11 4) (v := .int .u8 ((sm200.getD (((u % 100) * 2) + 1) 0).toNat : Nat)) rfl (by kernel_rfl) (fun _ _ _ h => h) henv rfl (fun _ => rn_idxS (s := sm200) (i := ((u % 100) * 2) + 1) henv Tryd.underlying9 rfl rfl (by rw [sm200_len]; omega)) ?_
  clear henv a; intro a henv
  refine tM (i := 9) [10, 13, 14] rfl (by kernel_rfl) (fun _ _ _ h => h) henv rfl rfl ?_
  clear henv a; intro a henv
  refine tA (i := 10) [13, 14] (v := .int .u8 ((sm200.getD ((u % 100) * 2) 0).toNat : Nat)) rfl (by kernel_rfl) (fun _ _ _ h => h) henv rfl (fun _ => rn_idxS (s := sm200) (i := (u % 100) * 2) henv Tryd.underlying9 rfl rfl (by rw [sm200_len]; omega)) ?_
  clear henv a; intro a henv
  refine tA (i := 11) [12, 13, 14] (v := .pointer (some ⟨g, 3, none⟩)) rfl (by kernel_rfl) (fun _ _ _ h => h) henv rfl (fun _ => rn_indexAddr (i := 2) henv Tryd.underlying62 (ty_uint8.size) rfl rfl (by decide)) ?_
  clear henv a; intro a henv
  refine sAny_one (i := 12) (by kernel_rfl) rfl rfl (op_store1 (k := 0) (c' := #[.int .u8 0, .int .u8 0, .int .u8 0, .int .u8 ((sm200.getD (((u % 100) * 2) + 1) 0).toNat : Nat), .int .u8 0, .int .u8 0, .int .u8 0, .int .u8 0, .int .u8 0, .int .u8 0, .int .u8 0, .int .u8 0, .int .u8 0, .int .u8 0, .int .u8 0, .int .u8 0, .int .u8 0, .int .u8 0, .int .u8 0, .int .u8 0, .int .u8 0, .int .u8 0, .int .u8 0, .int .u8 0]) henv hst (ty_uint8.size) rfl rfl rfl (by simp) rfl rfl ?_)
  clear henv hst a; intro a w53 henv hst
  refine ⟨.inr ⟨hst.kn.pick [] [0], .inl rfl⟩, ?_⟩
  refine tA (i := 13) [14] (v := .pointer (some ⟨g, 2, none⟩)) rfl (by kernel_rfl) (fun _ _ _ h => h) henv rfl (fun _ => rn_indexAddr (i := 1) henv Tryd.underlying62 (ty_uint8.size) rfl rfl (by decide)) ?_
  clear henv a; intro a henv
  refine sAny_one (i := 14) (by kernel_rfl) rfl rfl (op_store1 (k := 0) (c' := #[.int .u8 0, .int .u8 0, .int .u8 ((sm200.getD ((u % 100) * 2) 0).toNat : Nat), .int .u8 ((sm200.getD (((u % 100) * 2) + 1) 0).toNat : Nat), .int .u8 0, .int .u8 0, .int .u8 0, .int .u8 0, .int .u8 0, .int .u8 0, .int .u8 0, .int .u8 0, .int .u8 0, .int .u8 0, .int .u8 0, .int .u8 0, .int .u8 0, .int .u8 0, .int .u8 0, .int .u8 0, .int .u8 0, .int .u8 0, .int .u8 0, .int .u8 0]) henv hst (ty_uint8.size) rfl rfl rfl (by simp) rfl rfl ?_)
  clear henv hst a; intro a w54 henv hst
  refine ⟨.inr ⟨hst.kn.pick [] [0], .inl rfl⟩, ?_⟩
  refine sAny_done (by kernel_rfl) ?_ _
  refine th_n ?_
  refine region_seq ?_
  revert a
  refine mA rfl rfl ?_
  refine sA (v := .int .i64 1) rfl (fun _ henv => rn_bin henv rfl rfl rfl) ?_
  refine aA rfl rfl ?_
  intro a henv
  refine wpList_nil ?_
  refine th_n ?_
  refine wp_seq ?_
  refine region_seq ?_
  revert a
  refine mA rfl rfl ?_
  refine sA (v := .bool true) rfl (fun _ henv => rn_bin henv rfl rfl rfl) ?_
  intro a henv
  refine wpList_nil ?_
  refine th_n ?_
  refine if_t henv rfl (rfl) ?_
  refine region_seq ?_
  revert a
  refine mA rfl rfl ?_
  refine mA rfl rfl ?_
  refine sA (v := .int .u32 (48 + (u / 100) : Nat)) rfl (fun _ henv => rn_add henv rfl rfl (by rw [IntWalk.u32_in _ (by omega)]; omega)) ?_
  refine sA (v := .int .u8 (48 + (u / 100) : Nat)) rfl (fun _ henv => rn_conv henv rfl Tryd.underlying105 Tryd.underlying5 (IntWalk.u8_in _ (by omega))) ?_
  refine sA (v := .pointer (some ⟨g, 1, none⟩)) rfl (fun _ henv => rn_indexAddr (i := 0) henv Tryd.underlying62 (ty_uint8.size) rfl rfl (by decide)) ?_
  intro a henv
  refine seq_step rfl (op_store1 (k := 0) (c' := #[.int .u8 0, .int .u8 (48 + (u / 100) : Nat), .int .u8 ((sm200.getD ((u % 100) * 2) 0).toNat : Nat), .int .u8 ((sm200.getD (((u % 100) * 2) + 1) 0).toNat : Nat), .int .u8 0, .int .u8 0, .int .u8 0, .int .u8 0, .int .u8 0, .int .u8 0, .int .u8 0, .int .u8 0, .int .u8 0, .int .u8 0, .int .u8 0, .int .u8 0, .int .u8 0, .int .u8 0, .int .u8 0, .int .u8 0, .int .u8 0, .int .u8 0, .int .u8 0, .int .u8 0]) henv hst (ty_uint8.size) rfl rfl rfl (by simp) rfl rfl ?_)
  clear henv hst a; intro a w55 henv hst
  refine wpList_nil ?_
  refine leave_end henv (res0 Tryd.results80 ) ?_
  exact ⟨⟨_, rfl⟩, hst⟩
set_option maxRecDepth 100000 in
set_option maxHeartbeats 2000000 in
theorem h_fmt_s {u : Nat} {w0 : World} (hP : Pw w0) (hu : u < 100) :
    Calls Tryd.prog 71 #[.int .i64 (u : Nat), .int .i64 10] w0 fun e w' => e = .returned (.string ⟨(textZ ((u : Nat) : Int)).toArray⟩) ∧ Below w0.heap.size w0 w' := by
  refine enter Tryd.func71 rfl Tryd.ntmps71 rfl ?_
  intro a henv hst
  replace hst := hst.argP pfPw hP
  refine wp_seq ?_
  refine region_seq ?_
  refine sv (v := .string ⟨#[]⟩) henv rfl (rn_assign henv rfl) ?_
  clear henv a; intro a henv
  refine wpList_nil ?_
  refine th_n ?_
  refine wp_seq ?_
  refine wp_seq ?_
  refine region_seq ?_
  revert a
  refine mA rfl rfl ?_
  refine sA (v := .bool true) rfl (fun _ henv => rn_bin henv rfl rfl rfl) ?_
  intro a henv
  refine wpList_nil ?_
  refine th_n ?_
  refine if_t henv rfl (rfl) ?_
  refine wp_seq ?_
  refine wp_seq ?_
  refine region_seq ?_
  revert a
  refine mA rfl rfl ?_
  refine sA (v := .bool (decide ((0 : Int) ≤ ((u : Nat) : Int)))) rfl (fun _ henv => rn_bin henv rfl rfl rfl) ?_
  intro a henv
  rw [show (decide ((0 : Int) ≤ ((u : Nat) : Int))) = true from (decide_eq_true (by omega))] at henv
  revert a
  refine mA rfl rfl ?_
  refine gA (v := .int .i64 (u : Nat)) rfl rfl rfl rfl (fun _ henv => rn_move henv rfl) ?_
  refine gA (v := .bool (decide (((u : Nat) : Int) < (100 : Int)))) rfl rfl rfl rfl (fun _ henv => rn_bin henv rfl rfl rfl) ?_
  intro a henv
  rw [show (decide (((u : Nat) : Int) < (100 : Int))) = true from (decide_eq_true (by omega))] at henv
  refine sv (v := .bool true) henv rfl (rn_pick henv rfl rfl) ?_
  clear henv a; intro a henv
  refine wpList_nil ?_
  refine th_n ?_
  refine if_t henv rfl (rfl) ?_
  refine wp_seq ?_
  refine region_seq ?_
  refine sv (v := .int .i64 (u : Nat)) henv rfl (rn_move henv rfl) ?_
  clear henv a; intro a henv
  refine seq_step rfl (op_call henv rfl Tryd.call78 rfl (h_small (by omega)) ?_)
  rintro e w51 ⟨rfl, hb⟩
  refine ⟨_, rfl, ?_⟩
  clear henv a; intro a henv
  replace hst := hst.call hb
  clear hb
  refine sv (v := .string ⟨(textZ (u : Nat)).toArray⟩) henv rfl (rn_assign henv rfl) ?_
  clear henv a; intro a henv
  refine wpList_nil ?_
  refine th_n ?_
  refine wp_ret ?_
  refine th_r (th_r ?_)
  refine leave henv (res1 Tryd.results71 (RV.tmp henv rfl)) ?_
  exact ⟨rfl, hst.below⟩
set_option maxRecDepth 100000 in
set_option maxHeartbeats 2000000 in
theorem h_fmt_b {u : Nat} {w0 : World} (hP : Pw w0) (h0 : 100 ≤ u) (hu : u < 1000) :
    Calls Tryd.prog 71 #[.int .i64 (u : Nat), .int .i64 10] w0 fun e w' => e = .returned (.string ⟨(textZ ((u : Nat) : Int)).toArray⟩) ∧ Below w0.heap.size w0 w' := by
  have hk : nd10 u = 3 := by unfold nd10; (repeat first | rw [if_pos (by omega)] | rw [if_neg (by omega)])
  refine enter Tryd.func71 rfl Tryd.ntmps71 rfl ?_
  intro a henv hst
  replace hst := hst.argP pfPw hP
  refine wp_seq ?_
  refine region_seq ?_
  refine sv (v := .string ⟨#[]⟩) henv rfl (rn_assign henv rfl) ?_
  clear henv a; intro a henv
  refine wpList_nil ?_
  refine th_n ?_
  refine wp_seq ?_
  refine wp_seq ?_
  refine region_seq ?_
  revert a
  refine mA rfl rfl ?_
  refine sA (v := .bool true) rfl (fun _ henv => rn_bin henv rfl rfl rfl) ?_
  intro a henv
  refine wpList_nil ?_
  refine th_n ?_
  refine if_t henv rfl (rfl) ?_
  refine wp_seq ?_
  refine wp_seq ?_
  refine region_seq ?_
  revert a
  refine mA rfl rfl ?_
  refine sA (v := .bool (decide ((0 : Int) ≤ ((u : Nat) : Int)))) rfl (fun _ henv => rn_bin henv rfl rfl rfl) ?_
  intro a henv
  rw [show (decide ((0 : Int) ≤ ((u : Nat) : Int))) = true from (decide_eq_true (by omega))] at henv
  revert a
  refine mA rfl rfl ?_
  refine gA (v := .int .i64 (u : Nat)) rfl rfl rfl rfl (fun _ henv => rn_move henv rfl) ?_
  refine gA (v := .bool (decide (((u : Nat) : Int) < (100 : Int)))) rfl rfl rfl rfl (fun _ henv => rn_bin henv rfl rfl rfl) ?_
  intro a henv
  rw [show (decide (((u : Nat) : Int) < (100 : Int))) = false from (decide_eq_false (by omega))] at henv
  refine sv (v := .bool false) henv rfl (rn_pick henv rfl rfl) ?_
  clear henv a; intro a henv
  refine wpList_nil ?_
  refine th_n ?_
  refine if_f henv rfl (rfl) ?_
  refine wp_skip ?_
  refine th_n ?_
  refine wp_seq ?_
  refine region_seq ?_
  refine seq_step rfl (op_alloc (c := #[.int .u8 0, .int .u8 0, .int .u8 0, .int .u8 0, .int .u8 0, .int .u8 0, .int .u8 0, .int .u8 0, .int .u8 0, .int .u8 0, .int .u8 0, .int .u8 0, .int .u8 0, .int .u8 0, .int .u8 0, .int .u8 0, .int .u8 0, .int .u8 0, .int .u8 0, .int .u8 0, .int .u8 0, .int .u8 0, .int .u8 0, .int .u8 0]) henv hst rfl zero__24_uint8 rfl ?_)
  clear henv hst a; intro a w52 g51 henv hst
  refine wpList_nil ?_
  refine th_n ?_
  refine wp_seq ?_
  refine region_seq ?_
  revert a
  refine mA rfl rfl ?_
  refine sA (v := .int .u64 (u : Nat)) rfl (fun _ henv => rn_conv henv rfl Tryd.underlying2 Tryd.underlying106 (IntWalk.u64_in _ (by omega))) ?_
  refine aA rfl rfl ?_
  intro a henv
  refine wpList_nil ?_
  refine th_n ?_
  refine wp_seq ?_
  refine wp_seq ?_
  refine region_seq ?_
  revert a
  refine mA rfl rfl ?_
  refine sA (v := .bool (decide (((u : Nat) : Int) < (0 : Int)))) rfl (fun _ henv => rn_bin henv rfl rfl rfl) ?_
  intro a henv
  rw [show (decide (((u : Nat) : Int) < (0 : Int))) = false from (decide_eq_false (by omega))] at henv
  refine wpList_nil ?_
  refine th_n ?_
  refine if_f henv rfl (rfl) ?_
  refine wp_skip ?_
  refine th_n ?_
  refine wp_seq ?_
  refine region_seq ?_
  refine sv (v := .int .u64 (u : Nat)) henv rfl (rn_move henv rfl) ?_
  clear henv a; intro a henv
  refine seq_step rfl (op_call henv rfl Tryd.call79 rfl (h_nd (u := u) (k := 3) (hst.pat (k := 0) rfl) (by omega) (by omega) hk) ?_)
  rintro e w53 ⟨rfl, hb⟩
  refine ⟨_, rfl, ?_⟩
  clear henv a; intro a henv
  replace hst := hst.call hb
  clear hb
  refine sv (v := .int .i64 3) henv rfl (rn_assign henv rfl) ?_
  clear henv a; intro a henv
  refine wpList_nil ?_
  refine th_n ?_
  refine wp_seq ?_
  refine region_seq ?_
  revert a
  refine mA rfl rfl ?_
  refine sA (v := .int .i64 4) rfl (fun _ henv => rn_bin henv rfl rfl rfl) ?_
  refine sA (v := .slice (some ⟨g51, 1, none⟩) 3 23) rfl (fun _ henv => rn_arrLH (l0 := 1) (m := 4) henv Tryd.underlying110 (ty_uint8.size) rfl rfl rfl (by decide) (by decide) (by decide)) ?_
  refine mA rfl rfl ?_
  intro a henv
  refine seq_step rfl (op_call henv rfl Tryd.call80 rfl (h_fb3 (hst.toRest (k := 0) rfl []) (by omega) (by omega)) ?_)
  rintro e w54 ⟨⟨_, rfl⟩, hst2⟩
  refine ⟨_, rfl, ?_⟩
  clear henv a; intro a henv
  replace hst := hst.restSet (k := 0) rfl hst2 (fun _ hb => hb)
  clear hst2
  refine wpList_nil ?_
  refine th_n ?_
  refine wp_seq ?_
  refine wp_seq ?_
  refine region_seq ?_
  revert a
  refine mA rfl rfl ?_
  refine sA (v := .bool (decide (((u : Nat) : Int) < (0 : Int)))) rfl (fun _ henv => rn_bin henv rfl rfl rfl) ?_
  intro a henv
  rw [show (decide (((u : Nat) : Int) < (0 : Int))) = false from (decide_eq_false (by omega))] at henv
  refine wpList_nil ?_
  refine th_n ?_
  refine if_f henv rfl (rfl) ?_
  refine wp_skip ?_
  refine th_n ?_
  refine wp_seq ?_
  refine region_seq ?_
  revert a
  refine mA rfl rfl ?_
  refine sA (v := .int .i64 4) rfl (fun _ henv => rn_bin henv rfl rfl rfl) ?_
  refine sA (v := .slice (some ⟨g51, 1, none⟩) 3 23) rfl (fun _ henv => rn_arrLH (l0 := 1) (m := 4) henv Tryd.underlying110 (ty_uint8.size) rfl rfl rfl (by decide) (by decide) (by decide)) ?_
  refine sA (v := .string ⟨(textZ ((u : Nat) : Int)).toArray⟩) rfl (fun _ henv => rn_strCells (s := (textZ ((u : Nat) : Int))) henv Tryd.underlying62 Tryd.underlying5 Tryd.underlying9 rfl (hst.oat (k := 0) rfl) (str_b h0 hu) (len_b h0 hu)) ?_
  refine aA rfl rfl ?_
  intro a henv
  refine wpList_nil ?_
  refine th_n ?_
  refine wp_ret ?_
  refine th_r ?_
  refine leave henv (res1 Tryd.results71 (RV.tmp henv rfl)) ?_
  exact ⟨rfl, hst.below⟩
set_option maxRecDepth 100000 in
set_option maxHeartbeats 2000000 in
theorem h_fmt_n1 {u : Nat} {w0 : World} (hP : Pw w0) (h0 : 0 < u) (hu : u < 10) :
    Calls Tryd.prog 71 #[.int .i64 (-((u : Nat) : Int)), .int .i64 10] w0 fun e w' => e = .returned (.string ⟨(textZ (-((u : Nat) : Int))).toArray⟩) ∧ Below w0.heap.size w0 w' := by
  have hk : nd10 u = 1 := by unfold nd10; (repeat first | rw [if_pos (by omega)] | rw [if_neg (by omega)])
  refine enter Tryd.func71 rfl Tryd.ntmps71 rfl ?_
  intro a henv hst
  replace hst := hst.argP pfPw hP
  refine wp_seq ?_
  refine region_seq ?_
  refine sv (v := .string ⟨#[]⟩) henv rfl (rn_assign henv rfl) ?_
  clear henv a; intro a henv
  refine wpList_nil ?_
  refine th_n ?_
  refine wp_seq ?_
  refine wp_seq ?_
  refine region_seq ?_
  revert a
  refine mA rfl rfl ?_
  refine sA (v := .bool true) rfl (fun _ henv => rn_bin henv rfl rfl rfl) ?_
  intro a henv
  refine wpList_nil ?_
  refine th_n ?_
  refine if_t henv rfl (rfl) ?_
  refine wp_seq ?_
  refine wp_seq ?_
  refine region_seq ?_
  revert a
  refine mA rfl rfl ?_
  refine sA (v := .bool (decide ((0 : Int) ≤ (-((u : Nat) : Int))))) rfl (fun _ henv => rn_bin henv rfl rfl rfl) ?_
  intro a henv
  rw [show (decide ((0 : Int) ≤ (-((u : Nat) : Int)))) = false from (decide_eq_false (by omega))] at henv
  revert a
  refine mA rfl rfl ?_
  refine kA rfl rfl rfl rfl rfl ?_
  refine kA rfl rfl rfl rfl rfl ?_
  refine sA (v := .bool false) rfl (fun _ henv => rn_pick henv rfl rfl) ?_
  intro a henv
  refine wpList_nil ?_
  refine th_n ?_
  refine if_f henv rfl (rfl) ?_
  refine wp_skip ?_
  refine th_n ?_
  refine wp_seq ?_
  refine region_seq ?_
  refine seq_step rfl (op_alloc (c := #[.int .u8 0, .int .u8 0, .int .u8 0, .int .u8 0, .int .u8 0, .int .u8 0, .int .u8 0, .int .u8 0, .int .u8 0, .int .u8 0, .int .u8 0, .int .u8 0, .int .u8 0, .int .u8 0, .int .u8 0, .int .u8 0, .int .u8 0, .int .u8 0, .int .u8 0, .int .u8 0, .int .u8 0, .int .u8 0, .int .u8 0, .int .u8 0]) henv hst rfl zero__24_uint8 rfl ?_)
  clear henv hst a; intro a w52 g51 henv hst
  refine wpList_nil ?_
  refine th_n ?_
  refine wp_seq ?_
  refine region_seq ?_
  revert a
  refine mA rfl rfl ?_
  refine sA (v := .int .u64 (18446744073709551616 - (u : Nat))) rfl (fun _ henv => rn_conv henv rfl Tryd.underlying2 Tryd.underlying106 (wrap_neg (by omega) (by omega))) ?_
  refine aA rfl rfl ?_
  intro a henv
  refine wpList_nil ?_
  refine th_n ?_
  refine wp_seq ?_
  refine wp_seq ?_
  refine region_seq ?_
  revert a
  refine mA rfl rfl ?_
  refine sA (v := .bool (decide ((-((u : Nat) : Int)) < (0 : Int)))) rfl (fun _ henv => rn_bin henv rfl rfl rfl) ?_
  intro a henv
  rw [show (decide ((-((u : Nat) : Int)) < (0 : Int))) = true from (decide_eq_true (by omega))] at henv
  refine wpList_nil ?_
  refine th_n ?_
  refine if_t henv rfl (rfl) ?_
  refine region_seq ?_
  revert a
  refine mA rfl rfl ?_
  refine sA (v := .int .u64 (u : Nat)) rfl (fun _ henv => rn_un henv rfl (neg_u64 (by omega) (by omega))) ?_
  refine aA rfl rfl ?_
  intro a henv
  refine wpList_nil ?_
  refine th_n ?_
  refine wp_seq ?_
  refine region_seq ?_
  refine sv (v := .int .u64 (u : Nat)) henv rfl (rn_move henv rfl) ?_
  clear henv a; intro a henv
  refine seq_step rfl (op_call henv rfl Tryd.call79 rfl (h_nd (u := u) (k := 1) (hst.pat (k := 0) rfl) (by omega) (by omega) hk) ?_)
  rintro e w53 ⟨rfl, hb⟩
  refine ⟨_, rfl, ?_⟩
  clear henv a; intro a henv
  replace hst := hst.call hb
  clear hb
  refine sv (v := .int .i64 1) henv rfl (rn_assign henv rfl) ?_
  clear henv a; intro a henv
  refine wpList_nil ?_
  refine th_n ?_
  refine wp_seq ?_
  refine region_seq ?_
  revert a
  refine mA rfl rfl ?_
  refine sA (v := .int .i64 2) rfl (fun _ henv => rn_bin henv rfl rfl rfl) ?_
  refine sA (v := .slice (some ⟨g51, 1, none⟩) 1 23) rfl (fun _ henv => rn_arrLH (l0 := 1) (m := 2) henv Tryd.underlying110 (ty_uint8.size) rfl rfl rfl (by decide) (by decide) (by decide)) ?_
  refine mA rfl rfl ?_
  intro a henv
  refine seq_step rfl (op_call henv rfl Tryd.call80 rfl (h_fb1 (hst.toRest (k := 0) rfl []) (by omega)) ?_)
  rintro e w54 ⟨⟨_, rfl⟩, hst2⟩
  refine ⟨_, rfl, ?_⟩
  clear henv a; intro a henv
  replace hst := hst.restSet (k := 0) rfl hst2 (fun _ hb => hb)
  clear hst2
  refine wpList_nil ?_
  refine th_n ?_
  refine wp_seq ?_
  refine wp_seq ?_
  refine region_seq ?_
  revert a
  refine mA rfl rfl ?_
  refine sA (v := .bool (decide ((-((u : Nat) : Int)) < (0 : Int)))) rfl (fun _ henv => rn_bin henv rfl rfl rfl) ?_
  intro a henv
  rw [show (decide ((-((u : Nat) : Int)) < (0 : Int))) = true from (decide_eq_true (by omega))] at henv
  refine wpList_nil ?_
  refine th_n ?_
  refine if_t henv rfl (rfl) ?_
  refine wp_seq ?_
  refine region_seq ?_
  refine sv (v := .pointer (some ⟨g51, 0, none⟩)) henv rfl (rn_idxA (i := 0) henv Tryd.underlying110 (ty_uint8.size) rfl rfl (by omega) (by omega)) ?_
  clear henv a; intro a henv
  refine seq_step rfl (op_store1 (k := 0) (c' := #[.int .u8 45, .int .u8 (48 + u : Nat), .int .u8 0, .int .u8 0, .int .u8 0, .int .u8 0, .int .u8 0, .int .u8 0, .int .u8 0, .int .u8 0, .int .u8 0, .int .u8 0, .int .u8 0, .int .u8 0, .int .u8 0, .int .u8 0, .int .u8 0, .int .u8 0, .int .u8 0, .int .u8 0, .int .u8 0, .int .u8 0, .int .u8 0, .int .u8 0]) henv hst (ty_uint8.size) rfl rfl rfl (by simp) rfl rfl ?_)
  clear henv hst a; intro a w55 henv hst
  refine wpList_nil ?_
  refine th_n ?_
  refine wp_seq ?_
  refine region_seq ?_
  revert a
  refine mA rfl rfl ?_
  refine sA (v := .int .i64 2) rfl (fun _ henv => rn_bin henv rfl rfl rfl) ?_
  refine sA (v := .slice (some ⟨g51, 0, none⟩) 2 24) rfl (fun _ henv => rn_arrH (m := 2) henv Tryd.underlying110 (ty_uint8.size) rfl rfl (by decide)) ?_
  refine sA (v := .string ⟨(textZ (-((u : Nat) : Int))).toArray⟩) rfl (fun _ henv => rn_strCells (s := (textZ (-((u : Nat) : Int)))) henv Tryd.underlying62 Tryd.underlying5 Tryd.underlying9 rfl (hst.oat (k := 0) rfl) (str_n1 h0 hu) (len_n1 h0 hu)) ?_
  refine aA rfl rfl ?_
  intro a henv
  refine wpList_nil ?_
  refine th_n ?_
  refine wp_ret ?_
  refine th_r (th_r ?_)
  refine leave henv (res1 Tryd.results71 (RV.tmp henv rfl)) ?_
  exact ⟨rfl, hst.below⟩
set_option maxRecDepth 100000 in
set_option maxHeartbeats 2000000 in
theorem h_fmt_n2 {u : Nat} {w0 : World} (hP : Pw w0) (h0 : 10 ≤ u) (hu : u < 100) :
    Calls Tryd.prog 71 #[.int .i64 (-((u : Nat) : Int)), .int .i64 10] w0 fun e w' => e = .returned (.string ⟨(textZ (-((u : Nat) : Int))).toArray⟩) ∧ Below w0.heap.size w0 w' := by
  have hk : nd10 u = 2 := by unfold nd10; (repeat first | rw [if_pos (by omega)] | rw [if_neg (by omega)])
  refine enter Tryd.func71 rfl Tryd.ntmps71 rfl ?_
  intro a henv hst
  replace hst := hst.argP pfPw hP
  refine wp_seq ?_
  refine region_seq ?_
  refine sv (v := .string ⟨#[]⟩) henv rfl (rn_assign henv rfl) ?_
  clear henv a; intro a henv
  refine wpList_nil ?_
  refine th_n ?_
  refine wp_seq ?_
  refine wp_seq ?_
  refine region_seq ?_
  revert a
  refine mA rfl rfl ?_
  refine sA (v := .bool true) rfl (fun _ henv => rn_bin henv rfl rfl rfl) ?_
  intro a henv
  refine wpList_nil ?_
  refine th_n ?_
  refine if_t henv rfl (rfl) ?_
  refine wp_seq ?_
  refine wp_seq ?_
  refine region_seq ?_
  revert a
  refine mA rfl rfl ?_
  refine sA (v := .bool (decide ((0 : Int) ≤ (-((u : Nat) : Int))))) rfl (fun _ henv => rn_bin henv rfl rfl rfl) ?_
  intro a henv
  rw [show (decide ((0 : Int) ≤ (-((u : Nat) : Int)))) = false from (decide_eq_false (by omega))] at henv
  revert a
  refine mA rfl rfl ?_
  refine kA rfl rfl rfl rfl rfl ?_
  refine kA rfl rfl rfl rfl rfl ?_
  refine sA (v := .bool false) rfl (fun _ henv => rn_pick henv rfl rfl) ?_
  intro a henv
  refine wpList_nil ?_
  refine th_n ?_
  refine if_f henv rfl (rfl) ?_
  refine wp_skip ?_
  refine th_n ?_
  refine wp_seq ?_
  refine region_seq ?_
  refine seq_step rfl (op_alloc (c := #[.int .u8 0, .int .u8 0, .int .u8 0, .int .u8 0, .int .u8 0, .int .u8 0, .int .u8 0, .int .u8 0, .int .u8 0, .int .u8 0, .int .u8 0, .int .u8 0, .int .u8 0, .int .u8 0, .int .u8 0, .int .u8 0, .int .u8 0, .int .u8 0, .int .u8 0, .int .u8 0, .int .u8 0, .int .u8 0, .int .u8 0, .int .u8 0]) henv hst rfl zero__24_uint8 rfl ?_)
  clear henv hst a; intro a w52 g51 henv hst
  refine wpList_nil ?_
  refine th_n ?_
  refine wp_seq ?_
  refine region_seq ?_
  revert a
  refine mA rfl rfl ?_
  refine sA (v := .int .u64 (18446744073709551616 - (u : Nat))) rfl (fun _ henv => rn_conv henv rfl Tryd.underlying2 Tryd.underlying106 (wrap_neg (by omega) (by omega))) ?_
  refine aA rfl rfl ?_
  intro a henv
  refine wpList_nil ?_
  refine th_n ?_
  refine wp_seq ?_
  refine wp_seq ?_
  refine region_seq ?_
  revert a
  refine mA rfl rfl ?_
  refine sA (v := .bool (decide ((-((u : Nat) : Int)) < (0 : Int)))) rfl (fun _ henv => rn_bin henv rfl rfl rfl) ?_
  intro a henv
  rw [show (decide ((-((u : Nat) : Int)) < (0 : Int))) = true from (decide_eq_true (by omega))] at henv
  refine wpList_nil ?_
  refine th_n ?_
  refine if_t henv rfl (rfl) ?_
  refine region_seq ?_
  revert a
  refine mA rfl rfl ?_
  refine sA (v := .int .u64 (u : Nat)) rfl (fun _ henv => rn_un henv rfl (neg_u64 (by omega) (by omega))) ?_
  refine aA rfl rfl ?_
  intro a henv
  refine wpList_nil ?_
  refine th_n ?_
  refine wp_seq ?_
  refine region_seq ?_
  refine sv (v := .int .u64 (u : Nat)) henv rfl (rn_move henv rfl) ?_
  clear henv a; intro a henv
  refine seq_step rfl (op_call henv rfl Tryd.call79 rfl (h_nd (u := u) (k := 2) (hst.pat (k := 0) rfl) (by omega) (by omega) hk) ?_)
  rintro e w53 ⟨rfl, hb⟩
  refine ⟨_, rfl, ?_⟩
  clear henv a; intro a henv
  replace hst := hst.call hb
  clear hb
  refine sv (v := .int .i64 2) henv rfl (rn_assign henv rfl) ?_
  clear henv a; intro a henv
  refine wpList_nil ?_
  refine th_n ?_
  refine wp_seq ?_
  refine region_seq ?_
  revert a
  refine mA rfl rfl ?_
  refine sA (v := .int .i64 3) rfl (fun _ henv => rn_bin henv rfl rfl rfl) ?_
  refine sA (v := .slice (some ⟨g51, 1, none⟩) 2 23) rfl (fun _ henv => rn_arrLH (l0 := 1) (m := 3) henv Tryd.underlying110 (ty_uint8.size) rfl rfl rfl (by decide) (by decide) (by decide)) ?_
  refine mA rfl rfl ?_
  intro a henv
  refine seq_step rfl (op_call henv rfl Tryd.call80 rfl (h_fb2 (hst.toRest (k := 0) rfl []) (by omega) (by omega)) ?_)
  rintro e w54 ⟨⟨_, rfl⟩, hst2⟩
  refine ⟨_, rfl, ?_⟩
  clear henv a; intro a henv
  replace hst := hst.restSet (k := 0) rfl hst2 (fun _ hb => hb)
  clear hst2
  refine wpList_nil ?_
  refine th_n ?_
  refine wp_seq ?_
  refine wp_seq ?_
  refine region_seq ?_
  revert a
  refine mA rfl rfl ?_
  refine sA (v := .bool (decide ((-((u : Nat) : Int)) < (0 : Int)))) rfl (fun _ henv => rn_bin henv rfl rfl rfl) ?_
  intro a henv
  rw [show (decide ((-((u : Nat) : Int)) < (0 : Int))) = true from (decide_eq_true (by omega))] at henv
  refine wpList_nil ?_
  refine th_n ?_
  refine if_t henv rfl (rfl) ?_
  refine wp_seq ?_
  refine region_seq ?_
  refine sv (v := .pointer (some ⟨g51, 0, none⟩)) henv rfl (rn_idxA (i := 0) henv Tryd.underlying110 (ty_uint8.size) rfl rfl (by omega) (by omega)) ?_
  clear henv a; intro a henv
  refine seq_step rfl (op_store1 (k := 0) (c' := #[.int .u8 45, .int .u8 ((sm200.getD (u % 100 * 2) 0).toNat : Nat), .int .u8 ((sm200.getD (u % 100 * 2 + 1) 0).toNat : Nat), .int .u8 0, .int .u8 0, .int .u8 0, .int .u8 0, .int .u8 0, .int .u8 0, .int .u8 0, .int .u8 0, .int .u8 0, .int .u8 0, .int .u8 0, .int .u8 0, .int .u8 0, .int .u8 0, .int .u8 0, .int .u8 0, .int .u8 0, .int .u8 0, .int .u8 0, .int .u8 0, .int .u8 0]) henv hst (ty_uint8.size) rfl rfl rfl (by simp) rfl rfl ?_)
  clear henv hst a; intro a w55 henv hst
  refine wpList_nil ?_
  refine th_n ?_
  refine wp_seq ?_
  refine region_seq ?_
  revert a
  refine mA rfl rfl ?_
  refine sA (v := .int .i64 3) rfl (fun _ henv => rn_bin henv rfl rfl rfl) ?_
  refine sA (v := .slice (some ⟨g51, 0, none⟩) 3 24) rfl (fun _ henv => rn_arrH (m := 3) henv Tryd.underlying110 (ty_uint8.size) rfl rfl (by decide)) ?_
  refine sA (v := .string ⟨(textZ (-((u : Nat) : Int))).toArray⟩) rfl (fun _ henv => rn_strCells (s := (textZ (-((u : Nat) : Int)))) henv Tryd.underlying62 Tryd.underlying5 Tryd.underlying9 rfl (hst.oat (k := 0) rfl) (str_n2 h0 hu) (len_n2 h0 hu)) ?_
  refine aA rfl rfl ?_
  intro a henv
  refine wpList_nil ?_
  refine th_n ?_
  refine wp_ret ?_
  refine th_r (th_r ?_)
  refine leave henv (res1 Tryd.results71 (RV.tmp henv rfl)) ?_
  exact ⟨rfl, hst.below⟩
set_option maxRecDepth 100000 in
set_option maxHeartbeats 2000000 in
theorem h_fmt_n3 {u : Nat} {w0 : World} (hP : Pw w0) (h0 : 100 ≤ u) (hu : u < 1000) :
    Calls Tryd.prog 71 #[.int .i64 (-((u : Nat) : Int)), .int .i64 10] w0 fun e w' => e = .returned (.string ⟨(textZ (-((u : Nat) : Int))).toArray⟩) ∧ Below w0.heap.size w0 w' := by
  have hk : nd10 u = 3 := by unfold nd10; (repeat first | rw [if_pos (by omega)] | rw [if_neg (by omega)])
  refine enter Tryd.func71 rfl Tryd.ntmps71 rfl ?_
  intro a henv hst
  replace hst := hst.argP pfPw hP
  refine wp_seq ?_
  refine region_seq ?_
  refine sv (v := .string ⟨#[]⟩) henv rfl (rn_assign henv rfl) ?_
  clear henv a; intro a henv
  refine wpList_nil ?_
  refine th_n ?_
  refine wp_seq ?_
  refine wp_seq ?_
  refine region_seq ?_
  revert a
  refine mA rfl rfl ?_
  refine sA (v := .bool true) rfl (fun _ henv => rn_bin henv rfl rfl rfl) ?_
  intro a henv
  refine wpList_nil ?_
  refine th_n ?_
  refine if_t henv rfl (rfl) ?_
  refine wp_seq ?_
  refine wp_seq ?_
  refine region_seq ?_
  revert a
  refine mA rfl rfl ?_
  refine sA (v := .bool (decide ((0 : Int) ≤ (-((u : Nat) : Int))))) rfl (fun _ henv => rn_bin henv rfl rfl rfl) ?_
  intro a henv
  rw [show (decide ((0 : Int) ≤ (-((u : Nat) : Int)))) = false from (decide_eq_false (by omega))] at henv
  revert a
  refine mA rfl rfl ?_
  refine kA rfl rfl rfl rfl rfl ?_
  refine kA rfl rfl rfl rfl rfl ?_
  refine sA (v := .bool false) rfl (fun _ henv => rn_pick henv rfl rfl) ?_
  intro a henv
  refine wpList_nil ?_
  refine th_n ?_
  refine if_f henv rfl (rfl) ?_
  refine wp_skip ?_
  refine th_n ?_
  refine wp_seq ?_
  refine region_seq ?_
  refine seq_step rfl (op_alloc (c := #[.int .u8 0, .int .u8 0, .int .u8 0, .int .u8 0, .int .u8 0, .int .u8 0, .int .u8 0, .int .u8 0, .int .u8 0, .int .u8 0, .int .u8 0, .int .u8 0, .int .u8 0, .int .u8 0, .int .u8 0, .int .u8 0, .int .u8 0, .int .u8 0, .int .u8 0, .int .u8 0, .int .u8 0, .int .u8 0, .int .u8 0, .int .u8 0]) henv hst rfl zero__24_uint8 rfl ?_)
  clear henv hst a; intro a w52 g51 henv hst
  refine wpList_nil ?_
  refine th_n ?_
  refine wp_seq ?_
  refine region_seq ?_
  revert a
  refine mA rfl rfl ?_
  refine sA (v := .int .u64 (18446744073709551616 - (u : Nat))) rfl (fun _ henv => rn_conv henv rfl Tryd.underlying2 Tryd.underlying106 (wrap_neg (by omega) (by omega))) ?_
  refine aA rfl rfl ?_
  intro a henv
  refine wpList_nil ?_
  refine th_n ?_
  refine wp_seq ?_
  refine wp_seq ?_
  refine region_seq ?_
  revert a
  refine mA rfl rfl ?_
  refine sA (v := .bool (decide ((-((u : Nat) : Int)) < (0 : Int)))) rfl (fun _ henv => rn_bin henv rfl rfl rfl) ?_
  intro a henv
  rw [show (decide ((-((u : Nat) : Int)) < (0 : Int))) = true from (decide_eq_true (by omega))] at henv
  refine wpList_nil ?_
  refine th_n ?_
  refine if_t henv rfl (rfl) ?_
  refine region_seq ?_
  revert a
  refine mA rfl rfl ?_
  refine sA (v := .int .u64 (u : Nat)) rfl (fun _ henv => rn_un henv rfl (neg_u64 (by omega) (by omega))) ?_
  refine aA rfl rfl ?_
  intro a henv
  refine wpList_nil ?_
  refine th_n ?_
  refine wp_seq ?_
  refine region_seq ?_
  refine sv (v := .int .u64 (u : Nat)) henv rfl (rn_move henv rfl) ?_
  clear henv a; intro a henv
  refine seq_step rfl (op_call henv rfl Tryd.call79 rfl (h_nd (u := u) (k := 3) (hst.pat (k := 0) rfl) (by omega) (by omega) hk) ?_)
  rintro e w53 ⟨rfl, hb⟩
  refine ⟨_, rfl, ?_⟩
  clear henv a; intro a henv
  replace hst := hst.call hb
  clear hb
  refine sv (v := .int .i64 3) henv rfl (rn_assign henv rfl) ?_
  clear henv a; intro a henv
  refine wpList_nil ?_
  refine th_n ?_
  refine wp_seq ?_
  refine region_seq ?_
  revert a
  refine mA rfl rfl ?_
  refine sA (v := .int .i64 4) rfl (fun _ henv => rn_bin henv rfl rfl rfl) ?_
  refine sA (v := .slice (some ⟨g51, 1, none⟩) 3 23) rfl (fun _ henv => rn_arrLH (l0 := 1) (m := 4) henv Tryd.underlying110 (ty_uint8.size) rfl rfl rfl (by decide) (by decide) (by decide)) ?_
  refine mA rfl rfl ?_
  intro a henv
  refine seq_step rfl (op_call henv rfl Tryd.call80 rfl (h_fb3 (hst.toRest (k := 0) rfl []) (by omega) (by omega)) ?_)
  rintro e w54 ⟨⟨_, rfl⟩, hst2⟩
  refine ⟨_, rfl, ?_⟩
  clear henv a; intro a henv
  replace hst := hst.restSet (k := 0) rfl hst2 (fun _ hb => hb)
  clear hst2
  refine wpList_nil ?_
  refine th_n ?_
  refine wp_seq ?_
  refine wp_seq ?_
  refine region_seq ?_
  revert a
  refine mA rfl rfl ?_
  refine sA (v := .bool (decide ((-((u : Nat) : Int)) < (0 : Int)))) rfl (fun _ henv => rn_bin henv rfl rfl rfl) ?_
  intro a henv
  rw [show (decide ((-((u : Nat) : Int)) < (0 : Int))) = true from (decide_eq_true (by omega))] at henv
  refine wpList_nil ?_
  refine th_n ?_
  refine if_t henv rfl (rfl) ?_
  refine wp_seq ?_
  refine region_seq ?_
  refine sv (v := .pointer (some ⟨g51, 0, none⟩)) henv rfl (rn_idxA (i := 0) henv Tryd.underlying110 (ty_uint8.size) rfl rfl (by omega) (by omega)) ?_
  clear henv a; intro a henv
  refine seq_step rfl (op_store1 (k := 0) (c' := #[.int .u8 45, .int .u8 (48 + u / 100 : Nat), .int .u8 ((sm200.getD (u % 100 * 2) 0).toNat : Nat), .int .u8 ((sm200.getD (u % 100 * 2 + 1) 0).toNat : Nat), .int .u8 0, .int .u8 0, .int .u8 0, .int .u8 0, .int .u8 0, .int .u8 0, .int .u8 0, .int .u8 0, .int .u8 0, .int .u8 0, .int .u8 0, .int .u8 0, .int .u8 0, .int .u8 0, .int .u8 0, .int .u8 0, .int .u8 0, .int .u8 0, .int .u8 0, .int .u8 0]) henv hst (ty_uint8.size) rfl rfl rfl (by simp) rfl rfl ?_)
  clear henv hst a; intro a w55 henv hst
  refine wpList_nil ?_
  refine th_n ?_
  refine wp_seq ?_
  refine region_seq ?_
  revert a
  refine mA rfl rfl ?_
  refine sA (v := .int .i64 4) rfl (fun _ henv => rn_bin henv rfl rfl rfl) ?_
  refine sA (v := .slice (some ⟨g51, 0, none⟩) 4 24) rfl (fun _ henv => rn_arrH (m := 4) henv Tryd.underlying110 (ty_uint8.size) rfl rfl (by decide)) ?_
  refine sA (v := .string ⟨(textZ (-((u : Nat) : Int))).toArray⟩) rfl (fun _ henv => rn_strCells (s := (textZ (-((u : Nat) : Int)))) henv Tryd.underlying62 Tryd.underlying5 Tryd.underlying9 rfl (hst.oat (k := 0) rfl) (str_n3 h0 hu) (len_n3 h0 hu)) ?_
  refine aA rfl rfl ?_
  intro a henv
  refine wpList_nil ?_
  refine th_n ?_
  refine wp_ret ?_
  refine th_r (th_r ?_)
  refine leave henv (res1 Tryd.results71 (RV.tmp henv rfl)) ?_
  exact ⟨rfl, hst.below⟩
theorem h_fmt {n : Int} {w0 : World} (hP : Pw w0) (h1 : -999 ≤ n) (h2 : n ≤ 999) :
    Calls Tryd.prog 71 #[.int .i64 n, .int .i64 10] w0 fun e w' => e = .returned (.string ⟨(textZ n).toArray⟩) ∧ Below w0.heap.size w0 w' := by
  rcases Int.lt_or_le n 0 with h | h
  · obtain ⟨u, rfl⟩ : ∃ u : Nat, n = -((u : Nat) : Int) := ⟨n.natAbs, by omega⟩
    rcases Nat.lt_or_ge u 10 with q | q
    · exact h_fmt_n1 hP (by omega) q
    rcases Nat.lt_or_ge u 100 with r | r
    · exact h_fmt_n2 hP q r
    · exact h_fmt_n3 hP r (by omega)
  · obtain ⟨u, rfl⟩ := Int.eq_ofNat_of_zero_le h
    rcases Nat.lt_or_ge u 100 with r | r
    · exact h_fmt_s hP r
    · exact h_fmt_b hP r (by omega)
set_option maxRecDepth 100000 in
set_option maxHeartbeats 2000000 in
theorem h_itoa0 {n : Int} {w0 : World} (hP : Pw w0) (h1 : -999 ≤ n) (h2 : n ≤ 999) :
    Calls Tryd.prog 61 #[.int .i64 n] w0 fun e w' => e = .returned (.string ⟨(textZ n).toArray⟩) ∧ Below w0.heap.size w0 w' := by
  refine enter Tryd.func61 rfl Tryd.ntmps61 rfl ?_
  intro a henv hst
  replace hst := hst.argP pfPw hP
  refine wp_seq ?_
  refine region_seq ?_
  refine sv (v := .string ⟨#[]⟩) henv rfl (rn_assign henv rfl) ?_
  clear henv a; intro a henv
  refine wpList_nil ?_
  refine th_n ?_
  refine wp_seq ?_
  refine region_seq ?_
  refine sv (v := .int .i64 n) henv rfl (rn_move henv rfl) ?_
  clear henv a; intro a henv
  refine seq_step rfl (op_call henv rfl Tryd.call71 rfl (h_fmt (n := n) (hst.pat (k := 0) rfl) h1 h2) ?_)
  rintro e w51 ⟨rfl, hb⟩
  refine ⟨_, rfl, ?_⟩
  clear henv a; intro a henv
  replace hst := hst.call hb
  clear hb
  refine sv (v := .string ⟨(textZ n).toArray⟩) henv rfl (rn_assign henv rfl) ?_
  clear henv a; intro a henv
  refine wpList_nil ?_
  refine th_n ?_
  refine wp_ret ?_
  refine leave henv (res1 Tryd.results61 (RV.tmp henv rfl)) ?_
  exact ⟨rfl, hst.below⟩
set_option maxRecDepth 100000 in
set_option maxHeartbeats 2000000 in
theorem h_itoa {n : Int} {w0 : World} (hP : Pw w0) (h1 : -999 ≤ n) (h2 : n ≤ 999) :
    Calls Tryd.prog 45 #[.int .i64 n] w0 fun e w' => e = .returned (.string ⟨(textZ n).toArray⟩) ∧ Below w0.heap.size w0 w' := by
  refine enter Tryd.func45 rfl Tryd.ntmps45 rfl ?_
  intro a henv hst
  replace hst := hst.argP pfPw hP
  refine wp_seq ?_
  refine region_seq ?_
  refine sv (v := .string ⟨#[]⟩) henv rfl (rn_assign henv rfl) ?_
  clear henv a; intro a henv
  refine wpList_nil ?_
  refine th_n ?_
  refine wp_seq ?_
  refine region_seq ?_
  refine sv (v := .int .i64 n) henv rfl (rn_move henv rfl) ?_
  clear henv a; intro a henv
  refine seq_step rfl (op_call henv rfl Tryd.call61 rfl (h_itoa0 (n := n) (hst.pat (k := 0) rfl) h1 h2) ?_)
  rintro e w51 ⟨rfl, hb⟩
  refine ⟨_, rfl, ?_⟩
  clear henv a; intro a henv
  replace hst := hst.call hb
  clear hb
  refine sv (v := .string ⟨(textZ n).toArray⟩) henv rfl (rn_assign henv rfl) ?_
  clear henv a; intro a henv
  refine wpList_nil ?_
  refine th_n ?_
  refine wp_ret ?_
  refine leave henv (res1 Tryd.results45 (RV.tmp henv rfl)) ?_
  exact ⟨rfl, hst.below⟩
end Go.Proofs.YtbdngknpngcojaaDoor.W

/- prog.Text, anvilref08.Text. Printed by pv/gen_h2.py. Condition: the table uint64pow10 is as laid (Pw). -/
namespace Go.Proofs.YtbdngknpngcojaaDoor.W
open Go.RowKit Anv Go.Lib
theorem tz_len {n : Int} (h1 : -999 ≤ n) (h2 : n ≤ 999) : (textZ n).length ≤ 4 := by
  have h := textN_len (N := n.natAbs) (k := 3) (by decide) (by omega)
  unfold textZ
  split <;> simp <;> omega
def pTreg (r : Int) : List UInt8 := [114] ++ textZ r
theorem preg_len {n : Int} (h1 : -999 ≤ n) (h2 : n ≤ 999) : (pTreg n).length ≤ 5 := by
  have h := tz_len h1 h2
  unfold pTreg
  rw [List.length_append, List.length_singleton]; omega
def pTsg (op : Int) : List UInt8 := if op = 3 then [43] else if op = 4 then [45] else if op = 5 then [42] else if op = 6 then [47] else if op = 7 then [60, 60] else if op = 8 then [62, 62] else []
theorem psg_len (op : Int) : (pTsg op).length ≤ 2 := by
  unfold pTsg
  repeat' split
  all_goals simp
def pTsigs : List (List UInt8) := [[], [], [], [43], [45], [42], [47], [60, 60], [62, 62]]
theorem sig_all : ∀ o, o < 9 → 3 ≤ o → pTsigs[o]? = some (pTsg ((o : Nat) : Int)) := by decide +kernel
theorem sig_at {o : Nat} (h1 : 3 ≤ o) (h2 : o ≤ 8) : pTsigs[o]? = some (pTsg ((o : Nat) : Int)) := sig_all o (by omega) h1
def pTline (e : IE) : List UInt8 := pTreg e.2.1 ++ [32, 61, 32] ++ (if e.1 = 1 then pTreg e.2.2.1 else if e.1 = 2 then [45] ++ pTreg e.2.2.1 else pTreg e.2.2.1 ++ [32] ++ pTsg e.1 ++ [32] ++ (if e.1 = 3 ∨ e.1 = 4 then pTreg e.2.2.2.1 else textZ e.2.2.2.2))
theorem pline_len {op tr ra rb cn : Int} (hb : 0 ≤ tr ∧ tr ≤ 128 ∧ 0 ≤ ra ∧ ra ≤ 128 ∧ 0 ≤ rb ∧ rb ≤ 128 ∧ -512 ≤ cn ∧ cn ≤ 512) : (pTline (op, tr, ra, rb, cn)).length ≤ 30 := by
  have h1 := preg_len (n := tr) (by omega) (by omega)
  have h2 := preg_len (n := ra) (by omega) (by omega)
  have h3 := preg_len (n := rb) (by omega) (by omega)
  have h4 := tz_len (n := cn) (by omega) (by omega)
  have h5 := psg_len op
  unfold pTline
  dsimp only
  split
  · simp only [List.length_append, List.length_cons, List.length_nil]; omega
  · split
    · simp only [List.length_append, List.length_cons, List.length_nil]; omega
    · split
      · simp only [List.length_append, List.length_cons, List.length_nil]; omega
      · simp only [List.length_append, List.length_cons, List.length_nil]; omega
theorem may_bd {op tr ra rb cn : Int} {g : Int} (h : May (op, tr, ra, rb, cn) g) (hg : g ≤ 128) : 0 ≤ tr ∧ tr ≤ 128 ∧ 0 ≤ ra ∧ ra ≤ 128 ∧ 0 ≤ rb ∧ rb ≤ 128 ∧ -512 ≤ cn ∧ cn ≤ 512 := by
  unfold May at h
  dsimp only at h
  omega
def pThead (i g : Int) : List UInt8 := [105, 110, 32] ++ textZ i ++ [32, 114, 101, 103, 115, 32] ++ textZ g ++ [10]
def pTcode (es : List IE) : List UInt8 := es.flatMap fun e => pTline e ++ [10]
def pTouts (os : List Int) : List UInt8 := os.flatMap fun r => [32] ++ pTreg r
def pTall (i g : Int) (es : List IE) (os : List Int) : List UInt8 := pThead i g ++ pTcode es ++ [111, 117, 116] ++ pTouts os ++ [10]
theorem pcode_step {es : List IE} {j : Nat} {e : IE} (h : es[j]? = some e) : pTcode (es.take (j + 1)) = pTcode (es.take j) ++ (pTline e ++ [10]) := by
  rw [take_one h, pTcode, pTcode, List.flatMap_append]; simp
theorem pouts_step {os : List Int} {j : Nat} {r : Int} (h : os[j]? = some r) : pTouts (os.take (j + 1)) = pTouts (os.take j) ++ ([32] ++ pTreg r) := by
  rw [take_one h, pTouts, pTouts, List.flatMap_append]; simp
section
variable {P : Program} {K : Act → World → Prop} {Q : Exit → Act → World → Prop} {N : Nat} {dq : List Deferred} {a : Act} {l : List (Nat × Value)} {w w0 : World} {own ps : List PF}
variable {d : Nat} {ty : TypeId} {pos : String} {af : Array Edge} {gd : Option (Nat × Bool)}
theorem op_appendStr {t u E n k : Nat} {x y : Operand} {v : Value} {bs s : List UInt8} (h : EnvD dq N a l) (hs : St w0 w own ps) (hd : Nat.blt d N = true) (hT : P.underlying t = some (.slice E)) (hU : P.underlying u = some .string)
    (hi : (P.info? E).map (fun i => (i.zero, i.size, i.bytes)) = some (some (.int .u8 0), 1, 1)) (hx : evl l x = some v) (hy : evl l y = some (.string ⟨s.toArray⟩))
    (hk : own[k]? = some (rowF E 1 v n (byteCells bs))) (hb : n + s.length ≤ 140737488355328)
    (hK : ∀ a' w' v', EnvD dq N a' ((d, v') :: l) → St w0 w' (own.set k (rowF E 1 v' (n + s.length) (byteCells (bs ++ s)))) ps → K a' w') :
    Oper.wp P ⟨some d, .call ⟨.builtin .append, #[x, y], #[t, u]⟩, ty, pos, af, gd⟩ a w K Q := by
  obtain ⟨i, hi1, hi2⟩ := Option.map_eq_some_iff.1 hi
  simp only [Prod.mk.injEq] at hi2
  obtain ⟨hz, hsz, hby⟩ := hi2
  have hrow : w.ownsRow 0 E 1 v n (byteCells bs) := hs.owns hk
  have hsl : (⟨s.toArray⟩ : ByteArray).size = s.length := by simp [ByteArray.size]
  obtain ⟨v', w', hrun, hown', hgr, hat⟩ := append_str_at (P := P) w t u ty E i hT hU hi1 hz hsz hby v n (byteCells bs) hrow ⟨s.toArray⟩ (by rw [hsl]; exact hb)
  rw [hsl, byteCells_app] at hown'
  have hvx := h.ev hx
  have hvy := h.ev hy
  have hr : (execOp a.eval ⟨some d, .call ⟨.builtin .append, #[x, y], #[t, u]⟩, ty, pos, af, gd⟩).run P w = .ok (.value v') w' := by
    simp [execOp, resolve, invoke, builtin, hvx, hvy, hrun]
  unfold Oper.wp
  rw [hr]
  exact hK _ _ v' (h.put hd _) (hs.step' hk hown' (fun b hb => hat b hb) hgr.os hgr.tape hgr.output hgr.size fun b hb hnf => hgr.block b hb fun e => hnf e.symm)
end
set_option maxRecDepth 100000 in
set_option maxHeartbeats 2000000 in
theorem h_reg {n : Int} {w0 : World} (hP : Pw w0) (h1 : -999 ≤ n) (h2 : n ≤ 999) :
    Calls Tryd.prog 47 #[.int .i64 n] w0 fun e w' => e = .returned (.string ⟨(pTreg n).toArray⟩) ∧ Below w0.heap.size w0 w' := by
  refine enter Tryd.func47 rfl Tryd.ntmps47 rfl ?_
  intro a henv hst
  replace hst := hst.argP pfPw hP
  refine wp_seq ?_
  refine region_seq ?_
  refine sv (v := .string ⟨#[]⟩) henv rfl (rn_assign henv rfl) ?_
  clear henv a; intro a henv
  refine wpList_nil ?_
  refine th_n ?_
  refine wp_seq ?_
  refine region_seq ?_
  refine sv (v := .int .i64 n) henv rfl (rn_move henv rfl) ?_
  clear henv a; intro a henv
  refine seq_step rfl (op_call henv rfl Tryd.call45 rfl (h_itoa (n := n) (hst.pat (k := 0) rfl) (by omega) (by omega)) ?_)
  rintro e w52 ⟨rfl, hb⟩
  refine ⟨_, rfl, ?_⟩
  clear henv a; intro a henv
  replace hst := hst.call hb
  have hl51 := tz_len (n := n) (by omega) (by omega)
  clear hb
  revert a
  refine sA (v := .string ⟨(([114]) ++ (textZ n)).toArray⟩) rfl (fun _ henv => rn_catS (s := [114]) (t := (textZ n)) henv rfl rfl (by (try simp only [List.length_append, List.length_cons, List.length_nil]); omega)) ?_
  refine aA rfl rfl ?_
  intro a henv
  refine wpList_nil ?_
  refine th_n ?_
  refine wp_ret ?_
  refine leave henv (res1 Tryd.results47 (RV.tmp henv rfl)) ?_
  exact ⟨rfl, hst.below⟩
set_option maxRecDepth 100000 in
set_option maxHeartbeats 2000000 in
theorem h_sign {op : Int} {w0 : World} :
    Calls Tryd.prog 62 #[.int .i64 op] w0 fun e w' => e = .returned (.string ⟨(pTsg op).toArray⟩) ∧ Below w0.heap.size w0 w' := by
  refine enter Tryd.func62 rfl Tryd.ntmps62 rfl ?_
  intro a henv hst
  refine wp_seq ?_
  refine region_seq ?_
  refine sv (v := .string ⟨#[]⟩) henv rfl (rn_assign henv rfl) ?_
  clear henv a; intro a henv
  refine wpList_nil ?_
  refine th_n ?_
  refine wp_seq ?_
  refine wp_seq ?_
  refine region_seq ?_
  refine sv (v := .int .i64 op) henv rfl (rn_move henv rfl) ?_
  clear henv a; intro a henv
  refine wpList_nil ?_
  refine th_n ?_
  refine wp_block ?_
  refine wp_seq ?_
  refine region_seq ?_
  revert a
  refine sA (v := .bool (op == (3 : Int))) rfl (fun _ henv => rn_bin henv rfl rfl rfl) ?_
  refine aA rfl rfl ?_
  intro a henv
  refine wpList_nil ?_
  refine th_n ?_
  refine if_split henv rfl (fun hc51 => ?_) (fun hc51 => ?_)
  · have hx52 := eq_of_beq hc51
    refine wp_seq ?_
    refine region_seq ?_
    refine sv (v := .string ⟨#[43]⟩) henv rfl (rn_assign henv rfl) ?_
    clear henv a; intro a henv
    refine wpList_nil ?_
    refine th_n ?_
    refine wp_ret ?_
    refine bl_r (th_r ?_)
    refine leave henv (res1 Tryd.results62 (RV.tmp henv rfl)) ?_
    exact ⟨by rw [show [43] = (pTsg op : List UInt8) from by simp [pTsg, hx52]], hst.below⟩
  · have hx53 := ne_of_beq_false hc51
    refine wp_seq ?_
    refine region_seq ?_
    revert a
    refine sA (v := .bool (op == (4 : Int))) rfl (fun _ henv => rn_bin henv rfl rfl rfl) ?_
    refine aA rfl rfl ?_
    intro a henv
    refine wpList_nil ?_
    refine th_n ?_
    refine if_split henv rfl (fun hc54 => ?_) (fun hc54 => ?_)
    · have hx55 := eq_of_beq hc54
      refine wp_seq ?_
      refine region_seq ?_
      refine sv (v := .string ⟨#[45]⟩) henv rfl (rn_assign henv rfl) ?_
      clear henv a; intro a henv
      refine wpList_nil ?_
      refine th_n ?_
      refine wp_ret ?_
      refine bl_r (th_r ?_)
      refine leave henv (res1 Tryd.results62 (RV.tmp henv rfl)) ?_
      exact ⟨by rw [show [45] = (pTsg op : List UInt8) from by simp [pTsg, hx53, hx55]], hst.below⟩
    · have hx56 := ne_of_beq_false hc54
      refine wp_seq ?_
      refine region_seq ?_
      revert a
      refine sA (v := .bool (op == (5 : Int))) rfl (fun _ henv => rn_bin henv rfl rfl rfl) ?_
      refine aA rfl rfl ?_
      intro a henv
      refine wpList_nil ?_
      refine th_n ?_
      refine if_split henv rfl (fun hc57 => ?_) (fun hc57 => ?_)
      · have hx58 := eq_of_beq hc57
        refine wp_seq ?_
        refine region_seq ?_
        refine sv (v := .string ⟨#[42]⟩) henv rfl (rn_assign henv rfl) ?_
        clear henv a; intro a henv
        refine wpList_nil ?_
        refine th_n ?_
        refine wp_ret ?_
        refine bl_r (th_r ?_)
        refine leave henv (res1 Tryd.results62 (RV.tmp henv rfl)) ?_
        exact ⟨by rw [show [42] = (pTsg op : List UInt8) from by simp [pTsg, hx53, hx56, hx58]], hst.below⟩
      · have hx59 := ne_of_beq_false hc57
        refine wp_seq ?_
        refine region_seq ?_
        revert a
        refine sA (v := .bool (op == (6 : Int))) rfl (fun _ henv => rn_bin henv rfl rfl rfl) ?_
        refine aA rfl rfl ?_
        intro a henv
        refine wpList_nil ?_
        refine th_n ?_
        refine if_split henv rfl (fun hc60 => ?_) (fun hc60 => ?_)
        · have hx61 := eq_of_beq hc60
          refine wp_seq ?_
          refine region_seq ?_
          refine sv (v := .string ⟨#[47]⟩) henv rfl (rn_assign henv rfl) ?_
          clear henv a; intro a henv
          refine wpList_nil ?_
          refine th_n ?_
          refine wp_ret ?_
          refine bl_r (th_r ?_)
          refine leave henv (res1 Tryd.results62 (RV.tmp henv rfl)) ?_
          exact ⟨by rw [show [47] = (pTsg op : List UInt8) from by simp [pTsg, hx53, hx56, hx59, hx61]], hst.below⟩
        · have hx62 := ne_of_beq_false hc60
          refine wp_seq ?_
          refine region_seq ?_
          revert a
          refine sA (v := .bool (op == (7 : Int))) rfl (fun _ henv => rn_bin henv rfl rfl rfl) ?_
          refine aA rfl rfl ?_
          intro a henv
          refine wpList_nil ?_
          refine th_n ?_
          refine if_split henv rfl (fun hc63 => ?_) (fun hc63 => ?_)
          · have hx64 := eq_of_beq hc63
            refine wp_seq ?_
            refine region_seq ?_
            refine sv (v := .string ⟨#[60, 60]⟩) henv rfl (rn_assign henv rfl) ?_
            clear henv a; intro a henv
            refine wpList_nil ?_
            refine th_n ?_
            refine wp_ret ?_
            refine bl_r (th_r ?_)
            refine leave henv (res1 Tryd.results62 (RV.tmp henv rfl)) ?_
            exact ⟨by rw [show [60, 60] = (pTsg op : List UInt8) from by simp [pTsg, hx53, hx56, hx59, hx62, hx64]], hst.below⟩
          · have hx65 := ne_of_beq_false hc63
            refine wp_seq ?_
            refine region_seq ?_
            revert a
            refine sA (v := .bool (op == (8 : Int))) rfl (fun _ henv => rn_bin henv rfl rfl rfl) ?_
            refine aA rfl rfl ?_
            intro a henv
            refine wpList_nil ?_
            refine th_n ?_
            refine if_split henv rfl (fun hc66 => ?_) (fun hc66 => ?_)
            · have hx67 := eq_of_beq hc66
              refine wp_seq ?_
              refine region_seq ?_
              refine sv (v := .string ⟨#[62, 62]⟩) henv rfl (rn_assign henv rfl) ?_
              clear henv a; intro a henv
              refine wpList_nil ?_
              refine th_n ?_
              refine wp_ret ?_
              refine bl_r (th_r ?_)
              refine leave henv (res1 Tryd.results62 (RV.tmp henv rfl)) ?_
              exact ⟨by rw [show [62, 62] = (pTsg op : List UInt8) from by simp [pTsg, hx53, hx56, hx59, hx62, hx65, hx67]], hst.below⟩
            · have hx68 := ne_of_beq_false hc66
              refine wp_skip ?_
              refine bl_n (th_n ?_)
              refine wp_seq ?_
              refine region_seq ?_
              refine sv (v := .string ⟨#[]⟩) henv rfl (rn_assign henv rfl) ?_
              clear henv a; intro a henv
              refine wpList_nil ?_
              refine th_n ?_
              refine wp_ret ?_
              refine leave henv (res1 Tryd.results62 (RV.tmp henv rfl)) ?_
              exact ⟨by rw [show [] = (pTsg op : List UInt8) from by simp [pTsg, hx53, hx56, hx59, hx62, hx65, hx68]], hst.below⟩
set_option maxRecDepth 100000 in
set_option maxHeartbeats 4000000 in
theorem h_line {op tr ra rb cn : Int} {w0 : World} (hP : Pw w0) (hb : 0 ≤ tr ∧ tr ≤ 128 ∧ 0 ≤ ra ∧ ra ≤ 128 ∧ 0 ≤ rb ∧ rb ≤ 128 ∧ -512 ≤ cn ∧ cn ≤ 512) :
    Calls Tryd.prog 46 #[.agg #[.int .i64 op, .int .i64 tr, .int .i64 ra, .int .i64 rb, .int .i64 cn]] w0 fun e w' => e = .returned (.string ⟨(pTline (op, tr, ra, rb, cn)).toArray⟩) ∧ Below w0.heap.size w0 w' := by
  obtain ⟨b1, b2, b3, b4, b5, b6, b7, b8⟩ := hb
  refine enter Tryd.func46 rfl Tryd.ntmps46 rfl ?_
  intro a henv hst
  replace hst := hst.argP pfPw hP
  refine wp_seq ?_
  refine region_seq ?_
  refine seq_step rfl (op_box (c := #[.int .i64 op, .int .i64 tr, .int .i64 ra, .int .i64 rb, .int .i64 cn]) henv hst rfl rfl rfl ?_)
  clear henv hst a; intro a w52 g51 henv hst
  refine sv (v := .string ⟨#[]⟩) henv rfl (rn_assign henv rfl) ?_
  clear henv a; intro a henv
  refine wpList_nil ?_
  refine th_n ?_
  refine wp_seq ?_
  refine region_seq ?_
  revert a
  refine sA (v := .pointer (some ⟨g51, 1, none⟩)) rfl (fun _ henv => rn_fieldAddr henv fd_anvil_api_Instr_1 (ty_int.size) (by decide) rfl) ?_
  refine sA (v := .int .i64 tr) rfl (fun _ henv => rn_load1 henv ty_int rfl (hst.oat (k := 0) rfl) rfl) ?_
  intro a henv
  refine seq_step rfl (op_call henv rfl Tryd.call47 rfl (h_reg (n := tr) (hst.pat (k := 0) rfl) (by omega) (by omega)) ?_)
  rintro e w54 ⟨rfl, hb⟩
  refine ⟨_, rfl, ?_⟩
  clear henv a; intro a henv
  replace hst := hst.call hb
  have hl53 := preg_len (n := tr) (by omega) (by omega)
  clear hb
  revert a
  refine sA (v := .string ⟨((pTreg tr) ++ ([32, 61, 32])).toArray⟩) rfl (fun _ henv => rn_catS (s := (pTreg tr)) (t := [32, 61, 32]) henv rfl rfl (by (try simp only [List.length_append, List.length_cons, List.length_nil]); omega)) ?_
  refine aA rfl rfl ?_
  intro a henv
  refine wpList_nil ?_
  refine th_n ?_
  refine wp_seq ?_
  refine wp_seq ?_
  refine region_seq ?_
  revert a
  refine sA (v := .pointer (some ⟨g51, 0, none⟩)) rfl (fun _ henv => rn_fieldAddr henv fd_anvil_api_Instr_0 (ty_int.size) (by decide) rfl) ?_
  refine sA (v := .int .i64 op) rfl (fun _ henv => rn_load1 henv ty_int rfl (hst.oat (k := 0) rfl) rfl) ?_
  intro a henv
  refine wpList_nil ?_
  refine th_n ?_
  refine wp_block ?_
  refine wp_seq ?_
  refine region_seq ?_
  revert a
  refine sA (v := .bool (op == (1 : Int))) rfl (fun _ henv => rn_bin henv rfl rfl rfl) ?_
  refine aA rfl rfl ?_
  intro a henv
  refine wpList_nil ?_
  refine th_n ?_
  refine if_split henv rfl (fun hc55 => ?_) (fun hc55 => ?_)
  · have hx56 := eq_of_beq hc55
    refine wp_seq ?_
    refine region_seq ?_
    revert a
    refine mA rfl rfl ?_
    refine sA (v := .pointer (some ⟨g51, 2, none⟩)) rfl (fun _ henv => rn_fieldAddr henv fd_anvil_api_Instr_2 (ty_int.size) (by decide) rfl) ?_
    refine sA (v := .int .i64 ra) rfl (fun _ henv => rn_load1 henv ty_int rfl (hst.oat (k := 0) rfl) rfl) ?_
    intro a henv
    refine seq_step rfl (op_call henv rfl Tryd.call47 rfl (h_reg (n := ra) (hst.pat (k := 0) rfl) (by omega) (by omega)) ?_)
    rintro e w58 ⟨rfl, hb⟩
    refine ⟨_, rfl, ?_⟩
    clear henv a; intro a henv
    replace hst := hst.call hb
    have hl57 := preg_len (n := ra) (by omega) (by omega)
    clear hb
    revert a
    refine sA (v := .string ⟨(((pTreg tr) ++ ([32, 61, 32])) ++ (pTreg ra)).toArray⟩) rfl (fun _ henv => rn_catS (s := ((pTreg tr) ++ ([32, 61, 32]))) (t := (pTreg ra)) henv rfl rfl (by (try simp only [List.length_append, List.length_cons, List.length_nil]); omega)) ?_
    refine aA rfl rfl ?_
    intro a henv
    refine wpList_nil ?_
    refine th_n ?_
    refine wp_ret ?_
    refine bl_r (th_r ?_)
    refine leave henv (res1 Tryd.results46 (RV.tmp henv rfl)) ?_
    exact ⟨by rw [show (((pTreg tr) ++ ([32, 61, 32])) ++ (pTreg ra)) = (pTline (op, tr, ra, rb, cn) : List UInt8) from by simp [pTline, hx56]], hst.below⟩
  · have hx59 := ne_of_beq_false hc55
    refine wp_seq ?_
    refine region_seq ?_
    revert a
    refine sA (v := .bool (op == (2 : Int))) rfl (fun _ henv => rn_bin henv rfl rfl rfl) ?_
    refine aA rfl rfl ?_
    intro a henv
    refine wpList_nil ?_
    refine th_n ?_
    refine if_split henv rfl (fun hc60 => ?_) (fun hc60 => ?_)
    · have hx61 := eq_of_beq hc60
      refine wp_seq ?_
      refine region_seq ?_
      revert a
      refine mA rfl rfl ?_
      refine sA (v := .string ⟨(((pTreg tr) ++ ([32, 61, 32])) ++ ([45])).toArray⟩) rfl (fun _ henv => rn_catS (s := ((pTreg tr) ++ ([32, 61, 32]))) (t := [45]) henv rfl rfl (by (try simp only [List.length_append, List.length_cons, List.length_nil]); omega)) ?_
      refine sA (v := .pointer (some ⟨g51, 2, none⟩)) rfl (fun _ henv => rn_fieldAddr henv fd_anvil_api_Instr_2 (ty_int.size) (by decide) rfl) ?_
      refine sA (v := .int .i64 ra) rfl (fun _ henv => rn_load1 henv ty_int rfl (hst.oat (k := 0) rfl) rfl) ?_
      intro a henv
      refine seq_step rfl (op_call henv rfl Tryd.call47 rfl (h_reg (n := ra) (hst.pat (k := 0) rfl) (by omega) (by omega)) ?_)
      rintro e w63 ⟨rfl, hb⟩
      refine ⟨_, rfl, ?_⟩
      clear henv a; intro a henv
      replace hst := hst.call hb
      have hl62 := preg_len (n := ra) (by omega) (by omega)
      clear hb
      revert a
      refine sA (v := .string ⟨((((pTreg tr) ++ ([32, 61, 32])) ++ ([45])) ++ (pTreg ra)).toArray⟩) rfl (fun _ henv => rn_catS (s := (((pTreg tr) ++ ([32, 61, 32])) ++ ([45]))) (t := (pTreg ra)) henv rfl rfl (by (try simp only [List.length_append, List.length_cons, List.length_nil]); omega)) ?_
      refine aA rfl rfl ?_
      intro a henv
      refine wpList_nil ?_
      refine th_n ?_
      refine wp_ret ?_
      refine bl_r (th_r ?_)
      refine leave henv (res1 Tryd.results46 (RV.tmp henv rfl)) ?_
      exact ⟨by rw [show ((((pTreg tr) ++ ([32, 61, 32])) ++ ([45])) ++ (pTreg ra)) = (pTline (op, tr, ra, rb, cn) : List UInt8) from by simp [pTline, hx59, hx61]], hst.below⟩
    · have hx64 := ne_of_beq_false hc60
      refine wp_seq ?_
      refine wp_seq ?_
      refine region_seq ?_
      revert a
      refine sA (v := .bool (op == (3 : Int))) rfl (fun _ henv => rn_bin henv rfl rfl rfl) ?_
      refine aA rfl rfl ?_
      intro a henv
      refine wpList_nil ?_
      refine th_n ?_
      refine if_split henv rfl (fun hc65 => ?_) (fun hc65 => ?_)
      · have hx66 := eq_of_beq hc65
        refine wp_skip ?_
        refine th_n ?_
        refine if_split henv rfl (fun hc67 => ?_) (fun hc67 => ?_)
        · have hx68 := eq_of_beq hc67
          refine wp_seq ?_
          refine region_any (n := 16) (Sk [bk g51 #[.int .i64 op, .int .i64 tr, .int .i64 ra, .int .i64 rb, .int .i64 cn] 37] [pfPw] [] []) mixed rfl henv hst ?_
          clear henv hst; intro w69 henv hst
          refine tM (i := 0) [4, 5, 9, 10, 14, 15] rfl (by kernel_rfl) (fun _ _ _ h => h) henv rfl rfl ?_
          clear henv a; intro a henv
          refine tA (i := 1) [2, 3, 4, 5, 8, 9, 10, 13, 14, 15] (v := .pointer (some ⟨g51, 2, none⟩)) rfl (by kernel_rfl) (fun _ _ _ h => h) henv rfl (fun _ => rn_fieldAddr henv fd_anvil_api_Instr_2 (ty_int.size) (by decide) rfl) ?_
          clear henv a; intro a henv
          refine sAny_take (i := 2) [3, 4, 5, 8, 9, 10, 13, 14, 15] (fun w' => w'.heap[g51]? = some (.cells #[.int .i64 op, .int .i64 tr, .int .i64 ra, .int .i64 rb, .int .i64 cn] 37 (0, 0))) (v := .int .i64 ra) rfl (by kernel_rfl) (fun _ _ _ h => h) (fun _ _ _ hS => hS.1.oat (k := 0) rfl) henv rfl (hst.oat (k := 0) rfl) (fun w' hg => rn_load1 henv ty_int rfl hg rfl) ?_
          clear henv a; intro a henv
          refine tA (i := 6) [7, 8, 9, 10, 13, 14, 15] (v := .pointer (some ⟨g51, 0, none⟩)) rfl (by kernel_rfl) (fun _ _ _ h => h) henv rfl (fun _ => rn_fieldAddr henv fd_anvil_api_Instr_0 (ty_int.size) (by decide) rfl) ?_
          clear henv a; intro a henv
          refine sAny_take (i := 7) [8, 9, 10, 13, 14, 15] (fun w' => w'.heap[g51]? = some (.cells #[.int .i64 op, .int .i64 tr, .int .i64 ra, .int .i64 rb, .int .i64 cn] 37 (0, 0))) (v := .int .i64 op) rfl (by kernel_rfl) (fun _ _ _ h => h) (fun _ _ _ hS => hS.1.oat (k := 0) rfl) henv rfl (hst.oat (k := 0) rfl) (fun w' hg => rn_load1 henv ty_int rfl hg rfl) ?_
          clear henv a; intro a henv
          refine tA (i := 11) (rg 12 4) (v := .pointer (some ⟨g51, 3, none⟩)) rfl (by kernel_rfl) (fun _ _ _ h => h) henv rfl (fun _ => rn_fieldAddr henv fd_anvil_api_Instr_3 (ty_int.size) (by decide) rfl) ?_
          clear henv a; intro a henv
          refine sAny_take (i := 12) [13, 14, 15] (fun w' => w'.heap[g51]? = some (.cells #[.int .i64 op, .int .i64 tr, .int .i64 ra, .int .i64 rb, .int .i64 cn] 37 (0, 0))) (v := .int .i64 rb) rfl (by kernel_rfl) (fun _ _ _ h => h) (fun _ _ _ hS => hS.1.oat (k := 0) rfl) henv rfl (hst.oat (k := 0) rfl) (fun w' hg => rn_load1 henv ty_int rfl hg rfl) ?_
          clear henv a; intro a henv
          refine sAny_one (i := 3) (by kernel_rfl) rfl rfl (op_call henv rfl Tryd.call47 rfl (h_reg (n := ra) (hst.pat (k := 0) rfl) (by omega) (by omega)) ?_)
          rintro e w71 ⟨rfl, hb⟩
          refine ⟨_, rfl, ?_⟩
          clear henv a; intro a henv
          replace hst := hst.call hb
          have hl70 := preg_len (n := ra) (by omega) (by omega)
          clear hb
          refine ⟨.inr ⟨hst.kn.pick [0] [0], .inr (hst.kn.pick [] [])⟩, ?_⟩
          refine tA (i := 4) [5, 9, 10, 14, 15] (v := .string ⟨(((pTreg tr) ++ ([32, 61, 32])) ++ (pTreg ra)).toArray⟩) rfl (by kernel_rfl) (fun _ _ _ h => h) henv rfl (fun _ => rn_catS (s := ((pTreg tr) ++ ([32, 61, 32]))) (t := (pTreg ra)) henv rfl rfl (by (try simp only [List.length_append, List.length_cons, List.length_nil]); omega)) ?_
          clear henv a; intro a henv
          refine tA (i := 5) [9, 10, 14, 15] (v := .string ⟨((((pTreg tr) ++ ([32, 61, 32])) ++ (pTreg ra)) ++ ([32])).toArray⟩) rfl (by kernel_rfl) (fun _ _ _ h => h) henv rfl (fun _ => rn_catS (s := (((pTreg tr) ++ ([32, 61, 32])) ++ (pTreg ra))) (t := [32]) henv rfl rfl (by (try simp only [List.length_append, List.length_cons, List.length_nil]); omega)) ?_
          clear henv a; intro a henv
          refine sAny_one (i := 8) (by kernel_rfl) rfl rfl (op_call henv rfl Tryd.call62 rfl (h_sign (op := op)) ?_)
          rintro e w73 ⟨rfl, hb⟩
          refine ⟨_, rfl, ?_⟩
          clear henv a; intro a henv
          replace hst := hst.call hb
          have hl72 := psg_len op
          clear hb
          refine ⟨.inr ⟨hst.kn.pick [0] [0], .inr (hst.kn.pick [] [])⟩, ?_⟩
          refine tA (i := 9) [10, 14, 15] (v := .string ⟨(((((pTreg tr) ++ ([32, 61, 32])) ++ (pTreg ra)) ++ ([32])) ++ (pTsg op)).toArray⟩) rfl (by kernel_rfl) (fun _ _ _ h => h) henv rfl (fun _ => rn_catS (s := ((((pTreg tr) ++ ([32, 61, 32])) ++ (pTreg ra)) ++ ([32]))) (t := (pTsg op)) henv rfl rfl (by (try simp only [List.length_append, List.length_cons, List.length_nil]); omega)) ?_
          clear henv a; intro a henv
          refine tA (i := 10) [14, 15] (v := .string ⟨((((((pTreg tr) ++ ([32, 61, 32])) ++ (pTreg ra)) ++ ([32])) ++ (pTsg op)) ++ ([32])).toArray⟩) rfl (by kernel_rfl) (fun _ _ _ h => h) henv rfl (fun _ => rn_catS (s := (((((pTreg tr) ++ ([32, 61, 32])) ++ (pTreg ra)) ++ ([32])) ++ (pTsg op))) (t := [32]) henv rfl rfl (by (try simp only [List.length_append, List.length_cons, List.length_nil]); omega)) ?_
          clear henv a; intro a henv
          refine sAny_one (i := 13) (by kernel_rfl) rfl rfl (op_call henv rfl Tryd.call47 rfl (h_reg (n := rb) (hst.pat (k := 0) rfl) (by omega) (by omega)) ?_)
          rintro e w75 ⟨rfl, hb⟩
          refine ⟨_, rfl, ?_⟩
          clear henv a; intro a henv
          replace hst := hst.call hb
          have hl74 := preg_len (n := rb) (by omega) (by omega)
          clear hb
          refine ⟨.inr ⟨hst.kn.pick [0] [0], .inr (hst.kn.pick [] [])⟩, ?_⟩
          refine tA (i := 14) [15] (v := .string ⟨(((((((pTreg tr) ++ ([32, 61, 32])) ++ (pTreg ra)) ++ ([32])) ++ (pTsg op)) ++ ([32])) ++ (pTreg rb)).toArray⟩) rfl (by kernel_rfl) (fun _ _ _ h => h) henv rfl (fun _ => rn_catS (s := ((((((pTreg tr) ++ ([32, 61, 32])) ++ (pTreg ra)) ++ ([32])) ++ (pTsg op)) ++ ([32]))) (t := (pTreg rb)) henv rfl rfl (by (try simp only [List.length_append, List.length_cons, List.length_nil]); omega)) ?_
          clear henv a; intro a henv
          refine tA (i := 15) [] (v := .string ⟨(((((((pTreg tr) ++ ([32, 61, 32])) ++ (pTreg ra)) ++ ([32])) ++ (pTsg op)) ++ ([32])) ++ (pTreg rb)).toArray⟩) rfl (by kernel_rfl) (fun _ _ _ h => h) henv rfl (fun _ => rn_assign henv rfl) ?_
          clear henv a; intro a henv
          refine sAny_done (by kernel_rfl) ?_ _
          refine th_n ?_
          refine wp_ret ?_
          refine bl_r (th_r ?_)
          refine leave henv (res1 Tryd.results46 (RV.tmp henv rfl)) ?_
          exact ⟨by rw [show (((((((pTreg tr) ++ ([32, 61, 32])) ++ (pTreg ra)) ++ ([32])) ++ (pTsg op)) ++ ([32])) ++ (pTreg rb)) = (pTline (op, tr, ra, rb, cn) : List UInt8) from by simp [pTline, hx59, hx64, hx66, hx68]], hst.below⟩
        · have hx76 := ne_of_beq_false hc67
          omega
      · have hx77 := ne_of_beq_false hc65
        refine region_seq ?_
        revert a
        refine sA (v := .bool (op == (4 : Int))) rfl (fun _ henv => rn_bin henv rfl rfl rfl) ?_
        refine aA rfl rfl ?_
        intro a henv
        refine wpList_nil ?_
        refine th_n ?_
        refine if_split henv rfl (fun hc78 => ?_) (fun hc78 => ?_)
        · have hx79 := eq_of_beq hc78
          refine wp_seq ?_
          refine region_any (n := 16) (Sk [bk g51 #[.int .i64 op, .int .i64 tr, .int .i64 ra, .int .i64 rb, .int .i64 cn] 37] [pfPw] [] []) mixed rfl henv hst ?_
          clear henv hst; intro w80 henv hst
          refine tM (i := 0) [4, 5, 9, 10, 14, 15] rfl (by kernel_rfl) (fun _ _ _ h => h) henv rfl rfl ?_
          clear henv a; intro a henv
          refine tA (i := 1) [2, 3, 4, 5, 8, 9, 10, 13, 14, 15] (v := .pointer (some ⟨g51, 2, none⟩)) rfl (by kernel_rfl) (fun _ _ _ h => h) henv rfl (fun _ => rn_fieldAddr henv fd_anvil_api_Instr_2 (ty_int.size) (by decide) rfl) ?_
          clear henv a; intro a henv
          refine sAny_take (i := 2) [3, 4, 5, 8, 9, 10, 13, 14, 15] (fun w' => w'.heap[g51]? = some (.cells #[.int .i64 op, .int .i64 tr, .int .i64 ra, .int .i64 rb, .int .i64 cn] 37 (0, 0))) (v := .int .i64 ra) rfl (by kernel_rfl) (fun _ _ _ h => h) (fun _ _ _ hS => hS.1.oat (k := 0) rfl) henv rfl (hst.oat (k := 0) rfl) (fun w' hg => rn_load1 henv ty_int rfl hg rfl) ?_
          clear henv a; intro a henv
          refine tA (i := 6) [7, 8, 9, 10, 13, 14, 15] (v := .pointer (some ⟨g51, 0, none⟩)) rfl (by kernel_rfl) (fun _ _ _ h => h) henv rfl (fun _ => rn_fieldAddr henv fd_anvil_api_Instr_0 (ty_int.size) (by decide) rfl) ?_
          clear henv a; intro a henv
          refine sAny_take (i := 7) [8, 9, 10, 13, 14, 15] (fun w' => w'.heap[g51]? = some (.cells #[.int .i64 op, .int .i64 tr, .int .i64 ra, .int .i64 rb, .int .i64 cn] 37 (0, 0))) (v := .int .i64 op) rfl (by kernel_rfl) (fun _ _ _ h => h) (fun _ _ _ hS => hS.1.oat (k := 0) rfl) henv rfl (hst.oat (k := 0) rfl) (fun w' hg => rn_load1 henv ty_int rfl hg rfl) ?_
          clear henv a; intro a henv
          refine tA (i := 11) (rg 12 4) (v := .pointer (some ⟨g51, 3, none⟩)) rfl (by kernel_rfl) (fun _ _ _ h => h) henv rfl (fun _ => rn_fieldAddr henv fd_anvil_api_Instr_3 (ty_int.size) (by decide) rfl) ?_
          clear henv a; intro a henv
          refine sAny_take (i := 12) [13, 14, 15] (fun w' => w'.heap[g51]? = some (.cells #[.int .i64 op, .int .i64 tr, .int .i64 ra, .int .i64 rb, .int .i64 cn] 37 (0, 0))) (v := .int .i64 rb) rfl (by kernel_rfl) (fun _ _ _ h => h) (fun _ _ _ hS => hS.1.oat (k := 0) rfl) henv rfl (hst.oat (k := 0) rfl) (fun w' hg => rn_load1 henv ty_int rfl hg rfl) ?_
          clear henv a; intro a henv
          refine sAny_one (i := 3) (by kernel_rfl) rfl rfl (op_call henv rfl Tryd.call47 rfl (h_reg (n := ra) (hst.pat (k := 0) rfl) (by omega) (by omega)) ?_)
          rintro e w82 ⟨rfl, hb⟩
          refine ⟨_, rfl, ?_⟩
          clear henv a; intro a henv
          replace hst := hst.call hb
          have hl81 := preg_len (n := ra) (by omega) (by omega)
          clear hb
          refine ⟨.inr ⟨hst.kn.pick [0] [0], .inr (hst.kn.pick [] [])⟩, ?_⟩
          refine tA (i := 4) [5, 9, 10, 14, 15] (v := .string ⟨(((pTreg tr) ++ ([32, 61, 32])) ++ (pTreg ra)).toArray⟩) rfl (by kernel_rfl) (fun _ _ _ h => h) henv rfl (fun _ => rn_catS (s := ((pTreg tr) ++ ([32, 61, 32]))) (t := (pTreg ra)) henv rfl rfl (by (try simp only [List.length_append, List.length_cons, List.length_nil]); omega)) ?_
          clear henv a; intro a henv
          refine tA (i := 5) [9, 10, 14, 15] (v := .string ⟨((((pTreg tr) ++ ([32, 61, 32])) ++ (pTreg ra)) ++ ([32])).toArray⟩) rfl (by kernel_rfl) (fun _ _ _ h => h) henv rfl (fun _ => rn_catS (s := (((pTreg tr) ++ ([32, 61, 32])) ++ (pTreg ra))) (t := [32]) henv rfl rfl (by (try simp only [List.length_append, List.length_cons, List.length_nil]); omega)) ?_
          clear henv a; intro a henv
          refine sAny_one (i := 8) (by kernel_rfl) rfl rfl (op_call henv rfl Tryd.call62 rfl (h_sign (op := op)) ?_)
          rintro e w84 ⟨rfl, hb⟩
          refine ⟨_, rfl, ?_⟩
          clear henv a; intro a henv
          replace hst := hst.call hb
          have hl83 := psg_len op
          clear hb
          refine ⟨.inr ⟨hst.kn.pick [0] [0], .inr (hst.kn.pick [] [])⟩, ?_⟩
          refine tA (i := 9) [10, 14, 15] (v := .string ⟨(((((pTreg tr) ++ ([32, 61, 32])) ++ (pTreg ra)) ++ ([32])) ++ (pTsg op)).toArray⟩) rfl (by kernel_rfl) (fun _ _ _ h => h) henv rfl (fun _ => rn_catS (s := ((((pTreg tr) ++ ([32, 61, 32])) ++ (pTreg ra)) ++ ([32]))) (t := (pTsg op)) henv rfl rfl (by (try simp only [List.length_append, List.length_cons, List.length_nil]); omega)) ?_
          clear henv a; intro a henv
          refine tA (i := 10) [14, 15] (v := .string ⟨((((((pTreg tr) ++ ([32, 61, 32])) ++ (pTreg ra)) ++ ([32])) ++ (pTsg op)) ++ ([32])).toArray⟩) rfl (by kernel_rfl) (fun _ _ _ h => h) henv rfl (fun _ => rn_catS (s := (((((pTreg tr) ++ ([32, 61, 32])) ++ (pTreg ra)) ++ ([32])) ++ (pTsg op))) (t := [32]) henv rfl rfl (by (try simp only [List.length_append, List.length_cons, List.length_nil]); omega)) ?_
          clear henv a; intro a henv
          refine sAny_one (i := 13) (by kernel_rfl) rfl rfl (op_call henv rfl Tryd.call47 rfl (h_reg (n := rb) (hst.pat (k := 0) rfl) (by omega) (by omega)) ?_)
          rintro e w86 ⟨rfl, hb⟩
          refine ⟨_, rfl, ?_⟩
          clear henv a; intro a henv
          replace hst := hst.call hb
          have hl85 := preg_len (n := rb) (by omega) (by omega)
          clear hb
          refine ⟨.inr ⟨hst.kn.pick [0] [0], .inr (hst.kn.pick [] [])⟩, ?_⟩
          refine tA (i := 14) [15] (v := .string ⟨(((((((pTreg tr) ++ ([32, 61, 32])) ++ (pTreg ra)) ++ ([32])) ++ (pTsg op)) ++ ([32])) ++ (pTreg rb)).toArray⟩) rfl (by kernel_rfl) (fun _ _ _ h => h) henv rfl (fun _ => rn_catS (s := ((((((pTreg tr) ++ ([32, 61, 32])) ++ (pTreg ra)) ++ ([32])) ++ (pTsg op)) ++ ([32]))) (t := (pTreg rb)) henv rfl rfl (by (try simp only [List.length_append, List.length_cons, List.length_nil]); omega)) ?_
          clear henv a; intro a henv
          refine tA (i := 15) [] (v := .string ⟨(((((((pTreg tr) ++ ([32, 61, 32])) ++ (pTreg ra)) ++ ([32])) ++ (pTsg op)) ++ ([32])) ++ (pTreg rb)).toArray⟩) rfl (by kernel_rfl) (fun _ _ _ h => h) henv rfl (fun _ => rn_assign henv rfl) ?_
          clear henv a; intro a henv
          refine sAny_done (by kernel_rfl) ?_ _
          refine th_n ?_
          refine wp_ret ?_
          refine bl_r (th_r ?_)
          refine leave henv (res1 Tryd.results46 (RV.tmp henv rfl)) ?_
          exact ⟨by rw [show (((((((pTreg tr) ++ ([32, 61, 32])) ++ (pTreg ra)) ++ ([32])) ++ (pTsg op)) ++ ([32])) ++ (pTreg rb)) = (pTline (op, tr, ra, rb, cn) : List UInt8) from by simp [pTline, hx59, hx64, hx77, hx79]], hst.below⟩
        · have hx87 := ne_of_beq_false hc78
          refine wp_skip ?_
          refine bl_n (th_n ?_)
          refine wp_seq ?_
          refine region_any (n := 16) (Sk [bk g51 #[.int .i64 op, .int .i64 tr, .int .i64 ra, .int .i64 rb, .int .i64 cn] 37] [pfPw] [] []) mixed rfl henv hst ?_
          clear henv hst; intro w88 henv hst
          refine tM (i := 0) [4, 5, 9, 10, 14, 15] rfl (by kernel_rfl) (fun _ _ _ h => h) henv rfl rfl ?_
          clear henv a; intro a henv
          refine tA (i := 1) [2, 3, 4, 5, 8, 9, 10, 13, 14, 15] (v := .pointer (some ⟨g51, 2, none⟩)) rfl (by kernel_rfl) (fun _ _ _ h => h) henv rfl (fun _ => rn_fieldAddr henv fd_anvil_api_Instr_2 (ty_int.size) (by decide) rfl) ?_
          clear henv a; intro a henv
          refine sAny_take (i := 2) [3, 4, 5, 8, 9, 10, 13, 14, 15] (fun w' => w'.heap[g51]? = some (.cells #[.int .i64 op, .int .i64 tr, .int .i64 ra, .int .i64 rb, .int .i64 cn] 37 (0, 0))) (v := .int .i64 ra) rfl (by kernel_rfl) (fun _ _ _ h => h) (fun _ _ _ hS => hS.1.oat (k := 0) rfl) henv rfl (hst.oat (k := 0) rfl) (fun w' hg => rn_load1 henv ty_int rfl hg rfl) ?_
          clear henv a; intro a henv
          refine tA (i := 6) [7, 8, 9, 10, 13, 14, 15] (v := .pointer (some ⟨g51, 0, none⟩)) rfl (by kernel_rfl) (fun _ _ _ h => h) henv rfl (fun _ => rn_fieldAddr henv fd_anvil_api_Instr_0 (ty_int.size) (by decide) rfl) ?_
          clear henv a; intro a henv
          refine sAny_take (i := 7) [8, 9, 10, 13, 14, 15] (fun w' => w'.heap[g51]? = some (.cells #[.int .i64 op, .int .i64 tr, .int .i64 ra, .int .i64 rb, .int .i64 cn] 37 (0, 0))) (v := .int .i64 op) rfl (by kernel_rfl) (fun _ _ _ h => h) (fun _ _ _ hS => hS.1.oat (k := 0) rfl) henv rfl (hst.oat (k := 0) rfl) (fun w' hg => rn_load1 henv ty_int rfl hg rfl) ?_
          clear henv a; intro a henv
          refine tA (i := 11) (rg 12 4) (v := .pointer (some ⟨g51, 4, none⟩)) rfl (by kernel_rfl) (fun _ _ _ h => h) henv rfl (fun _ => rn_fieldAddr henv fd_anvil_api_Instr_4 (ty_int.size) (by decide) rfl) ?_
          clear henv a; intro a henv
          refine sAny_take (i := 12) [13, 14, 15] (fun w' => w'.heap[g51]? = some (.cells #[.int .i64 op, .int .i64 tr, .int .i64 ra, .int .i64 rb, .int .i64 cn] 37 (0, 0))) (v := .int .i64 cn) rfl (by kernel_rfl) (fun _ _ _ h => h) (fun _ _ _ hS => hS.1.oat (k := 0) rfl) henv rfl (hst.oat (k := 0) rfl) (fun w' hg => rn_load1 henv ty_int rfl hg rfl) ?_
          clear henv a; intro a henv
          refine sAny_one (i := 3) (by kernel_rfl) rfl rfl (op_call henv rfl Tryd.call47 rfl (h_reg (n := ra) (hst.pat (k := 0) rfl) (by omega) (by omega)) ?_)
          rintro e w90 ⟨rfl, hb⟩
          refine ⟨_, rfl, ?_⟩
          clear henv a; intro a henv
          replace hst := hst.call hb
          have hl89 := preg_len (n := ra) (by omega) (by omega)
          clear hb
          refine ⟨.inr ⟨hst.kn.pick [0] [0], .inr (hst.kn.pick [] [])⟩, ?_⟩
          refine tA (i := 4) [5, 9, 10, 14, 15] (v := .string ⟨(((pTreg tr) ++ ([32, 61, 32])) ++ (pTreg ra)).toArray⟩) rfl (by kernel_rfl) (fun _ _ _ h => h) henv rfl (fun _ => rn_catS (s := ((pTreg tr) ++ ([32, 61, 32]))) (t := (pTreg ra)) henv rfl rfl (by (try simp only [List.length_append, List.length_cons, List.length_nil]); omega)) ?_
          clear henv a; intro a henv
          refine tA (i := 5) [9, 10, 14, 15] (v := .string ⟨((((pTreg tr) ++ ([32, 61, 32])) ++ (pTreg ra)) ++ ([32])).toArray⟩) rfl (by kernel_rfl) (fun _ _ _ h => h) henv rfl (fun _ => rn_catS (s := (((pTreg tr) ++ ([32, 61, 32])) ++ (pTreg ra))) (t := [32]) henv rfl rfl (by (try simp only [List.length_append, List.length_cons, List.length_nil]); omega)) ?_
          clear henv a; intro a henv
          refine sAny_one (i := 8) (by kernel_rfl) rfl rfl (op_call henv rfl Tryd.call62 rfl (h_sign (op := op)) ?_)
          rintro e w92 ⟨rfl, hb⟩
          refine ⟨_, rfl, ?_⟩
          clear henv a; intro a henv
          replace hst := hst.call hb
          have hl91 := psg_len op
          clear hb
          refine ⟨.inr ⟨hst.kn.pick [0] [0], .inr (hst.kn.pick [] [])⟩, ?_⟩
          refine tA (i := 9) [10, 14, 15] (v := .string ⟨(((((pTreg tr) ++ ([32, 61, 32])) ++ (pTreg ra)) ++ ([32])) ++ (pTsg op)).toArray⟩) rfl (by kernel_rfl) (fun _ _ _ h => h) henv rfl (fun _ => rn_catS (s := ((((pTreg tr) ++ ([32, 61, 32])) ++ (pTreg ra)) ++ ([32]))) (t := (pTsg op)) henv rfl rfl (by (try simp only [List.length_append, List.length_cons, List.length_nil]); omega)) ?_
          clear henv a; intro a henv
          refine tA (i := 10) [14, 15] (v := .string ⟨((((((pTreg tr) ++ ([32, 61, 32])) ++ (pTreg ra)) ++ ([32])) ++ (pTsg op)) ++ ([32])).toArray⟩) rfl (by kernel_rfl) (fun _ _ _ h => h) henv rfl (fun _ => rn_catS (s := (((((pTreg tr) ++ ([32, 61, 32])) ++ (pTreg ra)) ++ ([32])) ++ (pTsg op))) (t := [32]) henv rfl rfl (by (try simp only [List.length_append, List.length_cons, List.length_nil]); omega)) ?_
          clear henv a; intro a henv
          refine sAny_one (i := 13) (by kernel_rfl) rfl rfl (op_call henv rfl Tryd.call45 rfl (h_itoa (n := cn) (hst.pat (k := 0) rfl) (by omega) (by omega)) ?_)
          rintro e w94 ⟨rfl, hb⟩
          refine ⟨_, rfl, ?_⟩
          clear henv a; intro a henv
          replace hst := hst.call hb
          have hl93 := tz_len (n := cn) (by omega) (by omega)
          clear hb
          refine ⟨.inr ⟨hst.kn.pick [0] [0], .inr (hst.kn.pick [] [])⟩, ?_⟩
          refine tA (i := 14) [15] (v := .string ⟨(((((((pTreg tr) ++ ([32, 61, 32])) ++ (pTreg ra)) ++ ([32])) ++ (pTsg op)) ++ ([32])) ++ (textZ cn)).toArray⟩) rfl (by kernel_rfl) (fun _ _ _ h => h) henv rfl (fun _ => rn_catS (s := ((((((pTreg tr) ++ ([32, 61, 32])) ++ (pTreg ra)) ++ ([32])) ++ (pTsg op)) ++ ([32]))) (t := (textZ cn)) henv rfl rfl (by (try simp only [List.length_append, List.length_cons, List.length_nil]); omega)) ?_
          clear henv a; intro a henv
          refine tA (i := 15) [] (v := .string ⟨(((((((pTreg tr) ++ ([32, 61, 32])) ++ (pTreg ra)) ++ ([32])) ++ (pTsg op)) ++ ([32])) ++ (textZ cn)).toArray⟩) rfl (by kernel_rfl) (fun _ _ _ h => h) henv rfl (fun _ => rn_assign henv rfl) ?_
          clear henv a; intro a henv
          refine sAny_done (by kernel_rfl) ?_ _
          refine th_n ?_
          refine wp_ret ?_
          refine leave henv (res1 Tryd.results46 (RV.tmp henv rfl)) ?_
          exact ⟨by rw [show (((((((pTreg tr) ++ ([32, 61, 32])) ++ (pTreg ra)) ++ ([32])) ++ (pTsg op)) ++ ([32])) ++ (textZ cn)) = (pTline (op, tr, ra, rb, cn) : List UInt8) from by simp [pTline, hx59, hx64, hx77, hx87]], hst.below⟩
set_option maxRecDepth 100000 in
set_option maxHeartbeats 2000000 in
theorem r_figures {n : Int} {w0 : World} (h1 : -999 ≤ n) (h2 : n ≤ 999) :
    Calls Tryd.prog 49 #[.int .i64 n] w0 fun e w' => e = .returned (.string ⟨(textZ n).toArray⟩) ∧ Below w0.heap.size w0 w' := by
  have hz1 : zl n ≤ 1 := nl_le_of_lt (by rw [Nat.pow_one]; omega)
  have hd1 := dl_zl n
  refine enter Tryd.func49 rfl Tryd.ntmps49 rfl ?_
  intro a henv hst
  refine wp_seq ?_
  refine region_seq ?_
  refine sv (v := .string ⟨#[]⟩) henv rfl (rn_assign henv rfl) ?_
  clear henv a; intro a henv
  refine wpList_nil ?_
  refine th_n ?_
  refine wp_seq ?_
  refine region_seq ?_
  refine sv (v := .int .i64 n) henv rfl (rn_move henv rfl) ?_
  clear henv a; intro a henv
  refine seq_step rfl (op_call henv rfl Tryd.call64 rfl (of_r (n := n) (by omega) (by omega)) ?_)
  rintro e w54 ⟨_, rfl, ⟨A51, c52, rfl, hz53⟩, hb⟩
  refine ⟨_, rfl, ?_⟩
  clear henv a; intro a henv
  replace hst := (hst.call hb).addR hz53 trivial
  clear hz53
  clear hb
  refine seq_step rfl (op_call henv rfl Tryd.call63 rfl (text_r (z := n) (show RIn _ A51 c52 n from hst.pat (k := 0) rfl) (by omega)) ?_)
  rintro e w55 ⟨rfl, hb⟩
  refine ⟨_, rfl, ?_⟩
  clear henv a; intro a henv
  replace hst := hst.call hb
  clear hb
  refine sv (v := .string ⟨(textZ n).toArray⟩) henv rfl (rn_assign henv rfl) ?_
  clear henv a; intro a henv
  refine wpList_nil ?_
  refine th_n ?_
  refine wp_ret ?_
  refine leave henv (res1 Tryd.results49 (RV.tmp henv rfl)) ?_
  exact ⟨rfl, hst.below⟩
set_option maxRecDepth 100000 in
set_option maxHeartbeats 2000000 in
theorem r_reg {n : Int} {w0 : World} (h1 : -999 ≤ n) (h2 : n ≤ 999) :
    Calls Tryd.prog 51 #[.int .i64 n] w0 fun e w' => e = .returned (.string ⟨(pTreg n).toArray⟩) ∧ Below w0.heap.size w0 w' := by
  refine enter Tryd.func51 rfl Tryd.ntmps51 rfl ?_
  intro a henv hst
  refine wp_seq ?_
  refine region_seq ?_
  refine sv (v := .string ⟨#[]⟩) henv rfl (rn_assign henv rfl) ?_
  clear henv a; intro a henv
  refine wpList_nil ?_
  refine th_n ?_
  refine wp_seq ?_
  refine region_seq ?_
  refine sv (v := .int .i64 n) henv rfl (rn_move henv rfl) ?_
  clear henv a; intro a henv
  refine seq_step rfl (op_call henv rfl Tryd.call49 rfl (r_figures (n := n) (by omega) (by omega)) ?_)
  rintro e w52 ⟨rfl, hb⟩
  refine ⟨_, rfl, ?_⟩
  clear henv a; intro a henv
  replace hst := hst.call hb
  have hl51 := tz_len (n := n) (by omega) (by omega)
  clear hb
  revert a
  refine sA (v := .string ⟨(([114]) ++ (textZ n)).toArray⟩) rfl (fun _ henv => rn_catS (s := [114]) (t := (textZ n)) henv rfl rfl (by (try simp only [List.length_append, List.length_cons, List.length_nil]); omega)) ?_
  refine aA rfl rfl ?_
  intro a henv
  refine wpList_nil ?_
  refine th_n ?_
  refine wp_ret ?_
  refine leave henv (res1 Tryd.results51 (RV.tmp henv rfl)) ?_
  exact ⟨rfl, hst.below⟩
set_option maxRecDepth 100000 in
set_option maxHeartbeats 4000000 in
theorem r_line {o : Nat} {tr ra rb cn : Int} {w0 : World} (h1 : 1 ≤ o) (h8 : o ≤ 8) (hb : 0 ≤ tr ∧ tr ≤ 128 ∧ 0 ≤ ra ∧ ra ≤ 128 ∧ 0 ≤ rb ∧ rb ≤ 128 ∧ -512 ≤ cn ∧ cn ≤ 512) :
    Calls Tryd.prog 50 #[.agg #[.int .i64 (o : Nat), .int .i64 tr, .int .i64 ra, .int .i64 rb, .int .i64 cn]] w0 fun e w' => e = .returned (.string ⟨(pTline (((o : Nat) : Int), tr, ra, rb, cn)).toArray⟩) ∧ Below w0.heap.size w0 w' := by
  obtain ⟨b1, b2, b3, b4, b5, b6, b7, b8⟩ := hb
  refine enter Tryd.func50 rfl Tryd.ntmps50 rfl ?_
  intro a henv hst
  refine wp_seq ?_
  refine region_seq ?_
  refine seq_step rfl (op_box (c := #[.int .i64 (o : Nat), .int .i64 tr, .int .i64 ra, .int .i64 rb, .int .i64 cn]) henv hst rfl rfl rfl ?_)
  clear henv hst a; intro a w52 g51 henv hst
  refine sv (v := .string ⟨#[]⟩) henv rfl (rn_assign henv rfl) ?_
  clear henv a; intro a henv
  refine wpList_nil ?_
  refine th_n ?_
  refine wp_seq ?_
  refine region_seq ?_
  refine seq_step rfl (op_buildSlice (z := 1) (pv := #[(0, .string ⟨#[]⟩), (1, .string ⟨#[]⟩), (2, .string ⟨#[]⟩), (3, .string ⟨#[43]⟩), (4, .string ⟨#[45]⟩), (5, .string ⟨#[42]⟩), (6, .string ⟨#[47]⟩), (7, .string ⟨#[60, 60]⟩), (8, .string ⟨#[62, 62]⟩)]) (c := #[.string ⟨#[]⟩, .string ⟨#[]⟩, .string ⟨#[]⟩, .string ⟨#[43]⟩, .string ⟨#[45]⟩, .string ⟨#[42]⟩, .string ⟨#[47]⟩, .string ⟨#[60, 60]⟩, .string ⟨#[62, 62]⟩]) henv hst rfl Tryd.underlying97 (ty_string.size) zero_string (by decide) (by decide) rfl (by kernel_rfl) ?_)
  clear henv hst a; intro a w54 g53 henv hst
  refine sv (v := .slice (some ⟨g53, 0, none⟩) 9 9) henv rfl (rn_assign henv rfl) ?_
  clear henv a; intro a henv
  refine wpList_nil ?_
  replace hst := hst.giveBk (f := fS) (F := FTx) (k := 0) (n := 9) (es := pTsigs) rfl rfl fS_len rfl (by decide) (esT_P (fun _ => rfl) _ _) (fun _ _ _ _ => esT_foot (fun _ => rfl))
  replace hst : St w0 _ [bk g51 #[.int .i64 (o : Nat), .int .i64 tr, .int .i64 ra, .int .i64 rb, .int .i64 cn] 37] [pfRow fS FTx 1 (some ⟨g53, 0, none⟩) 9 9 pTsigs, pfRd 1 (some ⟨g53, 0, none⟩) 9 9 (fl fS pTsigs)] := hst
  refine th_n ?_
  refine wp_seq ?_
  refine region_seq ?_
  revert a
  refine sA (v := .pointer (some ⟨g51, 1, none⟩)) rfl (fun _ henv => rn_fieldAddr henv fd_anvil_api_Instr_1 (ty_int.size) (by decide) rfl) ?_
  refine sA (v := .int .i64 tr) rfl (fun _ henv => rn_load1 henv ty_int rfl (hst.oat (k := 0) rfl) rfl) ?_
  intro a henv
  refine seq_step rfl (op_call henv rfl Tryd.call51 rfl (r_reg (n := tr) (by omega) (by omega)) ?_)
  rintro e w56 ⟨rfl, hb⟩
  refine ⟨_, rfl, ?_⟩
  clear henv a; intro a henv
  replace hst := hst.call hb
  have hl55 := preg_len (n := tr) (by omega) (by omega)
  clear hb
  revert a
  refine sA (v := .string ⟨((pTreg tr) ++ ([32, 61, 32])).toArray⟩) rfl (fun _ henv => rn_catS (s := (pTreg tr)) (t := [32, 61, 32]) henv rfl rfl (by (try simp only [List.length_append, List.length_cons, List.length_nil]); omega)) ?_
  refine aA rfl rfl ?_
  intro a henv
  refine wpList_nil ?_
  refine th_n ?_
  refine wp_seq ?_
  refine wp_seq ?_
  refine region_seq ?_
  revert a
  refine sA (v := .pointer (some ⟨g51, 0, none⟩)) rfl (fun _ henv => rn_fieldAddr henv fd_anvil_api_Instr_0 (ty_int.size) (by decide) rfl) ?_
  refine sA (v := .int .i64 (o : Nat)) rfl (fun _ henv => rn_load1 henv ty_int rfl (hst.oat (k := 0) rfl) rfl) ?_
  refine sA (v := .bool (((o : Nat) : Int) == (1 : Int))) rfl (fun _ henv => rn_bin henv rfl rfl rfl) ?_
  intro a henv
  refine wpList_nil ?_
  refine th_n ?_
  refine if_split henv rfl (fun hc57 => ?_) (fun hc57 => ?_)
  · have hx58 := eq_of_beq hc57
    refine wp_seq ?_
    refine region_seq ?_
    revert a
    refine mA rfl rfl ?_
    refine sA (v := .pointer (some ⟨g51, 2, none⟩)) rfl (fun _ henv => rn_fieldAddr henv fd_anvil_api_Instr_2 (ty_int.size) (by decide) rfl) ?_
    refine sA (v := .int .i64 ra) rfl (fun _ henv => rn_load1 henv ty_int rfl (hst.oat (k := 0) rfl) rfl) ?_
    intro a henv
    refine seq_step rfl (op_call henv rfl Tryd.call51 rfl (r_reg (n := ra) (by omega) (by omega)) ?_)
    rintro e w60 ⟨rfl, hb⟩
    refine ⟨_, rfl, ?_⟩
    clear henv a; intro a henv
    replace hst := hst.call hb
    have hl59 := preg_len (n := ra) (by omega) (by omega)
    clear hb
    revert a
    refine sA (v := .string ⟨(((pTreg tr) ++ ([32, 61, 32])) ++ (pTreg ra)).toArray⟩) rfl (fun _ henv => rn_catS (s := ((pTreg tr) ++ ([32, 61, 32]))) (t := (pTreg ra)) henv rfl rfl (by (try simp only [List.length_append, List.length_cons, List.length_nil]); omega)) ?_
    refine aA rfl rfl ?_
    intro a henv
    refine wpList_nil ?_
    refine th_n ?_
    refine wp_ret ?_
    refine th_r ?_
    refine leave henv (res1 Tryd.results50 (RV.tmp henv rfl)) ?_
    exact ⟨by rw [show (((pTreg tr) ++ ([32, 61, 32])) ++ (pTreg ra)) = (pTline (((o : Nat) : Int), tr, ra, rb, cn) : List UInt8) from by simp [pTline, hx58]], hst.below⟩
  · have hx61 := ne_of_beq_false hc57
    refine wp_skip ?_
    refine th_n ?_
    refine wp_seq ?_
    refine wp_seq ?_
    refine region_seq ?_
    revert a
    refine sA (v := .pointer (some ⟨g51, 0, none⟩)) rfl (fun _ henv => rn_fieldAddr henv fd_anvil_api_Instr_0 (ty_int.size) (by decide) rfl) ?_
    refine sA (v := .int .i64 (o : Nat)) rfl (fun _ henv => rn_load1 henv ty_int rfl (hst.oat (k := 0) rfl) rfl) ?_
    refine sA (v := .bool (((o : Nat) : Int) == (2 : Int))) rfl (fun _ henv => rn_bin henv rfl rfl rfl) ?_
    intro a henv
    refine wpList_nil ?_
    refine th_n ?_
    refine if_split henv rfl (fun hc62 => ?_) (fun hc62 => ?_)
    · have hx63 := eq_of_beq hc62
      refine wp_seq ?_
      refine region_seq ?_
      revert a
      refine mA rfl rfl ?_
      refine sA (v := .string ⟨(((pTreg tr) ++ ([32, 61, 32])) ++ ([45])).toArray⟩) rfl (fun _ henv => rn_catS (s := ((pTreg tr) ++ ([32, 61, 32]))) (t := [45]) henv rfl rfl (by (try simp only [List.length_append, List.length_cons, List.length_nil]); omega)) ?_
      refine sA (v := .pointer (some ⟨g51, 2, none⟩)) rfl (fun _ henv => rn_fieldAddr henv fd_anvil_api_Instr_2 (ty_int.size) (by decide) rfl) ?_
      refine sA (v := .int .i64 ra) rfl (fun _ henv => rn_load1 henv ty_int rfl (hst.oat (k := 0) rfl) rfl) ?_
      intro a henv
      refine seq_step rfl (op_call henv rfl Tryd.call51 rfl (r_reg (n := ra) (by omega) (by omega)) ?_)
      rintro e w65 ⟨rfl, hb⟩
      refine ⟨_, rfl, ?_⟩
      clear henv a; intro a henv
      replace hst := hst.call hb
      have hl64 := preg_len (n := ra) (by omega) (by omega)
      clear hb
      revert a
      refine sA (v := .string ⟨((((pTreg tr) ++ ([32, 61, 32])) ++ ([45])) ++ (pTreg ra)).toArray⟩) rfl (fun _ henv => rn_catS (s := (((pTreg tr) ++ ([32, 61, 32])) ++ ([45]))) (t := (pTreg ra)) henv rfl rfl (by (try simp only [List.length_append, List.length_cons, List.length_nil]); omega)) ?_
      refine aA rfl rfl ?_
      intro a henv
      refine wpList_nil ?_
      refine th_n ?_
      refine wp_ret ?_
      refine th_r ?_
      refine leave henv (res1 Tryd.results50 (RV.tmp henv rfl)) ?_
      exact ⟨by rw [show ((((pTreg tr) ++ ([32, 61, 32])) ++ ([45])) ++ (pTreg ra)) = (pTline (((o : Nat) : Int), tr, ra, rb, cn) : List UInt8) from by simp [pTline, hx61, hx63]], hst.below⟩
    · have hx66 := ne_of_beq_false hc62
      refine wp_skip ?_
      refine th_n ?_
      refine wp_seq ?_
      refine wp_seq ?_
      refine region_seq ?_
      revert a
      refine sA (v := .pointer (some ⟨g51, 0, none⟩)) rfl (fun _ henv => rn_fieldAddr henv fd_anvil_api_Instr_0 (ty_int.size) (by decide) rfl) ?_
      refine sA (v := .int .i64 (o : Nat)) rfl (fun _ henv => rn_load1 henv ty_int rfl (hst.oat (k := 0) rfl) rfl) ?_
      refine sA (v := .bool (decide (((o : Nat) : Int) ≤ (4 : Int)))) rfl (fun _ henv => rn_bin henv rfl rfl rfl) ?_
      intro a henv
      refine wpList_nil ?_
      refine th_n ?_
      refine if_split henv rfl (fun hc67 => ?_) (fun hc67 => ?_)
      · have hx68 := of_decide_eq_true hc67
        have hsig := sig_at (o := o) (by omega) (by omega)
        have hsl := psg_len ((o : Nat) : Int)
        have ho4 : ((o : Nat) = 3 ∨ o = 4) := by omega
        refine wp_seq ?_
        refine region_any (n := 18) (Sk [bk g51 #[.int .i64 (o : Nat), .int .i64 tr, .int .i64 ra, .int .i64 rb, .int .i64 cn] 37] [pfRow fS FTx 1 (some ⟨g53, 0, none⟩) 9 9 pTsigs, pfRd 1 (some ⟨g53, 0, none⟩) 9 9 (fl fS pTsigs)] [] []) mixed rfl henv hst ?_
        clear henv hst; intro w69 henv hst
        refine tM (i := 0) [4, 5, 11, 12, 16, 17] rfl (by kernel_rfl) (fun _ _ _ h => h) henv rfl rfl ?_
        clear henv a; intro a henv
        refine tA (i := 1) [2, 3, 4, 5, 11, 12, 15, 16, 17] (v := .pointer (some ⟨g51, 2, none⟩)) rfl (by kernel_rfl) (fun _ _ _ h => h) henv rfl (fun _ => rn_fieldAddr henv fd_anvil_api_Instr_2 (ty_int.size) (by decide) rfl) ?_
        clear henv a; intro a henv
        refine sAny_take (i := 2) [3, 4, 5, 11, 12, 15, 16, 17] (fun w' => w'.heap[g51]? = some (.cells #[.int .i64 (o : Nat), .int .i64 tr, .int .i64 ra, .int .i64 rb, .int .i64 cn] 37 (0, 0))) (v := .int .i64 ra) rfl (by kernel_rfl) (fun _ _ _ h => h) (fun _ _ _ hS => hS.1.oat (k := 0) rfl) henv rfl (hst.oat (k := 0) rfl) (fun w' hg => rn_load1 henv ty_int rfl hg rfl) ?_
        clear henv a; intro a henv
        refine tM (i := 6) [9, 10, 11, 12, 16, 17] rfl (by kernel_rfl) (fun _ _ _ h => h) henv rfl rfl ?_
        clear henv a; intro a henv
        refine tA (i := 7) [8, 9, 10, 11, 12, 16, 17] (v := .pointer (some ⟨g51, 0, none⟩)) rfl (by kernel_rfl) (fun _ _ _ h => h) henv rfl (fun _ => rn_fieldAddr henv fd_anvil_api_Instr_0 (ty_int.size) (by decide) rfl) ?_
        clear henv a; intro a henv
        refine sAny_take (i := 8) [9, 10, 11, 12, 16, 17] (fun w' => w'.heap[g51]? = some (.cells #[.int .i64 (o : Nat), .int .i64 tr, .int .i64 ra, .int .i64 rb, .int .i64 cn] 37 (0, 0))) (v := .int .i64 (o : Nat)) rfl (by kernel_rfl) (fun _ _ _ h => h) (fun _ _ _ hS => hS.1.oat (k := 0) rfl) henv rfl (hst.oat (k := 0) rfl) (fun w' hg => rn_load1 henv ty_int rfl hg rfl) ?_
        clear henv a; intro a henv
        refine sAny_take (i := 9) [10, 11, 12, 16, 17] (fun w' => (pfRow fS FTx 1 (some ⟨g53, 0, none⟩) 9 9 pTsigs).P w') (v := .pointer (some ⟨ab (some ⟨g53, 0, none⟩), ao (some ⟨g53, 0, none⟩) + o * 1, none⟩)) rfl (by kernel_rfl) (fun _ _ _ h => h) (fun _ _ _ hS => hS.1.pat (k := 0) rfl) henv rfl (hst.pat (k := 0) rfl) (fun w' hg => rn_idxR (i := o) henv Tryd.underlying97 (ty_string.size) rfl rfl (by omega) rfl (show (pfRow fS FTx 1 (some ⟨g53, 0, none⟩) 9 9 pTsigs).P _ from hg).1) ?_
        clear henv a; intro a henv
        refine sAny_take (i := 10) [11, 12, 16, 17] (fun w' => (pfRow fS FTx 1 (some ⟨g53, 0, none⟩) 9 9 pTsigs).P w') (v := .string ⟨(pTsg ((o : Nat) : Int)).toArray⟩) rfl (by kernel_rfl) (fun _ _ _ h => h) (fun _ _ _ hS => hS.1.pat (k := 0) rfl) henv rfl (hst.pat (k := 0) rfl) (fun w' hg => rn_loadE1 (i := o) (j := 0) (e := pTsg (o : Nat)) henv ty_string rfl rfl fS_len (by decide) (show (pfRow fS FTx 1 (some ⟨g53, 0, none⟩) 9 9 pTsigs).P _ from hg).1 (by omega) hsig rfl) ?_
        clear henv a; intro a henv
        refine tA (i := 13) (rg 14 4) (v := .pointer (some ⟨g51, 3, none⟩)) rfl (by kernel_rfl) (fun _ _ _ h => h) henv rfl (fun _ => rn_fieldAddr henv fd_anvil_api_Instr_3 (ty_int.size) (by decide) rfl) ?_
        clear henv a; intro a henv
        refine sAny_take (i := 14) [15, 16, 17] (fun w' => w'.heap[g51]? = some (.cells #[.int .i64 (o : Nat), .int .i64 tr, .int .i64 ra, .int .i64 rb, .int .i64 cn] 37 (0, 0))) (v := .int .i64 rb) rfl (by kernel_rfl) (fun _ _ _ h => h) (fun _ _ _ hS => hS.1.oat (k := 0) rfl) henv rfl (hst.oat (k := 0) rfl) (fun w' hg => rn_load1 henv ty_int rfl hg rfl) ?_
        clear henv a; intro a henv
        refine sAny_one (i := 3) (by kernel_rfl) rfl rfl (op_call henv rfl Tryd.call51 rfl (r_reg (n := ra) (by omega) (by omega)) ?_)
        rintro e w71 ⟨rfl, hb⟩
        refine ⟨_, rfl, ?_⟩
        clear henv a; intro a henv
        replace hst := hst.call hb
        have hl70 := preg_len (n := ra) (by omega) (by omega)
        clear hb
        refine ⟨.inr ⟨hst.kn.pick [0] [0, 1], .inr (hst.kn.pick [] [])⟩, ?_⟩
        refine tA (i := 4) [5, 11, 12, 16, 17] (v := .string ⟨(((pTreg tr) ++ ([32, 61, 32])) ++ (pTreg ra)).toArray⟩) rfl (by kernel_rfl) (fun _ _ _ h => h) henv rfl (fun _ => rn_catS (s := ((pTreg tr) ++ ([32, 61, 32]))) (t := (pTreg ra)) henv rfl rfl (by (try simp only [List.length_append, List.length_cons, List.length_nil]); omega)) ?_
        clear henv a; intro a henv
        refine tA (i := 5) [11, 12, 16, 17] (v := .string ⟨((((pTreg tr) ++ ([32, 61, 32])) ++ (pTreg ra)) ++ ([32])).toArray⟩) rfl (by kernel_rfl) (fun _ _ _ h => h) henv rfl (fun _ => rn_catS (s := (((pTreg tr) ++ ([32, 61, 32])) ++ (pTreg ra))) (t := [32]) henv rfl rfl (by (try simp only [List.length_append, List.length_cons, List.length_nil]); omega)) ?_
        clear henv a; intro a henv
        refine tA (i := 11) [12, 16, 17] (v := .string ⟨(((((pTreg tr) ++ ([32, 61, 32])) ++ (pTreg ra)) ++ ([32])) ++ (pTsg ((o : Nat) : Int))).toArray⟩) rfl (by kernel_rfl) (fun _ _ _ h => h) henv rfl (fun _ => rn_catS (s := ((((pTreg tr) ++ ([32, 61, 32])) ++ (pTreg ra)) ++ ([32]))) (t := (pTsg ((o : Nat) : Int))) henv rfl rfl (by (try simp only [List.length_append, List.length_cons, List.length_nil]); omega)) ?_
        clear henv a; intro a henv
        refine tA (i := 12) [16, 17] (v := .string ⟨((((((pTreg tr) ++ ([32, 61, 32])) ++ (pTreg ra)) ++ ([32])) ++ (pTsg ((o : Nat) : Int))) ++ ([32])).toArray⟩) rfl (by kernel_rfl) (fun _ _ _ h => h) henv rfl (fun _ => rn_catS (s := (((((pTreg tr) ++ ([32, 61, 32])) ++ (pTreg ra)) ++ ([32])) ++ (pTsg ((o : Nat) : Int)))) (t := [32]) henv rfl rfl (by (try simp only [List.length_append, List.length_cons, List.length_nil]); omega)) ?_
        clear henv a; intro a henv
        refine sAny_one (i := 15) (by kernel_rfl) rfl rfl (op_call henv rfl Tryd.call51 rfl (r_reg (n := rb) (by omega) (by omega)) ?_)
        rintro e w73 ⟨rfl, hb⟩
        refine ⟨_, rfl, ?_⟩
        clear henv a; intro a henv
        replace hst := hst.call hb
        have hl72 := preg_len (n := rb) (by omega) (by omega)
        clear hb
        refine ⟨.inr ⟨hst.kn.pick [0] [0, 1], .inr (hst.kn.pick [] [])⟩, ?_⟩
        refine tA (i := 16) [17] (v := .string ⟨(((((((pTreg tr) ++ ([32, 61, 32])) ++ (pTreg ra)) ++ ([32])) ++ (pTsg ((o : Nat) : Int))) ++ ([32])) ++ (pTreg rb)).toArray⟩) rfl (by kernel_rfl) (fun _ _ _ h => h) henv rfl (fun _ => rn_catS (s := ((((((pTreg tr) ++ ([32, 61, 32])) ++ (pTreg ra)) ++ ([32])) ++ (pTsg ((o : Nat) : Int))) ++ ([32]))) (t := (pTreg rb)) henv rfl rfl (by (try simp only [List.length_append, List.length_cons, List.length_nil]); omega)) ?_
        clear henv a; intro a henv
        refine tA (i := 17) [] (v := .string ⟨(((((((pTreg tr) ++ ([32, 61, 32])) ++ (pTreg ra)) ++ ([32])) ++ (pTsg ((o : Nat) : Int))) ++ ([32])) ++ (pTreg rb)).toArray⟩) rfl (by kernel_rfl) (fun _ _ _ h => h) henv rfl (fun _ => rn_assign henv rfl) ?_
        clear henv a; intro a henv
        refine sAny_done (by kernel_rfl) ?_ _
        refine th_n ?_
        refine wp_ret ?_
        refine th_r ?_
        refine leave henv (res1 Tryd.results50 (RV.tmp henv rfl)) ?_
        have ho5 : (((o : Nat) : Int) = 3 ∨ ((o : Nat) : Int) = 4) := by omega
        exact ⟨by rw [show (((((((pTreg tr) ++ ([32, 61, 32])) ++ (pTreg ra)) ++ ([32])) ++ (pTsg ((o : Nat) : Int))) ++ ([32])) ++ (pTreg rb)) = (pTline (((o : Nat) : Int), tr, ra, rb, cn) : List UInt8) from by simp [pTline, hx61, hx66, ho5]], hst.below⟩
      · have hx74 := of_decide_eq_false hc67
        have hsig := sig_at (o := o) (by omega) (by omega)
        have hsl := psg_len ((o : Nat) : Int)
        have ho4 : ¬ ((o : Nat) = 3 ∨ o = 4) := by omega
        refine wp_skip ?_
        refine th_n ?_
        refine wp_seq ?_
        refine region_any (n := 18) (Sk [bk g51 #[.int .i64 (o : Nat), .int .i64 tr, .int .i64 ra, .int .i64 rb, .int .i64 cn] 37] [pfRow fS FTx 1 (some ⟨g53, 0, none⟩) 9 9 pTsigs, pfRd 1 (some ⟨g53, 0, none⟩) 9 9 (fl fS pTsigs)] [] []) mixed rfl henv hst ?_
        clear henv hst; intro w75 henv hst
        refine tM (i := 0) [4, 5, 11, 12, 16, 17] rfl (by kernel_rfl) (fun _ _ _ h => h) henv rfl rfl ?_
        clear henv a; intro a henv
        refine tA (i := 1) [2, 3, 4, 5, 11, 12, 15, 16, 17] (v := .pointer (some ⟨g51, 2, none⟩)) rfl (by kernel_rfl) (fun _ _ _ h => h) henv rfl (fun _ => rn_fieldAddr henv fd_anvil_api_Instr_2 (ty_int.size) (by decide) rfl) ?_
        clear henv a; intro a henv
        refine sAny_take (i := 2) [3, 4, 5, 11, 12, 15, 16, 17] (fun w' => w'.heap[g51]? = some (.cells #[.int .i64 (o : Nat), .int .i64 tr, .int .i64 ra, .int .i64 rb, .int .i64 cn] 37 (0, 0))) (v := .int .i64 ra) rfl (by kernel_rfl) (fun _ _ _ h => h) (fun _ _ _ hS => hS.1.oat (k := 0) rfl) henv rfl (hst.oat (k := 0) rfl) (fun w' hg => rn_load1 henv ty_int rfl hg rfl) ?_
        clear henv a; intro a henv
        refine tM (i := 6) [9, 10, 11, 12, 16, 17] rfl (by kernel_rfl) (fun _ _ _ h => h) henv rfl rfl ?_
        clear henv a; intro a henv
        refine tA (i := 7) [8, 9, 10, 11, 12, 16, 17] (v := .pointer (some ⟨g51, 0, none⟩)) rfl (by kernel_rfl) (fun _ _ _ h => h) henv rfl (fun _ => rn_fieldAddr henv fd_anvil_api_Instr_0 (ty_int.size) (by decide) rfl) ?_
        clear henv a; intro a henv
        refine sAny_take (i := 8) [9, 10, 11, 12, 16, 17] (fun w' => w'.heap[g51]? = some (.cells #[.int .i64 (o : Nat), .int .i64 tr, .int .i64 ra, .int .i64 rb, .int .i64 cn] 37 (0, 0))) (v := .int .i64 (o : Nat)) rfl (by kernel_rfl) (fun _ _ _ h => h) (fun _ _ _ hS => hS.1.oat (k := 0) rfl) henv rfl (hst.oat (k := 0) rfl) (fun w' hg => rn_load1 henv ty_int rfl hg rfl) ?_
        clear henv a; intro a henv
        refine sAny_take (i := 9) [10, 11, 12, 16, 17] (fun w' => (pfRow fS FTx 1 (some ⟨g53, 0, none⟩) 9 9 pTsigs).P w') (v := .pointer (some ⟨ab (some ⟨g53, 0, none⟩), ao (some ⟨g53, 0, none⟩) + o * 1, none⟩)) rfl (by kernel_rfl) (fun _ _ _ h => h) (fun _ _ _ hS => hS.1.pat (k := 0) rfl) henv rfl (hst.pat (k := 0) rfl) (fun w' hg => rn_idxR (i := o) henv Tryd.underlying97 (ty_string.size) rfl rfl (by omega) rfl (show (pfRow fS FTx 1 (some ⟨g53, 0, none⟩) 9 9 pTsigs).P _ from hg).1) ?_
        clear henv a; intro a henv
        refine sAny_take (i := 10) [11, 12, 16, 17] (fun w' => (pfRow fS FTx 1 (some ⟨g53, 0, none⟩) 9 9 pTsigs).P w') (v := .string ⟨(pTsg ((o : Nat) : Int)).toArray⟩) rfl (by kernel_rfl) (fun _ _ _ h => h) (fun _ _ _ hS => hS.1.pat (k := 0) rfl) henv rfl (hst.pat (k := 0) rfl) (fun w' hg => rn_loadE1 (i := o) (j := 0) (e := pTsg (o : Nat)) henv ty_string rfl rfl fS_len (by decide) (show (pfRow fS FTx 1 (some ⟨g53, 0, none⟩) 9 9 pTsigs).P _ from hg).1 (by omega) hsig rfl) ?_
        clear henv a; intro a henv
        refine tA (i := 13) (rg 14 4) (v := .pointer (some ⟨g51, 4, none⟩)) rfl (by kernel_rfl) (fun _ _ _ h => h) henv rfl (fun _ => rn_fieldAddr henv fd_anvil_api_Instr_4 (ty_int.size) (by decide) rfl) ?_
        clear henv a; intro a henv
        refine sAny_take (i := 14) [15, 16, 17] (fun w' => w'.heap[g51]? = some (.cells #[.int .i64 (o : Nat), .int .i64 tr, .int .i64 ra, .int .i64 rb, .int .i64 cn] 37 (0, 0))) (v := .int .i64 cn) rfl (by kernel_rfl) (fun _ _ _ h => h) (fun _ _ _ hS => hS.1.oat (k := 0) rfl) henv rfl (hst.oat (k := 0) rfl) (fun w' hg => rn_load1 henv ty_int rfl hg rfl) ?_
        clear henv a; intro a henv
        refine sAny_one (i := 3) (by kernel_rfl) rfl rfl (op_call henv rfl Tryd.call51 rfl (r_reg (n := ra) (by omega) (by omega)) ?_)
        rintro e w77 ⟨rfl, hb⟩
        refine ⟨_, rfl, ?_⟩
        clear henv a; intro a henv
        replace hst := hst.call hb
        have hl76 := preg_len (n := ra) (by omega) (by omega)
        clear hb
        refine ⟨.inr ⟨hst.kn.pick [0] [0, 1], .inr (hst.kn.pick [] [])⟩, ?_⟩
        refine tA (i := 4) [5, 11, 12, 16, 17] (v := .string ⟨(((pTreg tr) ++ ([32, 61, 32])) ++ (pTreg ra)).toArray⟩) rfl (by kernel_rfl) (fun _ _ _ h => h) henv rfl (fun _ => rn_catS (s := ((pTreg tr) ++ ([32, 61, 32]))) (t := (pTreg ra)) henv rfl rfl (by (try simp only [List.length_append, List.length_cons, List.length_nil]); omega)) ?_
        clear henv a; intro a henv
        refine tA (i := 5) [11, 12, 16, 17] (v := .string ⟨((((pTreg tr) ++ ([32, 61, 32])) ++ (pTreg ra)) ++ ([32])).toArray⟩) rfl (by kernel_rfl) (fun _ _ _ h => h) henv rfl (fun _ => rn_catS (s := (((pTreg tr) ++ ([32, 61, 32])) ++ (pTreg ra))) (t := [32]) henv rfl rfl (by (try simp only [List.length_append, List.length_cons, List.length_nil]); omega)) ?_
        clear henv a; intro a henv
        refine tA (i := 11) [12, 16, 17] (v := .string ⟨(((((pTreg tr) ++ ([32, 61, 32])) ++ (pTreg ra)) ++ ([32])) ++ (pTsg ((o : Nat) : Int))).toArray⟩) rfl (by kernel_rfl) (fun _ _ _ h => h) henv rfl (fun _ => rn_catS (s := ((((pTreg tr) ++ ([32, 61, 32])) ++ (pTreg ra)) ++ ([32]))) (t := (pTsg ((o : Nat) : Int))) henv rfl rfl (by (try simp only [List.length_append, List.length_cons, List.length_nil]); omega)) ?_
        clear henv a; intro a henv
        refine tA (i := 12) [16, 17] (v := .string ⟨((((((pTreg tr) ++ ([32, 61, 32])) ++ (pTreg ra)) ++ ([32])) ++ (pTsg ((o : Nat) : Int))) ++ ([32])).toArray⟩) rfl (by kernel_rfl) (fun _ _ _ h => h) henv rfl (fun _ => rn_catS (s := (((((pTreg tr) ++ ([32, 61, 32])) ++ (pTreg ra)) ++ ([32])) ++ (pTsg ((o : Nat) : Int)))) (t := [32]) henv rfl rfl (by (try simp only [List.length_append, List.length_cons, List.length_nil]); omega)) ?_
        clear henv a; intro a henv
        refine sAny_one (i := 15) (by kernel_rfl) rfl rfl (op_call henv rfl Tryd.call49 rfl (r_figures (n := cn) (by omega) (by omega)) ?_)
        rintro e w79 ⟨rfl, hb⟩
        refine ⟨_, rfl, ?_⟩
        clear henv a; intro a henv
        replace hst := hst.call hb
        have hl78 := tz_len (n := cn) (by omega) (by omega)
        clear hb
        refine ⟨.inr ⟨hst.kn.pick [0] [0, 1], .inr (hst.kn.pick [] [])⟩, ?_⟩
        refine tA (i := 16) [17] (v := .string ⟨(((((((pTreg tr) ++ ([32, 61, 32])) ++ (pTreg ra)) ++ ([32])) ++ (pTsg ((o : Nat) : Int))) ++ ([32])) ++ (textZ cn)).toArray⟩) rfl (by kernel_rfl) (fun _ _ _ h => h) henv rfl (fun _ => rn_catS (s := ((((((pTreg tr) ++ ([32, 61, 32])) ++ (pTreg ra)) ++ ([32])) ++ (pTsg ((o : Nat) : Int))) ++ ([32]))) (t := (textZ cn)) henv rfl rfl (by (try simp only [List.length_append, List.length_cons, List.length_nil]); omega)) ?_
        clear henv a; intro a henv
        refine tA (i := 17) [] (v := .string ⟨(((((((pTreg tr) ++ ([32, 61, 32])) ++ (pTreg ra)) ++ ([32])) ++ (pTsg ((o : Nat) : Int))) ++ ([32])) ++ (textZ cn)).toArray⟩) rfl (by kernel_rfl) (fun _ _ _ h => h) henv rfl (fun _ => rn_assign henv rfl) ?_
        clear henv a; intro a henv
        refine sAny_done (by kernel_rfl) ?_ _
        refine th_n ?_
        refine wp_ret ?_
        refine leave henv (res1 Tryd.results50 (RV.tmp henv rfl)) ?_
        have ho5 : ¬ (((o : Nat) : Int) = 3 ∨ ((o : Nat) : Int) = 4) := by omega
        exact ⟨by rw [show (((((((pTreg tr) ++ ([32, 61, 32])) ++ (pTreg ra)) ++ ([32])) ++ (pTsg ((o : Nat) : Int))) ++ ([32])) ++ (textZ cn)) = (pTline (((o : Nat) : Int), tr, ra, rb, cn) : List UInt8) from by simp [pTline, hx61, hx66, ho5]], hst.below⟩
set_option maxRecDepth 100000 in
set_option maxHeartbeats 8000000 in
theorem h_text_ok {i : Int} {g : Nat} {A0 A1 : Option Addr} {n0 c0 n1 c1 : Nat} {es0 : List IE} {es1 : List Int} {w0 : World} (hP : Pw w0) (h0 : (pfRow fJ FJ 5 A0 n0 c0 es0).P w0) (h1 : (pfRow fI FI 1 A1 n1 c1 es1).P w0) (hR : Right i g n0 n1 es0 es1) :
    Calls Tryd.prog 31 #[.agg #[.int .i64 i, .int .i64 (g : Nat), .slice A0 n0 c0, .slice A1 n1 c1]] w0 fun e w' => e = .returned (.tuple #[.string ⟨(pTall i g es0 es1).toArray⟩, .int .i64 0]) ∧ Below w0.heap.size w0 w' := by
  obtain ⟨hh1, hh2, hh3, hh4, hh5, hh6⟩ := hR.1
  refine enter Tryd.func31 rfl Tryd.ntmps31 rfl ?_
  intro a henv hst
  replace hst := hst.argP pfPw hP
  have hlen0 := h0.2.1
  have hbig0 := Nat.le_trans h0.1.cap h0.1.big
  unfold maxLen at hbig0
  have hlen1 := h1.2.1
  have hbig1 := Nat.le_trans h1.1.cap h1.1.big
  unfold maxLen at hbig1
  replace hst := hst.argRow h0
  replace hst := hst.argRow h1
  clear h0 h1
  refine wp_seq ?_
  refine region_seq ?_
  refine seq_step rfl (op_box (c := #[.int .i64 i, .int .i64 (g : Nat), .slice A0 n0 c0, .slice A1 n1 c1]) henv hst rfl rfl rfl ?_)
  clear henv hst a; intro a w52 g51 henv hst
  revert a
  refine aA rfl rfl ?_
  refine aA rfl rfl ?_
  intro a henv
  refine wpList_nil ?_
  refine th_n ?_
  refine wp_seq ?_
  refine wp_seq ?_
  refine region_seq ?_
  refine sv (v := .agg #[.int .i64 i, .int .i64 (g : Nat), .slice A0 n0 c0, .slice A1 n1 c1]) henv rfl (rn_load0 henv ty_anvil_api_Prog rfl (hst.oat (k := 0) rfl) rfl) ?_
  clear henv a; intro a henv
  refine seq_step rfl (op_call henv rfl Tryd.call37 rfl (g_right_ok (hst.pat (k := 1) rfl) (hst.pat (k := 0) rfl) hR) ?_)
  rintro e w53 ⟨rfl, hb⟩
  refine ⟨_, rfl, ?_⟩
  clear henv a; intro a henv
  replace hst := hst.call hb
  clear hb
  refine sv (v := .bool false) henv rfl (rn_un henv rfl rfl) ?_
  clear henv a; intro a henv
  refine wpList_nil ?_
  refine th_n ?_
  refine if_f henv rfl (rfl) ?_
  refine wp_skip ?_
  refine th_n ?_
  refine wp_seq ?_
  refine region_seq ?_
  refine seq_step rfl (op_alloc (c := #[.pointer none, .slice none 0 0]) henv hst rfl zero_strings_Builder rfl ?_)
  clear henv hst a; intro a w55 g54 henv hst
  refine wpList_nil ?_
  replace hst := hst.bld (k := 0) rfl
  replace hst : St w0 _ [bldF g54 (.slice none 0 0) ([] : List UInt8).length (byteCells ([] : List UInt8)), bk g51 #[.int .i64 i, .int .i64 (g : Nat), .slice A0 n0 c0, .slice A1 n1 c1] 25] [pfRow fI FI 1 A1 n1 c1 es1, pfRow fJ FJ 5 A0 n0 c0 es0, pfPw] := hst
  refine th_n ?_
  refine wp_seq ?_
  refine region_any (n := 11) (Sk [bk g51 #[.int .i64 i, .int .i64 (g : Nat), .slice A0 n0 c0, .slice A1 n1 c1] 25] [pfRow fI FI 1 A1 n1 c1 es1, pfRow fJ FJ 5 A0 n0 c0 es0, pfPw] [] []) mixed rfl henv hst ?_
  clear henv hst; intro w56 henv hst
  refine tA (i := 0) [1, 2, 3, 4, 7, 8, 9, 10] (v := .pointer (some ⟨g51, 0, none⟩)) rfl (by kernel_rfl) (fun _ _ _ h => h) henv rfl (fun _ => rn_fieldAddr henv fd_anvil_api_Prog_0 (ty_int.size) (by decide) rfl) ?_
  clear henv a; intro a henv
  refine sAny_take (i := 1) [2, 3, 4, 7, 8, 9, 10] (fun w' => w'.heap[g51]? = some (.cells #[.int .i64 i, .int .i64 (g : Nat), .slice A0 n0 c0, .slice A1 n1 c1] 25 (0, 0))) (v := .int .i64 i) rfl (by kernel_rfl) (fun _ _ _ h => h) (fun _ _ _ hS => hS.1.oat (k := 0) rfl) henv rfl (hst.oat (k := 1) rfl) (fun w' hg => rn_load1 henv ty_int rfl hg rfl) ?_
  clear henv a; intro a henv
  refine tA (i := 5) (rg 6 5) (v := .pointer (some ⟨g51, 1, none⟩)) rfl (by kernel_rfl) (fun _ _ _ h => h) henv rfl (fun _ => rn_fieldAddr henv fd_anvil_api_Prog_1 (ty_int.size) (by decide) rfl) ?_
  clear henv a; intro a henv
  refine sAny_take (i := 6) [7, 8, 9, 10] (fun w' => w'.heap[g51]? = some (.cells #[.int .i64 i, .int .i64 (g : Nat), .slice A0 n0 c0, .slice A1 n1 c1] 25 (0, 0))) (v := .int .i64 (g : Nat)) rfl (by kernel_rfl) (fun _ _ _ h => h) (fun _ _ _ hS => hS.1.oat (k := 0) rfl) henv rfl (hst.oat (k := 1) rfl) (fun w' hg => rn_load1 henv ty_int rfl hg rfl) ?_
  clear henv a; intro a henv
  refine sAny_one (i := 2) (by kernel_rfl) rfl rfl (op_call henv rfl Tryd.call45 rfl (h_itoa (n := i) (hst.pat (k := 2) rfl) (by omega) (by omega)) ?_)
  rintro e w58 ⟨rfl, hb⟩
  refine ⟨_, rfl, ?_⟩
  clear henv a; intro a henv
  replace hst := hst.call hb
  have hl57 := tz_len (n := i) (by omega) (by omega)
  clear hb
  refine ⟨.inr ⟨hst.kn.pick [1] [0, 1, 2], .inr (hst.kn.pick [] [])⟩, ?_⟩
  refine tA (i := 3) [4, 8, 9, 10] (v := .string ⟨(([105, 110, 32]) ++ (textZ i)).toArray⟩) rfl (by kernel_rfl) (fun _ _ _ h => h) henv rfl (fun _ => rn_catS (s := [105, 110, 32]) (t := (textZ i)) henv rfl rfl (by (try simp only [List.length_append, List.length_cons, List.length_nil]); omega)) ?_
  clear henv a; intro a henv
  refine tA (i := 4) [8, 9, 10] (v := .string ⟨((([105, 110, 32]) ++ (textZ i)) ++ ([32, 114, 101, 103, 115, 32])).toArray⟩) rfl (by kernel_rfl) (fun _ _ _ h => h) henv rfl (fun _ => rn_catS (s := (([105, 110, 32]) ++ (textZ i))) (t := [32, 114, 101, 103, 115, 32]) henv rfl rfl (by (try simp only [List.length_append, List.length_cons, List.length_nil]); omega)) ?_
  clear henv a; intro a henv
  refine sAny_one (i := 7) (by kernel_rfl) rfl rfl (op_call henv rfl Tryd.call45 rfl (h_itoa (n := (g : Nat)) (hst.pat (k := 2) rfl) (by omega) (by omega)) ?_)
  rintro e w60 ⟨rfl, hb⟩
  refine ⟨_, rfl, ?_⟩
  clear henv a; intro a henv
  replace hst := hst.call hb
  have hl59 := tz_len (n := (g : Nat)) (by omega) (by omega)
  clear hb
  refine ⟨.inr ⟨hst.kn.pick [1] [0, 1, 2], .inr (hst.kn.pick [] [])⟩, ?_⟩
  refine tA (i := 8) [9, 10] (v := .string ⟨(((([105, 110, 32]) ++ (textZ i)) ++ ([32, 114, 101, 103, 115, 32])) ++ (textZ (g : Nat))).toArray⟩) rfl (by kernel_rfl) (fun _ _ _ h => h) henv rfl (fun _ => rn_catS (s := ((([105, 110, 32]) ++ (textZ i)) ++ ([32, 114, 101, 103, 115, 32]))) (t := (textZ (g : Nat))) henv rfl rfl (by (try simp only [List.length_append, List.length_cons, List.length_nil]); omega)) ?_
  clear henv a; intro a henv
  refine tA (i := 9) [10] (v := .string ⟨((((([105, 110, 32]) ++ (textZ i)) ++ ([32, 114, 101, 103, 115, 32])) ++ (textZ (g : Nat))) ++ ([10])).toArray⟩) rfl (by kernel_rfl) (fun _ _ _ h => h) henv rfl (fun _ => rn_catS (s := (((([105, 110, 32]) ++ (textZ i)) ++ ([32, 114, 101, 103, 115, 32])) ++ (textZ (g : Nat)))) (t := [10]) henv rfl rfl (by (try simp only [List.length_append, List.length_cons, List.length_nil]); omega)) ?_
  clear henv a; intro a henv
  refine sAny_one (i := 10) (by kernel_rfl) rfl rfl (op_write (s := ⟨(((((([105, 110, 32]) ++ (textZ i)) ++ ([32, 114, 101, 103, 115, 32])) ++ (textZ (g : Nat))) ++ ([10])) : List UInt8).toArray⟩) (k := 0) henv hst rfl rfl rfl rfl (by rw [ba_size]; simp only [List.length_append, List.length_cons, List.length_nil]; omega) ?_)
  clear henv hst a; intro a w61 v62 henv hst
  rw [ba_size, byteCells_app, ← List.length_append] at hst
  rw [List.nil_append] at hst
  refine ⟨.inr ⟨hst.kn.pick [1] [0, 1, 2], .inr (hst.kn.pick [] [])⟩, ?_⟩
  refine sAny_done (by kernel_rfl) ?_ _
  refine th_n ?_
  refine wp_seq ?_
  refine wp_seq ?_
  refine region_seq ?_
  revert a
  refine sA (v := .pointer (some ⟨g51, 2, none⟩)) rfl (fun _ henv => rn_fieldAddr henv fd_anvil_api_Prog_2 (ty__api_Instr.size) (by decide) rfl) ?_
  refine sA (v := .slice A0 n0 c0) rfl (fun _ henv => rn_load1 henv ty__api_Instr rfl (hst.oat (k := 1) rfl) rfl) ?_
  refine sA (v := .int .i64 (n0 : Nat)) rfl (fun _ henv => rn_len henv Tryd.underlying22 rfl) ?_
  refine mA rfl rfl ?_
  intro a henv
  refine wpList_nil ?_
  refine th_n ?_
  refine wp_block ?_
  have hbl0 : ((((((([105, 110, 32]) ++ (textZ i)) ++ ([32, 114, 101, 103, 115, 32])) ++ (textZ (g : Nat))) ++ ([10]))) : List UInt8).length ≤ 40 := by simp only [List.length_append, List.length_cons, List.length_nil]; omega
  refine wp_loop_ghost (fun mz a w => ∃ j : Nat, ∃ vb : Value, ∃ bs : List UInt8, n0 - j = mz ∧ Env 50 a [(1, .pointer (some ⟨g51, 0, none⟩)), (4, .pointer (some ⟨g54, 0, none⟩)), (24, .slice A0 n0 c0), (25, .int .i64 (n0 : Nat)), (26, .int .i64 (j : Nat))] ∧ St w0 w [bldF g54 vb (bs : List UInt8).length (byteCells (bs : List UInt8)), bk g51 #[.int .i64 i, .int .i64 (g : Nat), .slice A0 n0 c0, .slice A1 n1 c1] 25] [pfRow fI FI 1 A1 n1 c1 es1, pfRow fJ FJ 5 A0 n0 c0 es0, pfPw] ∧ j ≤ n0 ∧ bs = pThead i g ++ pTcode (es0.take j) ∧ bs.length ≤ 40 + 31 * j) _ ⟨0, v62, (((((([105, 110, 32]) ++ (textZ i)) ++ ([32, 114, 101, 103, 115, 32])) ++ (textZ (g : Nat))) ++ ([10]))), rfl, henv.sub ⟨rfl, rfl, rfl, rfl, rfl, trivial⟩, hst.pick [0, 1] [0, 1, 2] (by decide), (Nat.zero_le _), (by simp [pThead, pTcode]), (by omega)⟩ ?_
  clear henv hst a
  rintro mz a w63 ⟨j, vb, bs, rfl, henv, hst, hj, hbs, hbl⟩
  refine wp_seq ?_
  refine region_seq ?_
  refine sv (v := .bool (decide (((j : Nat) : Int) < ((n0 : Nat) : Int)))) henv rfl (rn_bin henv rfl rfl rfl) ?_
  clear henv a; intro a henv
  refine wpList_nil ?_
  refine th_n ?_
  refine wp_seq ?_
  refine if_split henv rfl (fun hc64 => ?_) (fun hc64 => ?_)
  · have hlt : j < n0 := by have := of_decide_eq_true hc64; omega
    obtain ⟨⟨a1, a2, a3, a4, a5⟩, he0⟩ : ∃ e, es0[j]? = some e := ⟨_, List.getElem?_eq_getElem (by omega)⟩
    have hmy : May (a1, a2, a3, a4, a5) g := hR.2.2 _ (List.mem_of_getElem? he0)
    have hbd := may_bd hmy (by omega)
    have ha1 : 1 ≤ a1 ∧ a1 ≤ 8 := ⟨hmy.1, hmy.2.1⟩
    refine wp_skip ?_
    refine th_n ?_
    refine wp_seq ?_
    refine wp_block ?_
    refine wp_seq ?_
    refine region_seq ?_
    revert a
    refine sA (v := .pointer (some ⟨ab A0, ao A0 + j * 5, none⟩)) rfl (fun _ henv => rn_idxR (i := j) henv Tryd.underlying22 (ty_anvil_api_Instr.size) rfl rfl (by omega) rfl (show (pfRow fJ FJ 5 A0 n0 c0 es0).P _ from (hst.pat (k := 1) rfl)).1) ?_
    refine sA (v := .agg #[.int .i64 a1, .int .i64 a2, .int .i64 a3, .int .i64 a4, .int .i64 a5]) rfl (fun _ henv => rn_loadE (i := j) (e := (a1, a2, a3, a4, a5)) henv ty_anvil_api_Instr rfl rfl fJ_len (show (pfRow fJ FJ 5 A0 n0 c0 es0).P _ from (hst.pat (k := 1) rfl)).1 (by omega) he0 rfl) ?_
    intro a henv
    refine seq_step rfl (op_alloc (c := #[.int .i64 0, .int .i64 0, .int .i64 0, .int .i64 0, .int .i64 0]) henv hst rfl zero_anvil_api_Instr rfl ?_)
    clear henv hst a; intro a w66 g65 henv hst
    refine seq_step rfl (op_store (k := 0) (c' := #[.int .i64 a1, .int .i64 a2, .int .i64 a3, .int .i64 a4, .int .i64 a5]) henv hst (ty_anvil_api_Instr.size) rfl rfl rfl rfl (by simp) rfl rfl ?_)
    clear henv hst a; intro a w67 henv hst
    refine wpList_nil ?_
    refine th_n ?_
    refine region_seq ?_
    refine sv (v := .agg #[.int .i64 a1, .int .i64 a2, .int .i64 a3, .int .i64 a4, .int .i64 a5]) henv rfl (rn_load0 henv ty_anvil_api_Instr rfl (hst.oat (k := 0) rfl) rfl) ?_
    clear henv a; intro a henv
    refine seq_step rfl (op_call henv rfl Tryd.call46 rfl (h_line (op := a1) (tr := a2) (ra := a3) (rb := a4) (cn := a5) (hst.pat (k := 2) rfl) hbd) ?_)
    rintro e w68 ⟨rfl, hb⟩
    refine ⟨_, rfl, ?_⟩
    clear henv a; intro a henv
    replace hst := hst.call hb
    have hll := pline_len (op := a1) hbd
    clear hb
    refine sv (v := .string ⟨((pTline (a1, a2, a3, a4, a5)) ++ ([10])).toArray⟩) henv rfl (rn_catS (s := (pTline (a1, a2, a3, a4, a5))) (t := [10]) henv rfl rfl (by (try simp only [List.length_append, List.length_cons, List.length_nil]); omega)) ?_
    clear henv a; intro a henv
    refine seq_step rfl (op_write (s := ⟨(((pTline (a1, a2, a3, a4, a5)) ++ ([10])) : List UInt8).toArray⟩) (k := 1) henv hst rfl rfl rfl rfl (by rw [ba_size]; simp only [List.length_append, List.length_cons, List.length_nil]; omega) ?_)
    clear henv hst a; intro a w69 v70 henv hst
    rw [ba_size, byteCells_app, ← List.length_append] at hst
    refine wpList_nil ?_
    refine bl_n (th_n ?_)
    refine region_seq ?_
    revert a
    refine sA (v := .int .i64 (j + 1 : Nat)) rfl (fun _ henv => rn_add henv rfl rfl (by rw [IntWalk.i64_in _ (by omega)]; omega)) ?_
    refine mA rfl rfl ?_
    intro a henv
    refine wpList_nil ?_
    exact th_n ⟨_, (by omega), ⟨j + 1, v70, (bs ++ ((pTline (a1, a2, a3, a4, a5)) ++ ([10]))), rfl, henv.sub ⟨rfl, rfl, rfl, rfl, rfl, trivial⟩, hst.pick [1, 2] [0, 1, 2] (by decide), (by omega), (by rw [hbs, pcode_step he0, List.append_assoc]), (by simp only [List.length_append, List.length_cons, List.length_nil]; omega)⟩⟩
  · have hje : j = n0 := by have := of_decide_eq_false hc64; omega
    have hbf : bs = pThead i g ++ pTcode es0 := by rw [hbs, List.take_of_length_le (by omega)]
    clear hbs
    rw [hje] at hbl
    refine wp_exit ?_
    refine th_x (th_x (bl_x (th_n ?_)))
    refine wp_seq ?_
    refine region_seq ?_
    refine seq_step rfl (op_write (s := ⟨([111, 117, 116] : List UInt8).toArray⟩) (k := 0) henv hst rfl rfl rfl rfl (by rw [ba_size]; simp only [List.length_append, List.length_cons, List.length_nil]; omega) ?_)
    clear henv hst a; intro a w71 v72 henv hst
    rw [ba_size, byteCells_app, ← List.length_append] at hst
    refine wpList_nil ?_
    refine th_n ?_
    refine wp_seq ?_
    refine wp_seq ?_
    refine region_seq ?_
    revert a
    refine sA (v := .pointer (some ⟨g51, 3, none⟩)) rfl (fun _ henv => rn_fieldAddr henv fd_anvil_api_Prog_3 (ty__int.size) (by decide) rfl) ?_
    refine sA (v := .slice A1 n1 c1) rfl (fun _ henv => rn_load1 henv ty__int rfl (hst.oat (k := 1) rfl) rfl) ?_
    refine sA (v := .int .i64 (n1 : Nat)) rfl (fun _ henv => rn_len henv Tryd.underlying23 rfl) ?_
    refine mA rfl rfl ?_
    intro a henv
    refine wpList_nil ?_
    refine th_n ?_
    refine wp_block ?_
    have hbl0 : ((bs ++ ([111, 117, 116])) : List UInt8).length ≤ 50 + 31 * n0 := by simp only [List.length_append, List.length_cons, List.length_nil]; omega
    refine wp_loop_ghost (fun mz a w => ∃ j : Nat, ∃ vb : Value, ∃ bs : List UInt8, n1 - j = mz ∧ Env 50 a [(4, .pointer (some ⟨g54, 0, none⟩)), (37, .slice A1 n1 c1), (38, .int .i64 (n1 : Nat)), (39, .int .i64 (j : Nat))] ∧ St w0 w [bldF g54 vb (bs : List UInt8).length (byteCells (bs : List UInt8)), bk g51 #[.int .i64 i, .int .i64 (g : Nat), .slice A0 n0 c0, .slice A1 n1 c1] 25] [pfRow fI FI 1 A1 n1 c1 es1, pfRow fJ FJ 5 A0 n0 c0 es0, pfPw] ∧ j ≤ n1 ∧ bs = pThead i g ++ pTcode es0 ++ [111, 117, 116] ++ pTouts (es1.take j) ∧ bs.length ≤ 50 + 31 * n0 + 6 * j) _ ⟨0, v72, (bs ++ ([111, 117, 116])), rfl, henv.sub ⟨rfl, rfl, rfl, rfl, trivial⟩, hst.pick [0, 1] [0, 1, 2] (by decide), (Nat.zero_le _), (by rw [hbf]; simp [pTouts]), (by omega)⟩ ?_
    clear henv hst a
    rintro mz a w73 ⟨j, vb, bs, rfl, henv, hst, hj, hbs, hbl⟩
    refine wp_seq ?_
    refine region_seq ?_
    refine sv (v := .bool (decide (((j : Nat) : Int) < ((n1 : Nat) : Int)))) henv rfl (rn_bin henv rfl rfl rfl) ?_
    clear henv a; intro a henv
    refine wpList_nil ?_
    refine th_n ?_
    refine wp_seq ?_
    refine if_split henv rfl (fun hc74 => ?_) (fun hc74 => ?_)
    · have hlt : j < n1 := by have := of_decide_eq_true hc74; omega
      obtain ⟨x, he0⟩ : ∃ e, es1[j]? = some e := ⟨_, List.getElem?_eq_getElem (by omega)⟩
      have hxr := hR.2.1 x (List.mem_of_getElem? he0)
      refine wp_skip ?_
      refine th_n ?_
      refine wp_seq ?_
      refine wp_block ?_
      refine wp_seq ?_
      refine region_seq ?_
      revert a
      refine sA (v := .pointer (some ⟨ab A1, ao A1 + j * 1, none⟩)) rfl (fun _ henv => rn_idxR (i := j) henv Tryd.underlying23 (ty_int.size) rfl rfl (by omega) rfl (show (pfRow fI FI 1 A1 n1 c1 es1).P _ from (hst.pat (k := 0) rfl)).1) ?_
      refine sA (v := .int .i64 x) rfl (fun _ henv => rn_loadE1 (i := j) (j := 0) (e := x) henv ty_int rfl rfl fI_len (by decide) (show (pfRow fI FI 1 A1 n1 c1 es1).P _ from (hst.pat (k := 0) rfl)).1 (by omega) he0 rfl) ?_
      refine aA rfl rfl ?_
      intro a henv
      refine wpList_nil ?_
      refine th_n ?_
      refine region_seq ?_
      refine sv (v := .int .i64 x) henv rfl (rn_move henv rfl) ?_
      clear henv a; intro a henv
      refine seq_step rfl (op_call henv rfl Tryd.call47 rfl (h_reg (n := x) (hst.pat (k := 2) rfl) (by omega) (by omega)) ?_)
      rintro e w76 ⟨rfl, hb⟩
      refine ⟨_, rfl, ?_⟩
      clear henv a; intro a henv
      replace hst := hst.call hb
      have hl75 := preg_len (n := x) (by omega) (by omega)
      clear hb
      refine sv (v := .string ⟨(([32]) ++ (pTreg x)).toArray⟩) henv rfl (rn_catS (s := [32]) (t := (pTreg x)) henv rfl rfl (by (try simp only [List.length_append, List.length_cons, List.length_nil]); omega)) ?_
      clear henv a; intro a henv
      refine seq_step rfl (op_write (s := ⟨((([32]) ++ (pTreg x)) : List UInt8).toArray⟩) (k := 0) henv hst rfl rfl rfl rfl (by rw [ba_size]; simp only [List.length_append, List.length_cons, List.length_nil]; omega) ?_)
      clear henv hst a; intro a w77 v78 henv hst
      rw [ba_size, byteCells_app, ← List.length_append] at hst
      refine wpList_nil ?_
      refine bl_n (th_n ?_)
      refine region_seq ?_
      revert a
      refine sA (v := .int .i64 (j + 1 : Nat)) rfl (fun _ henv => rn_add henv rfl rfl (by rw [IntWalk.i64_in _ (by omega)]; omega)) ?_
      refine mA rfl rfl ?_
      intro a henv
      refine wpList_nil ?_
      exact th_n ⟨_, (by omega), ⟨j + 1, v78, (bs ++ (([32]) ++ (pTreg x))), rfl, henv.sub ⟨rfl, rfl, rfl, rfl, trivial⟩, hst.pick [0, 1] [0, 1, 2] (by decide), (by omega), (by rw [hbs, pouts_step he0, List.append_assoc]), (by simp only [List.length_append, List.length_cons, List.length_nil]; omega)⟩⟩
    · have hbf : bs = pThead i g ++ pTcode es0 ++ [111, 117, 116] ++ pTouts es1 := by rw [hbs, List.take_of_length_le (by have := of_decide_eq_false hc74; omega)]
      refine wp_exit ?_
      refine th_x (th_x (bl_x (th_n ?_)))
      refine wp_seq ?_
      refine region_seq ?_
      refine seq_step rfl (op_write (s := ⟨([10] : List UInt8).toArray⟩) (k := 0) henv hst rfl rfl rfl rfl (by rw [ba_size]; simp only [List.length_append, List.length_cons, List.length_nil]; omega) ?_)
      clear henv hst a; intro a w79 v80 henv hst
      rw [ba_size, byteCells_app, ← List.length_append] at hst
      refine wpList_nil ?_
      refine th_n ?_
      refine wp_seq ?_
      refine region_seq ?_
      refine seq_step rfl (op_bstr (k := 0) henv hst rfl rfl rfl ?_)
      clear henv hst a; intro a w81 henv hst
      revert a
      refine aA rfl rfl ?_
      refine aA rfl rfl ?_
      intro a henv
      refine wpList_nil ?_
      refine th_n ?_
      refine wp_ret ?_
      refine leave henv (res2 Tryd.results31 (RV.tmp henv rfl) (RV.tmp henv rfl)) ?_
      exact ⟨by rw [show (bs ++ ([10])) = pTall i g es0 es1 from by rw [hbf]; simp [pTall]], hst.below⟩
set_option maxRecDepth 100000 in
set_option maxHeartbeats 8000000 in
theorem h_text_bad {i g kk : Int} {A0 A1 : Option Addr} {n0 c0 n1 c1 : Nat} {es0 : List IE} {es1 : List Int} {w0 : World} (h0 : (pfRow fJ FJ 5 A0 n0 c0 es0).P w0) (h1 : (pfRow fI FI 1 A1 n1 c1 es1).P w0) (hR : Wrong i g n0 n1 es0 es1 kk) :
    Calls Tryd.prog 31 #[.agg #[.int .i64 i, .int .i64 g, .slice A0 n0 c0, .slice A1 n1 c1]] w0 fun e w' => e = .returned (.tuple #[.string ⟨#[]⟩, .int .i64 80]) ∧ Below w0.heap.size w0 w' := by
  refine enter Tryd.func31 rfl Tryd.ntmps31 rfl ?_
  intro a henv hst
  have hlen0 := h0.2.1
  have hbig0 := Nat.le_trans h0.1.cap h0.1.big
  unfold maxLen at hbig0
  have hlen1 := h1.2.1
  have hbig1 := Nat.le_trans h1.1.cap h1.1.big
  unfold maxLen at hbig1
  replace hst := hst.argRow h0
  replace hst := hst.argRow h1
  clear h0 h1
  refine wp_seq ?_
  refine region_seq ?_
  refine seq_step rfl (op_box (c := #[.int .i64 i, .int .i64 g, .slice A0 n0 c0, .slice A1 n1 c1]) henv hst rfl rfl rfl ?_)
  clear henv hst a; intro a w52 g51 henv hst
  revert a
  refine aA rfl rfl ?_
  refine aA rfl rfl ?_
  intro a henv
  refine wpList_nil ?_
  refine th_n ?_
  refine wp_seq ?_
  refine wp_seq ?_
  refine region_seq ?_
  refine sv (v := .agg #[.int .i64 i, .int .i64 g, .slice A0 n0 c0, .slice A1 n1 c1]) henv rfl (rn_load0 henv ty_anvil_api_Prog rfl (hst.oat (k := 0) rfl) rfl) ?_
  clear henv a; intro a henv
  refine seq_step rfl (op_call henv rfl Tryd.call37 rfl (g_right_bad (hst.pat (k := 1) rfl) (hst.pat (k := 0) rfl) hR) ?_)
  rintro e w53 ⟨rfl, hb⟩
  refine ⟨_, rfl, ?_⟩
  clear henv a; intro a henv
  replace hst := hst.call hb
  clear hb
  refine sv (v := .bool true) henv rfl (rn_un henv rfl rfl) ?_
  clear henv a; intro a henv
  refine wpList_nil ?_
  refine th_n ?_
  refine if_t henv rfl (rfl) ?_
  refine wp_seq ?_
  refine region_seq ?_
  revert a
  refine aA rfl rfl ?_
  refine aA rfl rfl ?_
  intro a henv
  refine wpList_nil ?_
  refine th_n ?_
  refine wp_ret ?_
  refine th_r ?_
  refine leave henv (res2 Tryd.results31 (RV.tmp henv rfl) (RV.tmp henv rfl)) ?_
  exact ⟨rfl, hst.below⟩
set_option maxRecDepth 100000 in
set_option maxHeartbeats 8000000 in
theorem r_text {i : Int} {g : Nat} {A0 A1 : Option Addr} {n0 c0 n1 c1 : Nat} {es0 : List IE} {es1 : List Int} {w0 : World} (h0 : (pfRow fJ FJ 5 A0 n0 c0 es0).P w0) (h1 : (pfRow fI FI 1 A1 n1 c1 es1).P w0) (hR : Right i g n0 n1 es0 es1) :
    Calls Tryd.prog 32 #[.agg #[.int .i64 i, .int .i64 (g : Nat), .slice A0 n0 c0, .slice A1 n1 c1]] w0 fun e w' => e = .returned (.string ⟨(pTall i g es0 es1).toArray⟩) ∧ Below w0.heap.size w0 w' := by
  obtain ⟨hh1, hh2, hh3, hh4, hh5, hh6⟩ := hR.1
  refine enter Tryd.func32 rfl Tryd.ntmps32 rfl ?_
  intro a henv hst
  have hlen0 := h0.2.1
  have hbig0 := Nat.le_trans h0.1.cap h0.1.big
  unfold maxLen at hbig0
  have hlen1 := h1.2.1
  have hbig1 := Nat.le_trans h1.1.cap h1.1.big
  unfold maxLen at hbig1
  replace hst := hst.argRow h0
  replace hst := hst.argRow h1
  clear h0 h1
  refine wp_seq ?_
  refine region_seq ?_
  refine seq_step rfl (op_box (c := #[.int .i64 i, .int .i64 (g : Nat), .slice A0 n0 c0, .slice A1 n1 c1]) henv hst rfl rfl rfl ?_)
  clear henv hst a; intro a w52 g51 henv hst
  refine sv (v := .string ⟨#[]⟩) henv rfl (rn_assign henv rfl) ?_
  clear henv a; intro a henv
  refine wpList_nil ?_
  refine th_n ?_
  refine wp_seq ?_
  replace hst := hst.addRow 5 1
  replace hst : St w0 _ [rowF 5 1 (.slice none 0 0) 0 (byteCells ([])), bk g51 #[.int .i64 i, .int .i64 (g : Nat), .slice A0 n0 c0, .slice A1 n1 c1] 25] [pfRow fI FI 1 A1 n1 c1 es1, pfRow fJ FJ 5 A0 n0 c0 es0] := hst
  refine region_seq ?_
  refine sv (v := .slice none 0 0) henv rfl (rn_assign henv rfl) ?_
  clear henv a; intro a henv
  refine wpList_nil ?_
  refine th_n ?_
  refine wp_seq ?_
  refine region_any (n := 13) (Sk [bk g51 #[.int .i64 i, .int .i64 (g : Nat), .slice A0 n0 c0, .slice A1 n1 c1] 25] [pfRow fI FI 1 A1 n1 c1 es1, pfRow fJ FJ 5 A0 n0 c0 es0] [] []) mixed rfl henv hst ?_
  clear henv hst; intro w53 henv hst
  refine tM (i := 0) [11, 12] rfl (by kernel_rfl) (fun _ _ _ h => h) henv rfl rfl ?_
  clear henv a; intro a henv
  refine tA (i := 1) [2, 3, 4, 5, 8, 9, 10, 11, 12] (v := .pointer (some ⟨g51, 0, none⟩)) rfl (by kernel_rfl) (fun _ _ _ h => h) henv rfl (fun _ => rn_fieldAddr henv fd_anvil_api_Prog_0 (ty_int.size) (by decide) rfl) ?_
  clear henv a; intro a henv
  refine sAny_take (i := 2) [3, 4, 5, 8, 9, 10, 11, 12] (fun w' => w'.heap[g51]? = some (.cells #[.int .i64 i, .int .i64 (g : Nat), .slice A0 n0 c0, .slice A1 n1 c1] 25 (0, 0))) (v := .int .i64 i) rfl (by kernel_rfl) (fun _ _ _ h => h) (fun _ _ _ hS => hS.1.oat (k := 0) rfl) henv rfl (hst.oat (k := 1) rfl) (fun w' hg => rn_load1 henv ty_int rfl hg rfl) ?_
  clear henv a; intro a henv
  refine tA (i := 6) (rg 7 6) (v := .pointer (some ⟨g51, 1, none⟩)) rfl (by kernel_rfl) (fun _ _ _ h => h) henv rfl (fun _ => rn_fieldAddr henv fd_anvil_api_Prog_1 (ty_int.size) (by decide) rfl) ?_
  clear henv a; intro a henv
  refine sAny_take (i := 7) [8, 9, 10, 11, 12] (fun w' => w'.heap[g51]? = some (.cells #[.int .i64 i, .int .i64 (g : Nat), .slice A0 n0 c0, .slice A1 n1 c1] 25 (0, 0))) (v := .int .i64 (g : Nat)) rfl (by kernel_rfl) (fun _ _ _ h => h) (fun _ _ _ hS => hS.1.oat (k := 0) rfl) henv rfl (hst.oat (k := 1) rfl) (fun w' hg => rn_load1 henv ty_int rfl hg rfl) ?_
  clear henv a; intro a henv
  refine sAny_one (i := 3) (by kernel_rfl) rfl rfl (op_call henv rfl Tryd.call49 rfl (r_figures (n := i) (by omega) (by omega)) ?_)
  rintro e w55 ⟨rfl, hb⟩
  refine ⟨_, rfl, ?_⟩
  clear henv a; intro a henv
  replace hst := hst.call hb
  have hl54 := tz_len (n := i) (by omega) (by omega)
  clear hb
  refine ⟨.inr ⟨hst.kn.pick [1] [0, 1], .inr (hst.kn.pick [] [])⟩, ?_⟩
  refine tA (i := 4) [5, 9, 10, 11, 12] (v := .string ⟨(([105, 110, 32]) ++ (textZ i)).toArray⟩) rfl (by kernel_rfl) (fun _ _ _ h => h) henv rfl (fun _ => rn_catS (s := [105, 110, 32]) (t := (textZ i)) henv rfl rfl (by (try simp only [List.length_append, List.length_cons, List.length_nil]); omega)) ?_
  clear henv a; intro a henv
  refine tA (i := 5) (rg 9 4) (v := .string ⟨((([105, 110, 32]) ++ (textZ i)) ++ ([32, 114, 101, 103, 115, 32])).toArray⟩) rfl (by kernel_rfl) (fun _ _ _ h => h) henv rfl (fun _ => rn_catS (s := (([105, 110, 32]) ++ (textZ i))) (t := [32, 114, 101, 103, 115, 32]) henv rfl rfl (by (try simp only [List.length_append, List.length_cons, List.length_nil]); omega)) ?_
  clear henv a; intro a henv
  refine sAny_one (i := 8) (by kernel_rfl) rfl rfl (op_call henv rfl Tryd.call49 rfl (r_figures (n := (g : Nat)) (by omega) (by omega)) ?_)
  rintro e w57 ⟨rfl, hb⟩
  refine ⟨_, rfl, ?_⟩
  clear henv a; intro a henv
  replace hst := hst.call hb
  have hl56 := tz_len (n := (g : Nat)) (by omega) (by omega)
  clear hb
  refine ⟨.inr ⟨hst.kn.pick [1] [0, 1], .inr (hst.kn.pick [] [])⟩, ?_⟩
  refine tA (i := 9) [10, 11, 12] (v := .string ⟨(((([105, 110, 32]) ++ (textZ i)) ++ ([32, 114, 101, 103, 115, 32])) ++ (textZ (g : Nat))).toArray⟩) rfl (by kernel_rfl) (fun _ _ _ h => h) henv rfl (fun _ => rn_catS (s := ((([105, 110, 32]) ++ (textZ i)) ++ ([32, 114, 101, 103, 115, 32]))) (t := (textZ (g : Nat))) henv rfl rfl (by (try simp only [List.length_append, List.length_cons, List.length_nil]); omega)) ?_
  clear henv a; intro a henv
  refine tA (i := 10) [11, 12] (v := .string ⟨((((([105, 110, 32]) ++ (textZ i)) ++ ([32, 114, 101, 103, 115, 32])) ++ (textZ (g : Nat))) ++ ([10])).toArray⟩) rfl (by kernel_rfl) (fun _ _ _ h => h) henv rfl (fun _ => rn_catS (s := (((([105, 110, 32]) ++ (textZ i)) ++ ([32, 114, 101, 103, 115, 32])) ++ (textZ (g : Nat)))) (t := [10]) henv rfl rfl (by (try simp only [List.length_append, List.length_cons, List.length_nil]); omega)) ?_
  clear henv a; intro a henv
  refine sAny_one (i := 11) (by kernel_rfl) rfl rfl (op_appendStr (s := ((((([105, 110, 32]) ++ (textZ i)) ++ ([32, 114, 101, 103, 115, 32])) ++ (textZ (g : Nat))) ++ ([10]))) (k := 0) henv hst rfl Tryd.underlying62 Tryd.underlying9 inf_u8 rfl rfl rfl (by simp only [List.length_append, List.length_cons, List.length_nil]; omega) ?_)
  clear henv hst a; intro a w58 v59 henv hst
  rw [Nat.zero_add, List.nil_append] at hst
  refine ⟨.inr ⟨hst.kn.pick [1] [0, 1], .inr (hst.kn.pick [] [])⟩, ?_⟩
  refine tA (i := 12) [] (v := v59) rfl (by kernel_rfl) (fun _ _ _ h => h) henv rfl (fun _ => rn_assign henv rfl) ?_
  clear henv a; intro a henv
  refine sAny_done (by kernel_rfl) ?_ _
  refine th_n ?_
  refine wp_seq ?_
  refine wp_seq ?_
  refine region_seq ?_
  refine sv (v := .int .i64 0) henv rfl (rn_assign henv rfl) ?_
  clear henv a; intro a henv
  refine wpList_nil ?_
  refine th_n ?_
  refine wp_block ?_
  have hbl0 : (((((([105, 110, 32]) ++ (textZ i)) ++ ([32, 114, 101, 103, 115, 32])) ++ (textZ (g : Nat))) ++ ([10])) : List UInt8).length ≤ 40 := by simp only [List.length_append, List.length_cons, List.length_nil]; omega
  refine wp_loop_ghost (fun mz a w => ∃ j : Nat, ∃ vb : Value, ∃ bs : List UInt8, n0 - j = mz ∧ Env 56 a [(1, .pointer (some ⟨g51, 0, none⟩)), (4, .int .i64 (j : Nat)), (3, vb)] ∧ St w0 w [rowF 5 1 vb bs.length (byteCells bs), bk g51 #[.int .i64 i, .int .i64 (g : Nat), .slice A0 n0 c0, .slice A1 n1 c1] 25] [pfRow fI FI 1 A1 n1 c1 es1, pfRow fJ FJ 5 A0 n0 c0 es0] ∧ j ≤ n0 ∧ bs = pThead i g ++ pTcode (es0.take j) ∧ bs.length ≤ 40 + 31 * j) _ ⟨0, v59, ((((([105, 110, 32]) ++ (textZ i)) ++ ([32, 114, 101, 103, 115, 32])) ++ (textZ (g : Nat))) ++ ([10])), rfl, henv.sub ⟨rfl, rfl, rfl, trivial⟩, hst.pick [0, 1] [0, 1] (by decide), (Nat.zero_le _), (by simp [pThead, pTcode]), (by omega)⟩ ?_
  clear henv hst a
  rintro mz a w60 ⟨j, vb, bs, rfl, henv, hst, hj, hbs, hbl⟩
  refine wp_seq ?_
  refine wp_seq ?_
  refine region_seq ?_
  revert a
  refine mA rfl rfl ?_
  refine sA (v := .pointer (some ⟨g51, 2, none⟩)) rfl (fun _ henv => rn_fieldAddr henv fd_anvil_api_Prog_2 (ty__api_Instr.size) (by decide) rfl) ?_
  refine sA (v := .slice A0 n0 c0) rfl (fun _ henv => rn_load1 henv ty__api_Instr rfl (hst.oat (k := 1) rfl) rfl) ?_
  refine sA (v := .int .i64 (n0 : Nat)) rfl (fun _ henv => rn_len henv Tryd.underlying22 rfl) ?_
  refine sA (v := .bool (decide (((j : Nat) : Int) < ((n0 : Nat) : Int)))) rfl (fun _ henv => rn_bin henv rfl rfl rfl) ?_
  intro a henv
  refine wpList_nil ?_
  refine th_n ?_
  refine if_split henv rfl (fun hc61 => ?_) (fun hc61 => ?_)
  · have hlt : j < n0 := by have := of_decide_eq_true hc61; omega
    obtain ⟨⟨a1, a2, a3, a4, a5⟩, he0⟩ : ∃ e, es0[j]? = some e := ⟨_, List.getElem?_eq_getElem (by omega)⟩
    have hmy : May (a1, a2, a3, a4, a5) g := hR.2.2 _ (List.mem_of_getElem? he0)
    have hbd := may_bd hmy (by omega)
    have ha1 : 1 ≤ a1 ∧ a1 ≤ 8 := ⟨hmy.1, hmy.2.1⟩
    obtain ⟨o1, rfl⟩ : ∃ o1 : Nat, a1 = o1 := ⟨a1.toNat, by omega⟩
    refine wp_skip ?_
    refine th_n ?_
    refine wp_seq ?_
    refine wp_block ?_
    refine region_seq ?_
    revert a
    refine mA rfl rfl ?_
    refine sA (v := .pointer (some ⟨g51, 2, none⟩)) rfl (fun _ henv => rn_fieldAddr henv fd_anvil_api_Prog_2 (ty__api_Instr.size) (by decide) rfl) ?_
    refine sA (v := .slice A0 n0 c0) rfl (fun _ henv => rn_load1 henv ty__api_Instr rfl (hst.oat (k := 1) rfl) rfl) ?_
    refine mA rfl rfl ?_
    refine sA (v := .pointer (some ⟨ab A0, ao A0 + j * 5, none⟩)) rfl (fun _ henv => rn_idxR (i := j) henv Tryd.underlying22 (ty_anvil_api_Instr.size) rfl rfl (by omega) rfl (show (pfRow fJ FJ 5 A0 n0 c0 es0).P _ from (hst.pat (k := 1) rfl)).1) ?_
    refine sA (v := .agg #[.int .i64 (o1 : Nat), .int .i64 a2, .int .i64 a3, .int .i64 a4, .int .i64 a5]) rfl (fun _ henv => rn_loadE (i := j) (e := (((o1 : Nat) : Int), a2, a3, a4, a5)) henv ty_anvil_api_Instr rfl rfl fJ_len (show (pfRow fJ FJ 5 A0 n0 c0 es0).P _ from (hst.pat (k := 1) rfl)).1 (by omega) he0 rfl) ?_
    intro a henv
    refine seq_step rfl (op_call henv rfl Tryd.call50 rfl (r_line (o := o1) (tr := a2) (ra := a3) (rb := a4) (cn := a5) (by omega) (by omega) hbd) ?_)
    rintro e w62 ⟨rfl, hb⟩
    refine ⟨_, rfl, ?_⟩
    clear henv a; intro a henv
    replace hst := hst.call hb
    have hll := pline_len (op := (o1 : Nat)) hbd
    clear hb
    refine sv (v := .string ⟨((pTline ((o1 : Nat), a2, a3, a4, a5)) ++ ([10])).toArray⟩) henv rfl (rn_catS (s := (pTline ((o1 : Nat), a2, a3, a4, a5))) (t := [10]) henv rfl rfl (by (try simp only [List.length_append, List.length_cons, List.length_nil]); omega)) ?_
    clear henv a; intro a henv
    refine seq_step rfl (op_appendStr (s := ((pTline ((o1 : Nat), a2, a3, a4, a5)) ++ ([10]))) (k := 0) henv hst rfl Tryd.underlying62 Tryd.underlying9 inf_u8 rfl rfl rfl (by simp only [List.length_append, List.length_cons, List.length_nil]; omega) ?_)
    clear henv hst a; intro a w63 v64 henv hst
    rw [← List.length_append] at hst
    refine sv (v := v64) henv rfl (rn_assign henv rfl) ?_
    clear henv a; intro a henv
    refine wpList_nil ?_
    refine bl_n (th_n ?_)
    refine region_seq ?_
    revert a
    refine mA rfl rfl ?_
    refine sA (v := .int .i64 (j + 1 : Nat)) rfl (fun _ henv => rn_add henv rfl rfl (by rw [IntWalk.i64_in _ (by omega)]; omega)) ?_
    refine aA rfl rfl ?_
    intro a henv
    refine wpList_nil ?_
    exact th_n ⟨_, (by omega), ⟨j + 1, v64, (bs ++ ((pTline ((o1 : Nat), a2, a3, a4, a5)) ++ ([10]))), rfl, henv.sub ⟨rfl, rfl, rfl, trivial⟩, hst.pick [0, 1] [0, 1] (by decide), (by omega), (by rw [hbs, pcode_step he0, List.append_assoc]), (by simp only [List.length_append, List.length_cons, List.length_nil]; omega)⟩⟩
  · have hje : j = n0 := by have := of_decide_eq_false hc61; omega
    have hbf : bs = pThead i g ++ pTcode es0 := by rw [hbs, List.take_of_length_le (by omega)]
    clear hbs
    rw [hje] at hbl
    refine wp_exit ?_
    refine th_x (th_x (bl_x (th_n ?_)))
    refine wp_seq ?_
    refine region_seq ?_
    refine sv (v := vb) henv rfl (rn_move henv rfl) ?_
    clear henv a; intro a henv
    refine seq_step rfl (op_appendStr (s := [111, 117, 116]) (k := 0) henv hst rfl Tryd.underlying62 Tryd.underlying9 inf_u8 rfl rfl rfl (by simp only [List.length_append, List.length_cons, List.length_nil]; omega) ?_)
    clear henv hst a; intro a w65 v66 henv hst
    rw [← List.length_append] at hst
    refine sv (v := v66) henv rfl (rn_assign henv rfl) ?_
    clear henv a; intro a henv
    refine wpList_nil ?_
    refine th_n ?_
    refine wp_seq ?_
    refine wp_seq ?_
    refine region_seq ?_
    refine sv (v := .int .i64 0) henv rfl (rn_assign henv rfl) ?_
    clear henv a; intro a henv
    refine wpList_nil ?_
    refine th_n ?_
    refine wp_block ?_
    have hbl0 : ((bs ++ ([111, 117, 116])) : List UInt8).length ≤ 50 + 31 * n0 := by simp only [List.length_append, List.length_cons, List.length_nil]; omega
    refine wp_loop_ghost (fun mz a w => ∃ j : Nat, ∃ vb : Value, ∃ bs : List UInt8, n1 - j = mz ∧ Env 56 a [(1, .pointer (some ⟨g51, 0, none⟩)), (5, .int .i64 (j : Nat)), (3, vb)] ∧ St w0 w [rowF 5 1 vb bs.length (byteCells bs), bk g51 #[.int .i64 i, .int .i64 (g : Nat), .slice A0 n0 c0, .slice A1 n1 c1] 25] [pfRow fI FI 1 A1 n1 c1 es1, pfRow fJ FJ 5 A0 n0 c0 es0] ∧ j ≤ n1 ∧ bs = pThead i g ++ pTcode es0 ++ [111, 117, 116] ++ pTouts (es1.take j) ∧ bs.length ≤ 50 + 31 * n0 + 6 * j) _ ⟨0, v66, (bs ++ ([111, 117, 116])), rfl, henv.sub ⟨rfl, rfl, rfl, trivial⟩, hst.pick [0, 1] [0, 1] (by decide), (Nat.zero_le _), (by rw [hbf]; simp [pTouts]), (by omega)⟩ ?_
    clear henv hst a
    rintro mz a w67 ⟨j, vb, bs, rfl, henv, hst, hj, hbs, hbl⟩
    refine wp_seq ?_
    refine wp_seq ?_
    refine region_seq ?_
    revert a
    refine mA rfl rfl ?_
    refine sA (v := .pointer (some ⟨g51, 3, none⟩)) rfl (fun _ henv => rn_fieldAddr henv fd_anvil_api_Prog_3 (ty__int.size) (by decide) rfl) ?_
    refine sA (v := .slice A1 n1 c1) rfl (fun _ henv => rn_load1 henv ty__int rfl (hst.oat (k := 1) rfl) rfl) ?_
    refine sA (v := .int .i64 (n1 : Nat)) rfl (fun _ henv => rn_len henv Tryd.underlying23 rfl) ?_
    refine sA (v := .bool (decide (((j : Nat) : Int) < ((n1 : Nat) : Int)))) rfl (fun _ henv => rn_bin henv rfl rfl rfl) ?_
    intro a henv
    refine wpList_nil ?_
    refine th_n ?_
    refine if_split henv rfl (fun hc68 => ?_) (fun hc68 => ?_)
    · have hlt : j < n1 := by have := of_decide_eq_true hc68; omega
      obtain ⟨x, he0⟩ : ∃ e, es1[j]? = some e := ⟨_, List.getElem?_eq_getElem (by omega)⟩
      have hxr := hR.2.1 x (List.mem_of_getElem? he0)
      refine wp_skip ?_
      refine th_n ?_
      refine wp_seq ?_
      refine wp_block ?_
      refine region_seq ?_
      revert a
      refine mA rfl rfl ?_
      refine sA (v := .pointer (some ⟨g51, 3, none⟩)) rfl (fun _ henv => rn_fieldAddr henv fd_anvil_api_Prog_3 (ty__int.size) (by decide) rfl) ?_
      refine sA (v := .slice A1 n1 c1) rfl (fun _ henv => rn_load1 henv ty__int rfl (hst.oat (k := 1) rfl) rfl) ?_
      refine mA rfl rfl ?_
      refine sA (v := .pointer (some ⟨ab A1, ao A1 + j * 1, none⟩)) rfl (fun _ henv => rn_idxR (i := j) henv Tryd.underlying23 (ty_int.size) rfl rfl (by omega) rfl (show (pfRow fI FI 1 A1 n1 c1 es1).P _ from (hst.pat (k := 0) rfl)).1) ?_
      refine sA (v := .int .i64 x) rfl (fun _ henv => rn_loadE1 (i := j) (j := 0) (e := x) henv ty_int rfl rfl fI_len (by decide) (show (pfRow fI FI 1 A1 n1 c1 es1).P _ from (hst.pat (k := 0) rfl)).1 (by omega) he0 rfl) ?_
      intro a henv
      refine seq_step rfl (op_call henv rfl Tryd.call51 rfl (r_reg (n := x) (by omega) (by omega)) ?_)
      rintro e w70 ⟨rfl, hb⟩
      refine ⟨_, rfl, ?_⟩
      clear henv a; intro a henv
      replace hst := hst.call hb
      have hl69 := preg_len (n := x) (by omega) (by omega)
      clear hb
      refine sv (v := .string ⟨(([32]) ++ (pTreg x)).toArray⟩) henv rfl (rn_catS (s := [32]) (t := (pTreg x)) henv rfl rfl (by (try simp only [List.length_append, List.length_cons, List.length_nil]); omega)) ?_
      clear henv a; intro a henv
      refine seq_step rfl (op_appendStr (s := (([32]) ++ (pTreg x))) (k := 0) henv hst rfl Tryd.underlying62 Tryd.underlying9 inf_u8 rfl rfl rfl (by simp only [List.length_append, List.length_cons, List.length_nil]; omega) ?_)
      clear henv hst a; intro a w71 v72 henv hst
      rw [← List.length_append] at hst
      refine sv (v := v72) henv rfl (rn_assign henv rfl) ?_
      clear henv a; intro a henv
      refine wpList_nil ?_
      refine bl_n (th_n ?_)
      refine region_seq ?_
      revert a
      refine mA rfl rfl ?_
      refine sA (v := .int .i64 (j + 1 : Nat)) rfl (fun _ henv => rn_add henv rfl rfl (by rw [IntWalk.i64_in _ (by omega)]; omega)) ?_
      refine aA rfl rfl ?_
      intro a henv
      refine wpList_nil ?_
      exact th_n ⟨_, (by omega), ⟨j + 1, v72, (bs ++ (([32]) ++ (pTreg x))), rfl, henv.sub ⟨rfl, rfl, rfl, trivial⟩, hst.pick [0, 1] [0, 1] (by decide), (by omega), (by rw [hbs, pouts_step he0, List.append_assoc]), (by simp only [List.length_append, List.length_cons, List.length_nil]; omega)⟩⟩
    · have hbf : bs = pThead i g ++ pTcode es0 ++ [111, 117, 116] ++ pTouts es1 := by rw [hbs, List.take_of_length_le (by have := of_decide_eq_false hc68; omega)]
      refine wp_exit ?_
      refine th_x (th_x (bl_x (th_n ?_)))
      refine wp_seq ?_
      refine region_seq ?_
      refine sv (v := vb) henv rfl (rn_move henv rfl) ?_
      clear henv a; intro a henv
      refine seq_step rfl (op_buildSlice (z := 1) (pv := #[(0, .int .u8 10)]) (c := #[.int .u8 10]) henv hst rfl Tryd.underlying62 (ty_uint8.size) zero_uint8 (by decide) (by decide) rfl (by kernel_rfl) ?_)
      clear henv hst a; intro a w74 g73 henv hst
      refine seq_step rfl (op_append (k := 1) (j := 0) henv hst rfl Tryd.underlying62 inf_u8 rfl rfl rfl rfl rfl rfl rfl rfl (by unfold maxLen; omega) (by omega) ?_)
      clear henv hst a; intro a w75 v76 henv hst
      rw [show byteCells bs ++ (#[.int .u8 10] : Array Value).toList = byteCells (bs ++ [10]) from by simp [byteCells]] at hst
      revert a
      refine sA (v := .string ⟨(bs ++ [10]).toArray⟩) rfl (fun _ henv => rn_rowStr henv Tryd.underlying62 Tryd.underlying5 Tryd.underlying9 rfl (hst.owns (k := 1) rfl) (fun q => by have := congrArg List.length q; rw [List.length_append, List.length_singleton] at this; simp at this)) ?_
      refine aA rfl rfl ?_
      intro a henv
      refine wpList_nil ?_
      refine th_n ?_
      refine wp_ret ?_
      refine leave henv (res1 Tryd.results32 (RV.tmp henv rfl)) ?_
      exact ⟨by rw [show (bs ++ [10]) = pTall i g es0 es1 from by rw [hbf]; simp [pTall]], hst.below⟩
end Go.Proofs.YtbdngknpngcojaaDoor.W
