/- How a statement's argument, a row of numbers with their limbs, is read, with its bound. No condition. -/
import Derived.Test.YtghaenkacjgdnaaDoorM47
import Derived.Test.YtghaenkacjgdnaaDoorM34
import Derived.SizedLaws
import Derived.Test.YtghaenkacjgdnaaDoorM45
import Derived.Test.YtghaenkacjgdnaaDoorM11
import Derived.Test.YtghaenkacjgdnaaDoorM43
import Derived.Lib.SmallJoins

namespace Go.Proofs.YtghaenkacjgdnaaDoor.W
open Go.RowKit Anv Go.Lib
abbrev UE := Bool × Option Addr × Nat × Nat × List Nat
def fU (e : UE) : List Value := [.bool e.1, .slice e.2.1 e.2.2.1 e.2.2.2.1]
def FU (e : UE) : PF := pfU e.2.1 e.2.2.1 e.2.2.2.1 e.2.2.2.2
def Sz (es : List UE) : Prop := ∀ e ∈ es, e.2.2.1 ≤ 35184372088832
theorem Sz.at {es : List UE} (h : Sz es) {i : Nat} {e : UE} (hx : es[i]? = some e) : e.2.2.1 ≤ 35184372088832 := h e (List.mem_of_getElem? hx)
end Go.Proofs.YtghaenkacjgdnaaDoor.W
namespace Go.Proofs.YtghaenkacjgdnaaDoor
open Go.RowKit Anv Go.ChangeShapes Go.WideShapes Go.ChangeAt Go.Joins W
end Go.Proofs.YtghaenkacjgdnaaDoor

/- The laws' long. Printed by pv/gen_row4.py. No condition. -/
namespace Go.Proofs.YtghaenkacjgdnaaDoor.W
open Go.RowKit Anv Go.Lib
abbrev VE := Option Addr × Nat × Nat × List UE
def fV (v : VE) : List Value := [.slice v.1 v.2.1 v.2.2.1]
def FV (v : VE) : PF := pfRow fU FU 2 v.1 v.2.1 v.2.2.1 v.2.2.2
def tl (us : List UE) : Nat := (us.map fun e => e.2.2.1).sum
def tv (vs : List VE) : Nat := (vs.map fun v => v.2.1 + tl v.2.2.2).sum
def vz (e : UE) : Int := sg e.1 (val 4294967296 e.2.2.2.2)
end Go.Proofs.YtghaenkacjgdnaaDoor.W

/- row.Cmp, Same; the reference's Cmp, Same, IsZero. Printed by pv/gen_row5.py. No condition. -/
namespace Go.Proofs.YtghaenkacjgdnaaDoor.W
open Go.RowKit Anv Go.Lib
def lexc : List Int → List Int → Int
  | x :: xs, y :: ys => if (x - y).sign = 0 then lexc xs ys else (x - y).sign
  | _, _ => 0
def cmpR (xs ys : List Int) : Int := if xs.length < ys.length then -1 else if ys.length < xs.length then 1 else lexc xs ys
end Go.Proofs.YtghaenkacjgdnaaDoor.W

/- row.Widest, anvilref04.Widest. Printed by pv/gen_row6.py. No condition. -/
namespace Go.Proofs.YtghaenkacjgdnaaDoor.W
open Go.RowKit Anv Go.Lib
def wid (zs : List Int) : Int := zs.foldl (fun w z => if w < (z.natAbs : Int) then (z.natAbs : Int) else w) 0
end Go.Proofs.YtghaenkacjgdnaaDoor.W

/- What the law RowHolds needs, with no program in sight but the shape of the memory. No condition. -/
namespace Go.Proofs.YtghaenkacjgdnaaDoor.W
open Go.RowKit Anv Go.Lib
theorem tl_mem {us : List UE} {e : UE} (h : e ∈ us) : e.2.2.1 ≤ tl us := by
  induction us with
  | nil => cases h
  | cons x us ih =>
    unfold tl at *
    rw [List.map_cons, List.sum_cons]
    rcases List.mem_cons.1 h with rfl | h
    · omega
    · have := ih h; omega
end Go.Proofs.YtghaenkacjgdnaaDoor.W

/- What the laws of rows need of the memory: rows of rows written out, numbers written out, sizes. No program but the shape of the memory. No condition. -/
namespace Go.Proofs.YtghaenkacjgdnaaDoor.W
open Go.RowKit Anv Go.Lib
theorem zl_vze {w : World} {b : Bool} {A : Option Addr} {n c k : Nat} {xs : List Nat} (h : U32 w A n c xs) (hn : n ≤ k) : zl (sg b (val 4294967296 xs)) ≤ k := by
  have h2 := nl_val h
  have e : zl (sg b (val 4294967296 xs)) = nl (val 4294967296 xs) := by
    unfold sg zl
    split
    · rw [Int.natAbs_neg, Int.natAbs_natCast]
    · rw [Int.natAbs_natCast]
  omega
def Zk (k : Nat) (zs : List Int) : Prop := ∀ z ∈ zs, zl z ≤ k
theorem Zk.es {k : Nat} {es : List NE} {zs : List Int} (h : Zk k zs) (e : es.map zz = zs) : ZB k es := fun x hx => h (zz x) (e ▸ List.mem_map_of_mem hx)
theorem Zk.mono {k m : Nat} {zs : List Int} (h : Zk k zs) (hm : k ≤ m) : Zk m zs := fun z hz => Nat.le_trans (h z hz) hm
theorem Zk.map {k m : Nat} {zs : List Int} {f : Int → Int} (h : Zk k zs) (hf : ∀ z, zl z ≤ k → zl (f z) ≤ m) : Zk m (zs.map f) := fun x hx => by
  obtain ⟨z, hz, rfl⟩ := List.mem_map.1 hx
  exact hf z (h z hz)
theorem mem_zipWith {f : Int → Int → Int} {x : Int} : ∀ {xs ys : List Int}, x ∈ List.zipWith f xs ys → ∃ a ∈ xs, ∃ b ∈ ys, x = f a b
  | [], _, h => by simp at h
  | _ :: _, [], h => by simp at h
  | a :: xs, b :: ys, h => by
    rw [List.zipWith_cons_cons] at h
    rcases List.mem_cons.1 h with rfl | h
    · exact ⟨a, List.mem_cons_self .., b, List.mem_cons_self .., rfl⟩
    · obtain ⟨a, ha, b, hb, e⟩ := mem_zipWith h
      exact ⟨a, List.mem_cons_of_mem _ ha, b, List.mem_cons_of_mem _ hb, e⟩
theorem Zk.zip {k j m : Nat} {xs ys : List Int} {f : Int → Int → Int} (h : Zk k xs) (g : Zk j ys) (hf : ∀ x y, zl x ≤ k → zl y ≤ j → zl (f x y) ≤ m) : Zk m (List.zipWith f xs ys) := fun x hx => by
  obtain ⟨a, ha, b, hb, rfl⟩ := mem_zipWith hx
  exact hf a b (h a ha) (g b hb)
theorem Zk.vz {es : List UE} {k : Nat} {w : World} (h : (pfEs FU es).P w) (ht : tl es ≤ k) : Zk k (es.map vz) := by
  intro z hz
  obtain ⟨e, he, rfl⟩ := List.mem_map.1 hz
  have h1 : U32 w e.2.1 e.2.2.1 e.2.2.2.1 e.2.2.2.2 := h e he
  exact zl_vze h1 (Nat.le_trans (tl_mem he) ht)
theorem Zk.prim {k : Nat} {zs : List Int} (h : Zk k zs) : Zk k (prim zs) := h.map fun _ hz => Nat.le_trans (zl_ediv _ _) hz
theorem Zk.take {k : Nat} {zs : List Int} (h : Zk k zs) (j : Nat) : Zk k (zs.take j) := fun z hz => h z (List.mem_of_mem_take hz)
end Go.Proofs.YtghaenkacjgdnaaDoor.W

/- Rows handed as written numbers, compared; split.Parts, poly.Degree, split.Join. Printed by pv/gen_sp2.py. No condition. -/
namespace Go.Proofs.YtghaenkacjgdnaaDoor.W
open Go.RowKit Anv Go.Lib
theorem zts {es : List NE} {xs : List Int} {j : Nat} {A : Option Addr} {c : Nat} {z : Int} (hz : es.map zz = xs) (he : es[j]? = some (A, c, z)) : xs.take (j + 1) = xs.take j ++ [z] :=
  take_one (by rw [← hz, List.getElem?_map, he]; rfl)
theorem tz_inj {x y : Int} (h : textZ x = textZ y) : x = y := rz_eq (rz_text x) (h ▸ rz_text y)
theorem tz_iff {x y : Int} : textZ x = textZ y ↔ x = y := ⟨tz_inj, fun h => h ▸ rfl⟩
theorem eq_full {es fs : List NE} {xs ys : List Int} {n m : Nat} (h : es.map zz = xs) (hl : es.length = n) (k : fs.map zz = ys) (kl : fs.length = m) (hn : n = m) (he : xs.take n = ys.take n) : xs = ys := by
  rw [List.take_of_length_le (by rw [← h, List.length_map]; omega), List.take_of_length_le (by rw [← k, List.length_map]; omega)] at he
  exact he
theorem eq_ne {es fs : List NE} {xs ys : List Int} {n m : Nat} (h : es.map zz = xs) (hl : es.length = n) (k : fs.map zz = ys) (kl : fs.length = m) (hn : n ≠ m) : xs ≠ ys := fun e => hn (by
  have := congrArg List.length e
  rw [← h, ← k, List.length_map, List.length_map] at this
  omega)
theorem eq_at {es fs : List NE} {xs ys : List Int} {j : Nat} {A B : Option Addr} {c d : Nat} {x y : Int} (h : es.map zz = xs) (k : fs.map zz = ys) (he : es[j]? = some (A, c, x)) (hf : fs[j]? = some (B, d, y)) (hxy : ¬ x = y) : xs ≠ ys := by
  rintro rfl
  have h1 : xs[j]? = some x := by rw [← h, List.getElem?_map, he]; rfl
  have h2 : xs[j]? = some y := by rw [← k, List.getElem?_map, hf]; rfl
  rw [h1] at h2
  exact hxy (Option.some.inj h2)
end Go.Proofs.YtghaenkacjgdnaaDoor.W

/- split.Parts. Printed by pv/gen_sp3.py. No condition. -/
namespace Go.Proofs.YtghaenkacjgdnaaDoor.W
open Go.RowKit Anv Go.Lib
def LRow (w : World) (v : Value) (n : Nat) (zss : List (List Int)) : Prop := ∃ A c vs, v = .slice A n c ∧ (pfRow fL FL 1 A n c vs).P w ∧ vs.map lz = zss
def partL (xs : List Int) (m j : Nat) : List Int := (xs.drop (j * m)).take m ++ List.replicate (m - (xs.drop (j * m)).length) 0
end Go.Proofs.YtghaenkacjgdnaaDoor.W

/- poly.Degree, split.Join. Printed by pv/gen_sp4.py. No condition. -/
namespace Go.Proofs.YtghaenkacjgdnaaDoor.W
open Go.RowKit Anv Go.Lib
def degN (xs : List Int) : Nat := (xs.reverse.dropWhile (· == 0)).length
theorem deg_nil (xs : List Int) : degN (xs.take 0) = 0 := by rw [List.take_zero]; rfl
theorem deg_snoc0 (xs : List Int) : degN (xs ++ [0]) = degN xs := by simp [degN]
theorem deg_snoc {xs : List Int} {x : Int} (h : x ≠ 0) : degN (xs ++ [x]) = xs.length + 1 := by
  unfold degN
  rw [List.reverse_append, List.reverse_singleton, List.singleton_append, List.dropWhile_cons_of_neg (by simpa using h), List.length_cons, List.length_reverse]
def NRow (w : World) (v : Value) (n : Nat) (zs : List Int) : Prop := ∃ A c es, v = .slice A n c ∧ (pfRow fN FN 2 A n c es).P w ∧ es.map zz = zs
def szN (zss : List (List Int)) (k m : Nat) : Nat → Nat
  | 0 => m
  | i + 1 => max (szN zss k m i) (i * k + (zss.getD i []).length)
def adN (xs : List Int) (p : Nat) (l : List Int) : Nat → List Int
  | 0 => l
  | j + 1 => (adN xs p l j).set (p + j) ((adN xs p l j).getD (p + j) 0 + xs.getD j 0)
def jnN (zss : List (List Int)) (k T : Nat) : Nat → List Int
  | 0 => List.replicate T 0
  | i + 1 => adN (zss.getD i []) (i * k) (jnN zss k T i) (zss.getD i []).length
theorem adN_len (xs : List Int) (p : Nat) (l : List Int) : ∀ j, (adN xs p l j).length = l.length
  | 0 => rfl
  | j + 1 => by rw [adN, List.length_set, adN_len]
theorem zl_addm (x y : Int) : zl (x + y) ≤ max (zl x) (zl y) + 1 := by
  refine nl_le_of_lt ?_
  have h1 : x.natAbs < 4294967296 ^ max (zl x) (zl y) := Nat.lt_of_lt_of_le (lt_nl _) (Nat.pow_le_pow_right (by decide) (Nat.le_max_left ..))
  have h2 : y.natAbs < 4294967296 ^ max (zl x) (zl y) := Nat.lt_of_lt_of_le (lt_nl _) (Nat.pow_le_pow_right (by decide) (Nat.le_max_right ..))
  have h3 := Int.natAbs_add_le x y
  rw [Nat.pow_succ]
  omega
theorem zk_set {a b p c : Nat} {ps : List NE} {A : Option Addr} {v : Int} (h : Zk a (ps.map zz)) (hv : zl v ≤ b) (hab : a ≤ b) : Zk b ((ps.set p (A, c, v)).map zz) := by
  intro z hz
  rw [List.map_set] at hz
  rcases mem_set_cases hz with h1 | h1
  · exact Nat.le_trans (h z h1) hab
  · rw [h1]; exact hv
set_option maxRecDepth 100000 in
set_option maxHeartbeats 2000000 in
theorem p_deg {A0 : Option Addr} {n0 c0 : Nat} {es0 : List NE} {xs : List Int} {w0 : World} (h0 : (pfRow fN FN 2 A0 n0 c0 es0).P w0) (hz0 : es0.map zz = xs) (hn : n0 ≤ 100000000) :
    Calls Tryd.prog 23 #[.slice A0 n0 c0] w0 fun e w' => e = .returned (.int .i64 (((degN xs : Nat) : Int) - 1)) ∧ Below w0.heap.size w0 w' := by
  refine enter Tryd.func23 rfl Tryd.ntmps23 rfl ?_
  intro a henv hst
  have hlen0 := h0.2.1
  have hbig0 := Nat.le_trans h0.1.cap h0.1.big
  unfold maxLen at hbig0
  replace hst := hst.argRow h0
  clear h0
  refine wp_seq ?_
  refine region_seq ?_
  refine sv (v := .int .i64 0) henv rfl (rn_assign henv rfl) ?_
  clear henv a; intro a henv
  refine wpList_nil ?_
  refine th_n ?_
  refine wp_scope_straight ?_
  refine wp_seq ?_
  refine region_seq ?_
  revert a
  refine mA rfl rfl ?_
  refine sA (v := .int .i64 (n0 : Nat)) rfl (fun _ henv => rn_len henv Tryd.underlying32 rfl) ?_
  refine sA (v := .int .i64 (((n0 : Nat) : Int) - (1 : Int))) rfl (fun _ henv => rn_sub henv rfl rfl (IntWalk.i64_in _ (by omega))) ?_
  refine aA rfl rfl ?_
  intro a henv
  refine wpList_nil ?_
  refine th_n ?_
  refine wp_seq ?_
  refine wp_label ?_
  refine th_n ?_
  refine wp_seq ?_
  refine cut (fun a w => ∃ q : Nat, Env 18 a [(3, .int .i64 (((q : Nat) : Int) - 1))] ∧ St w0 w [] [] ∧ degN xs = q) ?_ ?_
  · refine wp_block ?_
    refine wp_loop_ghost (fun mz a w => ∃ i : Nat, i = mz ∧ Env 18 a [(0, .slice A0 n0 c0), (3, .int .i64 (((i : Nat) : Int) - 1))] ∧ St w0 w [] [pfRow fN FN 2 A0 n0 c0 es0] ∧ i ≤ n0 ∧ degN xs = degN (xs.take i)) _ ⟨n0, rfl, henv.sub ⟨rfl, rfl, trivial⟩, hst.pick [] [0] (by decide), (Nat.le_refl _), (by rw [List.take_of_length_le (by rw [← hz0, List.length_map]; omega)])⟩ ?_
    clear henv hst a
    rintro mz a w51 ⟨i, rfl, henv, hst, hi, hd⟩
    refine wp_seq ?_
    refine wp_seq ?_
    refine region_seq ?_
    revert a
    refine mA rfl rfl ?_
    refine sA (v := .bool (decide (((i : Nat) : Int) - 1 ≥ (0 : Int)))) rfl (fun _ henv => rn_bin henv rfl rfl rfl) ?_
    intro a henv
    refine wpList_nil ?_
    refine th_n ?_
    refine if_split henv rfl (fun hc52 => ?_) (fun hc52 => ?_)
    · obtain ⟨j, hj⟩ : ∃ j : Nat, ((i : Nat) : Int) - 1 = (j : Nat) := ⟨i - 1, by have := of_decide_eq_true hc52; omega⟩
      rw [hj] at henv
      obtain rfl : i = j + 1 := by omega
      clear hj
      obtain ⟨⟨A, c, x⟩, he0⟩ : ∃ e, es0[j]? = some e := ⟨_, List.getElem?_eq_getElem (by omega)⟩
      replace hst := hst.elem (k := 0) rfl he0
      replace hst : St w0 _ [] [pfZ A c x, pfRow fN FN 2 A0 n0 c0 es0] := hst
      refine wp_skip ?_
      refine th_n ?_
      refine wp_seq ?_
      refine wp_block ?_
      refine wp_seq ?_
      refine region_seq ?_
      revert a
      refine mA rfl rfl ?_
      refine mA rfl rfl ?_
      refine sA (v := .pointer (some ⟨ab A0, ao A0 + j * 2, none⟩)) rfl (fun _ henv => rn_idxR (i := j) henv Tryd.underlying32 (ty_anvil_integer_Int.size) rfl rfl (by omega) rfl (show (pfRow fN FN 2 A0 n0 c0 es0).P _ from (hst.pat (k := 1) rfl)).1) ?_
      refine sA (v := .agg #[.bool (neg x), .slice A (zl x) c]) rfl (fun _ henv => rn_loadE (i := j) (e := (A, c, x)) henv ty_anvil_integer_Int rfl rfl fN_len (show (pfRow fN FN 2 A0 n0 c0 es0).P _ from (hst.pat (k := 1) rfl)).1 (by omega) he0 rfl) ?_
      intro a henv
      refine seq_step rfl (op_call henv rfl Tryd.call14 rfl (sign_z (z := x)) ?_)
      rintro e w53 ⟨rfl, hb⟩
      refine ⟨_, rfl, ?_⟩
      clear henv a; intro a henv
      replace hst := hst.call hb
      clear hb
      refine sv (v := .bool (x.sign != (0 : Int))) henv rfl (rn_bin henv rfl rfl rfl) ?_
      clear henv a; intro a henv
      refine wpList_nil ?_
      refine th_n ?_
      refine if_split henv rfl (fun hc54 => ?_) (fun hc54 => ?_)
      · have hx0 : x ≠ 0 := fun h0 => by rw [h0] at hc54; simp at hc54
        rw [show ((j : Nat) : Int) = ((j + 1 : Nat) : Int) - 1 by omega] at henv
        refine wp_exit ?_
        refine bl_o rfl (th_x (th_x (bl_x (th_n ?_))))
        exact ⟨j + 1, henv.sub ⟨rfl, trivial⟩, hst.pick [] [] (by decide), (hd.trans (by rw [zts hz0 he0, deg_snoc hx0, List.length_take, ← hz0, List.length_map]; omega))⟩
      · have hx0 : x = 0 := Int.sign_eq_zero_iff_zero.1 (by have := hc54; simpa using this)
        refine wp_skip ?_
        refine bl_n (th_n ?_)
        refine region_seq ?_
        revert a
        refine mA rfl rfl ?_
        refine sA (v := .int .i64 (((j : Nat) : Int) - (1 : Int))) rfl (fun _ henv => rn_sub henv rfl rfl (IntWalk.i64_in _ (by omega))) ?_
        refine aA rfl rfl ?_
        intro a henv
        refine wpList_nil ?_
        exact th_n ⟨_, (by omega), ⟨j, rfl, henv.sub ⟨rfl, rfl, trivial⟩, hst.pick [] [1] (by decide), (by omega), (by rw [hd, zts hz0 he0, hx0, deg_snoc0])⟩⟩
    · obtain rfl : i = 0 := by have := of_decide_eq_false hc52; omega
      refine wp_exit ?_
      refine th_x (th_x (bl_x (th_n ?_)))
      exact ⟨0, henv.sub ⟨rfl, trivial⟩, hst.pick [] [] (by decide), (hd.trans (deg_nil _))⟩
  clear henv hst a
  rintro a w55 ⟨q, henv, hst, hq⟩
  refine wp_seq ?_
  refine region_seq ?_
  revert a
  refine mA rfl rfl ?_
  refine aA rfl rfl ?_
  intro a henv
  refine wpList_nil ?_
  refine th_n ?_
  refine wp_ret ?_
  refine sc_r ?_
  refine leave henv (res1 Tryd.results23 (RV.tmp henv rfl)) ?_
  exact ⟨by rw [hq], hst.below⟩
end Go.Proofs.YtghaenkacjgdnaaDoor.W

/- anvillaw21.works. Printed by pv/gen_sp5.py. No condition. -/
namespace Go.Proofs.YtghaenkacjgdnaaDoor.W
open Go.RowKit Anv Go.Lib
theorem zk_small {k : Nat} {zs : List Int} (h : zs.all (fun z => decide (z.natAbs < 4294967296)) = true) : Zk (k + 1) zs := fun z hz => by
  have h1 : z.natAbs < 4294967296 := of_decide_eq_true (List.all_eq_true.1 h z hz)
  have h2 : zl z ≤ 1 := nl_le_of_lt (by rw [Nat.pow_one]; exact h1)
  omega
end Go.Proofs.YtghaenkacjgdnaaDoor.W

/- poly.Mul; alike. Printed by pv/gen_sp12.py. No condition. -/
namespace Go.Proofs.YtghaenkacjgdnaaDoor.W
open Go.RowKit Anv Go.Lib
theorem sub_dec (x y : Int) : ((x - y).sign == 0) = decide (x = y) := by
  by_cases e : x = y
  · rw [e, Int.sub_self]; simp
  · rw [decide_eq_false e]
    exact beq_eq_false_iff_ne.2 fun h => e (by have := Int.sign_eq_zero_iff_zero.1 h; omega)
def sumF (xs ys : List Int) (i : Nat) : Int := xs.getD i 0 + ys.getD i 0
def mlN (xs ys : List Int) (N : Nat) : Nat → List Int
  | 0 => List.replicate N 0
  | i + 1 => adN (ys.map (xs.getD i 0 * ·)) i (mlN xs ys N i) ys.length
theorem mlN_len (xs ys : List Int) (N : Nat) : ∀ i, (mlN xs ys N i).length = N
  | 0 => List.length_replicate
  | i + 1 => by rw [mlN, adN_len, mlN_len]
theorem ml_step {ps es : List NE} {ys l : List Int} {p j : Nat} {C E A : Option Addr} {d f c : Nat} {x y z : Int} (ho : ps.map zz = adN (ys.map (x * ·)) p l j) (hz : es.map zz = ys) (he : es[j]? = some (C, d, y)) (hp : ps[p + j]? = some (E, f, z)) : (ps.set (p + j) (A, c, z + x * y)).map zz = adN (ys.map (x * ·)) p l (j + 1) := by
  have e1 : (ys.map (x * ·)).getD j 0 = x * y := by rw [List.getD_eq_getElem?_getD, List.getElem?_map, ← hz, List.getElem?_map, he]; rfl
  have e2 : (adN (ys.map (x * ·)) p l j).getD (p + j) 0 = z := by rw [← ho, List.getD_eq_getElem?_getD, List.getElem?_map, hp]; rfl
  rw [adN, e1, e2, ← ho, List.map_set]
set_option maxRecDepth 100000 in
set_option maxHeartbeats 4000000 in
theorem p_mul {A0 A1 : Option Addr} {n0 n1 c0 c1 : Nat} {es0 es1 : List NE} {xs ys : List Int} {w0 : World} (h0 : (pfRow fN FN 2 A0 n0 c0 es0).P w0) (hz0 : es0.map zz = xs) (h1 : (pfRow fN FN 2 A1 n1 c1 es1).P w0) (hz1 : es1.map zz = ys) (hk0 : Zk 1000 xs) (hk1 : Zk 1000 ys) (h00 : 0 < n0) (h01 : 0 < n1) (hn0 : n0 ≤ 300) (hn1 : n1 ≤ 300) :
    Calls Tryd.prog 24 #[.slice A0 n0 c0, .slice A1 n1 c1] w0 fun e w' => ∃ v, e = .returned (.tuple #[v, .int .i64 (n0 * n1 : Nat)]) ∧ ZRow w0.heap.size w' v (n0 + n1 - 1) (mlN xs ys (n0 + n1 - 1) n0) ∧ Below w0.heap.size w0 w' := by
  refine enter Tryd.func24 rfl Tryd.ntmps24 rfl ?_
  intro a henv hst
  have hlen0 := h0.2.1
  have hlen1 := h1.2.1
  have hbig0 := Nat.le_trans h0.1.cap h0.1.big
  unfold maxLen at hbig0
  replace hst := (hst.argRow h1).argRow h0
  clear h0 h1
  refine wp_seq ?_
  refine region_seq ?_
  revert a
  refine aA rfl rfl ?_
  refine aA rfl rfl ?_
  intro a henv
  refine wpList_nil ?_
  refine th_n ?_
  refine wp_seq ?_
  refine wp_seq ?_
  refine region_seq ?_
  revert a
  refine mA rfl rfl ?_
  refine sA (v := .int .i64 (n0 : Nat)) rfl (fun _ henv => rn_len henv Tryd.underlying32 rfl) ?_
  refine sA (v := .bool (((n0 : Nat) : Int) == (0 : Int))) rfl (fun _ henv => rn_bin henv rfl rfl rfl) ?_
  intro a henv
  rw [show (((n0 : Nat) : Int) == (0 : Int)) = false from (beq_eq_false_iff_ne.2 (by omega))] at henv
  revert a
  refine mA rfl rfl ?_
  refine gA (v := .slice A1 n1 c1) rfl rfl rfl rfl (fun _ henv => rn_move henv rfl) ?_
  refine gA (v := .int .i64 (n1 : Nat)) rfl rfl rfl rfl (fun _ henv => rn_len henv Tryd.underlying32 rfl) ?_
  refine gA (v := .bool (((n1 : Nat) : Int) == (0 : Int))) rfl rfl rfl rfl (fun _ henv => rn_bin henv rfl rfl rfl) ?_
  intro a henv
  rw [show (((n1 : Nat) : Int) == (0 : Int)) = false from (beq_eq_false_iff_ne.2 (by omega))] at henv
  refine sv (v := .bool false) henv rfl (rn_pick henv rfl rfl) ?_
  clear henv a; intro a henv
  refine wpList_nil ?_
  refine th_n ?_
  refine if_f henv rfl (rfl) ?_
  refine wp_skip ?_
  refine th_n ?_
  refine wp_seq ?_
  refine region_seq ?_
  revert a
  refine mA rfl rfl ?_
  refine sA (v := .int .i64 (n0 : Nat)) rfl (fun _ henv => rn_len henv Tryd.underlying32 rfl) ?_
  refine mA rfl rfl ?_
  refine sA (v := .int .i64 (n1 : Nat)) rfl (fun _ henv => rn_len henv Tryd.underlying32 rfl) ?_
  refine sA (v := .int .i64 (n0 + n1 : Nat)) rfl (fun _ henv => rn_add henv rfl rfl (by rw [IntWalk.i64_in _ (by omega)]; omega)) ?_
  refine sA (v := .int .i64 ((n0 + n1) - 1 : Nat)) rfl (fun _ henv => rn_sub henv rfl rfl (by rw [IntWalk.i64_in _ (by omega)]; omega)) ?_
  intro a henv
  refine seq_step rfl (op_makeS (f := fN) (e0 := (none, 0, 0)) (q := notU) (n := (n0 + n1) - 1) henv hst rfl Tryd.underlying32 inf_anvil_integer_Int rfl rfl fN_zero rfl rfl rfl (by omega) (by unfold maxLen; omega) ?_)
  clear henv hst a; intro a w52 g51 henv hst
  replace hst := hst.addNs (es_zeros (n0 + n1 - 1) _) ⟨nou_rowS, trivial⟩
  refine sv (v := .slice (some ⟨g51, 0, none⟩) ((n0 + n1) - 1) ((n0 + n1) - 1)) henv rfl (rn_assign henv rfl) ?_
  clear henv a; intro a henv
  refine wpList_nil ?_
  refine th_n ?_
  refine wp_seq ?_
  refine region_seq ?_
  refine sv (v := .int .i64 0) henv rfl (rn_assign henv rfl) ?_
  clear henv a; intro a henv
  refine wpList_nil ?_
  refine th_n ?_
  refine wp_seq ?_
  refine wp_seq ?_
  refine region_seq ?_
  revert a
  refine mA rfl rfl ?_
  refine sA (v := .int .i64 (n0 : Nat)) rfl (fun _ henv => rn_len henv Tryd.underlying32 rfl) ?_
  refine mA rfl rfl ?_
  intro a henv
  refine wpList_nil ?_
  refine th_n ?_
  refine wp_block ?_
  refine wp_loop_ghost (fun mz a w => ∃ i : Nat, ∃ q : Nat, ∃ os : List NE, n0 - i = mz ∧ Env 62 a [(1, .slice A1 n1 c1), (6, .slice (some ⟨g51, 0, none⟩) ((n0 + n1) - 1) ((n0 + n1) - 1)), (7, .int .i64 (q : Nat)), (27, .slice A0 n0 c0), (28, .int .i64 (n0 : Nat)), (29, .int .i64 (i : Nat))] ∧ St w0 w [rowS notU 28 2 (some ⟨g51, 0, none⟩) ((n0 + n1) - 1) ((n0 + n1) - 1) (fl fN os)] [pfRow fN FN 2 A0 n0 c0 es0, pfRow fN FN 2 A1 n1 c1 es1, pfEs FN os] ∧ i ≤ n0 ∧ q = i * n1 ∧ os.map zz = mlN xs ys ((n0 + n1) - 1) i ∧ Zk (2000 + 300 * i) (os.map zz)) _ ⟨0, 0, (List.replicate ((n0 + n1) - 1) (none, 0, 0)), rfl, henv.sub ⟨rfl, rfl, rfl, rfl, rfl, rfl, trivial⟩, hst.pick [0] [1, 2, 0] (by decide), (Nat.zero_le _), (by omega), (by rw [List.map_replicate]; rfl), (fun z hz => by rw [List.map_replicate] at hz; rw [List.eq_of_mem_replicate hz]; exact Nat.le_trans (by rw [zl_zero]; omega) (Nat.zero_le _))⟩ ?_
  clear henv hst a
  rintro mz a w53 ⟨i, q, os, rfl, henv, hst, hi, hq, ho, hkz⟩
  refine wp_seq ?_
  refine region_seq ?_
  refine sv (v := .bool (decide (((i : Nat) : Int) < ((n0 : Nat) : Int)))) henv rfl (rn_bin henv rfl rfl rfl) ?_
  clear henv a; intro a henv
  refine wpList_nil ?_
  refine th_n ?_
  refine wp_seq ?_
  refine if_split henv rfl (fun hc54 => ?_) (fun hc54 => ?_)
  · have hlt0 : i < n0 := by have := of_decide_eq_true hc54; omega
    obtain ⟨⟨A, c, x⟩, he0⟩ : ∃ e, es0[i]? = some e := ⟨_, List.getElem?_eq_getElem (by omega)⟩
    replace hst := hst.elem (k := 0) rfl he0
    replace hst : St w0 _ [rowS notU 28 2 (some ⟨g51, 0, none⟩) ((n0 + n1) - 1) ((n0 + n1) - 1) (fl fN os)] [pfZ A c x, pfRow fN FN 2 A0 n0 c0 es0, pfRow fN FN 2 A1 n1 c1 es1, pfEs FN os] := hst
    replace hst : St w0 _ [rowS notU 28 2 (some ⟨g51, 0, none⟩) ((n0 + n1) - 1) ((n0 + n1) - 1) (fl fN os)] [pfZ A c x, pfRow fN FN 2 A0 n0 c0 es0, pfRow fN FN 2 A1 n1 c1 es1, pfEs FN os] := hst
    have hx1 : zl x ≤ 1000 := hk0.es hz0 _ (List.mem_of_getElem? he0)
    have hin : i * n1 ≤ 90000 := Nat.mul_le_mul (show i ≤ 300 by omega) hn1
    have hxi : xs.getD i 0 = x := by rw [List.getD_eq_getElem?_getD, ← hz0, List.getElem?_map, he0]; rfl
    have hyl : ys.length = n1 := by rw [← hz1, List.length_map, hlen1]
    refine wp_skip ?_
    refine th_n ?_
    refine wp_seq ?_
    refine wp_block ?_
    refine wp_seq ?_
    refine region_seq ?_
    revert a
    refine mA rfl rfl ?_
    refine sA (v := .pointer (some ⟨ab A0, ao A0 + i * 2, none⟩)) rfl (fun _ henv => rn_idxR (i := i) henv Tryd.underlying32 (ty_anvil_integer_Int.size) rfl rfl (by omega) rfl (show (pfRow fN FN 2 A0 n0 c0 es0).P _ from (hst.pat (k := 1) rfl)).1) ?_
    refine sA (v := .agg #[.bool (neg x), .slice A (zl x) c]) rfl (fun _ henv => rn_loadE (i := i) (e := (A, c, x)) henv ty_anvil_integer_Int rfl rfl fN_len (show (pfRow fN FN 2 A0 n0 c0 es0).P _ from (hst.pat (k := 1) rfl)).1 (by omega) he0 rfl) ?_
    intro a henv
    refine seq_step rfl (op_alloc (c := #[.bool (neg 0), .slice none (zl 0) 0]) henv hst rfl zero_anvil_integer_Int zcells ?_)
    clear henv hst a; intro a w56 g55 henv hst
    refine sv (v := .int .i64 (i : Nat)) henv rfl (rn_assign henv rfl) ?_
    clear henv a; intro a henv
    refine seq_step rfl (op_store (k := 0) (c' := #[.bool (neg x), .slice A (zl x) c]) henv hst (ty_anvil_integer_Int.size) rfl rfl rfl rfl (by simp) rfl rfl ?_)
    clear henv hst a; intro a w57 henv hst
    refine wpList_nil ?_
    refine th_n ?_
    refine wp_seq ?_
    refine region_seq ?_
    revert a
    refine mA rfl rfl ?_
    refine sA (v := .int .i64 (n1 : Nat)) rfl (fun _ henv => rn_len henv Tryd.underlying32 rfl) ?_
    refine mA rfl rfl ?_
    intro a henv
    refine wpList_nil ?_
    refine th_n ?_
    refine wp_block ?_
    refine wp_loop_ghost (fun mz a w => ∃ j : Nat, ∃ p : Nat, ∃ ps : List NE, n1 - j = mz ∧ Env 62 a [(1, .slice A1 n1 c1), (6, .slice (some ⟨g51, 0, none⟩) ((n0 + n1) - 1) ((n0 + n1) - 1)), (7, .int .i64 (p : Nat)), (8, .int .i64 (i : Nat)), (9, .pointer (some ⟨g55, 0, none⟩)), (27, .slice A0 n0 c0), (28, .int .i64 (n0 : Nat)), (29, .int .i64 (i : Nat)), (34, .slice A1 n1 c1), (35, .int .i64 (n1 : Nat)), (36, .int .i64 (j : Nat))] ∧ St w0 w [rowS notU 28 2 (some ⟨g51, 0, none⟩) ((n0 + n1) - 1) ((n0 + n1) - 1) (fl fN ps), bk g55 #[.bool (neg x), .slice A (zl x) c] 28] [pfRow fN FN 2 A0 n0 c0 es0, pfRow fN FN 2 A1 n1 c1 es1, pfZ A c x, pfEs FN ps] ∧ j ≤ n1 ∧ p = q + j ∧ ps.map zz = adN (ys.map (x * ·)) i (mlN xs ys ((n0 + n1) - 1) i) j ∧ Zk (2000 + 300 * i + j) (ps.map zz)) _ ⟨0, q, os, rfl, henv.sub ⟨rfl, rfl, rfl, rfl, rfl, rfl, rfl, rfl, rfl, rfl, rfl, trivial⟩, hst.pick [1, 0] [1, 2, 0, 3] (by decide), (Nat.zero_le _), (by omega), ho, hkz⟩ ?_
    clear henv hst a
    rintro mz a w58 ⟨j, p, ps, rfl, henv, hst, hj, hp, ho2, hkz2⟩
    refine wp_seq ?_
    refine region_seq ?_
    refine sv (v := .bool (decide (((j : Nat) : Int) < ((n1 : Nat) : Int)))) henv rfl (rn_bin henv rfl rfl rfl) ?_
    clear henv a; intro a henv
    refine wpList_nil ?_
    refine th_n ?_
    refine wp_seq ?_
    refine if_split henv rfl (fun hc59 => ?_) (fun hc59 => ?_)
    · have hlt : j < n1 := by have := of_decide_eq_true hc59; omega
      have hpl : ps.length = n0 + n1 - 1 := by rw [← List.length_map (f := zz), ho2, adN_len, mlN_len]
      obtain ⟨⟨C, d, y⟩, he1⟩ : ∃ e, es1[j]? = some e := ⟨_, List.getElem?_eq_getElem (by omega)⟩
      replace hst := hst.elem (k := 1) rfl he1
      replace hst : St w0 _ [rowS notU 28 2 (some ⟨g51, 0, none⟩) ((n0 + n1) - 1) ((n0 + n1) - 1) (fl fN ps), bk g55 #[.bool (neg x), .slice A (zl x) c] 28] [pfZ C d y, pfRow fN FN 2 A0 n0 c0 es0, pfRow fN FN 2 A1 n1 c1 es1, pfZ A c x, pfEs FN ps] := hst
      replace hst : St w0 _ [rowS notU 28 2 (some ⟨g51, 0, none⟩) ((n0 + n1) - 1) ((n0 + n1) - 1) (fl fN ps), bk g55 #[.bool (neg x), .slice A (zl x) c] 28] [pfZ C d y, pfRow fN FN 2 A0 n0 c0 es0, pfRow fN FN 2 A1 n1 c1 es1, pfZ A c x, pfEs FN ps] := hst
      obtain ⟨⟨E, f, z⟩, he2⟩ : ∃ e, ps[i + j]? = some e := ⟨_, List.getElem?_eq_getElem (by omega)⟩
      replace hst := hst.elemE (k := 4) rfl he2
      replace hst : St w0 _ [rowS notU 28 2 (some ⟨g51, 0, none⟩) ((n0 + n1) - 1) ((n0 + n1) - 1) (fl fN ps), bk g55 #[.bool (neg x), .slice A (zl x) c] 28] [pfZ E f z, pfZ C d y, pfRow fN FN 2 A0 n0 c0 es0, pfRow fN FN 2 A1 n1 c1 es1, pfZ A c x, pfEs FN ps] := hst
      have hy1 : zl y ≤ 1000 := hk1.es hz1 _ (List.mem_of_getElem? he1)
      have hzz : zl z ≤ 2000 + 300 * i + j := hkz2.es rfl _ (List.mem_of_getElem? he2)
      have hxy := zl_mul x y
      refine wp_skip ?_
      refine th_n ?_
      refine wp_seq ?_
      refine wp_block ?_
      refine wp_seq ?_
      refine region_seq ?_
      revert a
      refine mA rfl rfl ?_
      refine sA (v := .pointer (some ⟨ab A1, ao A1 + j * 2, none⟩)) rfl (fun _ henv => rn_idxR (i := j) henv Tryd.underlying32 (ty_anvil_integer_Int.size) rfl rfl (by omega) rfl (show (pfRow fN FN 2 A1 n1 c1 es1).P _ from (hst.pat (k := 3) rfl)).1) ?_
      refine sA (v := .agg #[.bool (neg y), .slice C (zl y) d]) rfl (fun _ henv => rn_loadE (i := j) (e := (C, d, y)) henv ty_anvil_integer_Int rfl rfl fN_len (show (pfRow fN FN 2 A1 n1 c1 es1).P _ from (hst.pat (k := 3) rfl)).1 (by omega) he1 rfl) ?_
      intro a henv
      refine seq_step rfl (op_alloc (c := #[.bool (neg 0), .slice none (zl 0) 0]) henv hst rfl zero_anvil_integer_Int zcells ?_)
      clear henv hst a; intro a w61 g60 henv hst
      refine sv (v := .int .i64 (j : Nat)) henv rfl (rn_assign henv rfl) ?_
      clear henv a; intro a henv
      refine seq_step rfl (op_store (k := 0) (c' := #[.bool (neg y), .slice C (zl y) d]) henv hst (ty_anvil_integer_Int.size) rfl rfl rfl rfl (by simp) rfl rfl ?_)
      clear henv hst a; intro a w62 henv hst
      refine wpList_nil ?_
      refine th_n ?_
      refine wp_seq ?_
      refine region_any (n := 16) (Sk [bk g60 #[.bool (neg y), .slice C (zl y) d] 28, bk g55 #[.bool (neg x), .slice A (zl x) c] 28] [pfZ E f z, pfZ C d y, pfRow fN FN 2 A0 n0 c0 es0, pfRow fN FN 2 A1 n1 c1 es1, pfZ A c x, pfEs FN ps] [15] [rowS notU 28 2 (some ⟨g51, 0, none⟩) ((n0 + n1) - 1) ((n0 + n1) - 1) (fl fN ps)]) mixed rfl henv hst ?_
      clear henv hst; intro w63 henv hst
      refine tM (i := 0) [14, 15] rfl (by kernel_rfl) (fun _ _ _ h => h) henv rfl rfl ?_
      clear henv a; intro a henv
      refine tM (i := 1) [3, 14, 15] rfl (by kernel_rfl) (fun _ _ _ h => h) henv rfl rfl ?_
      clear henv a; intro a henv
      refine tM (i := 2) [3, 14, 15] rfl (by kernel_rfl) (fun _ _ _ h => h) henv rfl rfl ?_
      clear henv a; intro a henv
      refine tA (i := 3) [14, 15] (v := .int .i64 (i + j : Nat)) rfl (by kernel_rfl) (fun _ _ _ h => h) henv rfl (fun _ => rn_add henv rfl rfl (by rw [IntWalk.i64_in _ (by omega)]; omega)) ?_
      clear henv a; intro a henv
      refine tM (i := 4) [8, 9, 13, 14, 15] rfl (by kernel_rfl) (fun _ _ _ h => h) henv rfl rfl ?_
      clear henv a; intro a henv
      refine tM (i := 5) [7, 8, 9, 13, 14, 15] rfl (by kernel_rfl) (fun _ _ _ h => h) henv rfl rfl ?_
      clear henv a; intro a henv
      refine tM (i := 6) [7, 8, 9, 13, 14, 15] rfl (by kernel_rfl) (fun _ _ _ h => h) henv rfl rfl ?_
      clear henv a; intro a henv
      refine tA (i := 7) [8, 9, 13, 14, 15] (v := .int .i64 (i + j : Nat)) rfl (by kernel_rfl) (fun _ _ _ h => h) henv rfl (fun _ => rn_add henv rfl rfl (by rw [IntWalk.i64_in _ (by omega)]; omega)) ?_
      clear henv a; intro a henv
      refine sAny_take (i := 8) [9, 13, 14, 15] (fun w' => (rowS notU 28 2 (some ⟨g51, 0, none⟩) ((n0 + n1) - 1) ((n0 + n1) - 1) (fl fN ps)).P w') (v := .pointer (some ⟨ab (some ⟨g51, 0, none⟩), ao (some ⟨g51, 0, none⟩) + (i + j) * 2, none⟩)) rfl (by kernel_rfl) (fun _ _ _ h => h) (fun _ _ hj hS => (hS.two rfl hj).owns (k := 0) rfl) henv rfl (hst.owns (k := 1) rfl) (fun w' hg => rn_idxR (i := i + j) henv Tryd.underlying32 (ty_anvil_integer_Int.size) rfl rfl (by omega) rfl (rowS_rd hg)) ?_
      clear henv a; intro a henv
      refine sAny_take (i := 9) [13, 14, 15] (fun w' => (rowS notU 28 2 (some ⟨g51, 0, none⟩) ((n0 + n1) - 1) ((n0 + n1) - 1) (fl fN ps)).P w') (v := .agg #[.bool (neg z), .slice E (zl z) f]) rfl (by kernel_rfl) (fun _ _ _ h => h) (fun _ _ hj hS => (hS.two rfl hj).owns (k := 0) rfl) henv rfl (hst.owns (k := 1) rfl) (fun w' hg => rn_loadE (i := i + j) (e := (E, f, z)) henv ty_anvil_integer_Int rfl rfl fN_len (rowS_rd hg) (by omega) he2 rfl) ?_
      clear henv a; intro a henv
      refine tL (i := 10) 1 2 (rg 12 4) rfl (by kernel_rfl) (fun _ _ _ h => h) henv rfl ty_anvil_integer_Int rfl hst rfl rfl rfl ?_
      clear henv a; intro a henv
      refine tL (i := 11) 0 0 (rg 12 4) rfl (by kernel_rfl) (fun _ _ _ h => h) henv rfl ty_anvil_integer_Int rfl hst rfl rfl rfl ?_
      clear henv a; intro a henv
      have hs64 := zl_mul x y
      refine sAny_one (i := 12) (by kernel_rfl) rfl rfl (op_call henv rfl Tryd.call43 rfl (mul_z (x := x) (y := y) (show ZIn _ A c x from hst.pat (k := 4) rfl) (show ZIn _ C d y from hst.pat (k := 1) rfl) (by omega) (by omega)) ?_)
      rintro e w68 ⟨_, rfl, ⟨A65, c66, rfl, hz67⟩, hb⟩
      refine ⟨_, rfl, ?_⟩
      clear henv a; intro a henv
      replace hst := (hst.call hb).addZ hz67 ⟨nou_bk rfl, nou_rowS, nou_bk rfl, trivial⟩
      clear hz67
      clear hb
      refine ⟨.inr ⟨hst.kn.pick [0, 2] (rg 1 6), .inr (hst.kn.pick [1] [])⟩, ?_⟩
      have hs69 := zl_add z (x * y)
      refine sAny_one (i := 13) (by kernel_rfl) rfl rfl (op_call henv rfl Tryd.call49 rfl (add_z (x := z) (y := x * y) (show ZIn _ E f z from hst.pat (k := 1) rfl) (show ZIn _ A65 c66 (x * y) from hst.pat (k := 0) rfl) (by omega) (by omega)) ?_)
      rintro e w73 ⟨_, rfl, ⟨A70, c71, rfl, hz72⟩, hb⟩
      refine ⟨_, rfl, ?_⟩
      clear henv a; intro a henv
      replace hst := (hst.call hb).addZ hz72 ⟨nou_bk rfl, nou_rowS, nou_bk rfl, trivial⟩
      clear hz72
      clear hb
      refine ⟨.inr ⟨hst.kn.pick [0, 2] (rg 2 6), .inr (hst.kn.pick [1] [])⟩, ?_⟩
      refine sAny_take (i := 14) [15] (fun w' => (rowS notU 28 2 (some ⟨g51, 0, none⟩) ((n0 + n1) - 1) ((n0 + n1) - 1) (fl fN ps)).P w') (v := .pointer (some ⟨ab (some ⟨g51, 0, none⟩), ao (some ⟨g51, 0, none⟩) + (i + j) * 2, none⟩)) rfl (by kernel_rfl) (fun _ _ _ h => h) (fun _ _ hj hS => (hS.two rfl hj).owns (k := 0) rfl) henv rfl (hst.owns (k := 1) rfl) (fun w' hg => rn_idxR (i := i + j) henv Tryd.underlying32 (ty_anvil_integer_Int.size) rfl rfl (by omega) rfl (rowS_rd hg)) ?_
      clear henv a; intro a henv
      refine sAny_one (i := 15) (by kernel_rfl) rfl rfl (op_storeS (i := i + j) (e := (A70, c71, (z + (x * y)))) (k := 1) henv hst (ty_anvil_integer_Int.size) rfl rfl rfl rfl fN_len (by omega) hpl rfl rfl rfl ?_)
      clear henv hst a; intro a w74 henv hst
      replace hst := hst.setEs (e := (A70, c71, (z + (x * y)))) (i := 7) (j := 0) rfl rfl (i + j)
      refine ⟨.inr ⟨hst.kn.pick [0, 2] (rg 3 6), .inl rfl⟩, ?_⟩
      refine sAny_done (by kernel_rfl) ?_ _
      refine th_n ?_
      refine region_seq ?_
      revert a
      refine mA rfl rfl ?_
      refine sA (v := .int .i64 (p + 1 : Nat)) rfl (fun _ henv => rn_add henv rfl rfl (by rw [IntWalk.i64_in _ (by omega)]; omega)) ?_
      refine aA rfl rfl ?_
      intro a henv
      refine wpList_nil ?_
      refine bl_n (th_n ?_)
      refine region_seq ?_
      revert a
      refine sA (v := .int .i64 (j + 1 : Nat)) rfl (fun _ henv => rn_add henv rfl rfl (by rw [IntWalk.i64_in _ (by omega)]; omega)) ?_
      refine mA rfl rfl ?_
      intro a henv
      refine wpList_nil ?_
      exact th_n ⟨_, (by omega), ⟨j + 1, p + 1, (ps.set (i + j) (A70, c71, (z + (x * y)))), rfl, henv.sub ⟨rfl, rfl, rfl, rfl, rfl, rfl, rfl, rfl, rfl, rfl, rfl, trivial⟩, hst.pick [1, 2] [5, 6, 7, 0] (by decide), (by omega), (by omega), (ml_step ho2 hz1 he1 he2), (zk_set hkz2 (by have := zl_addm z (x * y); have := zl_mul x y; omega) (by omega))⟩⟩
    · obtain rfl : n1 = j := by have := of_decide_eq_false hc59; omega
      refine wp_exit ?_
      refine th_x (th_x (bl_x (bl_n (th_n ?_))))
      refine region_seq ?_
      revert a
      refine sA (v := .int .i64 (i + 1 : Nat)) rfl (fun _ henv => rn_add henv rfl rfl (by rw [IntWalk.i64_in _ (by omega)]; omega)) ?_
      refine mA rfl rfl ?_
      intro a henv
      refine wpList_nil ?_
      exact th_n ⟨_, (by omega), ⟨i + 1, p, ps, rfl, henv.sub ⟨rfl, rfl, rfl, rfl, rfl, rfl, trivial⟩, hst.pick [0] [0, 1, 3] (by decide), (by omega), (by rw [Nat.succ_mul]; omega), (by rw [ho2, mlN, hyl, hxi]), (hkz2.mono (by omega))⟩⟩
  · obtain rfl : n0 = i := by have := of_decide_eq_false hc54; omega
    refine wp_exit ?_
    refine th_x (th_x (bl_x (th_n ?_)))
    refine wp_seq ?_
    refine region_seq ?_
    revert a
    refine mA rfl rfl ?_
    refine mA rfl rfl ?_
    refine aA rfl rfl ?_
    refine aA rfl rfl ?_
    intro a henv
    refine wpList_nil ?_
    refine th_n ?_
    refine wp_ret ?_
    refine leave henv (res2 Tryd.results24 (RV.tmp henv rfl) (RV.tmp henv rfl)) ?_
    subst hq
    exact ⟨_, rfl, ⟨_, _, os, rfl, hst.newRow (k := 0) (j := 2) rfl rfl, (by rw [← List.length_map (f := zz), ho, mlN_len]), ho⟩, hst.below⟩
end Go.Proofs.YtghaenkacjgdnaaDoor.W

/- Plain laws of polynomials: coefficients, products, degrees, values. No program. No condition. -/
namespace Go.Proofs.YtghaenkacjgdnaaDoor.W
open Go.RowKit Anv Go.Lib
def sg (f : Nat → Int) : Nat → Int
  | 0 => 0
  | n + 1 => sg f n + f n
theorem sg_add (f g : Nat → Int) : ∀ n, sg (fun i => f i + g i) n = sg f n + sg g n
  | 0 => rfl
  | n + 1 => by rw [sg, sg, sg, sg_add f g n]; omega
theorem sg_mul (c : Int) (f : Nat → Int) : ∀ n, sg (fun i => c * f i) n = c * sg f n
  | 0 => (Int.mul_zero c).symm
  | n + 1 => by rw [sg, sg, sg_mul c f n, Int.mul_add]
abbrev co (xs : List Int) (k : Nat) : Int := xs.getD k 0
theorem co_off {xs : List Int} {k : Nat} (h : xs.length ≤ k) : co xs k = 0 := by
  rw [co, List.getD_eq_getElem?_getD, List.getElem?_eq_none h]; rfl
theorem co_ext {xs ys : List Int} (hl : xs.length = ys.length) (h : ∀ k, co xs k = co ys k) : xs = ys := by
  apply List.ext_getElem?
  intro k
  rcases Nat.lt_or_ge k xs.length with h1 | h1
  · have := h k
    rw [co, co, List.getD_eq_getElem?_getD, List.getD_eq_getElem?_getD, List.getElem?_eq_getElem h1, List.getElem?_eq_getElem (by omega)] at this
    rw [List.getElem?_eq_getElem h1, List.getElem?_eq_getElem (by omega)]
    exact congrArg some this
  · rw [List.getElem?_eq_none h1, List.getElem?_eq_none (by omega)]
theorem co_map {f : Nat → Int} {n k : Nat} (h : k < n) : co ((List.range n).map f) k = f k := by
  rw [co, List.getD_eq_getElem?_getD, List.getElem?_map, List.getElem?_range h]; rfl
def cv (f g : Nat → Int) (k : Nat) : Int := sg (fun i => f i * g (k - i)) (k + 1)
def mulF (xs ys : List Int) : List Int := if xs.length = 0 ∨ ys.length = 0 then [] else mlN xs ys (xs.length + ys.length - 1) xs.length
def addF (xs ys : List Int) : List Int := (List.range (max xs.length ys.length)).map (sumF xs ys)
def difF (xs ys : List Int) (i : Nat) : Int := xs.getD i 0 - ys.getD i 0
def subF (xs ys : List Int) : List Int := (List.range (max xs.length ys.length)).map (difF xs ys)
theorem deg_len (xs : List Int) : degN xs ≤ xs.length := by
  unfold degN
  refine Nat.le_trans (List.dropWhile_sublist _).length_le ?_
  rw [List.length_reverse]
  exact Nat.le_refl _
theorem co_app {xs : List Int} {x : Int} {k : Nat} (h : k < xs.length) : co (xs ++ [x]) k = co xs k := by
  rw [co, co, List.getD_eq_getElem?_getD, List.getD_eq_getElem?_getD, List.getElem?_append_left h]
theorem co_last (xs : List Int) (x : Int) : co (xs ++ [x]) xs.length = x := by
  rw [co, List.getD_eq_getElem?_getD, List.getElem?_append_right (Nat.le_refl _), Nat.sub_self]; rfl
theorem co_snoc0 (xs : List Int) (k : Nat) : co (xs ++ [0]) k = co xs k := by
  rcases Nat.lt_or_ge k xs.length with h | h
  · exact co_app h
  · rcases Nat.lt_or_ge xs.length k with h1 | h1
    · rw [co_off (by rw [List.length_append]; simp; omega), co_off h]
    · obtain rfl : k = xs.length := by omega
      rw [co_last, co_off (Nat.le_refl _)]
theorem deg_le : ∀ (m : Nat) (xs : List Int), xs.length = m → ∀ n, degN xs ≤ n ↔ ∀ k, n ≤ k → co xs k = 0 := by
  intro m
  induction m with
  | zero =>
    intro xs hl n
    obtain rfl := List.eq_nil_of_length_eq_zero hl
    exact ⟨fun _ k _ => rfl, fun _ => Nat.zero_le _⟩
  | succ m ih =>
    intro xs hl n
    rcases List.eq_nil_or_concat xs with rfl | ⟨l, x, rfl⟩
    · cases hl
    · rw [List.concat_eq_append] at hl ⊢
      rw [List.length_append] at hl
      have hl2 : l.length = m := by simpa using hl
      clear hl
      by_cases hx : x = 0
      · subst hx
        rw [deg_snoc0, ih l hl2]
        exact ⟨fun h k hk => (co_snoc0 l k).trans (h k hk), fun h k hk => (co_snoc0 l k).symm.trans (h k hk)⟩
      · rw [deg_snoc hx]
        refine ⟨fun h k hk => co_off (by rw [List.length_append]; simp; omega), fun h => ?_⟩
        refine Nat.lt_of_not_le fun h1 => hx ?_
        rw [← co_last l x]
        exact h _ h1
theorem deg_iff (xs : List Int) (n : Nat) : degN xs ≤ n ↔ ∀ k, n ≤ k → co xs k = 0 := deg_le _ xs rfl n
def trimN (xs : List Int) : List Int := xs.take (degN xs)
theorem trim_len (xs : List Int) : (trimN xs).length = degN xs := by
  rw [trimN, List.length_take]
  exact Nat.min_eq_left (deg_len xs)
theorem co_trim (xs : List Int) (k : Nat) : co (trimN xs) k = co xs k := by
  rcases Nat.lt_or_ge k (degN xs) with h | h
  · rw [co, co, List.getD_eq_getElem?_getD, List.getD_eq_getElem?_getD, trimN, List.getElem?_take_of_lt h]
  · rw [co_off (by rw [trim_len]; exact h), (deg_iff xs (degN xs)).1 (Nat.le_refl _) k h]
theorem trim_eq {xs ys : List Int} : trimN xs = trimN ys ↔ ∀ k, co xs k = co ys k := by
  constructor
  · intro h k
    rw [← co_trim xs, ← co_trim ys, h]
  · intro h
    have e : degN xs = degN ys := Nat.le_antisymm ((deg_iff _ _).2 fun k hk => (h k).trans ((deg_iff _ _).1 (Nat.le_refl _) k hk)) ((deg_iff _ _).2 fun k hk => (h k).symm.trans ((deg_iff _ _).1 (Nat.le_refl _) k hk))
    exact co_ext (by rw [trim_len, trim_len, e]) fun k => by rw [co_trim, co_trim, h]
def hval (a b : Int) : List Int → Int
  | [] => 0
  | x :: xs => hval a b xs * a + x * b ^ xs.length
theorem hv_drop (a b : Int) {xs : List Int} {i : Nat} {x : Int} (h : xs[i]? = some x) : hval a b (xs.drop i) = hval a b (xs.drop (i + 1)) * a + x * b ^ (xs.length - 1 - i) := by
  have hi : i < xs.length := (List.getElem?_eq_some_iff.1 h).1
  have hx : xs[i] = x := (List.getElem?_eq_some_iff.1 h).2
  rw [List.drop_eq_getElem_cons hi, hval, hx, List.length_drop, show xs.length - (i + 1) = xs.length - 1 - i by omega]
def I16 (n : Int) : Prop := -16 ≤ n ∧ n ≤ 16
instance (n : Int) : Decidable (I16 n) := by unfold I16; infer_instance
end Go.Proofs.YtghaenkacjgdnaaDoor.W

/- row.Neg, Scale, Combine, Dot, integer.Sum; the reference's Combine, Add, Sub, Scale, Dot; the laws' is, own. Printed by pv/gen_row8.py. No condition. -/
namespace Go.Proofs.YtghaenkacjgdnaaDoor.W
open Go.RowKit Anv Go.Lib
theorem ztake_snoc {es : List NE} {xs : List Int} {j : Nat} {A : Option Addr} {c : Nat} {z : Int} (hz : es.map zz = xs) (he : es[j]? = some (A, c, z)) : xs.take (j + 1) = xs.take j ++ [z] :=
  take_one (by rw [← hz, List.getElem?_map, he]; rfl)
theorem zl_small {z : Int} {k : Nat} (h : z.natAbs < 4294967296 ^ 1) : zl z ≤ k + 1 := Nat.le_trans (nl_le_of_lt h) (by omega)
end Go.Proofs.YtghaenkacjgdnaaDoor.W

/- row.Read; the reference's Read, Text. Printed by pv/gen_rowD.py. No condition. -/
namespace Go.Proofs.YtghaenkacjgdnaaDoor.W
open Go.RowKit Anv Go.Lib
theorem take_two {s : List UInt8} (h0 : (s.getD 0 0).toNat = 91) (h1 : 1 < s.length) (h2 : (s.getD 1 0).toNat = 93) : s.take 2 = [91, 93] := by
  match s, h1 with
  | a :: b :: r, _ => rw [byte_eq (c := a) h0 91 rfl, byte_eq (c := b) h2 93 rfl]; rfl
theorem two_text {s : List UInt8} (h0 : (s.getD 0 0).toNat = 91) (h1 : (s.getD 1 0).toNat = 93) (h2 : s.length = 2) : s = [91, 93] := by
  have h := take_two h0 (by omega) h1
  rwa [List.take_of_length_le (by omega)] at h
theorem bne_false {a b : Int} (h : a = b) : (a != b) = false := by rw [h]; exact bne_self_eq_false _
theorem eq_of_bneF {a b : Int} (h : (a != b) = false) : a = b := by simpa using h
def Wd (t : List UInt8) (z p q : Int) : Prop := (p = 0 ∧ q = 0 ∧ Rz t z) ∨ (p = 6 ∧ ∃ b : Nat, q = b ∧ Rb t b)
def Wr (t : List UInt8) (z b : Int) : Prop := (b = -1 ∧ Rz t z) ∨ ∃ c : Nat, b = c ∧ Rb t c
theorem zin_at2 (w : World) : ZAt w (.agg #[.bool (neg 0), .slice none (zl 0) 0]) 0 := ⟨_, _, rfl, zin_none _⟩
theorem iread_w {t : List UInt8} {w0 : World} (hl : t.length ≤ 65536) :
    Calls Tryd.prog 99 #[.string ⟨t.toArray⟩] w0 fun e w' => ∃ z p q v, e = .returned (.tuple #[v, .agg #[.int .i64 p, .int .i64 q]]) ∧ ZAt w' v z ∧ Wd t z p q ∧ Below w0.heap.size w0 w' := by
  rcases word_cases t with ⟨z, h⟩ | ⟨b, h⟩
  · exact (iread_rz h hl).mono fun e w' ⟨v, he, hz, hb⟩ => ⟨z, 0, 0, v, he, hz, .inl ⟨rfl, rfl, h⟩, hb⟩
  · exact (iread_rb h hl).mono fun e w' ⟨he, hb⟩ => ⟨0, 6, b, _, he, zin_at2 _, .inr ⟨rfl, b, rfl, h⟩, hb⟩
theorem wd_bad {t : List UInt8} {z p q : Int} (h : Wd t z p q) (k : (p != 0) = true) : p = 6 ∧ ∃ b : Nat, q = b ∧ Rb t b := by
  rcases h with ⟨h1, _⟩ | h
  · rw [h1] at k; cases k
  · exact h
theorem wd_ok {t : List UInt8} {z p q : Int} (h : Wd t z p q) (k : (p != 0) = false) : p = 0 ∧ q = 0 ∧ Rz t z := by
  rcases h with h | ⟨h1, _⟩
  · exact h
  · rw [h1] at k; cases k
theorem rb_le {t : List UInt8} {b : Nat} (h : Rb t b) : b ≤ t.length := by
  rcases h with ⟨d, b', rfl, h2, rfl⟩ | ⟨_, h2⟩
  · rcases h2.1 with ⟨h3, _⟩ | ⟨h3, _⟩ <;> rw [List.length_cons] <;> omega
  · rcases h2.1 with ⟨h3, _⟩ | ⟨h3, _⟩ <;> omega
theorem range_step {s : List UInt8} {p q : Nat} {C : UInt8 → Prop} (h : ∀ i, p ≤ i → i < q → C (s.getD i 0)) (hq : C (s.getD q 0)) : ∀ i, p ≤ i → i < q + 1 → C (s.getD i 0) := fun i h1 h2 => by
  rcases Nat.lt_or_ge i q with h3 | h3
  · exact h i h1 h3
  · obtain rfl : i = q := by omega
    exact hq
theorem sen_cases (s : List UInt8) (q : Nat) (h : q ≤ s.length) : (q = s.length) ∨ (q < s.length ∧ (s.getD q 0).toNat = 45) ∨ (q < s.length ∧ (s.getD q 0).toNat ≠ 45 ∧ (s.getD q 0).toNat < 48) ∨ (q < s.length ∧ 48 ≤ (s.getD q 0).toNat ∧ (s.getD q 0).toNat ≤ 57) ∨ (q < s.length ∧ 57 < (s.getD q 0).toNat) := by omega
theorem seg_fin {s : List UInt8} {p q : Nat} {z : Int} {zs : List Int} (h : Seg s p q) (hz : Rz (cutw s p q) z) (hq : q = s.length) : Go s p zs (.inr q) := by
  subst hq
  exact .fin h hz
theorem go_fin {s : List UInt8} {p q : Nat} {z : Int} {zs : List Int} (h : Sen s p q) (hz : Rz (cutw s p q) z) (hq : q = s.length) : Go s p zs (.inr q) := seg_fin (sen_stp h fun h => by omega) hz hq
def preT (zs : List Int) : List UInt8 := 91 :: zs.flatMap fun z => textZ z ++ [32]
theorem pre_nil {s : List UInt8} (h : s ≠ []) (h0 : (s.getD 0 0).toNat = 91) : s.take 1 = preT [] := by
  cases s with
  | nil => exact absurd rfl h
  | cons a s => rw [byte_eq (c := a) h0 91 rfl]; rfl
theorem pre_step {s : List UInt8} {p q : Nat} {z : Int} {zs : List Int} (h : s.take p = preT zs) (hz : Rz (cutw s p q) z) (h1 : p ≤ q) (h2 : q < s.length) (hc : (s.getD q 0).toNat = 32) : s.take (q + 1) = preT (zs ++ [z]) := by
  have e : s.take (q + 1) = s.take p ++ (s.drop p).take (q + 1 - p) := by rw [← List.take_add, show p + (q + 1 - p) = q + 1 by omega]
  rw [e, drop_cut h1 h2, h]
  unfold preT
  rw [List.flatMap_append, List.take_append, cutw_len h1 (by omega), List.take_of_length_le (by rw [cutw_len h1 (by omega)]; omega), show q + 1 - p - (q - p) = 1 by omega, ← rz_back hz, byte_eq hc 32 rfl]
  simp
theorem zrow_nil (B : Nat) (w : World) : ZRow B w (.slice none 0 0) 0 [] := ⟨none, 0, [], rfl, ⟨⟨World.ownsRow_nil w 0 _ 2, fun g hg => by simp [Value.ownBlock] at hg⟩, es_nil FN w, fun a h => by cases h⟩, rfl, rfl⟩
set_option maxRecDepth 100000 in
set_option maxHeartbeats 2000000 in
theorem hp_short {s : List UInt8} {w0 : World} (h : s.length < 2) :
    Calls Tryd.prog 107 #[.string ⟨s.toArray⟩, .string ⟨#[91, 93]⟩] w0 fun e w' => e = .returned (.bool false) ∧ Below w0.heap.size w0 w' := by
  refine enter Tryd.func107 rfl Tryd.ntmps107 rfl ?_
  intro a henv hst
  refine wp_seq ?_
  refine region_seq ?_
  refine sv (v := .bool false) henv rfl (rn_assign henv rfl) ?_
  clear henv a; intro a henv
  refine wpList_nil ?_
  refine th_n ?_
  refine wp_seq ?_
  refine region_seq ?_
  revert a
  refine mA rfl rfl ?_
  refine sA (v := .int .i64 (s.length : Nat)) rfl (fun _ henv => rn_lenS henv Tryd.underlying9 rfl) ?_
  refine mA rfl rfl ?_
  refine sA (v := .int .i64 2) rfl (fun _ henv => rn_slen (s := ⟨#[91, 93]⟩) henv Tryd.underlying9 rfl) ?_
  refine sA (v := .bool (decide (((s.length : Nat) : Int) ≥ (2 : Int)))) rfl (fun _ henv => rn_bin henv rfl rfl rfl) ?_
  intro a henv
  rw [show (decide (((s.length : Nat) : Int) ≥ (2 : Int))) = false from decide_eq_false (by omega)] at henv
  revert a
  refine mA rfl rfl ?_
  refine kA rfl rfl rfl rfl rfl ?_
  refine kA rfl rfl rfl rfl rfl ?_
  refine kA rfl rfl rfl rfl rfl ?_
  refine kA rfl rfl rfl rfl rfl ?_
  refine kA rfl rfl rfl rfl rfl ?_
  refine kA rfl rfl rfl rfl rfl ?_
  refine sA (v := .bool false) rfl (fun _ henv => rn_pick henv rfl rfl) ?_
  refine aA rfl rfl ?_
  intro a henv
  refine wpList_nil ?_
  refine th_n ?_
  refine wp_ret ?_
  refine leave henv (res1 Tryd.results107 (RV.tmp henv rfl)) ?_
  exact ⟨rfl, hst.below⟩
set_option maxRecDepth 100000 in
set_option maxHeartbeats 2000000 in
theorem hpx_short {s : List UInt8} {w0 : World} (h : s.length < 2) :
    Calls Tryd.prog 98 #[.string ⟨s.toArray⟩, .string ⟨#[91, 93]⟩] w0 fun e w' => e = .returned (.bool false) ∧ Below w0.heap.size w0 w' := by
  refine enter Tryd.func98 rfl Tryd.ntmps98 rfl ?_
  intro a henv hst
  refine wp_seq ?_
  refine region_seq ?_
  refine sv (v := .bool false) henv rfl (rn_assign henv rfl) ?_
  clear henv a; intro a henv
  refine wpList_nil ?_
  refine th_n ?_
  refine wp_seq ?_
  refine region_seq ?_
  revert a
  refine mA rfl rfl ?_
  refine mA rfl rfl ?_
  intro a henv
  refine seq_step rfl (op_call henv rfl Tryd.call107 rfl (hp_short h) ?_)
  rintro e w51 ⟨rfl, hb⟩
  refine ⟨_, rfl, ?_⟩
  clear henv a; intro a henv
  replace hst := hst.call hb
  clear hb
  refine sv (v := .bool false) henv rfl (rn_assign henv rfl) ?_
  clear henv a; intro a henv
  refine wpList_nil ?_
  refine th_n ?_
  refine wp_ret ?_
  refine leave henv (res1 Tryd.results98 (RV.tmp henv rfl)) ?_
  exact ⟨rfl, hst.below⟩
set_option maxRecDepth 100000 in
set_option maxHeartbeats 2000000 in
theorem hp_long {s : List UInt8} {w0 : World} (h : 2 ≤ s.length) :
    Calls Tryd.prog 107 #[.string ⟨s.toArray⟩, .string ⟨#[91, 93]⟩] w0 fun e w' => e = .returned (.bool (decide (s.take 2 = [91, 93]))) ∧ Below w0.heap.size w0 w' := by
  refine enter Tryd.func107 rfl Tryd.ntmps107 rfl ?_
  intro a henv hst
  refine wp_seq ?_
  refine region_seq ?_
  refine sv (v := .bool false) henv rfl (rn_assign henv rfl) ?_
  clear henv a; intro a henv
  refine wpList_nil ?_
  refine th_n ?_
  refine wp_seq ?_
  refine region_seq ?_
  revert a
  refine mA rfl rfl ?_
  refine sA (v := .int .i64 (s.length : Nat)) rfl (fun _ henv => rn_lenS henv Tryd.underlying9 rfl) ?_
  refine mA rfl rfl ?_
  refine sA (v := .int .i64 2) rfl (fun _ henv => rn_slen (s := ⟨#[91, 93]⟩) henv Tryd.underlying9 rfl) ?_
  refine sA (v := .bool (decide (((s.length : Nat) : Int) ≥ (2 : Int)))) rfl (fun _ henv => rn_bin henv rfl rfl rfl) ?_
  intro a henv
  rw [show (decide (((s.length : Nat) : Int) ≥ (2 : Int))) = true from decide_eq_true (by omega)] at henv
  revert a
  refine mA rfl rfl ?_
  refine gA (v := .string ⟨s.toArray⟩) rfl rfl rfl rfl (fun _ henv => rn_move henv rfl) ?_
  refine gA (v := .string ⟨#[91, 93]⟩) rfl rfl rfl rfl (fun _ henv => rn_move henv rfl) ?_
  refine gA (v := .int .i64 2) rfl rfl rfl rfl (fun _ henv => rn_slen (s := ⟨#[91, 93]⟩) henv Tryd.underlying9 rfl) ?_
  refine gA (v := .string ⟨(s.take 2).toArray⟩) rfl rfl rfl rfl (fun _ henv => rn_takeS (n := 2) henv Tryd.underlying9 rfl rfl (by omega)) ?_
  refine gA (v := .string ⟨#[91, 93]⟩) rfl rfl rfl rfl (fun _ henv => rn_move henv rfl) ?_
  refine gA (v := .bool (decide ((s.take 2) = [91, 93]))) rfl rfl rfl rfl (fun _ henv => rn_eqls (s := (s.take 2)) (t := [91, 93]) henv rfl rfl) ?_
  refine sA (v := .bool (decide ((s.take 2) = [91, 93]))) rfl (fun _ henv => rn_pick henv rfl rfl) ?_
  refine aA rfl rfl ?_
  intro a henv
  refine wpList_nil ?_
  refine th_n ?_
  refine wp_ret ?_
  refine leave henv (res1 Tryd.results107 (RV.tmp henv rfl)) ?_
  exact ⟨rfl, hst.below⟩
set_option maxRecDepth 100000 in
set_option maxHeartbeats 2000000 in
theorem hpx_long {s : List UInt8} {w0 : World} (h : 2 ≤ s.length) :
    Calls Tryd.prog 98 #[.string ⟨s.toArray⟩, .string ⟨#[91, 93]⟩] w0 fun e w' => e = .returned (.bool (decide (s.take 2 = [91, 93]))) ∧ Below w0.heap.size w0 w' := by
  refine enter Tryd.func98 rfl Tryd.ntmps98 rfl ?_
  intro a henv hst
  refine wp_seq ?_
  refine region_seq ?_
  refine sv (v := .bool false) henv rfl (rn_assign henv rfl) ?_
  clear henv a; intro a henv
  refine wpList_nil ?_
  refine th_n ?_
  refine wp_seq ?_
  refine region_seq ?_
  revert a
  refine mA rfl rfl ?_
  refine mA rfl rfl ?_
  intro a henv
  refine seq_step rfl (op_call henv rfl Tryd.call107 rfl (hp_long h) ?_)
  rintro e w51 ⟨rfl, hb⟩
  refine ⟨_, rfl, ?_⟩
  clear henv a; intro a henv
  replace hst := hst.call hb
  clear hb
  refine sv (v := .bool (decide (s.take 2 = [91, 93]))) henv rfl (rn_assign henv rfl) ?_
  clear henv a; intro a henv
  refine wpList_nil ?_
  refine th_n ?_
  refine wp_ret ?_
  refine leave henv (res1 Tryd.results98 (RV.tmp henv rfl)) ?_
  exact ⟨rfl, hst.below⟩
theorem hpx_no {s : List UInt8} {w0 : World} (h : ¬ (1 < s.length ∧ (s.getD 1 0).toNat = 93)) :
    Calls Tryd.prog 98 #[.string ⟨s.toArray⟩, .string ⟨#[91, 93]⟩] w0 fun e w' => e = .returned (.bool false) ∧ Below w0.heap.size w0 w' := by
  rcases Nat.lt_or_ge s.length 2 with h2 | h2
  · exact hpx_short h2
  · have h3 := hpx_long (w0 := w0) h2
    rw [decide_eq_false (fun e => h ⟨by omega, by rw [show s.getD 1 0 = (s.take 2).getD 1 0 by simp [List.getD_eq_getElem?_getD], e]; rfl⟩)] at h3
    exact h3
theorem hpx_yes {s : List UInt8} {w0 : World} (h0 : (s.getD 0 0).toNat = 91) (h1 : 1 < s.length) (h2 : (s.getD 1 0).toNat = 93) :
    Calls Tryd.prog 98 #[.string ⟨s.toArray⟩, .string ⟨#[91, 93]⟩] w0 fun e w' => e = .returned (.bool true) ∧ Below w0.heap.size w0 w' := by
  have h3 := hpx_long (w0 := w0) (s := s) (by omega)
  rw [decide_eq_true (take_two h0 h1 h2)] at h3
  exact h3
set_option maxRecDepth 100000 in
set_option maxHeartbeats 2000000 in
theorem row_wrong {p : Nat} {w0 : World} :
    Calls Tryd.prog 97 #[.int .i64 (p : Nat)] w0 fun e w' => e = .returned (.tuple #[.slice none 0 0, .agg #[.int .i64 6, .int .i64 (p : Nat)]]) ∧ Below w0.heap.size w0 w' := by
  refine enter Tryd.func97 rfl Tryd.ntmps97 rfl ?_
  intro a henv hst
  refine wp_seq ?_
  refine region_seq ?_
  refine sv (v := .slice none 0 0) henv rfl (rn_assign henv rfl) ?_
  clear henv a; intro a henv
  refine seq_step rfl (op_alloc (c := #[.int .i64 0, .int .i64 0]) henv hst rfl zero_anvil_api_Spot rfl ?_)
  clear henv hst a; intro a w52 g51 henv hst
  refine wpList_nil ?_
  refine th_n ?_
  refine wp_seq ?_
  refine region_seq ?_
  revert a
  refine mA rfl rfl ?_
  refine sA (v := .agg #[.int .i64 6, .int .i64 (p : Nat)]) rfl (fun _ henv => rn_spot2 henv rfl rfl) ?_
  refine aA rfl rfl ?_
  intro a henv
  refine seq_step rfl (op_store (k := 0) (c' := #[.int .i64 6, .int .i64 (p : Nat)]) henv hst (ty_anvil_api_Spot.size) rfl rfl rfl rfl (by simp) rfl rfl ?_)
  clear henv hst a; intro a w53 henv hst
  refine wpList_nil ?_
  refine th_n ?_
  refine wp_ret ?_
  refine leave henv (res2 Tryd.results97 (RV.tmp henv rfl) (RV.cell henv ty_anvil_api_Spot rfl (hst.oat (k := 0) rfl) rfl)) ?_
  exact ⟨rfl, hst.below⟩
set_option maxRecDepth 100000 in
set_option maxHeartbeats 2000000 in
theorem row_read_empty {s : List UInt8} {w0 : World} (h0 : s = []) :
    Calls Tryd.prog 78 #[.string ⟨s.toArray⟩] w0 fun e w' => e = .returned (.tuple #[.slice none 0 0, .agg #[.int .i64 6, .int .i64 0]]) ∧ Below w0.heap.size w0 w' := by
  have hl0 : s.length = 0 := by rw [h0]; rfl
  refine enter Tryd.func78 rfl Tryd.ntmps78 rfl ?_
  intro a henv hst
  refine wp_seq ?_
  refine region_seq ?_
  refine sv (v := .slice none 0 0) henv rfl (rn_assign henv rfl) ?_
  clear henv a; intro a henv
  refine seq_step rfl (op_alloc (c := #[.int .i64 0, .int .i64 0]) henv hst rfl zero_anvil_api_Spot rfl ?_)
  clear henv hst a; intro a w52 g51 henv hst
  refine wpList_nil ?_
  refine th_n ?_
  refine wp_scope_straight ?_
  refine wp_seq ?_
  refine wp_seq ?_
  refine region_seq ?_
  revert a
  refine mA rfl rfl ?_
  refine sA (v := .int .i64 (s.length : Nat)) rfl (fun _ henv => rn_lenS henv Tryd.underlying9 rfl) ?_
  refine sA (v := .bool (decide (((s.length : Nat) : Int) > (65536 : Int)))) rfl (fun _ henv => rn_bin henv rfl rfl rfl) ?_
  intro a henv
  rw [show (decide (((s.length : Nat) : Int) > (65536 : Int))) = false from decide_eq_false (by omega)] at henv
  refine wpList_nil ?_
  refine th_n ?_
  refine if_f henv rfl (rfl) ?_
  refine wp_skip ?_
  refine th_n ?_
  refine wp_seq ?_
  refine region_seq ?_
  refine sv (v := .func (.func 97) #[] #[]) henv rfl (rn_assign henv rfl) ?_
  clear henv a; intro a henv
  refine wpList_nil ?_
  refine th_n ?_
  refine wp_seq ?_
  refine wp_seq ?_
  refine region_seq ?_
  revert a
  refine mA rfl rfl ?_
  refine sA (v := .bool (decide (s = []))) rfl (fun _ henv => rn_eqls (s := s) (t := []) henv rfl rfl) ?_
  intro a henv
  rw [show (decide (s = [])) = true from decide_eq_true h0] at henv
  revert a
  refine mA rfl rfl ?_
  refine kA rfl rfl rfl rfl rfl ?_
  refine kA rfl rfl rfl rfl rfl ?_
  refine kA rfl rfl rfl rfl rfl ?_
  refine sA (v := .bool true) rfl (fun _ henv => rn_pick henv rfl rfl) ?_
  intro a henv
  refine wpList_nil ?_
  refine th_n ?_
  refine if_t henv rfl (rfl) ?_
  refine wp_seq ?_
  refine region_seq ?_
  refine sv (v := .func (.func 97) #[] #[]) henv rfl (rn_move henv rfl) ?_
  clear henv a; intro a henv
  refine seq_step rfl (op_callc (vs := #[.int .i64 0]) henv rfl Tryd.call97 rfl rfl (calls_app (by simp) (row_wrong (p := 0))) ?_)
  rintro e w53 ⟨rfl, hb⟩
  refine ⟨_, rfl, ?_⟩
  clear henv a; intro a henv
  replace hst := hst.call hb
  clear hb
  revert a
  refine sA (v := .slice none 0 0) rfl (fun _ henv => rn_extract henv rfl rfl) ?_
  refine sA (v := .agg #[.int .i64 6, .int .i64 (0 : Nat)]) rfl (fun _ henv => rn_extract henv rfl rfl) ?_
  refine aA rfl rfl ?_
  intro a henv
  refine seq_step rfl (op_store (k := 0) (c' := #[.int .i64 6, .int .i64 (0 : Nat)]) henv hst (ty_anvil_api_Spot.size) rfl rfl rfl rfl (by simp) rfl rfl ?_)
  clear henv hst a; intro a w54 henv hst
  refine wpList_nil ?_
  refine th_n ?_
  refine wp_ret ?_
  refine th_r (sc_r ?_)
  refine leave henv (res2 Tryd.results78 (RV.tmp henv rfl) (RV.cell henv ty_anvil_api_Spot rfl (hst.oat (k := 0) rfl) rfl)) ?_
  exact ⟨rfl, hst.below⟩
set_option maxRecDepth 100000 in
set_option maxHeartbeats 2000000 in
theorem row_read_no {s : List UInt8} {w0 : World} (hl : s.length ≤ 65536) (hne : s ≠ []) (h0 : (s.getD 0 0).toNat ≠ 91) :
    Calls Tryd.prog 78 #[.string ⟨s.toArray⟩] w0 fun e w' => e = .returned (.tuple #[.slice none 0 0, .agg #[.int .i64 6, .int .i64 0]]) ∧ Below w0.heap.size w0 w' := by
  have hlen : 0 < s.length := List.length_pos_iff.2 hne
  refine enter Tryd.func78 rfl Tryd.ntmps78 rfl ?_
  intro a henv hst
  refine wp_seq ?_
  refine region_seq ?_
  refine sv (v := .slice none 0 0) henv rfl (rn_assign henv rfl) ?_
  clear henv a; intro a henv
  refine seq_step rfl (op_alloc (c := #[.int .i64 0, .int .i64 0]) henv hst rfl zero_anvil_api_Spot rfl ?_)
  clear henv hst a; intro a w52 g51 henv hst
  refine wpList_nil ?_
  refine th_n ?_
  refine wp_scope_straight ?_
  refine wp_seq ?_
  refine wp_seq ?_
  refine region_seq ?_
  revert a
  refine mA rfl rfl ?_
  refine sA (v := .int .i64 (s.length : Nat)) rfl (fun _ henv => rn_lenS henv Tryd.underlying9 rfl) ?_
  refine sA (v := .bool (decide (((s.length : Nat) : Int) > (65536 : Int)))) rfl (fun _ henv => rn_bin henv rfl rfl rfl) ?_
  intro a henv
  rw [show (decide (((s.length : Nat) : Int) > (65536 : Int))) = false from decide_eq_false (by omega)] at henv
  refine wpList_nil ?_
  refine th_n ?_
  refine if_f henv rfl (rfl) ?_
  refine wp_skip ?_
  refine th_n ?_
  refine wp_seq ?_
  refine region_seq ?_
  refine sv (v := .func (.func 97) #[] #[]) henv rfl (rn_assign henv rfl) ?_
  clear henv a; intro a henv
  refine wpList_nil ?_
  refine th_n ?_
  refine wp_seq ?_
  refine wp_seq ?_
  refine region_seq ?_
  revert a
  refine mA rfl rfl ?_
  refine sA (v := .bool (decide (s = []))) rfl (fun _ henv => rn_eqls (s := s) (t := []) henv rfl rfl) ?_
  intro a henv
  rw [show (decide (s = [])) = false from decide_eq_false hne] at henv
  revert a
  refine mA rfl rfl ?_
  refine gA (v := .string ⟨s.toArray⟩) rfl rfl rfl rfl (fun _ henv => rn_move henv rfl) ?_
  refine gA (v := .int .u8 ((s.getD 0 0).toNat : Nat)) rfl rfl rfl rfl (fun _ henv => rn_idxS (i := 0) henv Tryd.underlying9 rfl rfl (by omega)) ?_
  refine gA (v := .bool ((((s.getD 0 0).toNat : Nat) : Int) != (91 : Int))) rfl rfl rfl rfl (fun _ henv => rn_bin henv rfl rfl rfl) ?_
  intro a henv
  rw [show ((((s.getD 0 0).toNat : Nat) : Int) != (91 : Int)) = true from bne_iff_ne.2 (by omega)] at henv
  refine sv (v := .bool true) henv rfl (rn_pick henv rfl rfl) ?_
  clear henv a; intro a henv
  refine wpList_nil ?_
  refine th_n ?_
  refine if_t henv rfl (rfl) ?_
  refine wp_seq ?_
  refine region_seq ?_
  refine sv (v := .func (.func 97) #[] #[]) henv rfl (rn_move henv rfl) ?_
  clear henv a; intro a henv
  refine seq_step rfl (op_callc (vs := #[.int .i64 0]) henv rfl Tryd.call97 rfl rfl (calls_app (by simp) (row_wrong (p := 0))) ?_)
  rintro e w53 ⟨rfl, hb⟩
  refine ⟨_, rfl, ?_⟩
  clear henv a; intro a henv
  replace hst := hst.call hb
  clear hb
  revert a
  refine sA (v := .slice none 0 0) rfl (fun _ henv => rn_extract henv rfl rfl) ?_
  refine sA (v := .agg #[.int .i64 6, .int .i64 (0 : Nat)]) rfl (fun _ henv => rn_extract henv rfl rfl) ?_
  refine aA rfl rfl ?_
  intro a henv
  refine seq_step rfl (op_store (k := 0) (c' := #[.int .i64 6, .int .i64 (0 : Nat)]) henv hst (ty_anvil_api_Spot.size) rfl rfl rfl rfl (by simp) rfl rfl ?_)
  clear henv hst a; intro a w54 henv hst
  refine wpList_nil ?_
  refine th_n ?_
  refine wp_ret ?_
  refine th_r (sc_r ?_)
  refine leave henv (res2 Tryd.results78 (RV.tmp henv rfl) (RV.cell henv ty_anvil_api_Spot rfl (hst.oat (k := 0) rfl) rfl)) ?_
  exact ⟨rfl, hst.below⟩
set_option maxRecDepth 100000 in
set_option maxHeartbeats 2000000 in
theorem row_read_void {s : List UInt8} {w0 : World} (h0 : (s.getD 0 0).toNat = 91) (h1 : (s.getD 1 0).toNat = 93) (h2 : s.length = 2) :
    Calls Tryd.prog 78 #[.string ⟨s.toArray⟩] w0 fun e w' => e = .returned (.tuple #[.slice none 0 0, .agg #[.int .i64 0, .int .i64 0]]) ∧ Below w0.heap.size w0 w' := by
  have hne : s ≠ [] := fun e => by rw [e] at h2; simp at h2
  refine enter Tryd.func78 rfl Tryd.ntmps78 rfl ?_
  intro a henv hst
  refine wp_seq ?_
  refine region_seq ?_
  refine sv (v := .slice none 0 0) henv rfl (rn_assign henv rfl) ?_
  clear henv a; intro a henv
  refine seq_step rfl (op_alloc (c := #[.int .i64 0, .int .i64 0]) henv hst rfl zero_anvil_api_Spot rfl ?_)
  clear henv hst a; intro a w52 g51 henv hst
  refine wpList_nil ?_
  refine th_n ?_
  refine wp_scope_straight ?_
  refine wp_seq ?_
  refine wp_seq ?_
  refine region_seq ?_
  revert a
  refine mA rfl rfl ?_
  refine sA (v := .int .i64 (s.length : Nat)) rfl (fun _ henv => rn_lenS henv Tryd.underlying9 rfl) ?_
  refine sA (v := .bool (decide (((s.length : Nat) : Int) > (65536 : Int)))) rfl (fun _ henv => rn_bin henv rfl rfl rfl) ?_
  intro a henv
  rw [show (decide (((s.length : Nat) : Int) > (65536 : Int))) = false from decide_eq_false (by omega)] at henv
  refine wpList_nil ?_
  refine th_n ?_
  refine if_f henv rfl (rfl) ?_
  refine wp_skip ?_
  refine th_n ?_
  refine wp_seq ?_
  refine region_seq ?_
  refine sv (v := .func (.func 97) #[] #[]) henv rfl (rn_assign henv rfl) ?_
  clear henv a; intro a henv
  refine wpList_nil ?_
  refine th_n ?_
  refine wp_seq ?_
  refine wp_seq ?_
  refine region_seq ?_
  revert a
  refine mA rfl rfl ?_
  refine sA (v := .bool (decide (s = []))) rfl (fun _ henv => rn_eqls (s := s) (t := []) henv rfl rfl) ?_
  intro a henv
  rw [show (decide (s = [])) = false from decide_eq_false hne] at henv
  revert a
  refine mA rfl rfl ?_
  refine gA (v := .string ⟨s.toArray⟩) rfl rfl rfl rfl (fun _ henv => rn_move henv rfl) ?_
  refine gA (v := .int .u8 ((s.getD 0 0).toNat : Nat)) rfl rfl rfl rfl (fun _ henv => rn_idxS (i := 0) henv Tryd.underlying9 rfl rfl (by omega)) ?_
  refine gA (v := .bool ((((s.getD 0 0).toNat : Nat) : Int) != (91 : Int))) rfl rfl rfl rfl (fun _ henv => rn_bin henv rfl rfl rfl) ?_
  intro a henv
  rw [show ((((s.getD 0 0).toNat : Nat) : Int) != (91 : Int)) = false from bne_false (by omega)] at henv
  refine sv (v := .bool false) henv rfl (rn_pick henv rfl rfl) ?_
  clear henv a; intro a henv
  refine wpList_nil ?_
  refine th_n ?_
  refine if_f henv rfl (rfl) ?_
  refine wp_skip ?_
  refine th_n ?_
  refine wp_seq ?_
  refine region_seq ?_
  refine sv (v := .slice none 0 0) henv rfl (rn_assign henv rfl) ?_
  clear henv a; intro a henv
  refine wpList_nil ?_
  refine th_n ?_
  refine wp_seq ?_
  refine region_seq ?_
  refine sv (v := .int .i64 1) henv rfl (rn_assign henv rfl) ?_
  clear henv a; intro a henv
  refine wpList_nil ?_
  refine th_n ?_
  refine wp_seq ?_
  refine wp_seq ?_
  refine region_seq ?_
  revert a
  refine mA rfl rfl ?_
  refine sA (v := .bool (decide (s = [91, 93]))) rfl (fun _ henv => rn_eqls (s := s) (t := [91, 93]) henv rfl rfl) ?_
  intro a henv
  rw [show (decide (s = [91, 93])) = true from decide_eq_true (two_text h0 h1 h2)] at henv
  refine wpList_nil ?_
  refine th_n ?_
  refine if_t henv rfl (rfl) ?_
  refine wp_seq ?_
  refine region_seq ?_
  revert a
  refine sA (v := .agg #[.int .i64 0, .int .i64 0]) rfl (fun _ henv => rn_spot0) ?_
  refine aA rfl rfl ?_
  intro a henv
  refine seq_step rfl (op_store (k := 0) (c' := #[.int .i64 0, .int .i64 0]) henv hst (ty_anvil_api_Spot.size) rfl rfl rfl rfl (by simp) rfl rfl ?_)
  clear henv hst a; intro a w53 henv hst
  refine wpList_nil ?_
  refine th_n ?_
  refine wp_ret ?_
  refine th_r (sc_r ?_)
  refine leave henv (res2 Tryd.results78 (RV.tmp henv rfl) (RV.cell henv ty_anvil_api_Spot rfl (hst.oat (k := 0) rfl) rfl)) ?_
  exact ⟨rfl, hst.below⟩
set_option maxRecDepth 100000 in
set_option maxHeartbeats 2000000 in
theorem row_read_tail {s : List UInt8} {w0 : World} (hl : s.length ≤ 65536) (h0 : (s.getD 0 0).toNat = 91) (h1 : (s.getD 1 0).toNat = 93) (h2 : 2 < s.length) :
    Calls Tryd.prog 78 #[.string ⟨s.toArray⟩] w0 fun e w' => e = .returned (.tuple #[.slice none 0 0, .agg #[.int .i64 6, .int .i64 2]]) ∧ Below w0.heap.size w0 w' := by
  have hne : s ≠ [] := fun e => by rw [e] at h2; simp at h2
  refine enter Tryd.func78 rfl Tryd.ntmps78 rfl ?_
  intro a henv hst
  refine wp_seq ?_
  refine region_seq ?_
  refine sv (v := .slice none 0 0) henv rfl (rn_assign henv rfl) ?_
  clear henv a; intro a henv
  refine seq_step rfl (op_alloc (c := #[.int .i64 0, .int .i64 0]) henv hst rfl zero_anvil_api_Spot rfl ?_)
  clear henv hst a; intro a w52 g51 henv hst
  refine wpList_nil ?_
  refine th_n ?_
  refine wp_scope_straight ?_
  refine wp_seq ?_
  refine wp_seq ?_
  refine region_seq ?_
  revert a
  refine mA rfl rfl ?_
  refine sA (v := .int .i64 (s.length : Nat)) rfl (fun _ henv => rn_lenS henv Tryd.underlying9 rfl) ?_
  refine sA (v := .bool (decide (((s.length : Nat) : Int) > (65536 : Int)))) rfl (fun _ henv => rn_bin henv rfl rfl rfl) ?_
  intro a henv
  rw [show (decide (((s.length : Nat) : Int) > (65536 : Int))) = false from decide_eq_false (by omega)] at henv
  refine wpList_nil ?_
  refine th_n ?_
  refine if_f henv rfl (rfl) ?_
  refine wp_skip ?_
  refine th_n ?_
  refine wp_seq ?_
  refine region_seq ?_
  refine sv (v := .func (.func 97) #[] #[]) henv rfl (rn_assign henv rfl) ?_
  clear henv a; intro a henv
  refine wpList_nil ?_
  refine th_n ?_
  refine wp_seq ?_
  refine wp_seq ?_
  refine region_seq ?_
  revert a
  refine mA rfl rfl ?_
  refine sA (v := .bool (decide (s = []))) rfl (fun _ henv => rn_eqls (s := s) (t := []) henv rfl rfl) ?_
  intro a henv
  rw [show (decide (s = [])) = false from decide_eq_false hne] at henv
  revert a
  refine mA rfl rfl ?_
  refine gA (v := .string ⟨s.toArray⟩) rfl rfl rfl rfl (fun _ henv => rn_move henv rfl) ?_
  refine gA (v := .int .u8 ((s.getD 0 0).toNat : Nat)) rfl rfl rfl rfl (fun _ henv => rn_idxS (i := 0) henv Tryd.underlying9 rfl rfl (by omega)) ?_
  refine gA (v := .bool ((((s.getD 0 0).toNat : Nat) : Int) != (91 : Int))) rfl rfl rfl rfl (fun _ henv => rn_bin henv rfl rfl rfl) ?_
  intro a henv
  rw [show ((((s.getD 0 0).toNat : Nat) : Int) != (91 : Int)) = false from bne_false (by omega)] at henv
  refine sv (v := .bool false) henv rfl (rn_pick henv rfl rfl) ?_
  clear henv a; intro a henv
  refine wpList_nil ?_
  refine th_n ?_
  refine if_f henv rfl (rfl) ?_
  refine wp_skip ?_
  refine th_n ?_
  refine wp_seq ?_
  refine region_seq ?_
  refine sv (v := .slice none 0 0) henv rfl (rn_assign henv rfl) ?_
  clear henv a; intro a henv
  refine wpList_nil ?_
  refine th_n ?_
  refine wp_seq ?_
  refine region_seq ?_
  refine sv (v := .int .i64 1) henv rfl (rn_assign henv rfl) ?_
  clear henv a; intro a henv
  refine wpList_nil ?_
  refine th_n ?_
  refine wp_seq ?_
  refine wp_seq ?_
  refine region_seq ?_
  revert a
  refine mA rfl rfl ?_
  refine sA (v := .bool (decide (s = [91, 93]))) rfl (fun _ henv => rn_eqls (s := s) (t := [91, 93]) henv rfl rfl) ?_
  intro a henv
  rw [show (decide (s = [91, 93])) = false from decide_eq_false (fun e => by rw [e] at h2; simp at h2)] at henv
  refine wpList_nil ?_
  refine th_n ?_
  refine if_f henv rfl (rfl) ?_
  refine wp_skip ?_
  refine th_n ?_
  refine wp_seq ?_
  refine wp_seq ?_
  refine region_seq ?_
  refine sv (v := .string ⟨s.toArray⟩) henv rfl (rn_move henv rfl) ?_
  clear henv a; intro a henv
  refine seq_step rfl (op_call henv rfl Tryd.call98 rfl (hpx_yes h0 (by omega) h1) ?_)
  rintro e w53 ⟨rfl, hb⟩
  refine ⟨_, rfl, ?_⟩
  clear henv a; intro a henv
  replace hst := hst.call hb
  clear hb
  refine wpList_nil ?_
  refine th_n ?_
  refine if_t henv rfl (rfl) ?_
  refine wp_seq ?_
  refine region_seq ?_
  refine sv (v := .func (.func 97) #[] #[]) henv rfl (rn_move henv rfl) ?_
  clear henv a; intro a henv
  refine seq_step rfl (op_callc (vs := #[.int .i64 2]) henv rfl Tryd.call97 rfl rfl (calls_app (by simp) (row_wrong (p := 2))) ?_)
  rintro e w54 ⟨rfl, hb⟩
  refine ⟨_, rfl, ?_⟩
  clear henv a; intro a henv
  replace hst := hst.call hb
  clear hb
  revert a
  refine sA (v := .slice none 0 0) rfl (fun _ henv => rn_extract henv rfl rfl) ?_
  refine sA (v := .agg #[.int .i64 6, .int .i64 (2 : Nat)]) rfl (fun _ henv => rn_extract henv rfl rfl) ?_
  refine aA rfl rfl ?_
  intro a henv
  refine seq_step rfl (op_store (k := 0) (c' := #[.int .i64 6, .int .i64 (2 : Nat)]) henv hst (ty_anvil_api_Spot.size) rfl rfl rfl rfl (by simp) rfl rfl ?_)
  clear henv hst a; intro a w55 henv hst
  refine wpList_nil ?_
  refine th_n ?_
  refine wp_ret ?_
  refine th_r (sc_r ?_)
  refine leave henv (res2 Tryd.results78 (RV.tmp henv rfl) (RV.cell henv ty_anvil_api_Spot rfl (hst.oat (k := 0) rfl) rfl)) ?_
  exact ⟨rfl, hst.below⟩
set_option maxRecDepth 100000 in
set_option maxHeartbeats 4000000 in
theorem row_read_go {s : List UInt8} {w0 : World} (hl : s.length ≤ 65536) (h0 : (s.getD 0 0).toNat = 91) (hne : s ≠ []) (h1 : ¬ (1 < s.length ∧ (s.getD 1 0).toNat = 93)) :
    Calls Tryd.prog 78 #[.string ⟨s.toArray⟩] w0 fun e w' => ((∃ zs n v, Rd0 s (.inl zs) ∧ zs.length = n ∧ n ≤ 4096 ∧ e = .returned (.tuple #[v, .agg #[.int .i64 0, .int .i64 0]]) ∧ ZRow w0.heap.size w' v n zs) ∨ (∃ b : Nat, Rd0 s (.inr b) ∧ e = .returned (.tuple #[.slice none 0 0, .agg #[.int .i64 6, .int .i64 (b : Nat)]])) ∨ (∃ (p : Nat) (zs : List Int), zs.length = 4096 ∧ p ≤ s.length ∧ s.take p = preT zs ∧ e = .returned (.tuple #[.slice none 0 0, .agg #[.int .i64 3, .int .i64 (p : Nat)]]))) ∧ Below w0.heap.size w0 w' := by
  have hlen : 1 ≤ s.length := List.length_pos_iff.2 hne
  refine enter Tryd.func78 rfl Tryd.ntmps78 rfl ?_
  intro a henv hst
  refine wp_seq ?_
  refine region_seq ?_
  refine sv (v := .slice none 0 0) henv rfl (rn_assign henv rfl) ?_
  clear henv a; intro a henv
  refine seq_step rfl (op_alloc (c := #[.int .i64 0, .int .i64 0]) henv hst rfl zero_anvil_api_Spot rfl ?_)
  clear henv hst a; intro a w52 g51 henv hst
  refine wpList_nil ?_
  refine th_n ?_
  refine wp_scope_at 0 (fun mz a w => ∃ p : Nat, ∃ j : Nat, ∃ zs : List Int, ∃ B : Option Addr, ∃ c : Nat, ∃ os : List NE, s.length + 1 - p = mz ∧ Env 130 a [(0, .string ⟨s.toArray⟩), (3, .pointer (some ⟨g51, 0, none⟩)), (4, .func (.func 97) #[] #[]), (5, .slice B j c), (6, .int .i64 (p : Nat))] ∧ St w0 w [rowS notU 28 2 B j c (fl fN os), bk g51 #[.int .i64 0, .int .i64 0] 71] [pfEs FN os] ∧ 1 ≤ p ∧ p ≤ s.length ∧ j ≤ 4096 ∧ zs.length = j ∧ os.map zz = zs ∧ s.take p = preT zs ∧ ∀ r, Go s p zs r → Go s 1 [] r) rfl ?_ ?_
  · clear henv hst a
    rintro mz a w53 ⟨p, j, zs, B, c, os, rfl, henv, hst, hp0, hp1, hj, hzl, ho, hpre, hgo⟩
    refine wp_seq ?_
    refine region_seq ?_
    revert a
    refine mA rfl rfl ?_
    refine aA rfl rfl ?_
    intro a henv
    refine wpList_nil ?_
    refine th_n ?_
    refine wp_seq ?_
    refine cut (fun a w => ∃ q : Nat, Env 130 a [(0, .string ⟨s.toArray⟩), (3, .pointer (some ⟨g51, 0, none⟩)), (4, .func (.func 97) #[] #[]), (5, .slice B j c), (6, .int .i64 (p : Nat)), (7, .int .i64 (q : Nat))] ∧ St w0 w [rowS notU 28 2 B j c (fl fN os), bk g51 #[.int .i64 0, .int .i64 0] 71] [pfEs FN os] ∧ Sen s p q) ?_ ?_
    · refine wp_block ?_
      refine wp_loop_ghost (fun mz a w => ∃ q : Nat, s.length - q = mz ∧ Env 130 a [(0, .string ⟨s.toArray⟩), (3, .pointer (some ⟨g51, 0, none⟩)), (4, .func (.func 97) #[] #[]), (5, .slice B j c), (6, .int .i64 (p : Nat)), (7, .int .i64 (q : Nat))] ∧ St w0 w [rowS notU 28 2 B j c (fl fN os), bk g51 #[.int .i64 0, .int .i64 0] 71] [pfEs FN os] ∧ p ≤ q ∧ q ≤ s.length ∧ ∀ i, p ≤ i → i < q → ndg (s.getD i 0)) _ ⟨p, rfl, henv.sub ⟨rfl, rfl, rfl, rfl, rfl, rfl, trivial⟩, hst.pick [0, 1] [0] (by decide), (Nat.le_refl _), hp1, (fun i h1 h2 => by omega)⟩ ?_
      clear henv hst a
      rintro mz a w54 ⟨q, rfl, henv, hst, hq1, hq2, hq3⟩
      rcases sen_cases s q hq2 with hv | ⟨hv1, hv2⟩ | ⟨hv1, hv2, hv3⟩ | ⟨hv1, hv2, hv3⟩ | ⟨hv1, hv2⟩
      · refine wp_seq ?_
        refine wp_seq ?_
        refine region_seq ?_
        revert a
        refine mA rfl rfl ?_
        refine mA rfl rfl ?_
        refine sA (v := .int .i64 (s.length : Nat)) rfl (fun _ henv => rn_lenS henv Tryd.underlying9 rfl) ?_
        refine sA (v := .bool (decide (((q : Nat) : Int) < ((s.length : Nat) : Int)))) rfl (fun _ henv => rn_bin henv rfl rfl rfl) ?_
        intro a henv
        rw [show (decide (((q : Nat) : Int) < ((s.length : Nat) : Int))) = false from decide_eq_false (by omega)] at henv
        revert a
        refine mA rfl rfl ?_
        refine kA rfl rfl rfl rfl rfl ?_
        refine kA rfl rfl rfl rfl rfl ?_
        refine kA rfl rfl rfl rfl rfl ?_
        refine kA rfl rfl rfl rfl rfl ?_
        refine kA rfl rfl rfl rfl rfl ?_
        refine kA rfl rfl rfl rfl rfl ?_
        refine kA rfl rfl rfl rfl rfl ?_
        refine kA rfl rfl rfl rfl rfl ?_
        refine kA rfl rfl rfl rfl rfl ?_
        refine kA rfl rfl rfl rfl rfl ?_
        refine kA rfl rfl rfl rfl rfl ?_
        refine kA rfl rfl rfl rfl rfl ?_
        refine kA rfl rfl rfl rfl rfl ?_
        refine kA rfl rfl rfl rfl rfl ?_
        refine kA rfl rfl rfl rfl rfl ?_
        refine kA rfl rfl rfl rfl rfl ?_
        refine sA (v := .bool false) rfl (fun _ henv => rn_pick henv rfl rfl) ?_
        intro a henv
        refine wpList_nil ?_
        refine th_n ?_
        refine if_f henv rfl (rfl) ?_
        refine wp_exit ?_
        refine th_x (th_x (bl_x (th_n ?_)))
        exact ⟨q, henv.sub ⟨rfl, rfl, rfl, rfl, rfl, rfl, trivial⟩, hst.pick [0, 1] [0] (by decide), ⟨hq1, hq2, hq3, fun h => absurd h (by omega)⟩⟩
      · refine wp_seq ?_
        refine wp_seq ?_
        refine region_seq ?_
        revert a
        refine mA rfl rfl ?_
        refine mA rfl rfl ?_
        refine sA (v := .int .i64 (s.length : Nat)) rfl (fun _ henv => rn_lenS henv Tryd.underlying9 rfl) ?_
        refine sA (v := .bool (decide (((q : Nat) : Int) < ((s.length : Nat) : Int)))) rfl (fun _ henv => rn_bin henv rfl rfl rfl) ?_
        intro a henv
        rw [show (decide (((q : Nat) : Int) < ((s.length : Nat) : Int))) = true from decide_eq_true (by omega)] at henv
        revert a
        refine mA rfl rfl ?_
        refine gA (v := .string ⟨s.toArray⟩) rfl rfl rfl rfl (fun _ henv => rn_move henv rfl) ?_
        refine gA (v := .int .i64 (q : Nat)) rfl rfl rfl rfl (fun _ henv => rn_move henv rfl) ?_
        refine gA (v := .int .u8 ((s.getD q 0).toNat : Nat)) rfl rfl rfl rfl (fun _ henv => rn_idxS (i := q) henv Tryd.underlying9 rfl rfl (by omega)) ?_
        refine gA (v := .bool ((((s.getD q 0).toNat : Nat) : Int) == (45 : Int))) rfl rfl rfl rfl (fun _ henv => rn_bin henv rfl rfl rfl) ?_
        intro a henv
        rw [show ((((s.getD q 0).toNat : Nat) : Int) == (45 : Int)) = true from beq_iff_eq.2 (by omega)] at henv
        revert a
        refine gA (v := .bool true) rfl rfl rfl rfl (fun _ henv => rn_move henv rfl) ?_
        refine kA rfl rfl rfl rfl rfl ?_
        refine kA rfl rfl rfl rfl rfl ?_
        refine kA rfl rfl rfl rfl rfl ?_
        refine kA rfl rfl rfl rfl rfl ?_
        refine kA rfl rfl rfl rfl rfl ?_
        refine kA rfl rfl rfl rfl rfl ?_
        refine kA rfl rfl rfl rfl rfl ?_
        refine kA rfl rfl rfl rfl rfl ?_
        refine kA rfl rfl rfl rfl rfl ?_
        refine kA rfl rfl rfl rfl rfl ?_
        refine gA (v := .bool true) rfl rfl rfl rfl (fun _ henv => rn_pick henv rfl rfl) ?_
        refine sA (v := .bool true) rfl (fun _ henv => rn_pick henv rfl rfl) ?_
        intro a henv
        refine wpList_nil ?_
        refine th_n ?_
        refine if_t henv rfl (rfl) ?_
        refine wp_skip ?_
        refine th_n ?_
        refine wp_block ?_
        refine region_seq ?_
        revert a
        refine mA rfl rfl ?_
        refine sA (v := .int .i64 (q + 1 : Nat)) rfl (fun _ henv => rn_add henv rfl rfl (by rw [IntWalk.i64_in _ (by omega)]; omega)) ?_
        refine aA rfl rfl ?_
        intro a henv
        refine wpList_nil ?_
        refine bl_n ?_
        exact th_n ⟨_, (by omega), ⟨q + 1, rfl, henv.sub ⟨rfl, rfl, rfl, rfl, rfl, rfl, trivial⟩, hst.pick [0, 1] [0] (by decide), (by omega), (by omega), (range_step hq3 (.inl hv2))⟩⟩
      · refine wp_seq ?_
        refine wp_seq ?_
        refine region_seq ?_
        revert a
        refine mA rfl rfl ?_
        refine mA rfl rfl ?_
        refine sA (v := .int .i64 (s.length : Nat)) rfl (fun _ henv => rn_lenS henv Tryd.underlying9 rfl) ?_
        refine sA (v := .bool (decide (((q : Nat) : Int) < ((s.length : Nat) : Int)))) rfl (fun _ henv => rn_bin henv rfl rfl rfl) ?_
        intro a henv
        rw [show (decide (((q : Nat) : Int) < ((s.length : Nat) : Int))) = true from decide_eq_true (by omega)] at henv
        revert a
        refine mA rfl rfl ?_
        refine gA (v := .string ⟨s.toArray⟩) rfl rfl rfl rfl (fun _ henv => rn_move henv rfl) ?_
        refine gA (v := .int .i64 (q : Nat)) rfl rfl rfl rfl (fun _ henv => rn_move henv rfl) ?_
        refine gA (v := .int .u8 ((s.getD q 0).toNat : Nat)) rfl rfl rfl rfl (fun _ henv => rn_idxS (i := q) henv Tryd.underlying9 rfl rfl (by omega)) ?_
        refine gA (v := .bool ((((s.getD q 0).toNat : Nat) : Int) == (45 : Int))) rfl rfl rfl rfl (fun _ henv => rn_bin henv rfl rfl rfl) ?_
        intro a henv
        rw [show ((((s.getD q 0).toNat : Nat) : Int) == (45 : Int)) = false from beq_eq_false_iff_ne.2 (by omega)] at henv
        revert a
        refine gA (v := .bool false) rfl rfl rfl rfl (fun _ henv => rn_move henv rfl) ?_
        refine gA (v := .string ⟨s.toArray⟩) rfl rfl rfl rfl (fun _ henv => rn_move henv rfl) ?_
        refine gA (v := .int .i64 (q : Nat)) rfl rfl rfl rfl (fun _ henv => rn_move henv rfl) ?_
        refine gA (v := .int .u8 ((s.getD q 0).toNat : Nat)) rfl rfl rfl rfl (fun _ henv => rn_idxS (i := q) henv Tryd.underlying9 rfl rfl (by omega)) ?_
        refine gA (v := .bool (decide ((((s.getD q 0).toNat : Nat) : Int) ≥ (48 : Int)))) rfl rfl rfl rfl (fun _ henv => rn_bin henv rfl rfl rfl) ?_
        intro a henv
        rw [show (decide ((((s.getD q 0).toNat : Nat) : Int) ≥ (48 : Int))) = false from decide_eq_false (by omega)] at henv
        revert a
        refine gA (v := .bool false) rfl rfl rfl rfl (fun _ henv => rn_move henv rfl) ?_
        refine kA rfl rfl rfl rfl rfl ?_
        refine kA rfl rfl rfl rfl rfl ?_
        refine kA rfl rfl rfl rfl rfl ?_
        refine kA rfl rfl rfl rfl rfl ?_
        refine gA (v := .bool false) rfl rfl rfl rfl (fun _ henv => rn_pick henv rfl rfl) ?_
        refine gA (v := .bool false) rfl rfl rfl rfl (fun _ henv => rn_pick henv rfl rfl) ?_
        refine sA (v := .bool false) rfl (fun _ henv => rn_pick henv rfl rfl) ?_
        intro a henv
        refine wpList_nil ?_
        refine th_n ?_
        refine if_f henv rfl (rfl) ?_
        refine wp_exit ?_
        refine th_x (th_x (bl_x (th_n ?_)))
        exact ⟨q, henv.sub ⟨rfl, rfl, rfl, rfl, rfl, rfl, trivial⟩, hst.pick [0, 1] [0] (by decide), ⟨hq1, hq2, hq3, fun _ hn => by unfold ndg at hn; omega⟩⟩
      · refine wp_seq ?_
        refine wp_seq ?_
        refine region_seq ?_
        revert a
        refine mA rfl rfl ?_
        refine mA rfl rfl ?_
        refine sA (v := .int .i64 (s.length : Nat)) rfl (fun _ henv => rn_lenS henv Tryd.underlying9 rfl) ?_
        refine sA (v := .bool (decide (((q : Nat) : Int) < ((s.length : Nat) : Int)))) rfl (fun _ henv => rn_bin henv rfl rfl rfl) ?_
        intro a henv
        rw [show (decide (((q : Nat) : Int) < ((s.length : Nat) : Int))) = true from decide_eq_true (by omega)] at henv
        revert a
        refine mA rfl rfl ?_
        refine gA (v := .string ⟨s.toArray⟩) rfl rfl rfl rfl (fun _ henv => rn_move henv rfl) ?_
        refine gA (v := .int .i64 (q : Nat)) rfl rfl rfl rfl (fun _ henv => rn_move henv rfl) ?_
        refine gA (v := .int .u8 ((s.getD q 0).toNat : Nat)) rfl rfl rfl rfl (fun _ henv => rn_idxS (i := q) henv Tryd.underlying9 rfl rfl (by omega)) ?_
        refine gA (v := .bool ((((s.getD q 0).toNat : Nat) : Int) == (45 : Int))) rfl rfl rfl rfl (fun _ henv => rn_bin henv rfl rfl rfl) ?_
        intro a henv
        rw [show ((((s.getD q 0).toNat : Nat) : Int) == (45 : Int)) = false from beq_eq_false_iff_ne.2 (by omega)] at henv
        revert a
        refine gA (v := .bool false) rfl rfl rfl rfl (fun _ henv => rn_move henv rfl) ?_
        refine gA (v := .string ⟨s.toArray⟩) rfl rfl rfl rfl (fun _ henv => rn_move henv rfl) ?_
        refine gA (v := .int .i64 (q : Nat)) rfl rfl rfl rfl (fun _ henv => rn_move henv rfl) ?_
        refine gA (v := .int .u8 ((s.getD q 0).toNat : Nat)) rfl rfl rfl rfl (fun _ henv => rn_idxS (i := q) henv Tryd.underlying9 rfl rfl (by omega)) ?_
        refine gA (v := .bool (decide ((((s.getD q 0).toNat : Nat) : Int) ≥ (48 : Int)))) rfl rfl rfl rfl (fun _ henv => rn_bin henv rfl rfl rfl) ?_
        intro a henv
        rw [show (decide ((((s.getD q 0).toNat : Nat) : Int) ≥ (48 : Int))) = true from decide_eq_true (by omega)] at henv
        revert a
        refine gA (v := .bool true) rfl rfl rfl rfl (fun _ henv => rn_move henv rfl) ?_
        refine gA (v := .string ⟨s.toArray⟩) rfl rfl rfl rfl (fun _ henv => rn_move henv rfl) ?_
        refine gA (v := .int .i64 (q : Nat)) rfl rfl rfl rfl (fun _ henv => rn_move henv rfl) ?_
        refine gA (v := .int .u8 ((s.getD q 0).toNat : Nat)) rfl rfl rfl rfl (fun _ henv => rn_idxS (i := q) henv Tryd.underlying9 rfl rfl (by omega)) ?_
        refine gA (v := .bool (decide ((((s.getD q 0).toNat : Nat) : Int) ≤ (57 : Int)))) rfl rfl rfl rfl (fun _ henv => rn_bin henv rfl rfl rfl) ?_
        intro a henv
        rw [show (decide ((((s.getD q 0).toNat : Nat) : Int) ≤ (57 : Int))) = true from decide_eq_true (by omega)] at henv
        revert a
        refine gA (v := .bool true) rfl rfl rfl rfl (fun _ henv => rn_pick henv rfl rfl) ?_
        refine gA (v := .bool true) rfl rfl rfl rfl (fun _ henv => rn_pick henv rfl rfl) ?_
        refine sA (v := .bool true) rfl (fun _ henv => rn_pick henv rfl rfl) ?_
        intro a henv
        refine wpList_nil ?_
        refine th_n ?_
        refine if_t henv rfl (rfl) ?_
        refine wp_skip ?_
        refine th_n ?_
        refine wp_block ?_
        refine region_seq ?_
        revert a
        refine mA rfl rfl ?_
        refine sA (v := .int .i64 (q + 1 : Nat)) rfl (fun _ henv => rn_add henv rfl rfl (by rw [IntWalk.i64_in _ (by omega)]; omega)) ?_
        refine aA rfl rfl ?_
        intro a henv
        refine wpList_nil ?_
        refine bl_n ?_
        exact th_n ⟨_, (by omega), ⟨q + 1, rfl, henv.sub ⟨rfl, rfl, rfl, rfl, rfl, rfl, trivial⟩, hst.pick [0, 1] [0] (by decide), (by omega), (by omega), (range_step hq3 (.inr ⟨hv2, hv3⟩))⟩⟩
      · refine wp_seq ?_
        refine wp_seq ?_
        refine region_seq ?_
        revert a
        refine mA rfl rfl ?_
        refine mA rfl rfl ?_
        refine sA (v := .int .i64 (s.length : Nat)) rfl (fun _ henv => rn_lenS henv Tryd.underlying9 rfl) ?_
        refine sA (v := .bool (decide (((q : Nat) : Int) < ((s.length : Nat) : Int)))) rfl (fun _ henv => rn_bin henv rfl rfl rfl) ?_
        intro a henv
        rw [show (decide (((q : Nat) : Int) < ((s.length : Nat) : Int))) = true from decide_eq_true (by omega)] at henv
        revert a
        refine mA rfl rfl ?_
        refine gA (v := .string ⟨s.toArray⟩) rfl rfl rfl rfl (fun _ henv => rn_move henv rfl) ?_
        refine gA (v := .int .i64 (q : Nat)) rfl rfl rfl rfl (fun _ henv => rn_move henv rfl) ?_
        refine gA (v := .int .u8 ((s.getD q 0).toNat : Nat)) rfl rfl rfl rfl (fun _ henv => rn_idxS (i := q) henv Tryd.underlying9 rfl rfl (by omega)) ?_
        refine gA (v := .bool ((((s.getD q 0).toNat : Nat) : Int) == (45 : Int))) rfl rfl rfl rfl (fun _ henv => rn_bin henv rfl rfl rfl) ?_
        intro a henv
        rw [show ((((s.getD q 0).toNat : Nat) : Int) == (45 : Int)) = false from beq_eq_false_iff_ne.2 (by omega)] at henv
        revert a
        refine gA (v := .bool false) rfl rfl rfl rfl (fun _ henv => rn_move henv rfl) ?_
        refine gA (v := .string ⟨s.toArray⟩) rfl rfl rfl rfl (fun _ henv => rn_move henv rfl) ?_
        refine gA (v := .int .i64 (q : Nat)) rfl rfl rfl rfl (fun _ henv => rn_move henv rfl) ?_
        refine gA (v := .int .u8 ((s.getD q 0).toNat : Nat)) rfl rfl rfl rfl (fun _ henv => rn_idxS (i := q) henv Tryd.underlying9 rfl rfl (by omega)) ?_
        refine gA (v := .bool (decide ((((s.getD q 0).toNat : Nat) : Int) ≥ (48 : Int)))) rfl rfl rfl rfl (fun _ henv => rn_bin henv rfl rfl rfl) ?_
        intro a henv
        rw [show (decide ((((s.getD q 0).toNat : Nat) : Int) ≥ (48 : Int))) = true from decide_eq_true (by omega)] at henv
        revert a
        refine gA (v := .bool true) rfl rfl rfl rfl (fun _ henv => rn_move henv rfl) ?_
        refine gA (v := .string ⟨s.toArray⟩) rfl rfl rfl rfl (fun _ henv => rn_move henv rfl) ?_
        refine gA (v := .int .i64 (q : Nat)) rfl rfl rfl rfl (fun _ henv => rn_move henv rfl) ?_
        refine gA (v := .int .u8 ((s.getD q 0).toNat : Nat)) rfl rfl rfl rfl (fun _ henv => rn_idxS (i := q) henv Tryd.underlying9 rfl rfl (by omega)) ?_
        refine gA (v := .bool (decide ((((s.getD q 0).toNat : Nat) : Int) ≤ (57 : Int)))) rfl rfl rfl rfl (fun _ henv => rn_bin henv rfl rfl rfl) ?_
        intro a henv
        rw [show (decide ((((s.getD q 0).toNat : Nat) : Int) ≤ (57 : Int))) = false from decide_eq_false (by omega)] at henv
        revert a
        refine gA (v := .bool false) rfl rfl rfl rfl (fun _ henv => rn_pick henv rfl rfl) ?_
        refine gA (v := .bool false) rfl rfl rfl rfl (fun _ henv => rn_pick henv rfl rfl) ?_
        refine sA (v := .bool false) rfl (fun _ henv => rn_pick henv rfl rfl) ?_
        intro a henv
        refine wpList_nil ?_
        refine th_n ?_
        refine if_f henv rfl (rfl) ?_
        refine wp_exit ?_
        refine th_x (th_x (bl_x (th_n ?_)))
        exact ⟨q, henv.sub ⟨rfl, rfl, rfl, rfl, rfl, rfl, trivial⟩, hst.pick [0, 1] [0] (by decide), ⟨hq1, hq2, hq3, fun _ hn => by unfold ndg at hn; omega⟩⟩
    clear henv hst a
    rintro a w55 ⟨q, henv, hst, hsen⟩
    have hs1 := hsen.1
    have hs2 := hsen.2.1
    have hlw : (cutw s p q).length ≤ 65536 := by rw [cutw_len hs1 hs2]; omega
    refine wp_seq ?_
    refine region_seq ?_
    revert a
    refine mA rfl rfl ?_
    refine mA rfl rfl ?_
    refine mA rfl rfl ?_
    refine sA (v := .string ⟨((s.drop p).take (q - p)).toArray⟩) rfl (fun _ henv => rn_cutS (n := p) (m := q) henv Tryd.underlying9 rfl rfl rfl (by omega) (by omega)) ?_
    intro a henv
    refine seq_step rfl (op_call henv rfl Tryd.call99 rfl (iread_w (t := cutw s p q) hlw) ?_)
    rintro e w59 ⟨z1, e1, a1, _, rfl, ⟨A56, c57, rfl, hz58⟩, hw, hb⟩
    refine ⟨_, rfl, ?_⟩
    clear henv a; intro a henv
    replace hst := (hst.call hb).addZ hz58 ⟨nou_rowS, nou_bk rfl, trivial⟩
    clear hz58
    clear hb
    revert a
    refine mA rfl rfl ?_
    refine sA (v := .agg #[.bool (neg z1), .slice A56 (zl z1) c57]) rfl (fun _ henv => rn_extract henv rfl rfl) ?_
    refine sA (v := .agg #[.int .i64 e1, .int .i64 a1]) rfl (fun _ henv => rn_extract henv rfl rfl) ?_
    intro a henv
    refine seq_step rfl (op_alloc (c := #[.bool (neg 0), .slice none (zl 0) 0]) henv hst rfl zero_anvil_integer_Int zcells ?_)
    clear henv hst a; intro a w61 g60 henv hst
    refine seq_step rfl (op_alloc (c := #[.int .i64 0, .int .i64 0]) henv hst rfl zero_anvil_api_Spot rfl ?_)
    clear henv hst a; intro a w63 g62 henv hst
    refine seq_step rfl (op_store (k := 1) (c' := #[.bool (neg z1), .slice A56 (zl z1) c57]) henv hst (ty_anvil_integer_Int.size) rfl rfl rfl rfl (by simp) rfl rfl ?_)
    clear henv hst a; intro a w64 henv hst
    refine seq_step rfl (op_store (k := 0) (c' := #[.int .i64 e1, .int .i64 a1]) henv hst (ty_anvil_api_Spot.size) rfl rfl rfl rfl (by simp) rfl rfl ?_)
    clear henv hst a; intro a w65 henv hst
    refine wpList_nil ?_
    refine th_n ?_
    refine wp_seq ?_
    refine wp_block ?_
    refine wp_seq ?_
    refine region_seq ?_
    revert a
    refine sA (v := .pointer (some ⟨g62, 0, none⟩)) rfl (fun _ henv => rn_fieldAddr henv fd_anvil_api_Spot_0 (ty_anvil_api_Errno.size) (by decide) rfl) ?_
    refine sA (v := .int .i64 e1) rfl (fun _ henv => rn_load1 henv ty_anvil_api_Errno rfl (hst.oat (k := 0) rfl) rfl) ?_
    refine sA (v := .bool (e1 != (0 : Int))) rfl (fun _ henv => rn_bin henv rfl rfl rfl) ?_
    refine aA rfl rfl ?_
    intro a henv
    refine wpList_nil ?_
    refine th_n ?_
    refine if_split henv rfl (fun hc66 => ?_) (fun hc66 => ?_)
    · obtain ⟨rfl, b, rfl, hrb⟩ := wd_bad hw hc66
      have hbl := rb_le hrb
      rw [cutw_len hs1 hs2] at hbl
      refine wp_seq ?_
      refine region_seq ?_
      revert a
      refine mA rfl rfl ?_
      refine mA rfl rfl ?_
      refine sA (v := .pointer (some ⟨g62, 1, none⟩)) rfl (fun _ henv => rn_fieldAddr henv fd_anvil_api_Spot_1 (ty_int.size) (by decide) rfl) ?_
      refine sA (v := .int .i64 (b : Nat)) rfl (fun _ henv => rn_load1 henv ty_int rfl (hst.oat (k := 0) rfl) rfl) ?_
      refine sA (v := .int .i64 (p + b : Nat)) rfl (fun _ henv => rn_add henv rfl rfl (by rw [IntWalk.i64_in _ (by omega)]; omega)) ?_
      intro a henv
      refine seq_step rfl (op_callc (vs := #[.int .i64 (p + b : Nat)]) henv rfl Tryd.call97 rfl rfl (calls_app (by simp) (row_wrong (p := p + b))) ?_)
      rintro e w67 ⟨rfl, hb⟩
      refine ⟨_, rfl, ?_⟩
      clear henv a; intro a henv
      replace hst := hst.call hb
      clear hb
      revert a
      refine sA (v := .slice none 0 0) rfl (fun _ henv => rn_extract henv rfl rfl) ?_
      refine sA (v := .agg #[.int .i64 6, .int .i64 (p + b : Nat)]) rfl (fun _ henv => rn_extract henv rfl rfl) ?_
      refine aA rfl rfl ?_
      intro a henv
      refine seq_step rfl (op_store (k := 3) (c' := #[.int .i64 6, .int .i64 (p + b : Nat)]) henv hst (ty_anvil_api_Spot.size) rfl rfl rfl rfl (by simp) rfl rfl ?_)
      clear henv hst a; intro a w68 henv hst
      refine wpList_nil ?_
      refine th_n ?_
      refine wp_ret ?_
      refine bl_r (th_r (sj_r ?_))
      refine leave henv (res2 Tryd.results78 (RV.tmp henv rfl) (RV.cell henv ty_anvil_api_Spot rfl (hst.oat (k := 3) rfl) rfl)) ?_
      exact ⟨.inr (.inl ⟨_, (.go h0 hne h1 (hgo _ (go_bad hsen hrb))), rfl⟩), hst.below⟩
    · obtain ⟨rfl, rfl, hrz⟩ := wd_ok hw hc66
      refine wp_seq ?_
      refine region_seq ?_
      revert a
      refine mA rfl rfl ?_
      refine sA (v := .int .i64 (j : Nat)) rfl (fun _ henv => rn_len henv Tryd.underlying32 rfl) ?_
      refine sA (v := .bool (((j : Nat) : Int) == (4096 : Int))) rfl (fun _ henv => rn_bin henv rfl rfl rfl) ?_
      refine aA rfl rfl ?_
      intro a henv
      refine wpList_nil ?_
      refine th_n ?_
      refine if_split henv rfl (fun hc69 => ?_) (fun hc69 => ?_)
      · have hj4 := eq_of_beq hc69
        replace hj4 : j = 4096 := by omega
        refine wp_seq ?_
        refine region_seq ?_
        revert a
        refine mA rfl rfl ?_
        refine sA (v := .agg #[.int .i64 3, .int .i64 (p : Nat)]) rfl (fun _ henv => rn_spot2 henv rfl rfl) ?_
        refine aA rfl rfl ?_
        intro a henv
        refine seq_step rfl (op_store (k := 3) (c' := #[.int .i64 3, .int .i64 (p : Nat)]) henv hst (ty_anvil_api_Spot.size) rfl rfl rfl rfl (by simp) rfl rfl ?_)
        clear henv hst a; intro a w70 henv hst
        refine wpList_nil ?_
        refine th_n ?_
        refine wp_ret ?_
        refine bl_r (th_r (sj_r ?_))
        refine leave henv (res2 Tryd.results78 (RV.tmp henv rfl) (RV.cell henv ty_anvil_api_Spot rfl (hst.oat (k := 3) rfl) rfl)) ?_
        exact ⟨.inr (.inr ⟨p, zs, by omega, hp1, hpre, rfl⟩), hst.below⟩
      · have hj4 := ne_of_beq_false hc69
        replace hj4 : j < 4096 := by omega
        refine wp_skip ?_
        refine bl_n (th_n ?_)
        refine wp_seq ?_
        refine region_seq ?_
        revert a
        refine mA rfl rfl ?_
        refine sA (v := .agg #[.bool (neg z1), .slice A56 (zl z1) c57]) rfl (fun _ henv => rn_load0 henv ty_anvil_integer_Int rfl (hst.oat (k := 1) rfl) rfl) ?_
        intro a henv
        refine seq_step rfl (op_buildSlice (z := 2) (pv := #[(0, .agg #[.bool (neg z1), .slice A56 (zl z1) c57])]) (c := #[.bool (neg z1), .slice A56 (zl z1) c57]) henv hst rfl Tryd.underlying32 (ty_anvil_integer_Int.size) zero_anvil_integer_Int (by decide) (by decide) rfl (by kernel_rfl) ?_)
        clear henv hst a; intro a w72 g71 henv hst
        refine seq_step rfl (op_appendS (k := 3) (j := 0) henv hst rfl Tryd.underlying32 inf_anvil_integer_Int rfl rfl rfl rfl rfl rfl rfl rfl rfl rfl rfl (by unfold maxLen; omega) (by omega) ?_)
        clear henv hst a; intro a w75 g73 c74 henv hst
        rw [show fl fN os ++ (#[.bool (neg z1), .slice A56 (zl z1) c57] : Array Value).toList = fl fN (os ++ [(A56, c57, z1)]) from fl_snoc (f := fN) os (A56, c57, z1)] at hst
        replace hst := hst.snocEs (e := (A56, c57, z1)) (i := 1) (j := 0) rfl rfl
        refine sv (v := .slice (some ⟨g73, 0, none⟩) (j + 1) c74) henv rfl (rn_assign henv rfl) ?_
        clear henv a; intro a henv
        refine wpList_nil ?_
        refine th_n ?_
        refine wp_seq ?_
        refine wp_block ?_
        refine wp_seq ?_
        refine region_seq ?_
        revert a
        refine mA rfl rfl ?_
        refine mA rfl rfl ?_
        refine sA (v := .int .i64 (s.length : Nat)) rfl (fun _ henv => rn_lenS henv Tryd.underlying9 rfl) ?_
        refine sA (v := .bool (((q : Nat) : Int) == ((s.length : Nat) : Int))) rfl (fun _ henv => rn_bin henv rfl rfl rfl) ?_
        refine aA rfl rfl ?_
        intro a henv
        refine wpList_nil ?_
        refine th_n ?_
        refine if_split henv rfl (fun hc76 => ?_) (fun hc76 => ?_)
        · have hqe := eq_of_beq hc76
          replace hqe : q = s.length := by omega
          refine wp_seq ?_
          refine region_seq ?_
          revert a
          refine mA rfl rfl ?_
          refine mA rfl rfl ?_
          intro a henv
          refine seq_step rfl (op_callc (vs := #[.int .i64 (q : Nat)]) henv rfl Tryd.call97 rfl rfl (calls_app (by simp) (row_wrong (p := q))) ?_)
          rintro e w77 ⟨rfl, hb⟩
          refine ⟨_, rfl, ?_⟩
          clear henv a; intro a henv
          replace hst := hst.call hb
          clear hb
          revert a
          refine sA (v := .slice none 0 0) rfl (fun _ henv => rn_extract henv rfl rfl) ?_
          refine sA (v := .agg #[.int .i64 6, .int .i64 (q : Nat)]) rfl (fun _ henv => rn_extract henv rfl rfl) ?_
          refine aA rfl rfl ?_
          intro a henv
          refine seq_step rfl (op_store (k := 4) (c' := #[.int .i64 6, .int .i64 (q : Nat)]) henv hst (ty_anvil_api_Spot.size) rfl rfl rfl rfl (by simp) rfl rfl ?_)
          clear henv hst a; intro a w78 henv hst
          refine wpList_nil ?_
          refine th_n ?_
          refine wp_ret ?_
          refine bl_r (th_r (sj_r ?_))
          refine leave henv (res2 Tryd.results78 (RV.tmp henv rfl) (RV.cell henv ty_anvil_api_Spot rfl (hst.oat (k := 4) rfl) rfl)) ?_
          exact ⟨.inr (.inl ⟨_, (.go h0 hne h1 (hgo _ (go_fin hsen hrz hqe))), rfl⟩), hst.below⟩
        · have hqe := ne_of_beq_false hc76
          have hql : q < s.length := by omega
          refine wp_seq ?_
          refine region_seq ?_
          revert a
          refine mA rfl rfl ?_
          refine mA rfl rfl ?_
          refine sA (v := .int .u8 ((s.getD q 0).toNat : Nat)) rfl (fun _ henv => rn_idxS (i := q) henv Tryd.underlying9 rfl rfl (by omega)) ?_
          refine sA (v := .bool ((((s.getD q 0).toNat : Nat) : Int) == (32 : Int))) rfl (fun _ henv => rn_bin henv rfl rfl rfl) ?_
          refine aA rfl rfl ?_
          intro a henv
          refine wpList_nil ?_
          refine th_n ?_
          refine if_split henv rfl (fun hc79 => ?_) (fun hc79 => ?_)
          · have hcc := eq_of_beq hc79
            replace hcc : (s.getD q 0).toNat = 32 := by omega
            have hseg : Seg s p q := sen_stp hsen (fun _ => .inl hcc)
            refine wp_seq ?_
            refine region_seq ?_
            revert a
            refine mA rfl rfl ?_
            refine sA (v := .int .i64 (q + 1 : Nat)) rfl (fun _ henv => rn_add henv rfl rfl (by rw [IntWalk.i64_in _ (by omega)]; omega)) ?_
            refine aA rfl rfl ?_
            intro a henv
            refine wpList_nil ?_
            refine th_n ?_
            refine wp_goto ?_
            refine bl_g (th_g (sj_g ?_))
            exact ⟨_, (by omega), ⟨(q + 1), (j + 1), (zs ++ [z1]), (some ⟨g73, 0, none⟩), c74, (os ++ [(A56, c57, z1)]), rfl, henv.sub ⟨rfl, rfl, rfl, rfl, rfl, trivial⟩, hst.pick [3, 4] [0] (by decide), (by omega), (by omega), (by omega), (by rw [List.length_append, hzl]; rfl), (by rw [List.map_append, ho]; rfl), (pre_step hpre hrz hs1 hql hcc), (fun r hr => hgo r (.next hseg hrz hql hcc hr))⟩⟩
          · have hcc := ne_of_beq_false hc79
            refine wp_seq ?_
            refine region_seq ?_
            revert a
            refine mA rfl rfl ?_
            refine mA rfl rfl ?_
            refine sA (v := .int .u8 ((s.getD q 0).toNat : Nat)) rfl (fun _ henv => rn_idxS (i := q) henv Tryd.underlying9 rfl rfl (by omega)) ?_
            refine sA (v := .bool ((((s.getD q 0).toNat : Nat) : Int) != (93 : Int))) rfl (fun _ henv => rn_bin henv rfl rfl rfl) ?_
            refine aA rfl rfl ?_
            intro a henv
            refine wpList_nil ?_
            refine th_n ?_
            refine if_split henv rfl (fun hc80 => ?_) (fun hc80 => ?_)
            · have hdd := bne_iff_ne.1 hc80
              have hns : ¬ stp (s.getD q 0) := fun hn => by unfold stp at hn; omega
              refine wp_seq ?_
              refine region_seq ?_
              revert a
              refine mA rfl rfl ?_
              refine mA rfl rfl ?_
              intro a henv
              refine seq_step rfl (op_callc (vs := #[.int .i64 (q : Nat)]) henv rfl Tryd.call97 rfl rfl (calls_app (by simp) (row_wrong (p := q))) ?_)
              rintro e w81 ⟨rfl, hb⟩
              refine ⟨_, rfl, ?_⟩
              clear henv a; intro a henv
              replace hst := hst.call hb
              clear hb
              revert a
              refine sA (v := .slice none 0 0) rfl (fun _ henv => rn_extract henv rfl rfl) ?_
              refine sA (v := .agg #[.int .i64 6, .int .i64 (q : Nat)]) rfl (fun _ henv => rn_extract henv rfl rfl) ?_
              refine aA rfl rfl ?_
              intro a henv
              refine seq_step rfl (op_store (k := 4) (c' := #[.int .i64 6, .int .i64 (q : Nat)]) henv hst (ty_anvil_api_Spot.size) rfl rfl rfl rfl (by simp) rfl rfl ?_)
              clear henv hst a; intro a w82 henv hst
              refine wpList_nil ?_
              refine th_n ?_
              refine wp_ret ?_
              refine bl_r (th_r (sj_r ?_))
              refine leave henv (res2 Tryd.results78 (RV.tmp henv rfl) (RV.cell henv ty_anvil_api_Spot rfl (hst.oat (k := 4) rfl) rfl)) ?_
              exact ⟨.inr (.inl ⟨_, (.go h0 hne h1 (hgo _ (go_odd hsen hrz hql hns))), rfl⟩), hst.below⟩
            · have hdd := eq_of_bneF hc80
              replace hdd : (s.getD q 0).toNat = 93 := by omega
              have hseg : Seg s p q := sen_stp hsen (fun _ => .inr hdd)
              refine wp_seq ?_
              refine region_seq ?_
              revert a
              refine mA rfl rfl ?_
              refine sA (v := .int .i64 (q + 1 : Nat)) rfl (fun _ henv => rn_add henv rfl rfl (by rw [IntWalk.i64_in _ (by omega)]; omega)) ?_
              refine mA rfl rfl ?_
              refine sA (v := .int .i64 (s.length : Nat)) rfl (fun _ henv => rn_lenS henv Tryd.underlying9 rfl) ?_
              refine sA (v := .bool (decide (((q + 1 : Nat) : Int) < ((s.length : Nat) : Int)))) rfl (fun _ henv => rn_bin henv rfl rfl rfl) ?_
              refine aA rfl rfl ?_
              intro a henv
              refine wpList_nil ?_
              refine th_n ?_
              refine if_split henv rfl (fun hc83 => ?_) (fun hc83 => ?_)
              · have hlast := of_decide_eq_true hc83
                refine wp_seq ?_
                refine region_seq ?_
                revert a
                refine mA rfl rfl ?_
                refine mA rfl rfl ?_
                refine sA (v := .int .i64 (q + 1 : Nat)) rfl (fun _ henv => rn_add henv rfl rfl (by rw [IntWalk.i64_in _ (by omega)]; omega)) ?_
                intro a henv
                refine seq_step rfl (op_callc (vs := #[.int .i64 (q + 1 : Nat)]) henv rfl Tryd.call97 rfl rfl (calls_app (by simp) (row_wrong (p := q + 1))) ?_)
                rintro e w84 ⟨rfl, hb⟩
                refine ⟨_, rfl, ?_⟩
                clear henv a; intro a henv
                replace hst := hst.call hb
                clear hb
                revert a
                refine sA (v := .slice none 0 0) rfl (fun _ henv => rn_extract henv rfl rfl) ?_
                refine sA (v := .agg #[.int .i64 6, .int .i64 (q + 1 : Nat)]) rfl (fun _ henv => rn_extract henv rfl rfl) ?_
                refine aA rfl rfl ?_
                intro a henv
                refine seq_step rfl (op_store (k := 4) (c' := #[.int .i64 6, .int .i64 (q + 1 : Nat)]) henv hst (ty_anvil_api_Spot.size) rfl rfl rfl rfl (by simp) rfl rfl ?_)
                clear henv hst a; intro a w85 henv hst
                refine wpList_nil ?_
                refine th_n ?_
                refine wp_ret ?_
                refine bl_r (th_r (sj_r ?_))
                refine leave henv (res2 Tryd.results78 (RV.tmp henv rfl) (RV.cell henv ty_anvil_api_Spot rfl (hst.oat (k := 4) rfl) rfl)) ?_
                exact ⟨.inr (.inl ⟨_, (.go h0 hne h1 (hgo _ (.more hseg hrz hdd (by omega)))), rfl⟩), hst.below⟩
              · have hlast := of_decide_eq_false hc83
                refine wp_skip ?_
                refine bl_n (th_n ?_)
                refine wp_seq ?_
                refine region_seq ?_
                revert a
                refine mA rfl rfl ?_
                refine sA (v := .agg #[.int .i64 0, .int .i64 0]) rfl (fun _ henv => rn_spot0) ?_
                refine aA rfl rfl ?_
                intro a henv
                refine seq_step rfl (op_store (k := 4) (c' := #[.int .i64 0, .int .i64 0]) henv hst (ty_anvil_api_Spot.size) rfl rfl rfl rfl (by simp) rfl rfl ?_)
                clear henv hst a; intro a w86 henv hst
                refine wpList_nil ?_
                refine th_n ?_
                refine wp_ret ?_
                refine sj_r ?_
                refine leave henv (res2 Tryd.results78 (RV.tmp henv rfl) (RV.cell henv ty_anvil_api_Spot rfl (hst.oat (k := 4) rfl) rfl)) ?_
                exact ⟨.inl ⟨zs ++ [z1], _, _, (.go h0 hne h1 (hgo _ (.done hseg hrz hdd (by omega)))), (by rw [List.length_append, hzl]; rfl), (by omega), rfl, ⟨_, _, _, rfl, hst.newRow (k := 3) (j := 0) rfl rfl, (by have hol := congrArg List.length ho; rw [List.length_map] at hol; rw [List.length_append, hol, hzl]; rfl), (by rw [List.map_append, ho]; rfl)⟩⟩, hst.below⟩
  · intro hR
    refine wp_seq ?_
    refine wp_seq ?_
    refine region_seq ?_
    revert a
    refine mA rfl rfl ?_
    refine sA (v := .int .i64 (s.length : Nat)) rfl (fun _ henv => rn_lenS henv Tryd.underlying9 rfl) ?_
    refine sA (v := .bool (decide (((s.length : Nat) : Int) > (65536 : Int)))) rfl (fun _ henv => rn_bin henv rfl rfl rfl) ?_
    intro a henv
    rw [show (decide (((s.length : Nat) : Int) > (65536 : Int))) = false from decide_eq_false (by omega)] at henv
    refine wpList_nil ?_
    refine th_n ?_
    refine if_f henv rfl (rfl) ?_
    refine wp_skip ?_
    refine th_n ?_
    refine wp_seq ?_
    refine region_seq ?_
    refine sv (v := .func (.func 97) #[] #[]) henv rfl (rn_assign henv rfl) ?_
    clear henv a; intro a henv
    refine wpList_nil ?_
    refine th_n ?_
    refine wp_seq ?_
    refine wp_seq ?_
    refine region_seq ?_
    revert a
    refine mA rfl rfl ?_
    refine sA (v := .bool (decide (s = []))) rfl (fun _ henv => rn_eqls (s := s) (t := []) henv rfl rfl) ?_
    intro a henv
    rw [show (decide (s = [])) = false from decide_eq_false hne] at henv
    revert a
    refine mA rfl rfl ?_
    refine gA (v := .string ⟨s.toArray⟩) rfl rfl rfl rfl (fun _ henv => rn_move henv rfl) ?_
    refine gA (v := .int .u8 ((s.getD 0 0).toNat : Nat)) rfl rfl rfl rfl (fun _ henv => rn_idxS (i := 0) henv Tryd.underlying9 rfl rfl (by omega)) ?_
    refine gA (v := .bool ((((s.getD 0 0).toNat : Nat) : Int) != (91 : Int))) rfl rfl rfl rfl (fun _ henv => rn_bin henv rfl rfl rfl) ?_
    intro a henv
    rw [show ((((s.getD 0 0).toNat : Nat) : Int) != (91 : Int)) = false from bne_false (by omega)] at henv
    refine sv (v := .bool false) henv rfl (rn_pick henv rfl rfl) ?_
    clear henv a; intro a henv
    refine wpList_nil ?_
    refine th_n ?_
    refine if_f henv rfl (rfl) ?_
    refine wp_skip ?_
    refine th_n ?_
    refine wp_seq ?_
    refine region_seq ?_
    refine sv (v := .slice none 0 0) henv rfl (rn_assign henv rfl) ?_
    clear henv a; intro a henv
    refine wpList_nil ?_
    replace hst := (hst.addRowS notU 28 2).nilEs FN
    replace hst : St w0 _ [rowS notU 28 2 none 0 0 (fl fN ([])), bk g51 #[.int .i64 0, .int .i64 0] 71] [pfEs FN ([])] := hst
    refine th_n ?_
    refine wp_seq ?_
    refine region_seq ?_
    refine sv (v := .int .i64 1) henv rfl (rn_assign henv rfl) ?_
    clear henv a; intro a henv
    refine wpList_nil ?_
    refine th_n ?_
    refine wp_seq ?_
    refine wp_seq ?_
    refine region_seq ?_
    revert a
    refine mA rfl rfl ?_
    refine sA (v := .bool (decide (s = [91, 93]))) rfl (fun _ henv => rn_eqls (s := s) (t := [91, 93]) henv rfl rfl) ?_
    intro a henv
    rw [show (decide (s = [91, 93])) = false from decide_eq_false (fun e => h1 (by subst e; exact ⟨by decide, rfl⟩))] at henv
    refine wpList_nil ?_
    refine th_n ?_
    refine if_f henv rfl (rfl) ?_
    refine wp_skip ?_
    refine th_n ?_
    refine wp_seq ?_
    refine wp_seq ?_
    refine region_seq ?_
    refine sv (v := .string ⟨s.toArray⟩) henv rfl (rn_move henv rfl) ?_
    clear henv a; intro a henv
    refine seq_step rfl (op_call henv rfl Tryd.call98 rfl (hpx_no h1) ?_)
    rintro e w87 ⟨rfl, hb⟩
    refine ⟨_, rfl, ?_⟩
    clear henv a; intro a henv
    replace hst := hst.call hb
    clear hb
    refine wpList_nil ?_
    refine th_n ?_
    refine if_f henv rfl (rfl) ?_
    refine wp_skip ?_
    refine th_n ?_
    refine wp_seq ?_
    refine wp_label ?_
    refine th_n ?_
    exact hR _ _ _ ⟨1, 0, [], none, 0, [], rfl, henv.sub ⟨rfl, rfl, rfl, rfl, rfl, trivial⟩, hst.pick [0, 1] [0] (by decide), (Nat.le_refl _), hlen, (Nat.zero_le _), rfl, rfl, (pre_nil hne h0), (fun _ h => h)⟩
theorem row_read {s : List UInt8} {w0 : World} (hl : s.length ≤ 65536) :
    Calls Tryd.prog 78 #[.string ⟨s.toArray⟩] w0 fun e w' => ((∃ zs n v, Rd0 s (.inl zs) ∧ zs.length = n ∧ n ≤ 4096 ∧ e = .returned (.tuple #[v, .agg #[.int .i64 0, .int .i64 0]]) ∧ ZRow w0.heap.size w' v n zs) ∨ (∃ b : Nat, Rd0 s (.inr b) ∧ e = .returned (.tuple #[.slice none 0 0, .agg #[.int .i64 6, .int .i64 (b : Nat)]])) ∨ (∃ (p : Nat) (zs : List Int), zs.length = 4096 ∧ p ≤ s.length ∧ s.take p = preT zs ∧ e = .returned (.tuple #[.slice none 0 0, .agg #[.int .i64 3, .int .i64 (p : Nat)]]))) ∧ Below w0.heap.size w0 w' := by
  by_cases hne : s = []
  · exact (row_read_empty hne).mono fun e w' ⟨he, hb⟩ => ⟨.inr (.inl ⟨0, .no (.inl hne), he⟩), hb⟩
  by_cases h0 : (s.getD 0 0).toNat = 91
  · by_cases h1 : 1 < s.length ∧ (s.getD 1 0).toNat = 93
    · rcases Nat.lt_or_ge 2 s.length with h2 | h2
      · exact (row_read_tail hl h0 h1.2 h2).mono fun e w' ⟨he, hb⟩ => ⟨.inr (.inl ⟨2, .tail h0 h1.2 h2, he⟩), hb⟩
      · exact (row_read_void h0 h1.2 (by omega)).mono fun e w' ⟨he, hb⟩ => ⟨.inl ⟨[], 0, _, .void h0 h1.2 (by omega), rfl, by decide, he, zrow_nil _ _⟩, hb⟩
    · exact row_read_go hl h0 hne h1
  · exact (row_read_no hl hne h0).mono fun e w' ⟨he, hb⟩ => ⟨.inr (.inl ⟨0, .no (.inr h0), he⟩), hb⟩
end Go.Proofs.YtghaenkacjgdnaaDoor.W

/- How a statement's argument, two rows of numbers and two numbers, is read, with its bounds; a number alone. No condition. -/
namespace Go.Proofs.YtghaenkacjgdnaaDoor
open Go.RowKit Anv Go.ChangeShapes Go.WideShapes Go.ChangeAt Go.Joins W
end Go.Proofs.YtghaenkacjgdnaaDoor
