/- How a statement's argument, a row of numbers with their limbs, is read, with its bound. No condition. -/
import Derived.Test.YtegglooojlheoaaDoorM48
import Derived.Test.YtegglooojlheoaaDoorM34
import Derived.SizedLaws
import Derived.Test.YtegglooojlheoaaDoorM46
import Derived.Test.YtegglooojlheoaaDoorM11
import Derived.Test.YtegglooojlheoaaDoorM44

namespace Go.Proofs.YtegglooojlheoaaDoor.W
open Go.RowKit Anv Go.Lib
abbrev UE := Bool × Option Addr × Nat × Nat × List Nat
def fU (e : UE) : List Value := [.bool e.1, .slice e.2.1 e.2.2.1 e.2.2.2.1]
def FU (e : UE) : PF := pfU e.2.1 e.2.2.1 e.2.2.2.1 e.2.2.2.2
def Sz (es : List UE) : Prop := ∀ e ∈ es, e.2.2.1 ≤ 35184372088832
theorem Sz.at {es : List UE} (h : Sz es) {i : Nat} {e : UE} (hx : es[i]? = some e) : e.2.2.1 ≤ 35184372088832 := h e (List.mem_of_getElem? hx)
end Go.Proofs.YtegglooojlheoaaDoor.W
namespace Go.Proofs.YtegglooojlheoaaDoor
open Go.RowKit Anv Go.ChangeShapes Go.WideShapes Go.ChangeAt Go.Joins W
end Go.Proofs.YtegglooojlheoaaDoor

/- The laws' long. Printed by pv/gen_row4.py. No condition. -/
namespace Go.Proofs.YtegglooojlheoaaDoor.W
open Go.RowKit Anv Go.Lib
abbrev VE := Option Addr × Nat × Nat × List UE
def fV (v : VE) : List Value := [.slice v.1 v.2.1 v.2.2.1]
def FV (v : VE) : PF := pfRow fU FU 2 v.1 v.2.1 v.2.2.1 v.2.2.2
def tl (us : List UE) : Nat := (us.map fun e => e.2.2.1).sum
def tv (vs : List VE) : Nat := (vs.map fun v => v.2.1 + tl v.2.2.2).sum
def vz (e : UE) : Int := sg e.1 (val 4294967296 e.2.2.2.2)
theorem same_rb4 {A B : Option Addr} {c d : Nat} {x y : Int} {w : World} (hx : RIn w A c x) (hy : RIn w B d y) :
    Calls Tryd.prog 107 #[.agg #[.bool (neg x), .slice A (dl x) c], .agg #[.bool (neg y), .slice B (dl y) d]] w fun e w' => e = .returned (.bool (decide (x = y))) ∧ Below w.heap.size w w' := by
  have h := same_r hx hy
  rw [show ((x - y).sign == 0) = decide (x = y) from ?_] at h
  · exact h
  · by_cases e : x = y
    · rw [e, Int.sub_self]; simp
    · rw [decide_eq_false e]
      exact beq_eq_false_iff_ne.2 fun h => e (by have := Int.sign_eq_zero_iff_zero.1 h; omega)
set_option maxRecDepth 100000 in
set_option maxHeartbeats 2000000 in
theorem num_one {A B : Option Addr} {c d : Nat} {z : Int} {w0 : World} (hx : ZIn w0 A c z) (hy : RIn w0 B d z) (hn : zl z ≤ 100000) :
    Calls Tryd.prog 35 #[.agg #[.bool (neg z), .slice A (zl z) c], .agg #[.bool (neg z), .slice B (dl z) d]] w0 fun e w' => e = .returned (.bool true) ∧ Below w0.heap.size w0 w' := by
  refine enter Tryd.func35 rfl Tryd.ntmps35 rfl ?_
  intro a henv hst
  have hdl : dl z ≤ 2 * zl z := dl_zl z
  replace hst := (hst.addZ hx trivial).addR hy trivial
  clear hx hy
  refine wp_seq ?_
  refine region_seq ?_
  refine seq_step rfl (op_box (c := #[.bool (neg z), .slice A (zl z) c]) henv hst rfl rfl rfl ?_)
  clear henv hst a; intro a w2 g1 henv hst
  refine seq_step rfl (op_box (c := #[.bool (neg z), .slice B (dl z) d]) henv hst rfl rfl rfl ?_)
  clear henv hst a; intro a w4 g3 henv hst
  refine sv (v := .bool false) henv rfl (rn_assign henv rfl) ?_
  clear henv a; intro a henv
  refine wpList_nil ?_
  refine th_n ?_
  refine wp_seq ?_
  refine region_seq ?_
  refine sv (v := .agg #[.bool (neg z), .slice A (zl z) c]) henv rfl (rn_load0 henv ty_anvil_integer_Int rfl (hst.oat (k := 1) rfl) rfl) ?_
  clear henv a; intro a henv
  refine seq_step rfl (op_call henv rfl Tryd.call106 rfl (limbs_z (z := z) (show ZIn _ A c z from hst.pat (k := 1) rfl) (by omega)) ?_)
  rintro e w8 ⟨A5, c6, rfl, hz7, -, hb⟩
  refine ⟨_, rfl, ?_⟩
  clear henv a; intro a henv
  replace hst := (hst.call hb).addZ hz7 ⟨nou_bk rfl, nou_bk rfl, trivial⟩
  clear hz7
  clear hb
  revert a
  refine mA rfl rfl ?_
  refine sA (v := .bool (neg z)) rfl (fun _ henv => rn_extract henv rfl rfl) ?_
  refine sA (v := .slice A5 (zl z) c6) rfl (fun _ henv => rn_extract henv rfl rfl) ?_
  refine aA rfl rfl ?_
  refine aA rfl rfl ?_
  intro a henv
  refine wpList_nil ?_
  refine th_n ?_
  refine wp_seq ?_
  refine region_any (n := 13) (Sk [bk g3 #[.bool (neg z), .slice B (dl z) d] 39, bk g1 #[.bool (neg z), .slice A (zl z) c] 36] [pfZ A5 c6 z, pfR B d z, pfZ A c z] [] []) mixed rfl henv hst ?_
  clear henv hst; intro w9 henv hst
  refine tM (i := 0) [2, 4, 5, 6, 7, 8, 9, 10, 11, 12] rfl (by kernel_rfl) (fun _ _ _ h => h) henv rfl rfl ?_
  clear henv a; intro a henv
  refine tM (i := 1) [2, 4, 5, 6, 7, 8, 9, 10, 11, 12] rfl (by kernel_rfl) (fun _ _ _ h => h) henv rfl rfl ?_
  clear henv a; intro a henv
  refine tL (i := 3) 0 0 (rg 4 9) rfl (by kernel_rfl) (fun _ _ _ h => h) henv rfl ty_anvil_anvilref02_Int rfl hst rfl rfl rfl ?_
  clear henv a; intro a henv
  refine sAny_one (i := 2) (by kernel_rfl) rfl rfl (op_call henv rfl Tryd.call20 rfl (make_rz (z := z) (show ZIn _ A5 c6 z from hst.pat (k := 0) rfl) (by omega)) ?_)
  rintro e w13 ⟨_, rfl, ⟨A10, c11, rfl, hz12⟩, hb⟩
  refine ⟨_, rfl, ?_⟩
  clear henv a; intro a henv
  replace hst := (hst.call hb).addR hz12 ⟨nou_bk rfl, nou_bk rfl, trivial⟩
  clear hz12
  clear hb
  refine ⟨.inr ⟨hst.kn.pick [0, 1] [1, 2, 3], .inr (hst.kn.pick [] [])⟩, ?_⟩
  refine sAny_one (i := 4) (by kernel_rfl) rfl rfl (op_call henv rfl Tryd.call107 rfl (same_rb4 (x := z) (y := z) (show RIn _ A10 c11 z from hst.pat (k := 0) rfl) (show RIn _ B d z from hst.pat (k := 2) rfl)) ?_)
  rintro e w14 ⟨rfl, hb⟩
  refine ⟨_, rfl, ?_⟩
  clear henv a; intro a henv
  replace hst := hst.call hb
  clear hb
  refine ⟨.inr ⟨hst.kn.pick [0, 1] [1, 2, 3], .inr (hst.kn.pick [] [])⟩, ?_⟩
  rw [show (decide (z = z)) = true from (decide_eq_true rfl)] at henv
  refine tM (i := 5) (rg 6 7) rfl (by kernel_rfl) (fun _ _ _ h => h) henv rfl rfl ?_
  clear henv a; intro a henv
  refine tLg (i := 6) 1 1 [7, 9, 10, 11, 12] rfl (by kernel_rfl) (fun _ _ _ h => h) henv rfl rfl rfl rfl ty_anvil_integer_Int rfl hst rfl rfl rfl ?_
  clear henv a; intro a henv
  refine tLg (i := 8) 0 0 (rg 9 4) rfl (by kernel_rfl) (fun _ _ _ h => h) henv rfl rfl rfl rfl ty_anvil_anvilref02_Int rfl hst rfl rfl rfl ?_
  clear henv a; intro a henv
  refine sAny_oneg (i := 7) (by kernel_rfl) rfl rfl henv rfl rfl rfl (op_call henv rfl Tryd.call31 rfl (sign_z (z := z)) ?_)
  rintro e w15 ⟨rfl, hb⟩
  refine ⟨_, rfl, ?_⟩
  clear henv a; intro a henv
  replace hst := hst.call hb
  clear hb
  refine ⟨.inr ⟨hst.kn.pick [0, 1] [1, 2, 3], .inr (hst.kn.pick [] [])⟩, ?_⟩
  refine sAny_oneg (i := 9) (by kernel_rfl) rfl rfl henv rfl rfl rfl (op_call henv rfl Tryd.call82 rfl (sign_r (z := z)) ?_)
  rintro e w16 ⟨rfl, hb⟩
  refine ⟨_, rfl, ?_⟩
  clear henv a; intro a henv
  replace hst := hst.call hb
  clear hb
  refine ⟨.inr ⟨hst.kn.pick [0, 1] [1, 2, 3], .inr (hst.kn.pick [] [])⟩, ?_⟩
  refine tAg (i := 10) [11, 12] (v := .bool (z.sign == z.sign)) rfl (by kernel_rfl) (fun _ _ _ h => h) henv rfl rfl rfl rfl (fun _ => rn_bin henv rfl rfl rfl) ?_
  clear henv a; intro a henv
  rw [show (z.sign == z.sign) = true from (beq_self_eq_true _)] at henv
  refine tA (i := 11) [12] (v := .bool true) rfl (by kernel_rfl) (fun _ _ _ h => h) henv rfl (fun _ => rn_pick henv rfl rfl) ?_
  clear henv a; intro a henv
  refine tA (i := 12) [] (v := .bool true) rfl (by kernel_rfl) (fun _ _ _ h => h) henv rfl (fun _ => rn_assign henv rfl) ?_
  clear henv a; intro a henv
  refine sAny_done (by kernel_rfl) ?_ _
  refine th_n ?_
  refine wp_ret ?_
  refine leave henv (res1 Tryd.results35 (RV.tmp henv rfl)) ?_
  exact ⟨rfl, hst.below⟩
end Go.Proofs.YtegglooojlheoaaDoor.W

/- row.Cmp, Same; the reference's Cmp, Same, IsZero. Printed by pv/gen_row5.py. No condition. -/
namespace Go.Proofs.YtegglooojlheoaaDoor.W
open Go.RowKit Anv Go.Lib
def lexc : List Int → List Int → Int
  | x :: xs, y :: ys => if (x - y).sign = 0 then lexc xs ys else (x - y).sign
  | _, _ => 0
def cmpR (xs ys : List Int) : Int := if xs.length < ys.length then -1 else if ys.length < xs.length then 1 else lexc xs ys
end Go.Proofs.YtegglooojlheoaaDoor.W

/- row.Widest, anvilref04.Widest. Printed by pv/gen_row6.py. No condition. -/
namespace Go.Proofs.YtegglooojlheoaaDoor.W
open Go.RowKit Anv Go.Lib
def wid (zs : List Int) : Int := zs.foldl (fun w z => if w < (z.natAbs : Int) then (z.natAbs : Int) else w) 0
end Go.Proofs.YtegglooojlheoaaDoor.W

/- What the law RowHolds needs, with no program in sight but the shape of the memory. No condition. -/
namespace Go.Proofs.YtegglooojlheoaaDoor.W
open Go.RowKit Anv Go.Lib
theorem tl_mem {us : List UE} {e : UE} (h : e ∈ us) : e.2.2.1 ≤ tl us := by
  induction us with
  | nil => cases h
  | cons x us ih =>
    unfold tl at *
    rw [List.map_cons, List.sum_cons]
    rcases List.mem_cons.1 h with rfl | h
    · omega
    · have := ih h; omega
end Go.Proofs.YtegglooojlheoaaDoor.W

/- What the laws of rows need of the memory: rows of rows written out, numbers written out, sizes. No program but the shape of the memory. No condition. -/
namespace Go.Proofs.YtegglooojlheoaaDoor.W
open Go.RowKit Anv Go.Lib
theorem zl_vze {w : World} {b : Bool} {A : Option Addr} {n c k : Nat} {xs : List Nat} (h : U32 w A n c xs) (hn : n ≤ k) : zl (sg b (val 4294967296 xs)) ≤ k := by
  have h2 := nl_val h
  have e : zl (sg b (val 4294967296 xs)) = nl (val 4294967296 xs) := by
    unfold sg zl
    split
    · rw [Int.natAbs_neg, Int.natAbs_natCast]
    · rw [Int.natAbs_natCast]
  omega
def Zk (k : Nat) (zs : List Int) : Prop := ∀ z ∈ zs, zl z ≤ k
theorem Zk.es {k : Nat} {es : List NE} {zs : List Int} (h : Zk k zs) (e : es.map zz = zs) : ZB k es := fun x hx => h (zz x) (e ▸ List.mem_map_of_mem hx)
theorem Zk.mono {k m : Nat} {zs : List Int} (h : Zk k zs) (hm : k ≤ m) : Zk m zs := fun z hz => Nat.le_trans (h z hz) hm
theorem Zk.map {k m : Nat} {zs : List Int} {f : Int → Int} (h : Zk k zs) (hf : ∀ z, zl z ≤ k → zl (f z) ≤ m) : Zk m (zs.map f) := fun x hx => by
  obtain ⟨z, hz, rfl⟩ := List.mem_map.1 hx
  exact hf z (h z hz)
theorem mem_zipWith {f : Int → Int → Int} {x : Int} : ∀ {xs ys : List Int}, x ∈ List.zipWith f xs ys → ∃ a ∈ xs, ∃ b ∈ ys, x = f a b
  | [], _, h => by simp at h
  | _ :: _, [], h => by simp at h
  | a :: xs, b :: ys, h => by
    rw [List.zipWith_cons_cons] at h
    rcases List.mem_cons.1 h with rfl | h
    · exact ⟨a, List.mem_cons_self .., b, List.mem_cons_self .., rfl⟩
    · obtain ⟨a, ha, b, hb, e⟩ := mem_zipWith h
      exact ⟨a, List.mem_cons_of_mem _ ha, b, List.mem_cons_of_mem _ hb, e⟩
theorem Zk.zip {k j m : Nat} {xs ys : List Int} {f : Int → Int → Int} (h : Zk k xs) (g : Zk j ys) (hf : ∀ x y, zl x ≤ k → zl y ≤ j → zl (f x y) ≤ m) : Zk m (List.zipWith f xs ys) := fun x hx => by
  obtain ⟨a, ha, b, hb, rfl⟩ := mem_zipWith hx
  exact hf a b (h a ha) (g b hb)
theorem Zk.vz {es : List UE} {k : Nat} {w : World} (h : (pfEs FU es).P w) (ht : tl es ≤ k) : Zk k (es.map vz) := by
  intro z hz
  obtain ⟨e, he, rfl⟩ := List.mem_map.1 hz
  have h1 : U32 w e.2.1 e.2.2.1 e.2.2.2.1 e.2.2.2.2 := h e he
  exact zl_vze h1 (Nat.le_trans (tl_mem he) ht)
theorem Zk.prim {k : Nat} {zs : List Int} (h : Zk k zs) : Zk k (prim zs) := h.map fun _ hz => Nat.le_trans (zl_ediv _ _) hz
theorem Zk.take {k : Nat} {zs : List Int} (h : Zk k zs) (j : Nat) : Zk k (zs.take j) := fun z hz => h z (List.mem_of_mem_take hz)
end Go.Proofs.YtegglooojlheoaaDoor.W

/- row.Neg, Scale, Combine, Dot, integer.Sum; the reference's Combine, Add, Sub, Scale, Dot; the laws' is, own. Printed by pv/gen_row8.py. No condition. -/
namespace Go.Proofs.YtegglooojlheoaaDoor.W
open Go.RowKit Anv Go.Lib
theorem ztake_snoc {es : List NE} {xs : List Int} {j : Nat} {A : Option Addr} {c : Nat} {z : Int} (hz : es.map zz = xs) (he : es[j]? = some (A, c, z)) : xs.take (j + 1) = xs.take j ++ [z] :=
  take_one (by rw [← hz, List.getElem?_map, he]; rfl)
theorem same_at {es fs : List NE} {xs : List Int} {j : Nat} {A B : Option Addr} {c d : Nat} {x y : Int} (h : es.map zz = xs) (k : fs.map zz = xs) (he : es[j]? = some (A, c, x)) (hf : fs[j]? = some (B, d, y)) : x = y := by
  have h1 : xs[j]? = some x := by rw [← h, List.getElem?_map, he]; rfl
  have h2 : xs[j]? = some y := by rw [← k, List.getElem?_map, hf]; rfl
  rw [h1] at h2
  exact Option.some.inj h2
set_option maxRecDepth 100000 in
set_option maxHeartbeats 2000000 in
theorem row_is {A0 A1 : Option Addr} {n0 c0 c1 : Nat} {es0 es1 : List NE} {xs : List Int} {w0 : World} (h0 : (pfRow fN FN 2 A0 n0 c0 es0).P w0) (hz0 : es0.map zz = xs) (h1 : (pfRow fM FM 2 A1 n0 c1 es1).P w0) (hz1 : es1.map zz = xs) (hk : Zk 100000 xs) :
    Calls Tryd.prog 27 #[.slice A0 n0 c0, .slice A1 n0 c1] w0 fun e w' => e = .returned (.bool true) ∧ Below w0.heap.size w0 w' := by
  have hb0 := hk.es hz0
  refine enter Tryd.func27 rfl Tryd.ntmps27 rfl ?_
  intro a henv hst
  have hlen0 := h0.2.1
  have hlen1 := h1.2.1
  have hbig0 := Nat.le_trans h0.1.cap h0.1.big
  unfold maxLen at hbig0
  replace hst := (hst.argRow h1).argRow h0
  clear h0 h1
  refine wp_seq ?_
  refine region_seq ?_
  refine sv (v := .bool false) henv rfl (rn_assign henv rfl) ?_
  clear henv a; intro a henv
  refine wpList_nil ?_
  refine th_n ?_
  refine wp_seq ?_
  refine wp_seq ?_
  refine region_seq ?_
  revert a
  refine mA rfl rfl ?_
  refine sA (v := .int .i64 (n0 : Nat)) rfl (fun _ henv => rn_len henv Tryd.underlying30 rfl) ?_
  refine mA rfl rfl ?_
  refine sA (v := .int .i64 (n0 : Nat)) rfl (fun _ henv => rn_len henv Tryd.underlying32 rfl) ?_
  refine sA (v := .bool (((n0 : Nat) : Int) != ((n0 : Nat) : Int))) rfl (fun _ henv => rn_bin henv rfl rfl rfl) ?_
  intro a henv
  rw [show (((n0 : Nat) : Int) != ((n0 : Nat) : Int)) = false from (bne_self_eq_false _)] at henv
  refine wpList_nil ?_
  refine th_n ?_
  refine if_f henv rfl (rfl) ?_
  refine wp_skip ?_
  refine th_n ?_
  refine wp_seq ?_
  refine wp_seq ?_
  refine region_seq ?_
  refine sv (v := .int .i64 0) henv rfl (rn_assign henv rfl) ?_
  clear henv a; intro a henv
  refine wpList_nil ?_
  refine th_n ?_
  refine wp_block ?_
  refine wp_loop_ghost (fun mz a w => ∃ j : Nat, n0 - j = mz ∧ Env 27 a [(0, .slice A0 n0 c0), (1, .slice A1 n0 c1), (4, .bool false), (5, .int .i64 (j : Nat))] ∧ St w0 w [] [pfRow fN FN 2 A0 n0 c0 es0, pfRow fM FM 2 A1 n0 c1 es1] ∧ j ≤ n0) _ ⟨0, rfl, henv.sub ⟨rfl, rfl, rfl, rfl, trivial⟩, hst.pick [] [0, 1] (by decide), (Nat.zero_le _)⟩ ?_
  clear henv hst a
  rintro mz a w51 ⟨j, rfl, henv, hst, hj⟩
  refine wp_seq ?_
  refine wp_seq ?_
  refine region_seq ?_
  revert a
  refine mA rfl rfl ?_
  refine mA rfl rfl ?_
  refine sA (v := .int .i64 (n0 : Nat)) rfl (fun _ henv => rn_len henv Tryd.underlying30 rfl) ?_
  refine sA (v := .bool (decide (((j : Nat) : Int) < ((n0 : Nat) : Int)))) rfl (fun _ henv => rn_bin henv rfl rfl rfl) ?_
  intro a henv
  refine wpList_nil ?_
  refine th_n ?_
  refine if_split henv rfl (fun hc52 => ?_) (fun hc52 => ?_)
  · have hlt : j < n0 := by have := of_decide_eq_true hc52; omega
    obtain ⟨⟨A, c, x⟩, he0⟩ : ∃ e, es0[j]? = some e := ⟨_, List.getElem?_eq_getElem (by omega)⟩
    replace hst := hst.elem (k := 0) rfl he0
    replace hst : St w0 _ [] [pfZ A c x, pfRow fN FN 2 A0 n0 c0 es0, pfRow fM FM 2 A1 n0 c1 es1] := hst
    obtain ⟨⟨C, e, y⟩, he1⟩ : ∃ e, es1[j]? = some e := ⟨_, List.getElem?_eq_getElem (by omega)⟩
    replace hst := hst.elem (k := 2) rfl he1
    replace hst : St w0 _ [] [pfR C e y, pfZ A c x, pfRow fN FN 2 A0 n0 c0 es0, pfRow fM FM 2 A1 n0 c1 es1] := hst
    obtain rfl : x = y := same_at hz0 hz1 he0 he1
    have hx1 := hb0.at he0
    refine wp_skip ?_
    refine th_n ?_
    refine wp_seq ?_
    refine wp_block ?_
    refine wp_seq ?_
    refine region_any (n := 10) (Sk [] [pfR C e x, pfZ A c x, pfRow fN FN 2 A0 n0 c0 es0, pfRow fM FM 2 A1 n0 c1 es1] [] []) mixed rfl henv hst ?_
    clear henv hst; intro w53 henv hst
    refine tM (i := 0) [2, 3, 8, 9] rfl (by kernel_rfl) (fun _ _ _ h => h) henv rfl rfl ?_
    clear henv a; intro a henv
    refine tM (i := 1) [2, 3, 8, 9] rfl (by kernel_rfl) (fun _ _ _ h => h) henv rfl rfl ?_
    clear henv a; intro a henv
    refine sAny_take (i := 2) [3, 8, 9] (fun w' => (pfRow fN FN 2 A0 n0 c0 es0).P w') (v := .pointer (some ⟨ab A0, ao A0 + j * 2, none⟩)) rfl (by kernel_rfl) (fun _ _ _ h => h) (fun _ _ _ hS => hS.1.pat (k := 2) rfl) henv rfl (hst.pat (k := 2) rfl) (fun w' hg => rn_idxR (i := j) henv Tryd.underlying30 (ty_anvil_integer_Int.size) rfl rfl (by omega) rfl (show (pfRow fN FN 2 A0 n0 c0 es0).P _ from hg).1) ?_
    clear henv a; intro a henv
    refine sAny_take (i := 3) [8, 9] (fun w' => (pfRow fN FN 2 A0 n0 c0 es0).P w') (v := .agg #[.bool (neg x), .slice A (zl x) c]) rfl (by kernel_rfl) (fun _ _ _ h => h) (fun _ _ _ hS => hS.1.pat (k := 2) rfl) henv rfl (hst.pat (k := 2) rfl) (fun w' hg => rn_loadE (i := j) (e := (A, c, x)) henv ty_anvil_integer_Int rfl rfl fN_len (show (pfRow fN FN 2 A0 n0 c0 es0).P _ from hg).1 (by omega) he0 rfl) ?_
    clear henv a; intro a henv
    refine tM (i := 4) (rg 6 4) rfl (by kernel_rfl) (fun _ _ _ h => h) henv rfl rfl ?_
    clear henv a; intro a henv
    refine tM (i := 5) (rg 6 4) rfl (by kernel_rfl) (fun _ _ _ h => h) henv rfl rfl ?_
    clear henv a; intro a henv
    refine sAny_take (i := 6) [7, 8, 9] (fun w' => (pfRow fM FM 2 A1 n0 c1 es1).P w') (v := .pointer (some ⟨ab A1, ao A1 + j * 2, none⟩)) rfl (by kernel_rfl) (fun _ _ _ h => h) (fun _ _ _ hS => hS.1.pat (k := 3) rfl) henv rfl (hst.pat (k := 3) rfl) (fun w' hg => rn_idxR (i := j) henv Tryd.underlying32 (ty_anvil_anvilref02_Int.size) rfl rfl (by omega) rfl (show (pfRow fM FM 2 A1 n0 c1 es1).P _ from hg).1) ?_
    clear henv a; intro a henv
    refine sAny_take (i := 7) [8, 9] (fun w' => (pfRow fM FM 2 A1 n0 c1 es1).P w') (v := .agg #[.bool (neg x), .slice C (dl x) e]) rfl (by kernel_rfl) (fun _ _ _ h => h) (fun _ _ _ hS => hS.1.pat (k := 3) rfl) henv rfl (hst.pat (k := 3) rfl) (fun w' hg => rn_loadE (i := j) (e := (C, e, x)) henv ty_anvil_anvilref02_Int rfl rfl fM_len (show (pfRow fM FM 2 A1 n0 c1 es1).P _ from hg).1 (by omega) he1 rfl) ?_
    clear henv a; intro a henv
    refine sAny_one (i := 8) (by kernel_rfl) rfl rfl (op_call henv rfl Tryd.call35 rfl (num_one (z := x) (show ZIn _ A c x from hst.pat (k := 1) rfl) (show RIn _ C e x from hst.pat (k := 0) rfl) hx1) ?_)
    rintro e w54 ⟨rfl, hb⟩
    refine ⟨_, rfl, ?_⟩
    clear henv a; intro a henv
    replace hst := hst.call hb
    clear hb
    refine ⟨.inr ⟨hst.kn.pick [] (rg 0 4), .inr (hst.kn.pick [] [])⟩, ?_⟩
    refine tA (i := 9) [] (v := .bool false) rfl (by kernel_rfl) (fun _ _ _ h => h) henv rfl (fun _ => rn_un henv rfl rfl) ?_
    clear henv a; intro a henv
    refine sAny_done (by kernel_rfl) ?_ _
    refine th_n ?_
    refine if_f henv rfl (rfl) ?_
    refine wp_skip ?_
    refine bl_n (th_n ?_)
    refine region_seq ?_
    revert a
    refine mA rfl rfl ?_
    refine sA (v := .int .i64 (j + 1 : Nat)) rfl (fun _ henv => rn_add henv rfl rfl (by rw [IntWalk.i64_in _ (by omega)]; omega)) ?_
    refine aA rfl rfl ?_
    intro a henv
    refine wpList_nil ?_
    exact th_n ⟨_, (by omega), ⟨j + 1, rfl, henv.sub ⟨rfl, rfl, rfl, rfl, trivial⟩, hst.pick [] [2, 3] (by decide), (by omega)⟩⟩
  · have hjn : j = n0 := by have := of_decide_eq_false hc52; omega
    refine wp_exit ?_
    refine th_x (th_x (bl_x (th_n ?_)))
    refine wp_seq ?_
    refine region_seq ?_
    refine sv (v := .bool true) henv rfl (rn_assign henv rfl) ?_
    clear henv a; intro a henv
    refine wpList_nil ?_
    refine th_n ?_
    refine wp_ret ?_
    refine leave henv (res1 Tryd.results27 (RV.tmp henv rfl)) ?_
    exact ⟨rfl, hst.below⟩
end Go.Proofs.YtegglooojlheoaaDoor.W

/- row.Read; the reference's Read, Text. Printed by pv/gen_rowD.py. No condition. -/
namespace Go.Proofs.YtegglooojlheoaaDoor.W
open Go.RowKit Anv Go.Lib
theorem take_two {s : List UInt8} (h0 : (s.getD 0 0).toNat = 91) (h1 : 1 < s.length) (h2 : (s.getD 1 0).toNat = 93) : s.take 2 = [91, 93] := by
  match s, h1 with
  | a :: b :: r, _ => rw [byte_eq (c := a) h0 91 rfl, byte_eq (c := b) h2 93 rfl]; rfl
theorem two_text {s : List UInt8} (h0 : (s.getD 0 0).toNat = 91) (h1 : (s.getD 1 0).toNat = 93) (h2 : s.length = 2) : s = [91, 93] := by
  have h := take_two h0 (by omega) h1
  rwa [List.take_of_length_le (by omega)] at h
theorem bne_false {a b : Int} (h : a = b) : (a != b) = false := by rw [h]; exact bne_self_eq_false _
theorem eq_of_bneF {a b : Int} (h : (a != b) = false) : a = b := by simpa using h
def Wd (t : List UInt8) (z p q : Int) : Prop := (p = 0 ∧ q = 0 ∧ Rz t z) ∨ (p = 6 ∧ ∃ b : Nat, q = b ∧ Rb t b)
def Wr (t : List UInt8) (z b : Int) : Prop := (b = -1 ∧ Rz t z) ∨ ∃ c : Nat, b = c ∧ Rb t c
theorem zin_at2 (w : World) : ZAt w (.agg #[.bool (neg 0), .slice none (zl 0) 0]) 0 := ⟨_, _, rfl, zin_none _⟩
theorem rin_at2 (w : World) : RAt w (.agg #[.bool (neg 0), .slice none (dl 0) 0]) 0 := ⟨_, _, rfl, rin_none _⟩
theorem iread_w {t : List UInt8} {w0 : World} (hl : t.length ≤ 65536) :
    Calls Tryd.prog 113 #[.string ⟨t.toArray⟩] w0 fun e w' => ∃ z p q v, e = .returned (.tuple #[v, .agg #[.int .i64 p, .int .i64 q]]) ∧ ZAt w' v z ∧ Wd t z p q ∧ Below w0.heap.size w0 w' := by
  rcases word_cases t with ⟨z, h⟩ | ⟨b, h⟩
  · exact (iread_rz h hl).mono fun e w' ⟨v, he, hz, hb⟩ => ⟨z, 0, 0, v, he, hz, .inl ⟨rfl, rfl, h⟩, hb⟩
  · exact (iread_rb h hl).mono fun e w' ⟨he, hb⟩ => ⟨0, 6, b, _, he, zin_at2 _, .inr ⟨rfl, b, rfl, h⟩, hb⟩
theorem rread_w {t : List UInt8} {w0 : World} (hl : t.length ≤ 65536) :
    Calls Tryd.prog 115 #[.string ⟨t.toArray⟩] w0 fun e w' => ∃ z b v, e = .returned (.tuple #[v, .int .i64 b]) ∧ RAt w' v z ∧ Wr t z b ∧ Below w0.heap.size w0 w' := by
  rcases word_cases t with ⟨z, h⟩ | ⟨b, h⟩
  · exact (rread_rz h hl).mono fun e w' ⟨v, he, hz, hb⟩ => ⟨z, -1, v, he, hz, .inl ⟨rfl, h⟩, hb⟩
  · exact (rread_rb h hl).mono fun e w' ⟨he, hb⟩ => ⟨0, b, _, he, rin_at2 _, .inr ⟨b, rfl, h⟩, hb⟩
theorem wd_bad {t : List UInt8} {z p q : Int} (h : Wd t z p q) (k : (p != 0) = true) : p = 6 ∧ ∃ b : Nat, q = b ∧ Rb t b := by
  rcases h with ⟨h1, _⟩ | h
  · rw [h1] at k; cases k
  · exact h
theorem wd_ok {t : List UInt8} {z p q : Int} (h : Wd t z p q) (k : (p != 0) = false) : p = 0 ∧ q = 0 ∧ Rz t z := by
  rcases h with h | ⟨h1, _⟩
  · exact h
  · rw [h1] at k; cases k
theorem wr_bad {t : List UInt8} {z b : Int} (h : Wr t z b) (k : b ≥ 0) : ∃ c : Nat, b = c ∧ Rb t c := by
  rcases h with ⟨h1, _⟩ | h
  · omega
  · exact h
theorem wr_ok {t : List UInt8} {z b : Int} (h : Wr t z b) (k : ¬ b ≥ 0) : Rz t z := by
  rcases h with ⟨_, h⟩ | ⟨c, h, _⟩
  · exact h
  · omega
theorem rb_le {t : List UInt8} {b : Nat} (h : Rb t b) : b ≤ t.length := by
  rcases h with ⟨d, b', rfl, h2, rfl⟩ | ⟨_, h2⟩
  · rcases h2.1 with ⟨h3, _⟩ | ⟨h3, _⟩ <;> rw [List.length_cons] <;> omega
  · rcases h2.1 with ⟨h3, _⟩ | ⟨h3, _⟩ <;> omega
theorem range_step {s : List UInt8} {p q : Nat} {C : UInt8 → Prop} (h : ∀ i, p ≤ i → i < q → C (s.getD i 0)) (hq : C (s.getD q 0)) : ∀ i, p ≤ i → i < q + 1 → C (s.getD i 0) := fun i h1 h2 => by
  rcases Nat.lt_or_ge i q with h3 | h3
  · exact h i h1 h3
  · obtain rfl : i = q := by omega
    exact hq
theorem sen_cases (s : List UInt8) (q : Nat) (h : q ≤ s.length) : (q = s.length) ∨ (q < s.length ∧ (s.getD q 0).toNat = 45) ∨ (q < s.length ∧ (s.getD q 0).toNat ≠ 45 ∧ (s.getD q 0).toNat < 48) ∨ (q < s.length ∧ 48 ≤ (s.getD q 0).toNat ∧ (s.getD q 0).toNat ≤ 57) ∨ (q < s.length ∧ 57 < (s.getD q 0).toNat) := by omega
theorem seg_cases (s : List UInt8) (q : Nat) (h : q ≤ s.length) : (q = s.length) ∨ (q < s.length ∧ (s.getD q 0).toNat = 32) ∨ (q < s.length ∧ (s.getD q 0).toNat = 93) ∨ (q < s.length ∧ (s.getD q 0).toNat ≠ 32 ∧ (s.getD q 0).toNat ≠ 93) := by omega
theorem seg_fin {s : List UInt8} {p q : Nat} {z : Int} {zs : List Int} (h : Seg s p q) (hz : Rz (cutw s p q) z) (hq : q = s.length) : Go s p zs (.inr q) := by
  subst hq
  exact .fin h hz
theorem go_fin {s : List UInt8} {p q : Nat} {z : Int} {zs : List Int} (h : Sen s p q) (hz : Rz (cutw s p q) z) (hq : q = s.length) : Go s p zs (.inr q) := seg_fin (sen_stp h fun h => by omega) hz hq
def preT (zs : List Int) : List UInt8 := 91 :: zs.flatMap fun z => textZ z ++ [32]
theorem pre_nil {s : List UInt8} (h : s ≠ []) (h0 : (s.getD 0 0).toNat = 91) : s.take 1 = preT [] := by
  cases s with
  | nil => exact absurd rfl h
  | cons a s => rw [byte_eq (c := a) h0 91 rfl]; rfl
theorem pre_step {s : List UInt8} {p q : Nat} {z : Int} {zs : List Int} (h : s.take p = preT zs) (hz : Rz (cutw s p q) z) (h1 : p ≤ q) (h2 : q < s.length) (hc : (s.getD q 0).toNat = 32) : s.take (q + 1) = preT (zs ++ [z]) := by
  have e : s.take (q + 1) = s.take p ++ (s.drop p).take (q + 1 - p) := by rw [← List.take_add, show p + (q + 1 - p) = q + 1 by omega]
  rw [e, drop_cut h1 h2, h]
  unfold preT
  rw [List.flatMap_append, List.take_append, cutw_len h1 (by omega), List.take_of_length_le (by rw [cutw_len h1 (by omega)]; omega), show q + 1 - p - (q - p) = 1 by omega, ← rz_back hz, byte_eq hc 32 rfl]
  simp
theorem zrow_nil (B : Nat) (w : World) : ZRow B w (.slice none 0 0) 0 [] := ⟨none, 0, [], rfl, ⟨⟨World.ownsRow_nil w 0 _ 2, fun g hg => by simp [Value.ownBlock] at hg⟩, es_nil FN w, fun a h => by cases h⟩, rfl, rfl⟩
theorem mrow_nil {B g : Nat} {w : World} (h : w.heap[g]? = some (.cells #[] 39 (0, 0))) (hg : B ≤ g) : MRow B w (.slice (some ⟨g, 0, none⟩) 0 0) 0 [] :=
  ⟨_, 0, [], rfl, ⟨⟨⟨rfl, .inr ⟨g, 0, #[], rfl, Nat.zero_le _, h, Nat.le_refl _, by decide, rfl, rfl⟩⟩, fun g' hg' => by
    obtain rfl : g = g' := by simpa [Value.ownBlock] using hg'
    exact ⟨#[], h, rfl⟩⟩, es_nil FM w, fun a h => by cases h; exact hg⟩, rfl, rfl⟩
set_option maxRecDepth 100000 in
set_option maxHeartbeats 2000000 in
theorem hp_short {s : List UInt8} {w0 : World} (h : s.length < 2) :
    Calls Tryd.prog 142 #[.string ⟨s.toArray⟩, .string ⟨#[91, 93]⟩] w0 fun e w' => e = .returned (.bool false) ∧ Below w0.heap.size w0 w' := by
  refine enter Tryd.func142 rfl Tryd.ntmps142 rfl ?_
  intro a henv hst
  refine wp_seq ?_
  refine region_seq ?_
  refine sv (v := .bool false) henv rfl (rn_assign henv rfl) ?_
  clear henv a; intro a henv
  refine wpList_nil ?_
  refine th_n ?_
  refine wp_seq ?_
  refine region_seq ?_
  revert a
  refine mA rfl rfl ?_
  refine sA (v := .int .i64 (s.length : Nat)) rfl (fun _ henv => rn_lenS henv Tryd.underlying9 rfl) ?_
  refine mA rfl rfl ?_
  refine sA (v := .int .i64 2) rfl (fun _ henv => rn_slen (s := ⟨#[91, 93]⟩) henv Tryd.underlying9 rfl) ?_
  refine sA (v := .bool (decide (((s.length : Nat) : Int) ≥ (2 : Int)))) rfl (fun _ henv => rn_bin henv rfl rfl rfl) ?_
  intro a henv
  rw [show (decide (((s.length : Nat) : Int) ≥ (2 : Int))) = false from decide_eq_false (by omega)] at henv
  revert a
  refine mA rfl rfl ?_
  refine kA rfl rfl rfl rfl rfl ?_
  refine kA rfl rfl rfl rfl rfl ?_
  refine kA rfl rfl rfl rfl rfl ?_
  refine kA rfl rfl rfl rfl rfl ?_
  refine kA rfl rfl rfl rfl rfl ?_
  refine kA rfl rfl rfl rfl rfl ?_
  refine sA (v := .bool false) rfl (fun _ henv => rn_pick henv rfl rfl) ?_
  refine aA rfl rfl ?_
  intro a henv
  refine wpList_nil ?_
  refine th_n ?_
  refine wp_ret ?_
  refine leave henv (res1 Tryd.results142 (RV.tmp henv rfl)) ?_
  exact ⟨rfl, hst.below⟩
set_option maxRecDepth 100000 in
set_option maxHeartbeats 2000000 in
theorem hpx_short {s : List UInt8} {w0 : World} (h : s.length < 2) :
    Calls Tryd.prog 112 #[.string ⟨s.toArray⟩, .string ⟨#[91, 93]⟩] w0 fun e w' => e = .returned (.bool false) ∧ Below w0.heap.size w0 w' := by
  refine enter Tryd.func112 rfl Tryd.ntmps112 rfl ?_
  intro a henv hst
  refine wp_seq ?_
  refine region_seq ?_
  refine sv (v := .bool false) henv rfl (rn_assign henv rfl) ?_
  clear henv a; intro a henv
  refine wpList_nil ?_
  refine th_n ?_
  refine wp_seq ?_
  refine region_seq ?_
  revert a
  refine mA rfl rfl ?_
  refine mA rfl rfl ?_
  intro a henv
  refine seq_step rfl (op_call henv rfl Tryd.call142 rfl (hp_short h) ?_)
  rintro e w51 ⟨rfl, hb⟩
  refine ⟨_, rfl, ?_⟩
  clear henv a; intro a henv
  replace hst := hst.call hb
  clear hb
  refine sv (v := .bool false) henv rfl (rn_assign henv rfl) ?_
  clear henv a; intro a henv
  refine wpList_nil ?_
  refine th_n ?_
  refine wp_ret ?_
  refine leave henv (res1 Tryd.results112 (RV.tmp henv rfl)) ?_
  exact ⟨rfl, hst.below⟩
set_option maxRecDepth 100000 in
set_option maxHeartbeats 2000000 in
theorem hp_long {s : List UInt8} {w0 : World} (h : 2 ≤ s.length) :
    Calls Tryd.prog 142 #[.string ⟨s.toArray⟩, .string ⟨#[91, 93]⟩] w0 fun e w' => e = .returned (.bool (decide (s.take 2 = [91, 93]))) ∧ Below w0.heap.size w0 w' := by
  refine enter Tryd.func142 rfl Tryd.ntmps142 rfl ?_
  intro a henv hst
  refine wp_seq ?_
  refine region_seq ?_
  refine sv (v := .bool false) henv rfl (rn_assign henv rfl) ?_
  clear henv a; intro a henv
  refine wpList_nil ?_
  refine th_n ?_
  refine wp_seq ?_
  refine region_seq ?_
  revert a
  refine mA rfl rfl ?_
  refine sA (v := .int .i64 (s.length : Nat)) rfl (fun _ henv => rn_lenS henv Tryd.underlying9 rfl) ?_
  refine mA rfl rfl ?_
  refine sA (v := .int .i64 2) rfl (fun _ henv => rn_slen (s := ⟨#[91, 93]⟩) henv Tryd.underlying9 rfl) ?_
  refine sA (v := .bool (decide (((s.length : Nat) : Int) ≥ (2 : Int)))) rfl (fun _ henv => rn_bin henv rfl rfl rfl) ?_
  intro a henv
  rw [show (decide (((s.length : Nat) : Int) ≥ (2 : Int))) = true from decide_eq_true (by omega)] at henv
  revert a
  refine mA rfl rfl ?_
  refine gA (v := .string ⟨s.toArray⟩) rfl rfl rfl rfl (fun _ henv => rn_move henv rfl) ?_
  refine gA (v := .string ⟨#[91, 93]⟩) rfl rfl rfl rfl (fun _ henv => rn_move henv rfl) ?_
  refine gA (v := .int .i64 2) rfl rfl rfl rfl (fun _ henv => rn_slen (s := ⟨#[91, 93]⟩) henv Tryd.underlying9 rfl) ?_
  refine gA (v := .string ⟨(s.take 2).toArray⟩) rfl rfl rfl rfl (fun _ henv => rn_takeS (n := 2) henv Tryd.underlying9 rfl rfl (by omega)) ?_
  refine gA (v := .string ⟨#[91, 93]⟩) rfl rfl rfl rfl (fun _ henv => rn_move henv rfl) ?_
  refine gA (v := .bool (decide ((s.take 2) = [91, 93]))) rfl rfl rfl rfl (fun _ henv => rn_eqls (s := (s.take 2)) (t := [91, 93]) henv rfl rfl) ?_
  refine sA (v := .bool (decide ((s.take 2) = [91, 93]))) rfl (fun _ henv => rn_pick henv rfl rfl) ?_
  refine aA rfl rfl ?_
  intro a henv
  refine wpList_nil ?_
  refine th_n ?_
  refine wp_ret ?_
  refine leave henv (res1 Tryd.results142 (RV.tmp henv rfl)) ?_
  exact ⟨rfl, hst.below⟩
set_option maxRecDepth 100000 in
set_option maxHeartbeats 2000000 in
theorem hpx_long {s : List UInt8} {w0 : World} (h : 2 ≤ s.length) :
    Calls Tryd.prog 112 #[.string ⟨s.toArray⟩, .string ⟨#[91, 93]⟩] w0 fun e w' => e = .returned (.bool (decide (s.take 2 = [91, 93]))) ∧ Below w0.heap.size w0 w' := by
  refine enter Tryd.func112 rfl Tryd.ntmps112 rfl ?_
  intro a henv hst
  refine wp_seq ?_
  refine region_seq ?_
  refine sv (v := .bool false) henv rfl (rn_assign henv rfl) ?_
  clear henv a; intro a henv
  refine wpList_nil ?_
  refine th_n ?_
  refine wp_seq ?_
  refine region_seq ?_
  revert a
  refine mA rfl rfl ?_
  refine mA rfl rfl ?_
  intro a henv
  refine seq_step rfl (op_call henv rfl Tryd.call142 rfl (hp_long h) ?_)
  rintro e w51 ⟨rfl, hb⟩
  refine ⟨_, rfl, ?_⟩
  clear henv a; intro a henv
  replace hst := hst.call hb
  clear hb
  refine sv (v := .bool (decide (s.take 2 = [91, 93]))) henv rfl (rn_assign henv rfl) ?_
  clear henv a; intro a henv
  refine wpList_nil ?_
  refine th_n ?_
  refine wp_ret ?_
  refine leave henv (res1 Tryd.results112 (RV.tmp henv rfl)) ?_
  exact ⟨rfl, hst.below⟩
theorem hpx_no {s : List UInt8} {w0 : World} (h : ¬ (1 < s.length ∧ (s.getD 1 0).toNat = 93)) :
    Calls Tryd.prog 112 #[.string ⟨s.toArray⟩, .string ⟨#[91, 93]⟩] w0 fun e w' => e = .returned (.bool false) ∧ Below w0.heap.size w0 w' := by
  rcases Nat.lt_or_ge s.length 2 with h2 | h2
  · exact hpx_short h2
  · have h3 := hpx_long (w0 := w0) h2
    rw [decide_eq_false (fun e => h ⟨by omega, by rw [show s.getD 1 0 = (s.take 2).getD 1 0 by simp [List.getD_eq_getElem?_getD], e]; rfl⟩)] at h3
    exact h3
theorem hpx_yes {s : List UInt8} {w0 : World} (h0 : (s.getD 0 0).toNat = 91) (h1 : 1 < s.length) (h2 : (s.getD 1 0).toNat = 93) :
    Calls Tryd.prog 112 #[.string ⟨s.toArray⟩, .string ⟨#[91, 93]⟩] w0 fun e w' => e = .returned (.bool true) ∧ Below w0.heap.size w0 w' := by
  have h3 := hpx_long (w0 := w0) (s := s) (by omega)
  rw [decide_eq_true (take_two h0 h1 h2)] at h3
  exact h3
set_option maxRecDepth 100000 in
set_option maxHeartbeats 2000000 in
theorem row_wrong {p : Nat} {w0 : World} :
    Calls Tryd.prog 111 #[.int .i64 (p : Nat)] w0 fun e w' => e = .returned (.tuple #[.slice none 0 0, .agg #[.int .i64 6, .int .i64 (p : Nat)]]) ∧ Below w0.heap.size w0 w' := by
  refine enter Tryd.func111 rfl Tryd.ntmps111 rfl ?_
  intro a henv hst
  refine wp_seq ?_
  refine region_seq ?_
  refine sv (v := .slice none 0 0) henv rfl (rn_assign henv rfl) ?_
  clear henv a; intro a henv
  refine seq_step rfl (op_alloc (c := #[.int .i64 0, .int .i64 0]) henv hst rfl zero_anvil_api_Spot rfl ?_)
  clear henv hst a; intro a w52 g51 henv hst
  refine wpList_nil ?_
  refine th_n ?_
  refine wp_seq ?_
  refine region_seq ?_
  revert a
  refine mA rfl rfl ?_
  refine sA (v := .agg #[.int .i64 6, .int .i64 (p : Nat)]) rfl (fun _ henv => rn_spot2 henv rfl rfl) ?_
  refine aA rfl rfl ?_
  intro a henv
  refine seq_step rfl (op_store (k := 0) (c' := #[.int .i64 6, .int .i64 (p : Nat)]) henv hst (ty_anvil_api_Spot.size) rfl rfl rfl rfl (by simp) rfl rfl ?_)
  clear henv hst a; intro a w53 henv hst
  refine wpList_nil ?_
  refine th_n ?_
  refine wp_ret ?_
  refine leave henv (res2 Tryd.results111 (RV.tmp henv rfl) (RV.cell henv ty_anvil_api_Spot rfl (hst.oat (k := 0) rfl) rfl)) ?_
  exact ⟨rfl, hst.below⟩
set_option maxRecDepth 100000 in
set_option maxHeartbeats 2000000 in
theorem row_read_empty {s : List UInt8} {w0 : World} (h0 : s = []) :
    Calls Tryd.prog 51 #[.string ⟨s.toArray⟩] w0 fun e w' => e = .returned (.tuple #[.slice none 0 0, .agg #[.int .i64 6, .int .i64 0]]) ∧ Below w0.heap.size w0 w' := by
  have hl0 : s.length = 0 := by rw [h0]; rfl
  refine enter Tryd.func51 rfl Tryd.ntmps51 rfl ?_
  intro a henv hst
  refine wp_seq ?_
  refine region_seq ?_
  refine sv (v := .slice none 0 0) henv rfl (rn_assign henv rfl) ?_
  clear henv a; intro a henv
  refine seq_step rfl (op_alloc (c := #[.int .i64 0, .int .i64 0]) henv hst rfl zero_anvil_api_Spot rfl ?_)
  clear henv hst a; intro a w52 g51 henv hst
  refine wpList_nil ?_
  refine th_n ?_
  refine wp_scope_straight ?_
  refine wp_seq ?_
  refine wp_seq ?_
  refine region_seq ?_
  revert a
  refine mA rfl rfl ?_
  refine sA (v := .int .i64 (s.length : Nat)) rfl (fun _ henv => rn_lenS henv Tryd.underlying9 rfl) ?_
  refine sA (v := .bool (decide (((s.length : Nat) : Int) > (65536 : Int)))) rfl (fun _ henv => rn_bin henv rfl rfl rfl) ?_
  intro a henv
  rw [show (decide (((s.length : Nat) : Int) > (65536 : Int))) = false from decide_eq_false (by omega)] at henv
  refine wpList_nil ?_
  refine th_n ?_
  refine if_f henv rfl (rfl) ?_
  refine wp_skip ?_
  refine th_n ?_
  refine wp_seq ?_
  refine region_seq ?_
  refine sv (v := .func (.func 111) #[] #[]) henv rfl (rn_assign henv rfl) ?_
  clear henv a; intro a henv
  refine wpList_nil ?_
  refine th_n ?_
  refine wp_seq ?_
  refine wp_seq ?_
  refine region_seq ?_
  revert a
  refine mA rfl rfl ?_
  refine sA (v := .bool (decide (s = []))) rfl (fun _ henv => rn_eqls (s := s) (t := []) henv rfl rfl) ?_
  intro a henv
  rw [show (decide (s = [])) = true from decide_eq_true h0] at henv
  revert a
  refine mA rfl rfl ?_
  refine kA rfl rfl rfl rfl rfl ?_
  refine kA rfl rfl rfl rfl rfl ?_
  refine kA rfl rfl rfl rfl rfl ?_
  refine sA (v := .bool true) rfl (fun _ henv => rn_pick henv rfl rfl) ?_
  intro a henv
  refine wpList_nil ?_
  refine th_n ?_
  refine if_t henv rfl (rfl) ?_
  refine wp_seq ?_
  refine region_seq ?_
  refine sv (v := .func (.func 111) #[] #[]) henv rfl (rn_move henv rfl) ?_
  clear henv a; intro a henv
  refine seq_step rfl (op_callc (vs := #[.int .i64 0]) henv rfl Tryd.call111 rfl rfl (calls_app (by simp) (row_wrong (p := 0))) ?_)
  rintro e w53 ⟨rfl, hb⟩
  refine ⟨_, rfl, ?_⟩
  clear henv a; intro a henv
  replace hst := hst.call hb
  clear hb
  revert a
  refine sA (v := .slice none 0 0) rfl (fun _ henv => rn_extract henv rfl rfl) ?_
  refine sA (v := .agg #[.int .i64 6, .int .i64 (0 : Nat)]) rfl (fun _ henv => rn_extract henv rfl rfl) ?_
  refine aA rfl rfl ?_
  intro a henv
  refine seq_step rfl (op_store (k := 0) (c' := #[.int .i64 6, .int .i64 (0 : Nat)]) henv hst (ty_anvil_api_Spot.size) rfl rfl rfl rfl (by simp) rfl rfl ?_)
  clear henv hst a; intro a w54 henv hst
  refine wpList_nil ?_
  refine th_n ?_
  refine wp_ret ?_
  refine th_r (sc_r ?_)
  refine leave henv (res2 Tryd.results51 (RV.tmp henv rfl) (RV.cell henv ty_anvil_api_Spot rfl (hst.oat (k := 0) rfl) rfl)) ?_
  exact ⟨rfl, hst.below⟩
set_option maxRecDepth 100000 in
set_option maxHeartbeats 2000000 in
theorem row_read_no {s : List UInt8} {w0 : World} (hl : s.length ≤ 65536) (hne : s ≠ []) (h0 : (s.getD 0 0).toNat ≠ 91) :
    Calls Tryd.prog 51 #[.string ⟨s.toArray⟩] w0 fun e w' => e = .returned (.tuple #[.slice none 0 0, .agg #[.int .i64 6, .int .i64 0]]) ∧ Below w0.heap.size w0 w' := by
  have hlen : 0 < s.length := List.length_pos_iff.2 hne
  refine enter Tryd.func51 rfl Tryd.ntmps51 rfl ?_
  intro a henv hst
  refine wp_seq ?_
  refine region_seq ?_
  refine sv (v := .slice none 0 0) henv rfl (rn_assign henv rfl) ?_
  clear henv a; intro a henv
  refine seq_step rfl (op_alloc (c := #[.int .i64 0, .int .i64 0]) henv hst rfl zero_anvil_api_Spot rfl ?_)
  clear henv hst a; intro a w52 g51 henv hst
  refine wpList_nil ?_
  refine th_n ?_
  refine wp_scope_straight ?_
  refine wp_seq ?_
  refine wp_seq ?_
  refine region_seq ?_
  revert a
  refine mA rfl rfl ?_
  refine sA (v := .int .i64 (s.length : Nat)) rfl (fun _ henv => rn_lenS henv Tryd.underlying9 rfl) ?_
  refine sA (v := .bool (decide (((s.length : Nat) : Int) > (65536 : Int)))) rfl (fun _ henv => rn_bin henv rfl rfl rfl) ?_
  intro a henv
  rw [show (decide (((s.length : Nat) : Int) > (65536 : Int))) = false from decide_eq_false (by omega)] at henv
  refine wpList_nil ?_
  refine th_n ?_
  refine if_f henv rfl (rfl) ?_
  refine wp_skip ?_
  refine th_n ?_
  refine wp_seq ?_
  refine region_seq ?_
  refine sv (v := .func (.func 111) #[] #[]) henv rfl (rn_assign henv rfl) ?_
  clear henv a; intro a henv
  refine wpList_nil ?_
  refine th_n ?_
  refine wp_seq ?_
  refine wp_seq ?_
  refine region_seq ?_
  revert a
  refine mA rfl rfl ?_
  refine sA (v := .bool (decide (s = []))) rfl (fun _ henv => rn_eqls (s := s) (t := []) henv rfl rfl) ?_
  intro a henv
  rw [show (decide (s = [])) = false from decide_eq_false hne] at henv
  revert a
  refine mA rfl rfl ?_
  refine gA (v := .string ⟨s.toArray⟩) rfl rfl rfl rfl (fun _ henv => rn_move henv rfl) ?_
  refine gA (v := .int .u8 ((s.getD 0 0).toNat : Nat)) rfl rfl rfl rfl (fun _ henv => rn_idxS (i := 0) henv Tryd.underlying9 rfl rfl (by omega)) ?_
  refine gA (v := .bool ((((s.getD 0 0).toNat : Nat) : Int) != (91 : Int))) rfl rfl rfl rfl (fun _ henv => rn_bin henv rfl rfl rfl) ?_
  intro a henv
  rw [show ((((s.getD 0 0).toNat : Nat) : Int) != (91 : Int)) = true from bne_iff_ne.2 (by omega)] at henv
  refine sv (v := .bool true) henv rfl (rn_pick henv rfl rfl) ?_
  clear henv a; intro a henv
  refine wpList_nil ?_
  refine th_n ?_
  refine if_t henv rfl (rfl) ?_
  refine wp_seq ?_
  refine region_seq ?_
  refine sv (v := .func (.func 111) #[] #[]) henv rfl (rn_move henv rfl) ?_
  clear henv a; intro a henv
  refine seq_step rfl (op_callc (vs := #[.int .i64 0]) henv rfl Tryd.call111 rfl rfl (calls_app (by simp) (row_wrong (p := 0))) ?_)
  rintro e w53 ⟨rfl, hb⟩
  refine ⟨_, rfl, ?_⟩
  clear henv a; intro a henv
  replace hst := hst.call hb
  clear hb
  revert a
  refine sA (v := .slice none 0 0) rfl (fun _ henv => rn_extract henv rfl rfl) ?_
  refine sA (v := .agg #[.int .i64 6, .int .i64 (0 : Nat)]) rfl (fun _ henv => rn_extract henv rfl rfl) ?_
  refine aA rfl rfl ?_
  intro a henv
  refine seq_step rfl (op_store (k := 0) (c' := #[.int .i64 6, .int .i64 (0 : Nat)]) henv hst (ty_anvil_api_Spot.size) rfl rfl rfl rfl (by simp) rfl rfl ?_)
  clear henv hst a; intro a w54 henv hst
  refine wpList_nil ?_
  refine th_n ?_
  refine wp_ret ?_
  refine th_r (sc_r ?_)
  refine leave henv (res2 Tryd.results51 (RV.tmp henv rfl) (RV.cell henv ty_anvil_api_Spot rfl (hst.oat (k := 0) rfl) rfl)) ?_
  exact ⟨rfl, hst.below⟩
set_option maxRecDepth 100000 in
set_option maxHeartbeats 2000000 in
theorem row_read_void {s : List UInt8} {w0 : World} (h0 : (s.getD 0 0).toNat = 91) (h1 : (s.getD 1 0).toNat = 93) (h2 : s.length = 2) :
    Calls Tryd.prog 51 #[.string ⟨s.toArray⟩] w0 fun e w' => e = .returned (.tuple #[.slice none 0 0, .agg #[.int .i64 0, .int .i64 0]]) ∧ Below w0.heap.size w0 w' := by
  have hne : s ≠ [] := fun e => by rw [e] at h2; simp at h2
  refine enter Tryd.func51 rfl Tryd.ntmps51 rfl ?_
  intro a henv hst
  refine wp_seq ?_
  refine region_seq ?_
  refine sv (v := .slice none 0 0) henv rfl (rn_assign henv rfl) ?_
  clear henv a; intro a henv
  refine seq_step rfl (op_alloc (c := #[.int .i64 0, .int .i64 0]) henv hst rfl zero_anvil_api_Spot rfl ?_)
  clear henv hst a; intro a w52 g51 henv hst
  refine wpList_nil ?_
  refine th_n ?_
  refine wp_scope_straight ?_
  refine wp_seq ?_
  refine wp_seq ?_
  refine region_seq ?_
  revert a
  refine mA rfl rfl ?_
  refine sA (v := .int .i64 (s.length : Nat)) rfl (fun _ henv => rn_lenS henv Tryd.underlying9 rfl) ?_
  refine sA (v := .bool (decide (((s.length : Nat) : Int) > (65536 : Int)))) rfl (fun _ henv => rn_bin henv rfl rfl rfl) ?_
  intro a henv
  rw [show (decide (((s.length : Nat) : Int) > (65536 : Int))) = false from decide_eq_false (by omega)] at henv
  refine wpList_nil ?_
  refine th_n ?_
  refine if_f henv rfl (rfl) ?_
  refine wp_skip ?_
  refine th_n ?_
  refine wp_seq ?_
  refine region_seq ?_
  refine sv (v := .func (.func 111) #[] #[]) henv rfl (rn_assign henv rfl) ?_
  clear henv a; intro a henv
  refine wpList_nil ?_
  refine th_n ?_
  refine wp_seq ?_
  refine wp_seq ?_
  refine region_seq ?_
  revert a
  refine mA rfl rfl ?_
  refine sA (v := .bool (decide (s = []))) rfl (fun _ henv => rn_eqls (s := s) (t := []) henv rfl rfl) ?_
  intro a henv
  rw [show (decide (s = [])) = false from decide_eq_false hne] at henv
  revert a
  refine mA rfl rfl ?_
  refine gA (v := .string ⟨s.toArray⟩) rfl rfl rfl rfl (fun _ henv => rn_move henv rfl) ?_
  refine gA (v := .int .u8 ((s.getD 0 0).toNat : Nat)) rfl rfl rfl rfl (fun _ henv => rn_idxS (i := 0) henv Tryd.underlying9 rfl rfl (by omega)) ?_
  refine gA (v := .bool ((((s.getD 0 0).toNat : Nat) : Int) != (91 : Int))) rfl rfl rfl rfl (fun _ henv => rn_bin henv rfl rfl rfl) ?_
  intro a henv
  rw [show ((((s.getD 0 0).toNat : Nat) : Int) != (91 : Int)) = false from bne_false (by omega)] at henv
  refine sv (v := .bool false) henv rfl (rn_pick henv rfl rfl) ?_
  clear henv a; intro a henv
  refine wpList_nil ?_
  refine th_n ?_
  refine if_f henv rfl (rfl) ?_
  refine wp_skip ?_
  refine th_n ?_
  refine wp_seq ?_
  refine region_seq ?_
  refine sv (v := .slice none 0 0) henv rfl (rn_assign henv rfl) ?_
  clear henv a; intro a henv
  refine wpList_nil ?_
  refine th_n ?_
  refine wp_seq ?_
  refine region_seq ?_
  refine sv (v := .int .i64 1) henv rfl (rn_assign henv rfl) ?_
  clear henv a; intro a henv
  refine wpList_nil ?_
  refine th_n ?_
  refine wp_seq ?_
  refine wp_seq ?_
  refine region_seq ?_
  revert a
  refine mA rfl rfl ?_
  refine sA (v := .bool (decide (s = [91, 93]))) rfl (fun _ henv => rn_eqls (s := s) (t := [91, 93]) henv rfl rfl) ?_
  intro a henv
  rw [show (decide (s = [91, 93])) = true from decide_eq_true (two_text h0 h1 h2)] at henv
  refine wpList_nil ?_
  refine th_n ?_
  refine if_t henv rfl (rfl) ?_
  refine wp_seq ?_
  refine region_seq ?_
  revert a
  refine sA (v := .agg #[.int .i64 0, .int .i64 0]) rfl (fun _ henv => rn_spot0) ?_
  refine aA rfl rfl ?_
  intro a henv
  refine seq_step rfl (op_store (k := 0) (c' := #[.int .i64 0, .int .i64 0]) henv hst (ty_anvil_api_Spot.size) rfl rfl rfl rfl (by simp) rfl rfl ?_)
  clear henv hst a; intro a w53 henv hst
  refine wpList_nil ?_
  refine th_n ?_
  refine wp_ret ?_
  refine th_r (sc_r ?_)
  refine leave henv (res2 Tryd.results51 (RV.tmp henv rfl) (RV.cell henv ty_anvil_api_Spot rfl (hst.oat (k := 0) rfl) rfl)) ?_
  exact ⟨rfl, hst.below⟩
set_option maxRecDepth 100000 in
set_option maxHeartbeats 2000000 in
theorem row_read_tail {s : List UInt8} {w0 : World} (hl : s.length ≤ 65536) (h0 : (s.getD 0 0).toNat = 91) (h1 : (s.getD 1 0).toNat = 93) (h2 : 2 < s.length) :
    Calls Tryd.prog 51 #[.string ⟨s.toArray⟩] w0 fun e w' => e = .returned (.tuple #[.slice none 0 0, .agg #[.int .i64 6, .int .i64 2]]) ∧ Below w0.heap.size w0 w' := by
  have hne : s ≠ [] := fun e => by rw [e] at h2; simp at h2
  refine enter Tryd.func51 rfl Tryd.ntmps51 rfl ?_
  intro a henv hst
  refine wp_seq ?_
  refine region_seq ?_
  refine sv (v := .slice none 0 0) henv rfl (rn_assign henv rfl) ?_
  clear henv a; intro a henv
  refine seq_step rfl (op_alloc (c := #[.int .i64 0, .int .i64 0]) henv hst rfl zero_anvil_api_Spot rfl ?_)
  clear henv hst a; intro a w52 g51 henv hst
  refine wpList_nil ?_
  refine th_n ?_
  refine wp_scope_straight ?_
  refine wp_seq ?_
  refine wp_seq ?_
  refine region_seq ?_
  revert a
  refine mA rfl rfl ?_
  refine sA (v := .int .i64 (s.length : Nat)) rfl (fun _ henv => rn_lenS henv Tryd.underlying9 rfl) ?_
  refine sA (v := .bool (decide (((s.length : Nat) : Int) > (65536 : Int)))) rfl (fun _ henv => rn_bin henv rfl rfl rfl) ?_
  intro a henv
  rw [show (decide (((s.length : Nat) : Int) > (65536 : Int))) = false from decide_eq_false (by omega)] at henv
  refine wpList_nil ?_
  refine th_n ?_
  refine if_f henv rfl (rfl) ?_
  refine wp_skip ?_
  refine th_n ?_
  refine wp_seq ?_
  refine region_seq ?_
  refine sv (v := .func (.func 111) #[] #[]) henv rfl (rn_assign henv rfl) ?_
  clear henv a; intro a henv
  refine wpList_nil ?_
  refine th_n ?_
  refine wp_seq ?_
  refine wp_seq ?_
  refine region_seq ?_
  revert a
  refine mA rfl rfl ?_
  refine sA (v := .bool (decide (s = []))) rfl (fun _ henv => rn_eqls (s := s) (t := []) henv rfl rfl) ?_
  intro a henv
  rw [show (decide (s = [])) = false from decide_eq_false hne] at henv
  revert a
  refine mA rfl rfl ?_
  refine gA (v := .string ⟨s.toArray⟩) rfl rfl rfl rfl (fun _ henv => rn_move henv rfl) ?_
  refine gA (v := .int .u8 ((s.getD 0 0).toNat : Nat)) rfl rfl rfl rfl (fun _ henv => rn_idxS (i := 0) henv Tryd.underlying9 rfl rfl (by omega)) ?_
  refine gA (v := .bool ((((s.getD 0 0).toNat : Nat) : Int) != (91 : Int))) rfl rfl rfl rfl (fun _ henv => rn_bin henv rfl rfl rfl) ?_
  intro a henv
  rw [show ((((s.getD 0 0).toNat : Nat) : Int) != (91 : Int)) = false from bne_false (by omega)] at henv
  refine sv (v := .bool false) henv rfl (rn_pick henv rfl rfl) ?_
  clear henv a; intro a henv
  refine wpList_nil ?_
  refine th_n ?_
  refine if_f henv rfl (rfl) ?_
  refine wp_skip ?_
  refine th_n ?_
  refine wp_seq ?_
  refine region_seq ?_
  refine sv (v := .slice none 0 0) henv rfl (rn_assign henv rfl) ?_
  clear henv a; intro a henv
  refine wpList_nil ?_
  refine th_n ?_
  refine wp_seq ?_
  refine region_seq ?_
  refine sv (v := .int .i64 1) henv rfl (rn_assign henv rfl) ?_
  clear henv a; intro a henv
  refine wpList_nil ?_
  refine th_n ?_
  refine wp_seq ?_
  refine wp_seq ?_
  refine region_seq ?_
  revert a
  refine mA rfl rfl ?_
  refine sA (v := .bool (decide (s = [91, 93]))) rfl (fun _ henv => rn_eqls (s := s) (t := [91, 93]) henv rfl rfl) ?_
  intro a henv
  rw [show (decide (s = [91, 93])) = false from decide_eq_false (fun e => by rw [e] at h2; simp at h2)] at henv
  refine wpList_nil ?_
  refine th_n ?_
  refine if_f henv rfl (rfl) ?_
  refine wp_skip ?_
  refine th_n ?_
  refine wp_seq ?_
  refine wp_seq ?_
  refine region_seq ?_
  refine sv (v := .string ⟨s.toArray⟩) henv rfl (rn_move henv rfl) ?_
  clear henv a; intro a henv
  refine seq_step rfl (op_call henv rfl Tryd.call112 rfl (hpx_yes h0 (by omega) h1) ?_)
  rintro e w53 ⟨rfl, hb⟩
  refine ⟨_, rfl, ?_⟩
  clear henv a; intro a henv
  replace hst := hst.call hb
  clear hb
  refine wpList_nil ?_
  refine th_n ?_
  refine if_t henv rfl (rfl) ?_
  refine wp_seq ?_
  refine region_seq ?_
  refine sv (v := .func (.func 111) #[] #[]) henv rfl (rn_move henv rfl) ?_
  clear henv a; intro a henv
  refine seq_step rfl (op_callc (vs := #[.int .i64 2]) henv rfl Tryd.call111 rfl rfl (calls_app (by simp) (row_wrong (p := 2))) ?_)
  rintro e w54 ⟨rfl, hb⟩
  refine ⟨_, rfl, ?_⟩
  clear henv a; intro a henv
  replace hst := hst.call hb
  clear hb
  revert a
  refine sA (v := .slice none 0 0) rfl (fun _ henv => rn_extract henv rfl rfl) ?_
  refine sA (v := .agg #[.int .i64 6, .int .i64 (2 : Nat)]) rfl (fun _ henv => rn_extract henv rfl rfl) ?_
  refine aA rfl rfl ?_
  intro a henv
  refine seq_step rfl (op_store (k := 0) (c' := #[.int .i64 6, .int .i64 (2 : Nat)]) henv hst (ty_anvil_api_Spot.size) rfl rfl rfl rfl (by simp) rfl rfl ?_)
  clear henv hst a; intro a w55 henv hst
  refine wpList_nil ?_
  refine th_n ?_
  refine wp_ret ?_
  refine th_r (sc_r ?_)
  refine leave henv (res2 Tryd.results51 (RV.tmp henv rfl) (RV.cell henv ty_anvil_api_Spot rfl (hst.oat (k := 0) rfl) rfl)) ?_
  exact ⟨rfl, hst.below⟩
set_option maxRecDepth 100000 in
set_option maxHeartbeats 4000000 in
theorem row_read_go {s : List UInt8} {w0 : World} (hl : s.length ≤ 65536) (h0 : (s.getD 0 0).toNat = 91) (hne : s ≠ []) (h1 : ¬ (1 < s.length ∧ (s.getD 1 0).toNat = 93)) :
    Calls Tryd.prog 51 #[.string ⟨s.toArray⟩] w0 fun e w' => ((∃ zs n v, Rd0 s (.inl zs) ∧ zs.length = n ∧ n ≤ 4096 ∧ e = .returned (.tuple #[v, .agg #[.int .i64 0, .int .i64 0]]) ∧ ZRow w0.heap.size w' v n zs) ∨ (∃ b : Nat, Rd0 s (.inr b) ∧ e = .returned (.tuple #[.slice none 0 0, .agg #[.int .i64 6, .int .i64 (b : Nat)]])) ∨ (∃ (p : Nat) (zs : List Int), zs.length = 4096 ∧ p ≤ s.length ∧ s.take p = preT zs ∧ e = .returned (.tuple #[.slice none 0 0, .agg #[.int .i64 3, .int .i64 (p : Nat)]]))) ∧ Below w0.heap.size w0 w' := by
  have hlen : 1 ≤ s.length := List.length_pos_iff.2 hne
  refine enter Tryd.func51 rfl Tryd.ntmps51 rfl ?_
  intro a henv hst
  refine wp_seq ?_
  refine region_seq ?_
  refine sv (v := .slice none 0 0) henv rfl (rn_assign henv rfl) ?_
  clear henv a; intro a henv
  refine seq_step rfl (op_alloc (c := #[.int .i64 0, .int .i64 0]) henv hst rfl zero_anvil_api_Spot rfl ?_)
  clear henv hst a; intro a w52 g51 henv hst
  refine wpList_nil ?_
  refine th_n ?_
  refine wp_scope_at 0 (fun mz a w => ∃ p : Nat, ∃ j : Nat, ∃ zs : List Int, ∃ B : Option Addr, ∃ c : Nat, ∃ os : List NE, s.length + 1 - p = mz ∧ Env 130 a [(0, .string ⟨s.toArray⟩), (3, .pointer (some ⟨g51, 0, none⟩)), (4, .func (.func 111) #[] #[]), (5, .slice B j c), (6, .int .i64 (p : Nat))] ∧ St w0 w [rowS notU 36 2 B j c (fl fN os), bk g51 #[.int .i64 0, .int .i64 0] 79] [pfEs FN os] ∧ 1 ≤ p ∧ p ≤ s.length ∧ j ≤ 4096 ∧ zs.length = j ∧ os.map zz = zs ∧ s.take p = preT zs ∧ ∀ r, Go s p zs r → Go s 1 [] r) rfl ?_ ?_
  · clear henv hst a
    rintro mz a w53 ⟨p, j, zs, B, c, os, rfl, henv, hst, hp0, hp1, hj, hzl, ho, hpre, hgo⟩
    refine wp_seq ?_
    refine region_seq ?_
    revert a
    refine mA rfl rfl ?_
    refine aA rfl rfl ?_
    intro a henv
    refine wpList_nil ?_
    refine th_n ?_
    refine wp_seq ?_
    refine cut (fun a w => ∃ q : Nat, Env 130 a [(0, .string ⟨s.toArray⟩), (3, .pointer (some ⟨g51, 0, none⟩)), (4, .func (.func 111) #[] #[]), (5, .slice B j c), (6, .int .i64 (p : Nat)), (7, .int .i64 (q : Nat))] ∧ St w0 w [rowS notU 36 2 B j c (fl fN os), bk g51 #[.int .i64 0, .int .i64 0] 79] [pfEs FN os] ∧ Sen s p q) ?_ ?_
    · refine wp_block ?_
      refine wp_loop_ghost (fun mz a w => ∃ q : Nat, s.length - q = mz ∧ Env 130 a [(0, .string ⟨s.toArray⟩), (3, .pointer (some ⟨g51, 0, none⟩)), (4, .func (.func 111) #[] #[]), (5, .slice B j c), (6, .int .i64 (p : Nat)), (7, .int .i64 (q : Nat))] ∧ St w0 w [rowS notU 36 2 B j c (fl fN os), bk g51 #[.int .i64 0, .int .i64 0] 79] [pfEs FN os] ∧ p ≤ q ∧ q ≤ s.length ∧ ∀ i, p ≤ i → i < q → ndg (s.getD i 0)) _ ⟨p, rfl, henv.sub ⟨rfl, rfl, rfl, rfl, rfl, rfl, trivial⟩, hst.pick [0, 1] [0] (by decide), (Nat.le_refl _), hp1, (fun i h1 h2 => by omega)⟩ ?_
      clear henv hst a
      rintro mz a w54 ⟨q, rfl, henv, hst, hq1, hq2, hq3⟩
      rcases sen_cases s q hq2 with hv | ⟨hv1, hv2⟩ | ⟨hv1, hv2, hv3⟩ | ⟨hv1, hv2, hv3⟩ | ⟨hv1, hv2⟩
      · refine wp_seq ?_
        refine wp_seq ?_
        refine region_seq ?_
        revert a
        refine mA rfl rfl ?_
        refine mA rfl rfl ?_
        refine sA (v := .int .i64 (s.length : Nat)) rfl (fun _ henv => rn_lenS henv Tryd.underlying9 rfl) ?_
        refine sA (v := .bool (decide (((q : Nat) : Int) < ((s.length : Nat) : Int)))) rfl (fun _ henv => rn_bin henv rfl rfl rfl) ?_
        intro a henv
        rw [show (decide (((q : Nat) : Int) < ((s.length : Nat) : Int))) = false from decide_eq_false (by omega)] at henv
        revert a
        refine mA rfl rfl ?_
        refine kA rfl rfl rfl rfl rfl ?_
        refine kA rfl rfl rfl rfl rfl ?_
        refine kA rfl rfl rfl rfl rfl ?_
        refine kA rfl rfl rfl rfl rfl ?_
        refine kA rfl rfl rfl rfl rfl ?_
        refine kA rfl rfl rfl rfl rfl ?_
        refine kA rfl rfl rfl rfl rfl ?_
        refine kA rfl rfl rfl rfl rfl ?_
        refine kA rfl rfl rfl rfl rfl ?_
        refine kA rfl rfl rfl rfl rfl ?_
        refine kA rfl rfl rfl rfl rfl ?_
        refine kA rfl rfl rfl rfl rfl ?_
        refine kA rfl rfl rfl rfl rfl ?_
        refine kA rfl rfl rfl rfl rfl ?_
        refine kA rfl rfl rfl rfl rfl ?_
        refine kA rfl rfl rfl rfl rfl ?_
        refine sA (v := .bool false) rfl (fun _ henv => rn_pick henv rfl rfl) ?_
        intro a henv
        refine wpList_nil ?_
        refine th_n ?_
        refine if_f henv rfl (rfl) ?_
        refine wp_exit ?_
        refine th_x (th_x (bl_x (th_n ?_)))
        exact ⟨q, henv.sub ⟨rfl, rfl, rfl, rfl, rfl, rfl, trivial⟩, hst.pick [0, 1] [0] (by decide), ⟨hq1, hq2, hq3, fun h => absurd h (by omega)⟩⟩
      · refine wp_seq ?_
        refine wp_seq ?_
        refine region_seq ?_
        revert a
        refine mA rfl rfl ?_
        refine mA rfl rfl ?_
        refine sA (v := .int .i64 (s.length : Nat)) rfl (fun _ henv => rn_lenS henv Tryd.underlying9 rfl) ?_
        refine sA (v := .bool (decide (((q : Nat) : Int) < ((s.length : Nat) : Int)))) rfl (fun _ henv => rn_bin henv rfl rfl rfl) ?_
        intro a henv
        rw [show (decide (((q : Nat) : Int) < ((s.length : Nat) : Int))) = true from decide_eq_true (by omega)] at henv
        revert a
        refine mA rfl rfl ?_
        refine gA (v := .string ⟨s.toArray⟩) rfl rfl rfl rfl (fun _ henv => rn_move henv rfl) ?_
        refine gA (v := .int .i64 (q : Nat)) rfl rfl rfl rfl (fun _ henv => rn_move henv rfl) ?_
        refine gA (v := .int .u8 ((s.getD q 0).toNat : Nat)) rfl rfl rfl rfl (fun _ henv => rn_idxS (i := q) henv Tryd.underlying9 rfl rfl (by omega)) ?_
        refine gA (v := .bool ((((s.getD q 0).toNat : Nat) : Int) == (45 : Int))) rfl rfl rfl rfl (fun _ henv => rn_bin henv rfl rfl rfl) ?_
        intro a henv
        rw [show ((((s.getD q 0).toNat : Nat) : Int) == (45 : Int)) = true from beq_iff_eq.2 (by omega)] at henv
        revert a
        refine gA (v := .bool true) rfl rfl rfl rfl (fun _ henv => rn_move henv rfl) ?_
        refine kA rfl rfl rfl rfl rfl ?_
        refine kA rfl rfl rfl rfl rfl ?_
        refine kA rfl rfl rfl rfl rfl ?_
        refine kA rfl rfl rfl rfl rfl ?_
        refine kA rfl rfl rfl rfl rfl ?_
        refine kA rfl rfl rfl rfl rfl ?_
        refine kA rfl rfl rfl rfl rfl ?_
        refine kA rfl rfl rfl rfl rfl ?_
        refine kA rfl rfl rfl rfl rfl ?_
        refine kA rfl rfl rfl rfl rfl ?_
        refine gA (v := .bool true) rfl rfl rfl rfl (fun _ henv => rn_pick henv rfl rfl) ?_
        refine sA (v := .bool true) rfl (fun _ henv => rn_pick henv rfl rfl) ?_
        intro a henv
        refine wpList_nil ?_
        refine th_n ?_
        refine if_t henv rfl (rfl) ?_
        refine wp_skip ?_
        refine th_n ?_
        refine wp_block ?_
        refine region_seq ?_
        revert a
        refine mA rfl rfl ?_
        refine sA (v := .int .i64 (q + 1 : Nat)) rfl (fun _ henv => rn_add henv rfl rfl (by rw [IntWalk.i64_in _ (by omega)]; omega)) ?_
        refine aA rfl rfl ?_
        intro a henv
        refine wpList_nil ?_
        refine bl_n ?_
        exact th_n ⟨_, (by omega), ⟨q + 1, rfl, henv.sub ⟨rfl, rfl, rfl, rfl, rfl, rfl, trivial⟩, hst.pick [0, 1] [0] (by decide), (by omega), (by omega), (range_step hq3 (.inl hv2))⟩⟩
      · refine wp_seq ?_
        refine wp_seq ?_
        refine region_seq ?_
        revert a
        refine mA rfl rfl ?_
        refine mA rfl rfl ?_
        refine sA (v := .int .i64 (s.length : Nat)) rfl (fun _ henv => rn_lenS henv Tryd.underlying9 rfl) ?_
        refine sA (v := .bool (decide (((q : Nat) : Int) < ((s.length : Nat) : Int)))) rfl (fun _ henv => rn_bin henv rfl rfl rfl) ?_
        intro a henv
        rw [show (decide (((q : Nat) : Int) < ((s.length : Nat) : Int))) = true from decide_eq_true (by omega)] at henv
        revert a
        refine mA rfl rfl ?_
        refine gA (v := .string ⟨s.toArray⟩) rfl rfl rfl rfl (fun _ henv => rn_move henv rfl) ?_
        refine gA (v := .int .i64 (q : Nat)) rfl rfl rfl rfl (fun _ henv => rn_move henv rfl) ?_
        refine gA (v := .int .u8 ((s.getD q 0).toNat : Nat)) rfl rfl rfl rfl (fun _ henv => rn_idxS (i := q) henv Tryd.underlying9 rfl rfl (by omega)) ?_
        refine gA (v := .bool ((((s.getD q 0).toNat : Nat) : Int) == (45 : Int))) rfl rfl rfl rfl (fun _ henv => rn_bin henv rfl rfl rfl) ?_
        intro a henv
        rw [show ((((s.getD q 0).toNat : Nat) : Int) == (45 : Int)) = false from beq_eq_false_iff_ne.2 (by omega)] at henv
        revert a
        refine gA (v := .bool false) rfl rfl rfl rfl (fun _ henv => rn_move henv rfl) ?_
        refine gA (v := .string ⟨s.toArray⟩) rfl rfl rfl rfl (fun _ henv => rn_move henv rfl) ?_
        refine gA (v := .int .i64 (q : Nat)) rfl rfl rfl rfl (fun _ henv => rn_move henv rfl) ?_
        refine gA (v := .int .u8 ((s.getD q 0).toNat : Nat)) rfl rfl rfl rfl (fun _ henv => rn_idxS (i := q) henv Tryd.underlying9 rfl rfl (by omega)) ?_
        refine gA (v := .bool (decide ((((s.getD q 0).toNat : Nat) : Int) ≥ (48 : Int)))) rfl rfl rfl rfl (fun _ henv => rn_bin henv rfl rfl rfl) ?_
        intro a henv
        rw [show (decide ((((s.getD q 0).toNat : Nat) : Int) ≥ (48 : Int))) = false from decide_eq_false (by omega)] at henv
        revert a
        refine gA (v := .bool false) rfl rfl rfl rfl (fun _ henv => rn_move henv rfl) ?_
        refine kA rfl rfl rfl rfl rfl ?_
        refine kA rfl rfl rfl rfl rfl ?_
        refine kA rfl rfl rfl rfl rfl ?_
        refine kA rfl rfl rfl rfl rfl ?_
        refine gA (v := .bool false) rfl rfl rfl rfl (fun _ henv => rn_pick henv rfl rfl) ?_
        refine gA (v := .bool false) rfl rfl rfl rfl (fun _ henv => rn_pick henv rfl rfl) ?_
        refine sA (v := .bool false) rfl (fun _ henv => rn_pick henv rfl rfl) ?_
        intro a henv
        refine wpList_nil ?_
        refine th_n ?_
        refine if_f henv rfl (rfl) ?_
        refine wp_exit ?_
        refine th_x (th_x (bl_x (th_n ?_)))
        exact ⟨q, henv.sub ⟨rfl, rfl, rfl, rfl, rfl, rfl, trivial⟩, hst.pick [0, 1] [0] (by decide), ⟨hq1, hq2, hq3, fun _ hn => by unfold ndg at hn; omega⟩⟩
      · refine wp_seq ?_
        refine wp_seq ?_
        refine region_seq ?_
        revert a
        refine mA rfl rfl ?_
        refine mA rfl rfl ?_
        refine sA (v := .int .i64 (s.length : Nat)) rfl (fun _ henv => rn_lenS henv Tryd.underlying9 rfl) ?_
        refine sA (v := .bool (decide (((q : Nat) : Int) < ((s.length : Nat) : Int)))) rfl (fun _ henv => rn_bin henv rfl rfl rfl) ?_
        intro a henv
        rw [show (decide (((q : Nat) : Int) < ((s.length : Nat) : Int))) = true from decide_eq_true (by omega)] at henv
        revert a
        refine mA rfl rfl ?_
        refine gA (v := .string ⟨s.toArray⟩) rfl rfl rfl rfl (fun _ henv => rn_move henv rfl) ?_
        refine gA (v := .int .i64 (q : Nat)) rfl rfl rfl rfl (fun _ henv => rn_move henv rfl) ?_
        refine gA (v := .int .u8 ((s.getD q 0).toNat : Nat)) rfl rfl rfl rfl (fun _ henv => rn_idxS (i := q) henv Tryd.underlying9 rfl rfl (by omega)) ?_
        refine gA (v := .bool ((((s.getD q 0).toNat : Nat) : Int) == (45 : Int))) rfl rfl rfl rfl (fun _ henv => rn_bin henv rfl rfl rfl) ?_
        intro a henv
        rw [show ((((s.getD q 0).toNat : Nat) : Int) == (45 : Int)) = false from beq_eq_false_iff_ne.2 (by omega)] at henv
        revert a
        refine gA (v := .bool false) rfl rfl rfl rfl (fun _ henv => rn_move henv rfl) ?_
        refine gA (v := .string ⟨s.toArray⟩) rfl rfl rfl rfl (fun _ henv => rn_move henv rfl) ?_
        refine gA (v := .int .i64 (q : Nat)) rfl rfl rfl rfl (fun _ henv => rn_move henv rfl) ?_
        refine gA (v := .int .u8 ((s.getD q 0).toNat : Nat)) rfl rfl rfl rfl (fun _ henv => rn_idxS (i := q) henv Tryd.underlying9 rfl rfl (by omega)) ?_
        refine gA (v := .bool (decide ((((s.getD q 0).toNat : Nat) : Int) ≥ (48 : Int)))) rfl rfl rfl rfl (fun _ henv => rn_bin henv rfl rfl rfl) ?_
        intro a henv
        rw [show (decide ((((s.getD q 0).toNat : Nat) : Int) ≥ (48 : Int))) = true from decide_eq_true (by omega)] at henv
        revert a
        refine gA (v := .bool true) rfl rfl rfl rfl (fun _ henv => rn_move henv rfl) ?_
        refine gA (v := .string ⟨s.toArray⟩) rfl rfl rfl rfl (fun _ henv => rn_move henv rfl) ?_
        refine gA (v := .int .i64 (q : Nat)) rfl rfl rfl rfl (fun _ henv => rn_move henv rfl) ?_
        refine gA (v := .int .u8 ((s.getD q 0).toNat : Nat)) rfl rfl rfl rfl (fun _ henv => rn_idxS (i := q) henv Tryd.underlying9 rfl rfl (by omega)) ?_
        refine gA (v := .bool (decide ((((s.getD q 0).toNat : Nat) : Int) ≤ (57 : Int)))) rfl rfl rfl rfl (fun _ henv => rn_bin henv rfl rfl rfl) ?_
        intro a henv
        rw [show (decide ((((s.getD q 0).toNat : Nat) : Int) ≤ (57 : Int))) = true from decide_eq_true (by omega)] at henv
        revert a
        refine gA (v := .bool true) rfl rfl rfl rfl (fun _ henv => rn_pick henv rfl rfl) ?_
        refine gA (v := .bool true) rfl rfl rfl rfl (fun _ henv => rn_pick henv rfl rfl) ?_
        refine sA (v := .bool true) rfl (fun _ henv => rn_pick henv rfl rfl) ?_
        intro a henv
        refine wpList_nil ?_
        refine th_n ?_
        refine if_t henv rfl (rfl) ?_
        refine wp_skip ?_
        refine th_n ?_
        refine wp_block ?_
        refine region_seq ?_
        revert a
        refine mA rfl rfl ?_
        refine sA (v := .int .i64 (q + 1 : Nat)) rfl (fun _ henv => rn_add henv rfl rfl (by rw [IntWalk.i64_in _ (by omega)]; omega)) ?_
        refine aA rfl rfl ?_
        intro a henv
        refine wpList_nil ?_
        refine bl_n ?_
        exact th_n ⟨_, (by omega), ⟨q + 1, rfl, henv.sub ⟨rfl, rfl, rfl, rfl, rfl, rfl, trivial⟩, hst.pick [0, 1] [0] (by decide), (by omega), (by omega), (range_step hq3 (.inr ⟨hv2, hv3⟩))⟩⟩
      · refine wp_seq ?_
        refine wp_seq ?_
        refine region_seq ?_
        revert a
        refine mA rfl rfl ?_
        refine mA rfl rfl ?_
        refine sA (v := .int .i64 (s.length : Nat)) rfl (fun _ henv => rn_lenS henv Tryd.underlying9 rfl) ?_
        refine sA (v := .bool (decide (((q : Nat) : Int) < ((s.length : Nat) : Int)))) rfl (fun _ henv => rn_bin henv rfl rfl rfl) ?_
        intro a henv
        rw [show (decide (((q : Nat) : Int) < ((s.length : Nat) : Int))) = true from decide_eq_true (by omega)] at henv
        revert a
        refine mA rfl rfl ?_
        refine gA (v := .string ⟨s.toArray⟩) rfl rfl rfl rfl (fun _ henv => rn_move henv rfl) ?_
        refine gA (v := .int .i64 (q : Nat)) rfl rfl rfl rfl (fun _ henv => rn_move henv rfl) ?_
        refine gA (v := .int .u8 ((s.getD q 0).toNat : Nat)) rfl rfl rfl rfl (fun _ henv => rn_idxS (i := q) henv Tryd.underlying9 rfl rfl (by omega)) ?_
        refine gA (v := .bool ((((s.getD q 0).toNat : Nat) : Int) == (45 : Int))) rfl rfl rfl rfl (fun _ henv => rn_bin henv rfl rfl rfl) ?_
        intro a henv
        rw [show ((((s.getD q 0).toNat : Nat) : Int) == (45 : Int)) = false from beq_eq_false_iff_ne.2 (by omega)] at henv
        revert a
        refine gA (v := .bool false) rfl rfl rfl rfl (fun _ henv => rn_move henv rfl) ?_
        refine gA (v := .string ⟨s.toArray⟩) rfl rfl rfl rfl (fun _ henv => rn_move henv rfl) ?_
        refine gA (v := .int .i64 (q : Nat)) rfl rfl rfl rfl (fun _ henv => rn_move henv rfl) ?_
        refine gA (v := .int .u8 ((s.getD q 0).toNat : Nat)) rfl rfl rfl rfl (fun _ henv => rn_idxS (i := q) henv Tryd.underlying9 rfl rfl (by omega)) ?_
        refine gA (v := .bool (decide ((((s.getD q 0).toNat : Nat) : Int) ≥ (48 : Int)))) rfl rfl rfl rfl (fun _ henv => rn_bin henv rfl rfl rfl) ?_
        intro a henv
        rw [show (decide ((((s.getD q 0).toNat : Nat) : Int) ≥ (48 : Int))) = true from decide_eq_true (by omega)] at henv
        revert a
        refine gA (v := .bool true) rfl rfl rfl rfl (fun _ henv => rn_move henv rfl) ?_
        refine gA (v := .string ⟨s.toArray⟩) rfl rfl rfl rfl (fun _ henv => rn_move henv rfl) ?_
        refine gA (v := .int .i64 (q : Nat)) rfl rfl rfl rfl (fun _ henv => rn_move henv rfl) ?_
        refine gA (v := .int .u8 ((s.getD q 0).toNat : Nat)) rfl rfl rfl rfl (fun _ henv => rn_idxS (i := q) henv Tryd.underlying9 rfl rfl (by omega)) ?_
        refine gA (v := .bool (decide ((((s.getD q 0).toNat : Nat) : Int) ≤ (57 : Int)))) rfl rfl rfl rfl (fun _ henv => rn_bin henv rfl rfl rfl) ?_
        intro a henv
        rw [show (decide ((((s.getD q 0).toNat : Nat) : Int) ≤ (57 : Int))) = false from decide_eq_false (by omega)] at henv
        revert a
        refine gA (v := .bool false) rfl rfl rfl rfl (fun _ henv => rn_pick henv rfl rfl) ?_
        refine gA (v := .bool false) rfl rfl rfl rfl (fun _ henv => rn_pick henv rfl rfl) ?_
        refine sA (v := .bool false) rfl (fun _ henv => rn_pick henv rfl rfl) ?_
        intro a henv
        refine wpList_nil ?_
        refine th_n ?_
        refine if_f henv rfl (rfl) ?_
        refine wp_exit ?_
        refine th_x (th_x (bl_x (th_n ?_)))
        exact ⟨q, henv.sub ⟨rfl, rfl, rfl, rfl, rfl, rfl, trivial⟩, hst.pick [0, 1] [0] (by decide), ⟨hq1, hq2, hq3, fun _ hn => by unfold ndg at hn; omega⟩⟩
    clear henv hst a
    rintro a w55 ⟨q, henv, hst, hsen⟩
    have hs1 := hsen.1
    have hs2 := hsen.2.1
    have hlw : (cutw s p q).length ≤ 65536 := by rw [cutw_len hs1 hs2]; omega
    refine wp_seq ?_
    refine region_seq ?_
    revert a
    refine mA rfl rfl ?_
    refine mA rfl rfl ?_
    refine mA rfl rfl ?_
    refine sA (v := .string ⟨((s.drop p).take (q - p)).toArray⟩) rfl (fun _ henv => rn_cutS (n := p) (m := q) henv Tryd.underlying9 rfl rfl rfl (by omega) (by omega)) ?_
    intro a henv
    refine seq_step rfl (op_call henv rfl Tryd.call113 rfl (iread_w (t := cutw s p q) hlw) ?_)
    rintro e w59 ⟨z1, e1, a1, _, rfl, ⟨A56, c57, rfl, hz58⟩, hw, hb⟩
    refine ⟨_, rfl, ?_⟩
    clear henv a; intro a henv
    replace hst := (hst.call hb).addZ hz58 ⟨nou_rowS, nou_bk rfl, trivial⟩
    clear hz58
    clear hb
    revert a
    refine mA rfl rfl ?_
    refine sA (v := .agg #[.bool (neg z1), .slice A56 (zl z1) c57]) rfl (fun _ henv => rn_extract henv rfl rfl) ?_
    refine sA (v := .agg #[.int .i64 e1, .int .i64 a1]) rfl (fun _ henv => rn_extract henv rfl rfl) ?_
    intro a henv
    refine seq_step rfl (op_alloc (c := #[.bool (neg 0), .slice none (zl 0) 0]) henv hst rfl zero_anvil_integer_Int zcells ?_)
    clear henv hst a; intro a w61 g60 henv hst
    refine seq_step rfl (op_alloc (c := #[.int .i64 0, .int .i64 0]) henv hst rfl zero_anvil_api_Spot rfl ?_)
    clear henv hst a; intro a w63 g62 henv hst
    refine seq_step rfl (op_store (k := 1) (c' := #[.bool (neg z1), .slice A56 (zl z1) c57]) henv hst (ty_anvil_integer_Int.size) rfl rfl rfl rfl (by simp) rfl rfl ?_)
    clear henv hst a; intro a w64 henv hst
    refine seq_step rfl (op_store (k := 0) (c' := #[.int .i64 e1, .int .i64 a1]) henv hst (ty_anvil_api_Spot.size) rfl rfl rfl rfl (by simp) rfl rfl ?_)
    clear henv hst a; intro a w65 henv hst
    refine wpList_nil ?_
    refine th_n ?_
    refine wp_seq ?_
    refine wp_block ?_
    refine wp_seq ?_
    refine region_seq ?_
    revert a
    refine sA (v := .pointer (some ⟨g62, 0, none⟩)) rfl (fun _ henv => rn_fieldAddr henv fd_anvil_api_Spot_0 (ty_anvil_api_Errno.size) (by decide) rfl) ?_
    refine sA (v := .int .i64 e1) rfl (fun _ henv => rn_load1 henv ty_anvil_api_Errno rfl (hst.oat (k := 0) rfl) rfl) ?_
    refine sA (v := .bool (e1 != (0 : Int))) rfl (fun _ henv => rn_bin henv rfl rfl rfl) ?_
    refine aA rfl rfl ?_
    intro a henv
    refine wpList_nil ?_
    refine th_n ?_
    refine if_split henv rfl (fun hc66 => ?_) (fun hc66 => ?_)
    · obtain ⟨rfl, b, rfl, hrb⟩ := wd_bad hw hc66
      have hbl := rb_le hrb
      rw [cutw_len hs1 hs2] at hbl
      refine wp_seq ?_
      refine region_seq ?_
      revert a
      refine mA rfl rfl ?_
      refine mA rfl rfl ?_
      refine sA (v := .pointer (some ⟨g62, 1, none⟩)) rfl (fun _ henv => rn_fieldAddr henv fd_anvil_api_Spot_1 (ty_int.size) (by decide) rfl) ?_
      refine sA (v := .int .i64 (b : Nat)) rfl (fun _ henv => rn_load1 henv ty_int rfl (hst.oat (k := 0) rfl) rfl) ?_
      refine sA (v := .int .i64 (p + b : Nat)) rfl (fun _ henv => rn_add henv rfl rfl (by rw [IntWalk.i64_in _ (by omega)]; omega)) ?_
      intro a henv
      refine seq_step rfl (op_callc (vs := #[.int .i64 (p + b : Nat)]) henv rfl Tryd.call111 rfl rfl (calls_app (by simp) (row_wrong (p := p + b))) ?_)
      rintro e w67 ⟨rfl, hb⟩
      refine ⟨_, rfl, ?_⟩
      clear henv a; intro a henv
      replace hst := hst.call hb
      clear hb
      revert a
      refine sA (v := .slice none 0 0) rfl (fun _ henv => rn_extract henv rfl rfl) ?_
      refine sA (v := .agg #[.int .i64 6, .int .i64 (p + b : Nat)]) rfl (fun _ henv => rn_extract henv rfl rfl) ?_
      refine aA rfl rfl ?_
      intro a henv
      refine seq_step rfl (op_store (k := 3) (c' := #[.int .i64 6, .int .i64 (p + b : Nat)]) henv hst (ty_anvil_api_Spot.size) rfl rfl rfl rfl (by simp) rfl rfl ?_)
      clear henv hst a; intro a w68 henv hst
      refine wpList_nil ?_
      refine th_n ?_
      refine wp_ret ?_
      refine bl_r (th_r (sj_r ?_))
      refine leave henv (res2 Tryd.results51 (RV.tmp henv rfl) (RV.cell henv ty_anvil_api_Spot rfl (hst.oat (k := 3) rfl) rfl)) ?_
      exact ⟨.inr (.inl ⟨_, (.go h0 hne h1 (hgo _ (go_bad hsen hrb))), rfl⟩), hst.below⟩
    · obtain ⟨rfl, rfl, hrz⟩ := wd_ok hw hc66
      refine wp_seq ?_
      refine region_seq ?_
      revert a
      refine mA rfl rfl ?_
      refine sA (v := .int .i64 (j : Nat)) rfl (fun _ henv => rn_len henv Tryd.underlying30 rfl) ?_
      refine sA (v := .bool (((j : Nat) : Int) == (4096 : Int))) rfl (fun _ henv => rn_bin henv rfl rfl rfl) ?_
      refine aA rfl rfl ?_
      intro a henv
      refine wpList_nil ?_
      refine th_n ?_
      refine if_split henv rfl (fun hc69 => ?_) (fun hc69 => ?_)
      · have hj4 := eq_of_beq hc69
        replace hj4 : j = 4096 := by omega
        refine wp_seq ?_
        refine region_seq ?_
        revert a
        refine mA rfl rfl ?_
        refine sA (v := .agg #[.int .i64 3, .int .i64 (p : Nat)]) rfl (fun _ henv => rn_spot2 henv rfl rfl) ?_
        refine aA rfl rfl ?_
        intro a henv
        refine seq_step rfl (op_store (k := 3) (c' := #[.int .i64 3, .int .i64 (p : Nat)]) henv hst (ty_anvil_api_Spot.size) rfl rfl rfl rfl (by simp) rfl rfl ?_)
        clear henv hst a; intro a w70 henv hst
        refine wpList_nil ?_
        refine th_n ?_
        refine wp_ret ?_
        refine bl_r (th_r (sj_r ?_))
        refine leave henv (res2 Tryd.results51 (RV.tmp henv rfl) (RV.cell henv ty_anvil_api_Spot rfl (hst.oat (k := 3) rfl) rfl)) ?_
        exact ⟨.inr (.inr ⟨p, zs, by omega, hp1, hpre, rfl⟩), hst.below⟩
      · have hj4 := ne_of_beq_false hc69
        replace hj4 : j < 4096 := by omega
        refine wp_skip ?_
        refine bl_n (th_n ?_)
        refine wp_seq ?_
        refine region_seq ?_
        revert a
        refine mA rfl rfl ?_
        refine sA (v := .agg #[.bool (neg z1), .slice A56 (zl z1) c57]) rfl (fun _ henv => rn_load0 henv ty_anvil_integer_Int rfl (hst.oat (k := 1) rfl) rfl) ?_
        intro a henv
        refine seq_step rfl (op_buildSlice (z := 2) (pv := #[(0, .agg #[.bool (neg z1), .slice A56 (zl z1) c57])]) (c := #[.bool (neg z1), .slice A56 (zl z1) c57]) henv hst rfl Tryd.underlying30 (ty_anvil_integer_Int.size) zero_anvil_integer_Int (by decide) (by decide) rfl (by kernel_rfl) ?_)
        clear henv hst a; intro a w72 g71 henv hst
        refine seq_step rfl (op_appendS (k := 3) (j := 0) henv hst rfl Tryd.underlying30 inf_anvil_integer_Int rfl rfl rfl rfl rfl rfl rfl rfl rfl rfl rfl (by unfold maxLen; omega) (by omega) ?_)
        clear henv hst a; intro a w75 g73 c74 henv hst
        rw [show fl fN os ++ (#[.bool (neg z1), .slice A56 (zl z1) c57] : Array Value).toList = fl fN (os ++ [(A56, c57, z1)]) from fl_snoc (f := fN) os (A56, c57, z1)] at hst
        replace hst := hst.snocEs (e := (A56, c57, z1)) (i := 1) (j := 0) rfl rfl
        refine sv (v := .slice (some ⟨g73, 0, none⟩) (j + 1) c74) henv rfl (rn_assign henv rfl) ?_
        clear henv a; intro a henv
        refine wpList_nil ?_
        refine th_n ?_
        refine wp_seq ?_
        refine wp_block ?_
        refine wp_seq ?_
        refine region_seq ?_
        revert a
        refine mA rfl rfl ?_
        refine mA rfl rfl ?_
        refine sA (v := .int .i64 (s.length : Nat)) rfl (fun _ henv => rn_lenS henv Tryd.underlying9 rfl) ?_
        refine sA (v := .bool (((q : Nat) : Int) == ((s.length : Nat) : Int))) rfl (fun _ henv => rn_bin henv rfl rfl rfl) ?_
        refine aA rfl rfl ?_
        intro a henv
        refine wpList_nil ?_
        refine th_n ?_
        refine if_split henv rfl (fun hc76 => ?_) (fun hc76 => ?_)
        · have hqe := eq_of_beq hc76
          replace hqe : q = s.length := by omega
          refine wp_seq ?_
          refine region_seq ?_
          revert a
          refine mA rfl rfl ?_
          refine mA rfl rfl ?_
          intro a henv
          refine seq_step rfl (op_callc (vs := #[.int .i64 (q : Nat)]) henv rfl Tryd.call111 rfl rfl (calls_app (by simp) (row_wrong (p := q))) ?_)
          rintro e w77 ⟨rfl, hb⟩
          refine ⟨_, rfl, ?_⟩
          clear henv a; intro a henv
          replace hst := hst.call hb
          clear hb
          revert a
          refine sA (v := .slice none 0 0) rfl (fun _ henv => rn_extract henv rfl rfl) ?_
          refine sA (v := .agg #[.int .i64 6, .int .i64 (q : Nat)]) rfl (fun _ henv => rn_extract henv rfl rfl) ?_
          refine aA rfl rfl ?_
          intro a henv
          refine seq_step rfl (op_store (k := 4) (c' := #[.int .i64 6, .int .i64 (q : Nat)]) henv hst (ty_anvil_api_Spot.size) rfl rfl rfl rfl (by simp) rfl rfl ?_)
          clear henv hst a; intro a w78 henv hst
          refine wpList_nil ?_
          refine th_n ?_
          refine wp_ret ?_
          refine bl_r (th_r (sj_r ?_))
          refine leave henv (res2 Tryd.results51 (RV.tmp henv rfl) (RV.cell henv ty_anvil_api_Spot rfl (hst.oat (k := 4) rfl) rfl)) ?_
          exact ⟨.inr (.inl ⟨_, (.go h0 hne h1 (hgo _ (go_fin hsen hrz hqe))), rfl⟩), hst.below⟩
        · have hqe := ne_of_beq_false hc76
          have hql : q < s.length := by omega
          refine wp_seq ?_
          refine region_seq ?_
          revert a
          refine mA rfl rfl ?_
          refine mA rfl rfl ?_
          refine sA (v := .int .u8 ((s.getD q 0).toNat : Nat)) rfl (fun _ henv => rn_idxS (i := q) henv Tryd.underlying9 rfl rfl (by omega)) ?_
          refine sA (v := .bool ((((s.getD q 0).toNat : Nat) : Int) == (32 : Int))) rfl (fun _ henv => rn_bin henv rfl rfl rfl) ?_
          refine aA rfl rfl ?_
          intro a henv
          refine wpList_nil ?_
          refine th_n ?_
          refine if_split henv rfl (fun hc79 => ?_) (fun hc79 => ?_)
          · have hcc := eq_of_beq hc79
            replace hcc : (s.getD q 0).toNat = 32 := by omega
            have hseg : Seg s p q := sen_stp hsen (fun _ => .inl hcc)
            refine wp_seq ?_
            refine region_seq ?_
            revert a
            refine mA rfl rfl ?_
            refine sA (v := .int .i64 (q + 1 : Nat)) rfl (fun _ henv => rn_add henv rfl rfl (by rw [IntWalk.i64_in _ (by omega)]; omega)) ?_
            refine aA rfl rfl ?_
            intro a henv
            refine wpList_nil ?_
            refine th_n ?_
            refine wp_goto ?_
            refine bl_g (th_g (sj_g ?_))
            exact ⟨_, (by omega), ⟨(q + 1), (j + 1), (zs ++ [z1]), (some ⟨g73, 0, none⟩), c74, (os ++ [(A56, c57, z1)]), rfl, henv.sub ⟨rfl, rfl, rfl, rfl, rfl, trivial⟩, hst.pick [3, 4] [0] (by decide), (by omega), (by omega), (by omega), (by rw [List.length_append, hzl]; rfl), (by rw [List.map_append, ho]; rfl), (pre_step hpre hrz hs1 hql hcc), (fun r hr => hgo r (.next hseg hrz hql hcc hr))⟩⟩
          · have hcc := ne_of_beq_false hc79
            refine wp_seq ?_
            refine region_seq ?_
            revert a
            refine mA rfl rfl ?_
            refine mA rfl rfl ?_
            refine sA (v := .int .u8 ((s.getD q 0).toNat : Nat)) rfl (fun _ henv => rn_idxS (i := q) henv Tryd.underlying9 rfl rfl (by omega)) ?_
            refine sA (v := .bool ((((s.getD q 0).toNat : Nat) : Int) != (93 : Int))) rfl (fun _ henv => rn_bin henv rfl rfl rfl) ?_
            refine aA rfl rfl ?_
            intro a henv
            refine wpList_nil ?_
            refine th_n ?_
            refine if_split henv rfl (fun hc80 => ?_) (fun hc80 => ?_)
            · have hdd := bne_iff_ne.1 hc80
              have hns : ¬ stp (s.getD q 0) := fun hn => by unfold stp at hn; omega
              refine wp_seq ?_
              refine region_seq ?_
              revert a
              refine mA rfl rfl ?_
              refine mA rfl rfl ?_
              intro a henv
              refine seq_step rfl (op_callc (vs := #[.int .i64 (q : Nat)]) henv rfl Tryd.call111 rfl rfl (calls_app (by simp) (row_wrong (p := q))) ?_)
              rintro e w81 ⟨rfl, hb⟩
              refine ⟨_, rfl, ?_⟩
              clear henv a; intro a henv
              replace hst := hst.call hb
              clear hb
              revert a
              refine sA (v := .slice none 0 0) rfl (fun _ henv => rn_extract henv rfl rfl) ?_
              refine sA (v := .agg #[.int .i64 6, .int .i64 (q : Nat)]) rfl (fun _ henv => rn_extract henv rfl rfl) ?_
              refine aA rfl rfl ?_
              intro a henv
              refine seq_step rfl (op_store (k := 4) (c' := #[.int .i64 6, .int .i64 (q : Nat)]) henv hst (ty_anvil_api_Spot.size) rfl rfl rfl rfl (by simp) rfl rfl ?_)
              clear henv hst a; intro a w82 henv hst
              refine wpList_nil ?_
              refine th_n ?_
              refine wp_ret ?_
              refine bl_r (th_r (sj_r ?_))
              refine leave henv (res2 Tryd.results51 (RV.tmp henv rfl) (RV.cell henv ty_anvil_api_Spot rfl (hst.oat (k := 4) rfl) rfl)) ?_
              exact ⟨.inr (.inl ⟨_, (.go h0 hne h1 (hgo _ (go_odd hsen hrz hql hns))), rfl⟩), hst.below⟩
            · have hdd := eq_of_bneF hc80
              replace hdd : (s.getD q 0).toNat = 93 := by omega
              have hseg : Seg s p q := sen_stp hsen (fun _ => .inr hdd)
              refine wp_seq ?_
              refine region_seq ?_
              revert a
              refine mA rfl rfl ?_
              refine sA (v := .int .i64 (q + 1 : Nat)) rfl (fun _ henv => rn_add henv rfl rfl (by rw [IntWalk.i64_in _ (by omega)]; omega)) ?_
              refine mA rfl rfl ?_
              refine sA (v := .int .i64 (s.length : Nat)) rfl (fun _ henv => rn_lenS henv Tryd.underlying9 rfl) ?_
              refine sA (v := .bool (decide (((q + 1 : Nat) : Int) < ((s.length : Nat) : Int)))) rfl (fun _ henv => rn_bin henv rfl rfl rfl) ?_
              refine aA rfl rfl ?_
              intro a henv
              refine wpList_nil ?_
              refine th_n ?_
              refine if_split henv rfl (fun hc83 => ?_) (fun hc83 => ?_)
              · have hlast := of_decide_eq_true hc83
                refine wp_seq ?_
                refine region_seq ?_
                revert a
                refine mA rfl rfl ?_
                refine mA rfl rfl ?_
                refine sA (v := .int .i64 (q + 1 : Nat)) rfl (fun _ henv => rn_add henv rfl rfl (by rw [IntWalk.i64_in _ (by omega)]; omega)) ?_
                intro a henv
                refine seq_step rfl (op_callc (vs := #[.int .i64 (q + 1 : Nat)]) henv rfl Tryd.call111 rfl rfl (calls_app (by simp) (row_wrong (p := q + 1))) ?_)
                rintro e w84 ⟨rfl, hb⟩
                refine ⟨_, rfl, ?_⟩
                clear henv a; intro a henv
                replace hst := hst.call hb
                clear hb
                revert a
                refine sA (v := .slice none 0 0) rfl (fun _ henv => rn_extract henv rfl rfl) ?_
                refine sA (v := .agg #[.int .i64 6, .int .i64 (q + 1 : Nat)]) rfl (fun _ henv => rn_extract henv rfl rfl) ?_
                refine aA rfl rfl ?_
                intro a henv
                refine seq_step rfl (op_store (k := 4) (c' := #[.int .i64 6, .int .i64 (q + 1 : Nat)]) henv hst (ty_anvil_api_Spot.size) rfl rfl rfl rfl (by simp) rfl rfl ?_)
                clear henv hst a; intro a w85 henv hst
                refine wpList_nil ?_
                refine th_n ?_
                refine wp_ret ?_
                refine bl_r (th_r (sj_r ?_))
                refine leave henv (res2 Tryd.results51 (RV.tmp henv rfl) (RV.cell henv ty_anvil_api_Spot rfl (hst.oat (k := 4) rfl) rfl)) ?_
                exact ⟨.inr (.inl ⟨_, (.go h0 hne h1 (hgo _ (.more hseg hrz hdd (by omega)))), rfl⟩), hst.below⟩
              · have hlast := of_decide_eq_false hc83
                refine wp_skip ?_
                refine bl_n (th_n ?_)
                refine wp_seq ?_
                refine region_seq ?_
                revert a
                refine mA rfl rfl ?_
                refine sA (v := .agg #[.int .i64 0, .int .i64 0]) rfl (fun _ henv => rn_spot0) ?_
                refine aA rfl rfl ?_
                intro a henv
                refine seq_step rfl (op_store (k := 4) (c' := #[.int .i64 0, .int .i64 0]) henv hst (ty_anvil_api_Spot.size) rfl rfl rfl rfl (by simp) rfl rfl ?_)
                clear henv hst a; intro a w86 henv hst
                refine wpList_nil ?_
                refine th_n ?_
                refine wp_ret ?_
                refine sj_r ?_
                refine leave henv (res2 Tryd.results51 (RV.tmp henv rfl) (RV.cell henv ty_anvil_api_Spot rfl (hst.oat (k := 4) rfl) rfl)) ?_
                exact ⟨.inl ⟨zs ++ [z1], _, _, (.go h0 hne h1 (hgo _ (.done hseg hrz hdd (by omega)))), (by rw [List.length_append, hzl]; rfl), (by omega), rfl, ⟨_, _, _, rfl, hst.newRow (k := 3) (j := 0) rfl rfl, (by have hol := congrArg List.length ho; rw [List.length_map] at hol; rw [List.length_append, hol, hzl]; rfl), (by rw [List.map_append, ho]; rfl)⟩⟩, hst.below⟩
  · intro hR
    refine wp_seq ?_
    refine wp_seq ?_
    refine region_seq ?_
    revert a
    refine mA rfl rfl ?_
    refine sA (v := .int .i64 (s.length : Nat)) rfl (fun _ henv => rn_lenS henv Tryd.underlying9 rfl) ?_
    refine sA (v := .bool (decide (((s.length : Nat) : Int) > (65536 : Int)))) rfl (fun _ henv => rn_bin henv rfl rfl rfl) ?_
    intro a henv
    rw [show (decide (((s.length : Nat) : Int) > (65536 : Int))) = false from decide_eq_false (by omega)] at henv
    refine wpList_nil ?_
    refine th_n ?_
    refine if_f henv rfl (rfl) ?_
    refine wp_skip ?_
    refine th_n ?_
    refine wp_seq ?_
    refine region_seq ?_
    refine sv (v := .func (.func 111) #[] #[]) henv rfl (rn_assign henv rfl) ?_
    clear henv a; intro a henv
    refine wpList_nil ?_
    refine th_n ?_
    refine wp_seq ?_
    refine wp_seq ?_
    refine region_seq ?_
    revert a
    refine mA rfl rfl ?_
    refine sA (v := .bool (decide (s = []))) rfl (fun _ henv => rn_eqls (s := s) (t := []) henv rfl rfl) ?_
    intro a henv
    rw [show (decide (s = [])) = false from decide_eq_false hne] at henv
    revert a
    refine mA rfl rfl ?_
    refine gA (v := .string ⟨s.toArray⟩) rfl rfl rfl rfl (fun _ henv => rn_move henv rfl) ?_
    refine gA (v := .int .u8 ((s.getD 0 0).toNat : Nat)) rfl rfl rfl rfl (fun _ henv => rn_idxS (i := 0) henv Tryd.underlying9 rfl rfl (by omega)) ?_
    refine gA (v := .bool ((((s.getD 0 0).toNat : Nat) : Int) != (91 : Int))) rfl rfl rfl rfl (fun _ henv => rn_bin henv rfl rfl rfl) ?_
    intro a henv
    rw [show ((((s.getD 0 0).toNat : Nat) : Int) != (91 : Int)) = false from bne_false (by omega)] at henv
    refine sv (v := .bool false) henv rfl (rn_pick henv rfl rfl) ?_
    clear henv a; intro a henv
    refine wpList_nil ?_
    refine th_n ?_
    refine if_f henv rfl (rfl) ?_
    refine wp_skip ?_
    refine th_n ?_
    refine wp_seq ?_
    refine region_seq ?_
    refine sv (v := .slice none 0 0) henv rfl (rn_assign henv rfl) ?_
    clear henv a; intro a henv
    refine wpList_nil ?_
    replace hst := (hst.addRowS notU 36 2).nilEs FN
    replace hst : St w0 _ [rowS notU 36 2 none 0 0 (fl fN ([])), bk g51 #[.int .i64 0, .int .i64 0] 79] [pfEs FN ([])] := hst
    refine th_n ?_
    refine wp_seq ?_
    refine region_seq ?_
    refine sv (v := .int .i64 1) henv rfl (rn_assign henv rfl) ?_
    clear henv a; intro a henv
    refine wpList_nil ?_
    refine th_n ?_
    refine wp_seq ?_
    refine wp_seq ?_
    refine region_seq ?_
    revert a
    refine mA rfl rfl ?_
    refine sA (v := .bool (decide (s = [91, 93]))) rfl (fun _ henv => rn_eqls (s := s) (t := [91, 93]) henv rfl rfl) ?_
    intro a henv
    rw [show (decide (s = [91, 93])) = false from decide_eq_false (fun e => h1 (by subst e; exact ⟨by decide, rfl⟩))] at henv
    refine wpList_nil ?_
    refine th_n ?_
    refine if_f henv rfl (rfl) ?_
    refine wp_skip ?_
    refine th_n ?_
    refine wp_seq ?_
    refine wp_seq ?_
    refine region_seq ?_
    refine sv (v := .string ⟨s.toArray⟩) henv rfl (rn_move henv rfl) ?_
    clear henv a; intro a henv
    refine seq_step rfl (op_call henv rfl Tryd.call112 rfl (hpx_no h1) ?_)
    rintro e w87 ⟨rfl, hb⟩
    refine ⟨_, rfl, ?_⟩
    clear henv a; intro a henv
    replace hst := hst.call hb
    clear hb
    refine wpList_nil ?_
    refine th_n ?_
    refine if_f henv rfl (rfl) ?_
    refine wp_skip ?_
    refine th_n ?_
    refine wp_seq ?_
    refine wp_label ?_
    refine th_n ?_
    exact hR _ _ _ ⟨1, 0, [], none, 0, [], rfl, henv.sub ⟨rfl, rfl, rfl, rfl, rfl, trivial⟩, hst.pick [0, 1] [0] (by decide), (Nat.le_refl _), hlen, (Nat.zero_le _), rfl, rfl, (pre_nil hne h0), (fun _ h => h)⟩
theorem row_read {s : List UInt8} {w0 : World} (hl : s.length ≤ 65536) :
    Calls Tryd.prog 51 #[.string ⟨s.toArray⟩] w0 fun e w' => ((∃ zs n v, Rd0 s (.inl zs) ∧ zs.length = n ∧ n ≤ 4096 ∧ e = .returned (.tuple #[v, .agg #[.int .i64 0, .int .i64 0]]) ∧ ZRow w0.heap.size w' v n zs) ∨ (∃ b : Nat, Rd0 s (.inr b) ∧ e = .returned (.tuple #[.slice none 0 0, .agg #[.int .i64 6, .int .i64 (b : Nat)]])) ∨ (∃ (p : Nat) (zs : List Int), zs.length = 4096 ∧ p ≤ s.length ∧ s.take p = preT zs ∧ e = .returned (.tuple #[.slice none 0 0, .agg #[.int .i64 3, .int .i64 (p : Nat)]]))) ∧ Below w0.heap.size w0 w' := by
  by_cases hne : s = []
  · exact (row_read_empty hne).mono fun e w' ⟨he, hb⟩ => ⟨.inr (.inl ⟨0, .no (.inl hne), he⟩), hb⟩
  by_cases h0 : (s.getD 0 0).toNat = 91
  · by_cases h1 : 1 < s.length ∧ (s.getD 1 0).toNat = 93
    · rcases Nat.lt_or_ge 2 s.length with h2 | h2
      · exact (row_read_tail hl h0 h1.2 h2).mono fun e w' ⟨he, hb⟩ => ⟨.inr (.inl ⟨2, .tail h0 h1.2 h2, he⟩), hb⟩
      · exact (row_read_void h0 h1.2 (by omega)).mono fun e w' ⟨he, hb⟩ => ⟨.inl ⟨[], 0, _, .void h0 h1.2 (by omega), rfl, by decide, he, zrow_nil _ _⟩, hb⟩
    · exact row_read_go hl h0 hne h1
  · exact (row_read_no hl hne h0).mono fun e w' ⟨he, hb⟩ => ⟨.inr (.inl ⟨0, .no (.inr h0), he⟩), hb⟩
set_option maxRecDepth 100000 in
set_option maxHeartbeats 2000000 in
theorem ref_read_empty {s : List UInt8} {w0 : World} (h0 : s.length = 0) :
    Calls Tryd.prog 54 #[.string ⟨s.toArray⟩] w0 fun e w' => e = .returned (.tuple #[.slice none 0 0, .int .i64 0]) ∧ Below w0.heap.size w0 w' := by
  refine enter Tryd.func54 rfl Tryd.ntmps54 rfl ?_
  intro a henv hst
  refine wp_seq ?_
  refine region_seq ?_
  revert a
  refine aA rfl rfl ?_
  refine aA rfl rfl ?_
  intro a henv
  refine wpList_nil ?_
  refine th_n ?_
  refine wp_seq ?_
  refine wp_seq ?_
  refine region_seq ?_
  revert a
  refine mA rfl rfl ?_
  refine sA (v := .int .i64 (s.length : Nat)) rfl (fun _ henv => rn_lenS henv Tryd.underlying9 rfl) ?_
  refine sA (v := .bool (((s.length : Nat) : Int) == (0 : Int))) rfl (fun _ henv => rn_bin henv rfl rfl rfl) ?_
  intro a henv
  rw [show (((s.length : Nat) : Int) == (0 : Int)) = true from beq_iff_eq.2 (by omega)] at henv
  revert a
  refine mA rfl rfl ?_
  refine kA rfl rfl rfl rfl rfl ?_
  refine kA rfl rfl rfl rfl rfl ?_
  refine kA rfl rfl rfl rfl rfl ?_
  refine sA (v := .bool true) rfl (fun _ henv => rn_pick henv rfl rfl) ?_
  intro a henv
  refine wpList_nil ?_
  refine th_n ?_
  refine if_t henv rfl (rfl) ?_
  refine wp_seq ?_
  refine region_seq ?_
  revert a
  refine aA rfl rfl ?_
  refine aA rfl rfl ?_
  intro a henv
  refine wpList_nil ?_
  refine th_n ?_
  refine wp_ret ?_
  refine th_r ?_
  refine leave henv (res2 Tryd.results54 (RV.tmp henv rfl) (RV.tmp henv rfl)) ?_
  exact ⟨rfl, hst.below⟩
set_option maxRecDepth 100000 in
set_option maxHeartbeats 2000000 in
theorem ref_read_no {s : List UInt8} {w0 : World} (hl : s.length ≤ 65536) (hlen : 1 ≤ s.length) (h0 : (s.getD 0 0).toNat ≠ 91) :
    Calls Tryd.prog 54 #[.string ⟨s.toArray⟩] w0 fun e w' => e = .returned (.tuple #[.slice none 0 0, .int .i64 0]) ∧ Below w0.heap.size w0 w' := by
  refine enter Tryd.func54 rfl Tryd.ntmps54 rfl ?_
  intro a henv hst
  refine wp_seq ?_
  refine region_seq ?_
  revert a
  refine aA rfl rfl ?_
  refine aA rfl rfl ?_
  intro a henv
  refine wpList_nil ?_
  refine th_n ?_
  refine wp_seq ?_
  refine wp_seq ?_
  refine region_seq ?_
  revert a
  refine mA rfl rfl ?_
  refine sA (v := .int .i64 (s.length : Nat)) rfl (fun _ henv => rn_lenS henv Tryd.underlying9 rfl) ?_
  refine sA (v := .bool (((s.length : Nat) : Int) == (0 : Int))) rfl (fun _ henv => rn_bin henv rfl rfl rfl) ?_
  intro a henv
  rw [show (((s.length : Nat) : Int) == (0 : Int)) = false from beq_eq_false_iff_ne.2 (by omega)] at henv
  revert a
  refine mA rfl rfl ?_
  refine gA (v := .string ⟨s.toArray⟩) rfl rfl rfl rfl (fun _ henv => rn_move henv rfl) ?_
  refine gA (v := .int .u8 ((s.getD 0 0).toNat : Nat)) rfl rfl rfl rfl (fun _ henv => rn_idxS (i := 0) henv Tryd.underlying9 rfl rfl (by omega)) ?_
  refine gA (v := .bool ((((s.getD 0 0).toNat : Nat) : Int) != (91 : Int))) rfl rfl rfl rfl (fun _ henv => rn_bin henv rfl rfl rfl) ?_
  intro a henv
  rw [show ((((s.getD 0 0).toNat : Nat) : Int) != (91 : Int)) = true from bne_iff_ne.2 (by omega)] at henv
  refine sv (v := .bool true) henv rfl (rn_pick henv rfl rfl) ?_
  clear henv a; intro a henv
  refine wpList_nil ?_
  refine th_n ?_
  refine if_t henv rfl (rfl) ?_
  refine wp_seq ?_
  refine region_seq ?_
  revert a
  refine aA rfl rfl ?_
  refine aA rfl rfl ?_
  intro a henv
  refine wpList_nil ?_
  refine th_n ?_
  refine wp_ret ?_
  refine th_r ?_
  refine leave henv (res2 Tryd.results54 (RV.tmp henv rfl) (RV.tmp henv rfl)) ?_
  exact ⟨rfl, hst.below⟩
set_option maxRecDepth 100000 in
set_option maxHeartbeats 2000000 in
theorem ref_read_void {s : List UInt8} {w0 : World} (h0 : (s.getD 0 0).toNat = 91) (h1 : (s.getD 1 0).toNat = 93) (h2 : s.length = 2) :
    Calls Tryd.prog 54 #[.string ⟨s.toArray⟩] w0 fun e w' => ∃ v, e = .returned (.tuple #[v, .int .i64 (-1)]) ∧ MRow w0.heap.size w' v 0 [] ∧ Below w0.heap.size w0 w' := by
  refine enter Tryd.func54 rfl Tryd.ntmps54 rfl ?_
  intro a henv hst
  refine wp_seq ?_
  refine region_seq ?_
  revert a
  refine aA rfl rfl ?_
  refine aA rfl rfl ?_
  intro a henv
  refine wpList_nil ?_
  refine th_n ?_
  refine wp_seq ?_
  refine wp_seq ?_
  refine region_seq ?_
  revert a
  refine mA rfl rfl ?_
  refine sA (v := .int .i64 (s.length : Nat)) rfl (fun _ henv => rn_lenS henv Tryd.underlying9 rfl) ?_
  refine sA (v := .bool (((s.length : Nat) : Int) == (0 : Int))) rfl (fun _ henv => rn_bin henv rfl rfl rfl) ?_
  intro a henv
  rw [show (((s.length : Nat) : Int) == (0 : Int)) = false from beq_eq_false_iff_ne.2 (by omega)] at henv
  revert a
  refine mA rfl rfl ?_
  refine gA (v := .string ⟨s.toArray⟩) rfl rfl rfl rfl (fun _ henv => rn_move henv rfl) ?_
  refine gA (v := .int .u8 ((s.getD 0 0).toNat : Nat)) rfl rfl rfl rfl (fun _ henv => rn_idxS (i := 0) henv Tryd.underlying9 rfl rfl (by omega)) ?_
  refine gA (v := .bool ((((s.getD 0 0).toNat : Nat) : Int) != (91 : Int))) rfl rfl rfl rfl (fun _ henv => rn_bin henv rfl rfl rfl) ?_
  intro a henv
  rw [show ((((s.getD 0 0).toNat : Nat) : Int) != (91 : Int)) = false from bne_false (by omega)] at henv
  refine sv (v := .bool false) henv rfl (rn_pick henv rfl rfl) ?_
  clear henv a; intro a henv
  refine wpList_nil ?_
  refine th_n ?_
  refine if_f henv rfl (rfl) ?_
  refine wp_skip ?_
  refine th_n ?_
  refine wp_seq ?_
  refine wp_seq ?_
  refine region_seq ?_
  revert a
  refine mA rfl rfl ?_
  refine sA (v := .int .i64 (s.length : Nat)) rfl (fun _ henv => rn_lenS henv Tryd.underlying9 rfl) ?_
  refine sA (v := .bool (decide (((s.length : Nat) : Int) > (1 : Int)))) rfl (fun _ henv => rn_bin henv rfl rfl rfl) ?_
  intro a henv
  rw [show (decide (((s.length : Nat) : Int) > (1 : Int))) = true from decide_eq_true (by omega)] at henv
  revert a
  refine mA rfl rfl ?_
  refine gA (v := .string ⟨s.toArray⟩) rfl rfl rfl rfl (fun _ henv => rn_move henv rfl) ?_
  refine gA (v := .int .u8 ((s.getD 1 0).toNat : Nat)) rfl rfl rfl rfl (fun _ henv => rn_idxS (i := 1) henv Tryd.underlying9 rfl rfl (by omega)) ?_
  refine gA (v := .bool ((((s.getD 1 0).toNat : Nat) : Int) == (93 : Int))) rfl rfl rfl rfl (fun _ henv => rn_bin henv rfl rfl rfl) ?_
  intro a henv
  rw [show ((((s.getD 1 0).toNat : Nat) : Int) == (93 : Int)) = true from beq_iff_eq.2 (by omega)] at henv
  refine sv (v := .bool true) henv rfl (rn_pick henv rfl rfl) ?_
  clear henv a; intro a henv
  refine wpList_nil ?_
  refine th_n ?_
  refine if_t henv rfl (rfl) ?_
  refine wp_seq ?_
  refine wp_seq ?_
  refine region_seq ?_
  revert a
  refine mA rfl rfl ?_
  refine sA (v := .int .i64 (s.length : Nat)) rfl (fun _ henv => rn_lenS henv Tryd.underlying9 rfl) ?_
  refine sA (v := .bool (decide (((s.length : Nat) : Int) > (2 : Int)))) rfl (fun _ henv => rn_bin henv rfl rfl rfl) ?_
  intro a henv
  rw [show (decide (((s.length : Nat) : Int) > (2 : Int))) = false from decide_eq_false (by omega)] at henv
  refine wpList_nil ?_
  refine th_n ?_
  refine if_f henv rfl (rfl) ?_
  refine wp_skip ?_
  refine th_n ?_
  refine wp_seq ?_
  refine region_seq ?_
  refine seq_step rfl (op_buildSlice0 henv hst rfl Tryd.underlying32 (ty_anvil_anvilref02_Int.size) ?_)
  clear henv hst a; intro a w52 g51 henv hst
  revert a
  refine aA rfl rfl ?_
  refine aA rfl rfl ?_
  intro a henv
  refine wpList_nil ?_
  refine th_n ?_
  refine wp_ret ?_
  refine th_r ?_
  refine leave henv (res2 Tryd.results54 (RV.tmp henv rfl) (RV.tmp henv rfl)) ?_
  exact ⟨_, rfl, mrow_nil (hst.oat (k := 0) rfl) (hst.oge (k := 0) rfl), hst.below⟩
set_option maxRecDepth 100000 in
set_option maxHeartbeats 2000000 in
theorem ref_read_tail {s : List UInt8} {w0 : World} (hl : s.length ≤ 65536) (h0 : (s.getD 0 0).toNat = 91) (h1 : (s.getD 1 0).toNat = 93) (h2 : 2 < s.length) :
    Calls Tryd.prog 54 #[.string ⟨s.toArray⟩] w0 fun e w' => e = .returned (.tuple #[.slice none 0 0, .int .i64 2]) ∧ Below w0.heap.size w0 w' := by
  refine enter Tryd.func54 rfl Tryd.ntmps54 rfl ?_
  intro a henv hst
  refine wp_seq ?_
  refine region_seq ?_
  revert a
  refine aA rfl rfl ?_
  refine aA rfl rfl ?_
  intro a henv
  refine wpList_nil ?_
  refine th_n ?_
  refine wp_seq ?_
  refine wp_seq ?_
  refine region_seq ?_
  revert a
  refine mA rfl rfl ?_
  refine sA (v := .int .i64 (s.length : Nat)) rfl (fun _ henv => rn_lenS henv Tryd.underlying9 rfl) ?_
  refine sA (v := .bool (((s.length : Nat) : Int) == (0 : Int))) rfl (fun _ henv => rn_bin henv rfl rfl rfl) ?_
  intro a henv
  rw [show (((s.length : Nat) : Int) == (0 : Int)) = false from beq_eq_false_iff_ne.2 (by omega)] at henv
  revert a
  refine mA rfl rfl ?_
  refine gA (v := .string ⟨s.toArray⟩) rfl rfl rfl rfl (fun _ henv => rn_move henv rfl) ?_
  refine gA (v := .int .u8 ((s.getD 0 0).toNat : Nat)) rfl rfl rfl rfl (fun _ henv => rn_idxS (i := 0) henv Tryd.underlying9 rfl rfl (by omega)) ?_
  refine gA (v := .bool ((((s.getD 0 0).toNat : Nat) : Int) != (91 : Int))) rfl rfl rfl rfl (fun _ henv => rn_bin henv rfl rfl rfl) ?_
  intro a henv
  rw [show ((((s.getD 0 0).toNat : Nat) : Int) != (91 : Int)) = false from bne_false (by omega)] at henv
  refine sv (v := .bool false) henv rfl (rn_pick henv rfl rfl) ?_
  clear henv a; intro a henv
  refine wpList_nil ?_
  refine th_n ?_
  refine if_f henv rfl (rfl) ?_
  refine wp_skip ?_
  refine th_n ?_
  refine wp_seq ?_
  refine wp_seq ?_
  refine region_seq ?_
  revert a
  refine mA rfl rfl ?_
  refine sA (v := .int .i64 (s.length : Nat)) rfl (fun _ henv => rn_lenS henv Tryd.underlying9 rfl) ?_
  refine sA (v := .bool (decide (((s.length : Nat) : Int) > (1 : Int)))) rfl (fun _ henv => rn_bin henv rfl rfl rfl) ?_
  intro a henv
  rw [show (decide (((s.length : Nat) : Int) > (1 : Int))) = true from decide_eq_true (by omega)] at henv
  revert a
  refine mA rfl rfl ?_
  refine gA (v := .string ⟨s.toArray⟩) rfl rfl rfl rfl (fun _ henv => rn_move henv rfl) ?_
  refine gA (v := .int .u8 ((s.getD 1 0).toNat : Nat)) rfl rfl rfl rfl (fun _ henv => rn_idxS (i := 1) henv Tryd.underlying9 rfl rfl (by omega)) ?_
  refine gA (v := .bool ((((s.getD 1 0).toNat : Nat) : Int) == (93 : Int))) rfl rfl rfl rfl (fun _ henv => rn_bin henv rfl rfl rfl) ?_
  intro a henv
  rw [show ((((s.getD 1 0).toNat : Nat) : Int) == (93 : Int)) = true from beq_iff_eq.2 (by omega)] at henv
  refine sv (v := .bool true) henv rfl (rn_pick henv rfl rfl) ?_
  clear henv a; intro a henv
  refine wpList_nil ?_
  refine th_n ?_
  refine if_t henv rfl (rfl) ?_
  refine wp_seq ?_
  refine wp_seq ?_
  refine region_seq ?_
  revert a
  refine mA rfl rfl ?_
  refine sA (v := .int .i64 (s.length : Nat)) rfl (fun _ henv => rn_lenS henv Tryd.underlying9 rfl) ?_
  refine sA (v := .bool (decide (((s.length : Nat) : Int) > (2 : Int)))) rfl (fun _ henv => rn_bin henv rfl rfl rfl) ?_
  intro a henv
  rw [show (decide (((s.length : Nat) : Int) > (2 : Int))) = true from decide_eq_true (by omega)] at henv
  refine wpList_nil ?_
  refine th_n ?_
  refine if_t henv rfl (rfl) ?_
  refine wp_seq ?_
  refine region_seq ?_
  revert a
  refine aA rfl rfl ?_
  refine aA rfl rfl ?_
  intro a henv
  refine wpList_nil ?_
  refine th_n ?_
  refine wp_ret ?_
  refine th_r (th_r ?_)
  refine leave henv (res2 Tryd.results54 (RV.tmp henv rfl) (RV.tmp henv rfl)) ?_
  exact ⟨rfl, hst.below⟩
set_option maxRecDepth 100000 in
set_option maxHeartbeats 4000000 in
theorem ref_read_go {s : List UInt8} {w0 : World} (hl : s.length ≤ 65536) (h0 : (s.getD 0 0).toNat = 91) (hne : s ≠ []) (hx : s.length ≤ 1) (h1 : ¬ (1 < s.length ∧ (s.getD 1 0).toNat = 93)) :
    Calls Tryd.prog 54 #[.string ⟨s.toArray⟩] w0 fun e w' => ((∃ zs n v, Rd0 s (.inl zs) ∧ zs.length = n ∧ e = .returned (.tuple #[v, .int .i64 (-1)]) ∧ MRow w0.heap.size w' v n zs) ∨ ∃ b : Nat, Rd0 s (.inr b) ∧ e = .returned (.tuple #[.slice none 0 0, .int .i64 (b : Nat)])) ∧ Below w0.heap.size w0 w' := by
  have hlen : 1 ≤ s.length := List.length_pos_iff.2 hne
  refine enter Tryd.func54 rfl Tryd.ntmps54 rfl ?_
  intro a henv hst
  refine wp_seq ?_
  refine region_seq ?_
  revert a
  refine aA rfl rfl ?_
  refine aA rfl rfl ?_
  intro a henv
  refine wpList_nil ?_
  refine th_n ?_
  refine wp_seq ?_
  refine wp_seq ?_
  refine region_seq ?_
  revert a
  refine mA rfl rfl ?_
  refine sA (v := .int .i64 (s.length : Nat)) rfl (fun _ henv => rn_lenS henv Tryd.underlying9 rfl) ?_
  refine sA (v := .bool (((s.length : Nat) : Int) == (0 : Int))) rfl (fun _ henv => rn_bin henv rfl rfl rfl) ?_
  intro a henv
  rw [show (((s.length : Nat) : Int) == (0 : Int)) = false from beq_eq_false_iff_ne.2 (by omega)] at henv
  revert a
  refine mA rfl rfl ?_
  refine gA (v := .string ⟨s.toArray⟩) rfl rfl rfl rfl (fun _ henv => rn_move henv rfl) ?_
  refine gA (v := .int .u8 ((s.getD 0 0).toNat : Nat)) rfl rfl rfl rfl (fun _ henv => rn_idxS (i := 0) henv Tryd.underlying9 rfl rfl (by omega)) ?_
  refine gA (v := .bool ((((s.getD 0 0).toNat : Nat) : Int) != (91 : Int))) rfl rfl rfl rfl (fun _ henv => rn_bin henv rfl rfl rfl) ?_
  intro a henv
  rw [show ((((s.getD 0 0).toNat : Nat) : Int) != (91 : Int)) = false from bne_false (by omega)] at henv
  refine sv (v := .bool false) henv rfl (rn_pick henv rfl rfl) ?_
  clear henv a; intro a henv
  refine wpList_nil ?_
  refine th_n ?_
  refine if_f henv rfl (rfl) ?_
  refine wp_skip ?_
  refine th_n ?_
  refine wp_seq ?_
  refine wp_seq ?_
  refine region_seq ?_
  revert a
  refine mA rfl rfl ?_
  refine sA (v := .int .i64 (s.length : Nat)) rfl (fun _ henv => rn_lenS henv Tryd.underlying9 rfl) ?_
  refine sA (v := .bool (decide (((s.length : Nat) : Int) > (1 : Int)))) rfl (fun _ henv => rn_bin henv rfl rfl rfl) ?_
  intro a henv
  rw [show (decide (((s.length : Nat) : Int) > (1 : Int))) = false from decide_eq_false (by omega)] at henv
  revert a
  refine mA rfl rfl ?_
  refine kA rfl rfl rfl rfl rfl ?_
  refine kA rfl rfl rfl rfl rfl ?_
  refine kA rfl rfl rfl rfl rfl ?_
  refine sA (v := .bool false) rfl (fun _ henv => rn_pick henv rfl rfl) ?_
  intro a henv
  refine wpList_nil ?_
  refine th_n ?_
  refine if_f henv rfl (rfl) ?_
  refine wp_skip ?_
  refine th_n ?_
  refine wp_seq ?_
  refine region_seq ?_
  refine sv (v := .slice none 0 0) henv rfl (rn_assign henv rfl) ?_
  clear henv a; intro a henv
  refine wpList_nil ?_
  refine th_n ?_
  refine wp_seq ?_
  refine region_seq ?_
  refine sv (v := .int .i64 1) henv rfl (rn_assign henv rfl) ?_
  clear henv a; intro a henv
  refine wpList_nil ?_
  refine th_n ?_
  refine wp_block ?_
  replace hst := (hst.addRowS notU 39 2).nilEs FM
  replace hst : St w0 _ [rowS notU 39 2 none 0 0 (fl fM ([]))] [pfEs FM ([])] := hst
  refine wp_loop_ghost (fun mz a w => ∃ p : Nat, ∃ j : Nat, ∃ zs : List Int, ∃ B : Option Addr, ∃ c : Nat, ∃ os : List NE, s.length + 1 - p = mz ∧ Env 82 a [(0, .string ⟨s.toArray⟩), (4, .slice B j c), (5, .int .i64 (p : Nat))] ∧ St w0 w [rowS notU 39 2 B j c (fl fM os)] [pfEs FM os] ∧ 1 ≤ p ∧ p ≤ s.length ∧ j < p ∧ zs.length = j ∧ os.map zz = zs ∧ ∀ r, Go s p zs r → Go s 1 [] r) _ ⟨1, 0, [], none, 0, [], rfl, henv.sub ⟨rfl, rfl, rfl, trivial⟩, hst.pick [0] [0] (by decide), (Nat.le_refl _), hlen, Nat.one_pos, rfl, rfl, (fun _ h => h)⟩ ?_
  clear henv hst a
  rintro mz a w51 ⟨p, j, zs, B, c, os, rfl, henv, hst, hp0, hp1, hjp, hzl, ho, hgo⟩
  refine wp_block ?_
  refine wp_seq ?_
  refine region_seq ?_
  revert a
  refine mA rfl rfl ?_
  refine aA rfl rfl ?_
  intro a henv
  refine wpList_nil ?_
  refine th_n ?_
  refine wp_seq ?_
  refine cut (fun a w => ∃ q : Nat, Env 82 a [(0, .string ⟨s.toArray⟩), (4, .slice B j c), (5, .int .i64 (p : Nat)), (6, .int .i64 (q : Nat))] ∧ St w0 w [rowS notU 39 2 B j c (fl fM os)] [pfEs FM os] ∧ Seg s p q) ?_ ?_
  · refine wp_block ?_
    refine wp_loop_ghost (fun mz a w => ∃ q : Nat, s.length - q = mz ∧ Env 82 a [(0, .string ⟨s.toArray⟩), (4, .slice B j c), (5, .int .i64 (p : Nat)), (6, .int .i64 (q : Nat))] ∧ St w0 w [rowS notU 39 2 B j c (fl fM os)] [pfEs FM os] ∧ p ≤ q ∧ q ≤ s.length ∧ ∀ i, p ≤ i → i < q → ¬ stp (s.getD i 0)) _ ⟨p, rfl, henv.sub ⟨rfl, rfl, rfl, rfl, trivial⟩, hst.pick [0] [0] (by decide), (Nat.le_refl _), hp1, (fun i h1 h2 => by omega)⟩ ?_
    clear henv hst a
    rintro mz a w52 ⟨q, rfl, henv, hst, hq1, hq2, hq3⟩
    rcases seg_cases s q hq2 with hv | ⟨hv1, hv2⟩ | ⟨hv1, hv2⟩ | ⟨hv1, hv2, hv3⟩
    · refine wp_seq ?_
      refine wp_seq ?_
      refine region_seq ?_
      revert a
      refine mA rfl rfl ?_
      refine mA rfl rfl ?_
      refine sA (v := .int .i64 (s.length : Nat)) rfl (fun _ henv => rn_lenS henv Tryd.underlying9 rfl) ?_
      refine sA (v := .bool (decide (((q : Nat) : Int) < ((s.length : Nat) : Int)))) rfl (fun _ henv => rn_bin henv rfl rfl rfl) ?_
      intro a henv
      rw [show (decide (((q : Nat) : Int) < ((s.length : Nat) : Int))) = false from decide_eq_false (by omega)] at henv
      revert a
      refine mA rfl rfl ?_
      refine kA rfl rfl rfl rfl rfl ?_
      refine kA rfl rfl rfl rfl rfl ?_
      refine kA rfl rfl rfl rfl rfl ?_
      refine kA rfl rfl rfl rfl rfl ?_
      refine sA (v := .bool false) rfl (fun _ henv => rn_pick henv rfl rfl) ?_
      refine mA rfl rfl ?_
      refine kA rfl rfl rfl rfl rfl ?_
      refine kA rfl rfl rfl rfl rfl ?_
      refine kA rfl rfl rfl rfl rfl ?_
      refine kA rfl rfl rfl rfl rfl ?_
      refine sA (v := .bool false) rfl (fun _ henv => rn_pick henv rfl rfl) ?_
      intro a henv
      refine wpList_nil ?_
      refine th_n ?_
      refine if_f henv rfl (rfl) ?_
      refine wp_exit ?_
      refine th_x (th_x (bl_x (th_n ?_)))
      exact ⟨q, henv.sub ⟨rfl, rfl, rfl, rfl, trivial⟩, hst.pick [0] [0] (by decide), ⟨hq1, hq2, hq3, fun h => absurd h (by omega)⟩⟩
    · refine wp_seq ?_
      refine wp_seq ?_
      refine region_seq ?_
      revert a
      refine mA rfl rfl ?_
      refine mA rfl rfl ?_
      refine sA (v := .int .i64 (s.length : Nat)) rfl (fun _ henv => rn_lenS henv Tryd.underlying9 rfl) ?_
      refine sA (v := .bool (decide (((q : Nat) : Int) < ((s.length : Nat) : Int)))) rfl (fun _ henv => rn_bin henv rfl rfl rfl) ?_
      intro a henv
      rw [show (decide (((q : Nat) : Int) < ((s.length : Nat) : Int))) = true from decide_eq_true (by omega)] at henv
      revert a
      refine mA rfl rfl ?_
      refine gA (v := .string ⟨s.toArray⟩) rfl rfl rfl rfl (fun _ henv => rn_move henv rfl) ?_
      refine gA (v := .int .i64 (q : Nat)) rfl rfl rfl rfl (fun _ henv => rn_move henv rfl) ?_
      refine gA (v := .int .u8 ((s.getD q 0).toNat : Nat)) rfl rfl rfl rfl (fun _ henv => rn_idxS (i := q) henv Tryd.underlying9 rfl rfl (by omega)) ?_
      refine gA (v := .bool ((((s.getD q 0).toNat : Nat) : Int) != (32 : Int))) rfl rfl rfl rfl (fun _ henv => rn_bin henv rfl rfl rfl) ?_
      intro a henv
      rw [show ((((s.getD q 0).toNat : Nat) : Int) != (32 : Int)) = false from bne_false (by omega)] at henv
      revert a
      refine sA (v := .bool false) rfl (fun _ henv => rn_pick henv rfl rfl) ?_
      refine mA rfl rfl ?_
      refine kA rfl rfl rfl rfl rfl ?_
      refine kA rfl rfl rfl rfl rfl ?_
      refine kA rfl rfl rfl rfl rfl ?_
      refine kA rfl rfl rfl rfl rfl ?_
      refine sA (v := .bool false) rfl (fun _ henv => rn_pick henv rfl rfl) ?_
      intro a henv
      refine wpList_nil ?_
      refine th_n ?_
      refine if_f henv rfl (rfl) ?_
      refine wp_exit ?_
      refine th_x (th_x (bl_x (th_n ?_)))
      exact ⟨q, henv.sub ⟨rfl, rfl, rfl, rfl, trivial⟩, hst.pick [0] [0] (by decide), ⟨hq1, hq2, hq3, fun _ => .inl hv2⟩⟩
    · refine wp_seq ?_
      refine wp_seq ?_
      refine region_seq ?_
      revert a
      refine mA rfl rfl ?_
      refine mA rfl rfl ?_
      refine sA (v := .int .i64 (s.length : Nat)) rfl (fun _ henv => rn_lenS henv Tryd.underlying9 rfl) ?_
      refine sA (v := .bool (decide (((q : Nat) : Int) < ((s.length : Nat) : Int)))) rfl (fun _ henv => rn_bin henv rfl rfl rfl) ?_
      intro a henv
      rw [show (decide (((q : Nat) : Int) < ((s.length : Nat) : Int))) = true from decide_eq_true (by omega)] at henv
      revert a
      refine mA rfl rfl ?_
      refine gA (v := .string ⟨s.toArray⟩) rfl rfl rfl rfl (fun _ henv => rn_move henv rfl) ?_
      refine gA (v := .int .i64 (q : Nat)) rfl rfl rfl rfl (fun _ henv => rn_move henv rfl) ?_
      refine gA (v := .int .u8 ((s.getD q 0).toNat : Nat)) rfl rfl rfl rfl (fun _ henv => rn_idxS (i := q) henv Tryd.underlying9 rfl rfl (by omega)) ?_
      refine gA (v := .bool ((((s.getD q 0).toNat : Nat) : Int) != (32 : Int))) rfl rfl rfl rfl (fun _ henv => rn_bin henv rfl rfl rfl) ?_
      intro a henv
      rw [show ((((s.getD q 0).toNat : Nat) : Int) != (32 : Int)) = true from bne_iff_ne.2 (by omega)] at henv
      revert a
      refine sA (v := .bool true) rfl (fun _ henv => rn_pick henv rfl rfl) ?_
      refine mA rfl rfl ?_
      refine gA (v := .string ⟨s.toArray⟩) rfl rfl rfl rfl (fun _ henv => rn_move henv rfl) ?_
      refine gA (v := .int .i64 (q : Nat)) rfl rfl rfl rfl (fun _ henv => rn_move henv rfl) ?_
      refine gA (v := .int .u8 ((s.getD q 0).toNat : Nat)) rfl rfl rfl rfl (fun _ henv => rn_idxS (i := q) henv Tryd.underlying9 rfl rfl (by omega)) ?_
      refine gA (v := .bool ((((s.getD q 0).toNat : Nat) : Int) != (93 : Int))) rfl rfl rfl rfl (fun _ henv => rn_bin henv rfl rfl rfl) ?_
      intro a henv
      rw [show ((((s.getD q 0).toNat : Nat) : Int) != (93 : Int)) = false from bne_false (by omega)] at henv
      refine sv (v := .bool false) henv rfl (rn_pick henv rfl rfl) ?_
      clear henv a; intro a henv
      refine wpList_nil ?_
      refine th_n ?_
      refine if_f henv rfl (rfl) ?_
      refine wp_exit ?_
      refine th_x (th_x (bl_x (th_n ?_)))
      exact ⟨q, henv.sub ⟨rfl, rfl, rfl, rfl, trivial⟩, hst.pick [0] [0] (by decide), ⟨hq1, hq2, hq3, fun _ => .inr hv2⟩⟩
    · refine wp_seq ?_
      refine wp_seq ?_
      refine region_seq ?_
      revert a
      refine mA rfl rfl ?_
      refine mA rfl rfl ?_
      refine sA (v := .int .i64 (s.length : Nat)) rfl (fun _ henv => rn_lenS henv Tryd.underlying9 rfl) ?_
      refine sA (v := .bool (decide (((q : Nat) : Int) < ((s.length : Nat) : Int)))) rfl (fun _ henv => rn_bin henv rfl rfl rfl) ?_
      intro a henv
      rw [show (decide (((q : Nat) : Int) < ((s.length : Nat) : Int))) = true from decide_eq_true (by omega)] at henv
      revert a
      refine mA rfl rfl ?_
      refine gA (v := .string ⟨s.toArray⟩) rfl rfl rfl rfl (fun _ henv => rn_move henv rfl) ?_
      refine gA (v := .int .i64 (q : Nat)) rfl rfl rfl rfl (fun _ henv => rn_move henv rfl) ?_
      refine gA (v := .int .u8 ((s.getD q 0).toNat : Nat)) rfl rfl rfl rfl (fun _ henv => rn_idxS (i := q) henv Tryd.underlying9 rfl rfl (by omega)) ?_
      refine gA (v := .bool ((((s.getD q 0).toNat : Nat) : Int) != (32 : Int))) rfl rfl rfl rfl (fun _ henv => rn_bin henv rfl rfl rfl) ?_
      intro a henv
      rw [show ((((s.getD q 0).toNat : Nat) : Int) != (32 : Int)) = true from bne_iff_ne.2 (by omega)] at henv
      revert a
      refine sA (v := .bool true) rfl (fun _ henv => rn_pick henv rfl rfl) ?_
      refine mA rfl rfl ?_
      refine gA (v := .string ⟨s.toArray⟩) rfl rfl rfl rfl (fun _ henv => rn_move henv rfl) ?_
      refine gA (v := .int .i64 (q : Nat)) rfl rfl rfl rfl (fun _ henv => rn_move henv rfl) ?_
      refine gA (v := .int .u8 ((s.getD q 0).toNat : Nat)) rfl rfl rfl rfl (fun _ henv => rn_idxS (i := q) henv Tryd.underlying9 rfl rfl (by omega)) ?_
      refine gA (v := .bool ((((s.getD q 0).toNat : Nat) : Int) != (93 : Int))) rfl rfl rfl rfl (fun _ henv => rn_bin henv rfl rfl rfl) ?_
      intro a henv
      rw [show ((((s.getD q 0).toNat : Nat) : Int) != (93 : Int)) = true from bne_iff_ne.2 (by omega)] at henv
      refine sv (v := .bool true) henv rfl (rn_pick henv rfl rfl) ?_
      clear henv a; intro a henv
      refine wpList_nil ?_
      refine th_n ?_
      refine if_t henv rfl (rfl) ?_
      refine wp_skip ?_
      refine th_n ?_
      refine wp_block ?_
      refine region_seq ?_
      revert a
      refine mA rfl rfl ?_
      refine sA (v := .int .i64 (q + 1 : Nat)) rfl (fun _ henv => rn_add henv rfl rfl (by rw [IntWalk.i64_in _ (by omega)]; omega)) ?_
      refine aA rfl rfl ?_
      intro a henv
      refine wpList_nil ?_
      refine bl_n ?_
      exact th_n ⟨_, (by omega), ⟨q + 1, rfl, henv.sub ⟨rfl, rfl, rfl, rfl, trivial⟩, hst.pick [0] [0] (by decide), (by omega), (by omega), (range_step (C := fun c => ¬ stp c) hq3 (fun hn => by unfold stp at hn; omega))⟩⟩
  clear henv hst a
  rintro a w53 ⟨q, henv, hst, hsen⟩
  have hs1 := hsen.1
  have hs2 := hsen.2.1
  have hlw : (cutw s p q).length ≤ 65536 := by rw [cutw_len hs1 hs2]; omega
  refine wp_seq ?_
  refine region_seq ?_
  revert a
  refine mA rfl rfl ?_
  refine mA rfl rfl ?_
  refine mA rfl rfl ?_
  refine sA (v := .string ⟨((s.drop p).take (q - p)).toArray⟩) rfl (fun _ henv => rn_cutS (n := p) (m := q) henv Tryd.underlying9 rfl rfl rfl (by omega) (by omega)) ?_
  intro a henv
  refine seq_step rfl (op_call henv rfl Tryd.call115 rfl (rread_w (t := cutw s p q) hlw) ?_)
  rintro e w57 ⟨z1, b1, _, rfl, ⟨A54, c55, rfl, hz56⟩, hw, hb⟩
  refine ⟨_, rfl, ?_⟩
  clear henv a; intro a henv
  replace hst := (hst.call hb).addR hz56 ⟨nou_rowS, trivial⟩
  clear hz56
  clear hb
  revert a
  refine mA rfl rfl ?_
  refine sA (v := .agg #[.bool (neg z1), .slice A54 (dl z1) c55]) rfl (fun _ henv => rn_extract henv rfl rfl) ?_
  refine sA (v := .int .i64 b1) rfl (fun _ henv => rn_extract henv rfl rfl) ?_
  intro a henv
  refine seq_step rfl (op_alloc (c := #[.bool (neg 0), .slice none (dl 0) 0]) henv hst rfl zero_anvil_anvilref02_Int rcells ?_)
  clear henv hst a; intro a w59 g58 henv hst
  refine seq_step rfl (op_store (k := 0) (c' := #[.bool (neg z1), .slice A54 (dl z1) c55]) henv hst (ty_anvil_anvilref02_Int.size) rfl rfl rfl rfl (by simp) rfl rfl ?_)
  clear henv hst a; intro a w60 henv hst
  refine sv (v := .int .i64 b1) henv rfl (rn_assign henv rfl) ?_
  clear henv a; intro a henv
  refine wpList_nil ?_
  refine th_n ?_
  refine wp_seq ?_
  refine wp_seq ?_
  refine region_seq ?_
  revert a
  refine mA rfl rfl ?_
  refine sA (v := .bool (decide (b1 ≥ (0 : Int)))) rfl (fun _ henv => rn_bin henv rfl rfl rfl) ?_
  intro a henv
  refine wpList_nil ?_
  refine th_n ?_
  refine if_split henv rfl (fun hc61 => ?_) (fun hc61 => ?_)
  · have hb1 := of_decide_eq_true hc61
    obtain ⟨b, rfl, hrb⟩ := wr_bad hw hb1
    have hbl := rb_le hrb
    rw [cutw_len hs1 hs2] at hbl
    refine wp_seq ?_
    refine region_seq ?_
    revert a
    refine mA rfl rfl ?_
    refine mA rfl rfl ?_
    refine sA (v := .int .i64 (p + b : Nat)) rfl (fun _ henv => rn_add henv rfl rfl (by rw [IntWalk.i64_in _ (by omega)]; omega)) ?_
    refine aA rfl rfl ?_
    refine aA rfl rfl ?_
    intro a henv
    refine wpList_nil ?_
    refine th_n ?_
    refine wp_ret ?_
    refine th_r (bl_r (th_r (bl_r ?_)))
    refine leave henv (res2 Tryd.results54 (RV.tmp henv rfl) (RV.tmp henv rfl)) ?_
    exact ⟨.inr ⟨_, (.go h0 hne h1 (hgo _ (.bad hsen hrb))), rfl⟩, hst.below⟩
  · have hb1 := of_decide_eq_false hc61
    have hrz := wr_ok hw hb1
    refine wp_skip ?_
    refine th_n ?_
    refine wp_seq ?_
    refine region_seq ?_
    revert a
    refine mA rfl rfl ?_
    refine sA (v := .agg #[.bool (neg z1), .slice A54 (dl z1) c55]) rfl (fun _ henv => rn_load0 henv ty_anvil_anvilref02_Int rfl (hst.oat (k := 0) rfl) rfl) ?_
    intro a henv
    refine seq_step rfl (op_buildSlice (z := 2) (pv := #[(0, .agg #[.bool (neg z1), .slice A54 (dl z1) c55])]) (c := #[.bool (neg z1), .slice A54 (dl z1) c55]) henv hst rfl Tryd.underlying32 (ty_anvil_anvilref02_Int.size) zero_anvil_anvilref02_Int (by decide) (by decide) rfl (by kernel_rfl) ?_)
    clear henv hst a; intro a w63 g62 henv hst
    refine seq_step rfl (op_appendS (k := 2) (j := 0) henv hst rfl Tryd.underlying32 inf_anvil_anvilref02_Int rfl rfl rfl rfl rfl rfl rfl rfl rfl rfl rfl (by unfold maxLen; omega) (by omega) ?_)
    clear henv hst a; intro a w66 g64 c65 henv hst
    rw [show fl fM os ++ (#[.bool (neg z1), .slice A54 (dl z1) c55] : Array Value).toList = fl fM (os ++ [(A54, c55, z1)]) from fl_snoc (f := fM) os (A54, c55, z1)] at hst
    replace hst := hst.snocEs (e := (A54, c55, z1)) (i := 1) (j := 0) rfl rfl
    refine sv (v := .slice (some ⟨g64, 0, none⟩) (j + 1) c65) henv rfl (rn_assign henv rfl) ?_
    clear henv a; intro a henv
    refine wpList_nil ?_
    refine th_n ?_
    refine wp_seq ?_
    refine wp_seq ?_
    refine region_seq ?_
    revert a
    refine mA rfl rfl ?_
    refine mA rfl rfl ?_
    refine sA (v := .int .i64 (s.length : Nat)) rfl (fun _ henv => rn_lenS henv Tryd.underlying9 rfl) ?_
    refine sA (v := .bool (((q : Nat) : Int) == ((s.length : Nat) : Int))) rfl (fun _ henv => rn_bin henv rfl rfl rfl) ?_
    intro a henv
    refine wpList_nil ?_
    refine th_n ?_
    refine if_split henv rfl (fun hc67 => ?_) (fun hc67 => ?_)
    · have hqe := eq_of_beq hc67
      replace hqe : q = s.length := by omega
      refine wp_seq ?_
      refine region_seq ?_
      revert a
      refine mA rfl rfl ?_
      refine aA rfl rfl ?_
      refine aA rfl rfl ?_
      intro a henv
      refine wpList_nil ?_
      refine th_n ?_
      refine wp_ret ?_
      refine th_r (bl_r (th_r (bl_r ?_)))
      refine leave henv (res2 Tryd.results54 (RV.tmp henv rfl) (RV.tmp henv rfl)) ?_
      exact ⟨.inr ⟨_, (.go h0 hne h1 (hgo _ (seg_fin hsen hrz hqe))), rfl⟩, hst.below⟩
    · have hqe := ne_of_beq_false hc67
      have hql : q < s.length := by omega
      refine wp_skip ?_
      refine th_n ?_
      refine wp_seq ?_
      refine region_seq ?_
      revert a
      refine mA rfl rfl ?_
      refine sA (v := .int .i64 (q + 1 : Nat)) rfl (fun _ henv => rn_add henv rfl rfl (by rw [IntWalk.i64_in _ (by omega)]; omega)) ?_
      refine aA rfl rfl ?_
      intro a henv
      refine wpList_nil ?_
      refine th_n ?_
      refine wp_seq ?_
      refine region_seq ?_
      revert a
      refine mA rfl rfl ?_
      refine mA rfl rfl ?_
      refine sA (v := .int .u8 ((s.getD q 0).toNat : Nat)) rfl (fun _ henv => rn_idxS (i := q) henv Tryd.underlying9 rfl rfl (by omega)) ?_
      refine sA (v := .bool ((((s.getD q 0).toNat : Nat) : Int) == (93 : Int))) rfl (fun _ henv => rn_bin henv rfl rfl rfl) ?_
      intro a henv
      refine wpList_nil ?_
      refine th_n ?_
      refine if_split henv rfl (fun hc68 => ?_) (fun hc68 => ?_)
      · have hdd := eq_of_beq hc68
        replace hdd : (s.getD q 0).toNat = 93 := by omega
        refine wp_seq ?_
        refine wp_seq ?_
        refine region_seq ?_
        revert a
        refine mA rfl rfl ?_
        refine mA rfl rfl ?_
        refine sA (v := .int .i64 (s.length : Nat)) rfl (fun _ henv => rn_lenS henv Tryd.underlying9 rfl) ?_
        refine sA (v := .bool (decide (((q + 1 : Nat) : Int) < ((s.length : Nat) : Int)))) rfl (fun _ henv => rn_bin henv rfl rfl rfl) ?_
        intro a henv
        refine wpList_nil ?_
        refine th_n ?_
        refine if_split henv rfl (fun hc69 => ?_) (fun hc69 => ?_)
        · have hlast := of_decide_eq_true hc69
          refine wp_seq ?_
          refine region_seq ?_
          revert a
          refine mA rfl rfl ?_
          refine aA rfl rfl ?_
          refine aA rfl rfl ?_
          intro a henv
          refine wpList_nil ?_
          refine th_n ?_
          refine wp_ret ?_
          refine th_r (bl_r (th_r (bl_r ?_)))
          refine leave henv (res2 Tryd.results54 (RV.tmp henv rfl) (RV.tmp henv rfl)) ?_
          exact ⟨.inr ⟨_, (.go h0 hne h1 (hgo _ (.more hsen hrz hdd (by omega)))), rfl⟩, hst.below⟩
        · have hlast := of_decide_eq_false hc69
          refine wp_skip ?_
          refine th_n ?_
          refine wp_seq ?_
          refine region_seq ?_
          revert a
          refine mA rfl rfl ?_
          refine aA rfl rfl ?_
          refine aA rfl rfl ?_
          intro a henv
          refine wpList_nil ?_
          refine th_n ?_
          refine wp_ret ?_
          refine bl_r (th_r (bl_r ?_))
          refine leave henv (res2 Tryd.results54 (RV.tmp henv rfl) (RV.tmp henv rfl)) ?_
          exact ⟨.inl ⟨zs ++ [z1], _, _, (.go h0 hne h1 (hgo _ (.done hsen hrz hdd (by omega)))), (by rw [List.length_append, hzl]; rfl), rfl, ⟨_, _, _, rfl, hst.newRow (k := 2) (j := 0) rfl rfl, (by have hol := congrArg List.length ho; rw [List.length_map] at hol; rw [List.length_append, hol, hzl]; rfl), (by rw [List.map_append, ho]; rfl)⟩⟩, hst.below⟩
      · have hdd := ne_of_beq_false hc68
        have hcc : (s.getD q 0).toNat = 32 := by have hn := hsen.2.2.2 hql; unfold stp at hn; omega
        refine wp_skip ?_
        refine bl_n ?_
        exact th_n ⟨_, (by omega), ⟨(q + 1), (j + 1), (zs ++ [z1]), (some ⟨g64, 0, none⟩), c65, (os ++ [(A54, c55, z1)]), rfl, henv.sub ⟨rfl, rfl, rfl, trivial⟩, hst.pick [2] [0] (by decide), (by omega), (by omega), (by omega), (by rw [List.length_append, hzl]; rfl), (by rw [List.map_append, ho]; rfl), (fun r hr => hgo r (.next hsen hrz hql hcc hr))⟩⟩
set_option maxRecDepth 100000 in
set_option maxHeartbeats 4000000 in
theorem ref_read_other {s : List UInt8} {w0 : World} (hl : s.length ≤ 65536) (h0 : (s.getD 0 0).toNat = 91) (hne : s ≠ []) (hx : 1 < s.length) (hx2 : (s.getD 1 0).toNat ≠ 93) (h1 : ¬ (1 < s.length ∧ (s.getD 1 0).toNat = 93)) :
    Calls Tryd.prog 54 #[.string ⟨s.toArray⟩] w0 fun e w' => ((∃ zs n v, Rd0 s (.inl zs) ∧ zs.length = n ∧ e = .returned (.tuple #[v, .int .i64 (-1)]) ∧ MRow w0.heap.size w' v n zs) ∨ ∃ b : Nat, Rd0 s (.inr b) ∧ e = .returned (.tuple #[.slice none 0 0, .int .i64 (b : Nat)])) ∧ Below w0.heap.size w0 w' := by
  have hlen : 1 ≤ s.length := List.length_pos_iff.2 hne
  refine enter Tryd.func54 rfl Tryd.ntmps54 rfl ?_
  intro a henv hst
  refine wp_seq ?_
  refine region_seq ?_
  revert a
  refine aA rfl rfl ?_
  refine aA rfl rfl ?_
  intro a henv
  refine wpList_nil ?_
  refine th_n ?_
  refine wp_seq ?_
  refine wp_seq ?_
  refine region_seq ?_
  revert a
  refine mA rfl rfl ?_
  refine sA (v := .int .i64 (s.length : Nat)) rfl (fun _ henv => rn_lenS henv Tryd.underlying9 rfl) ?_
  refine sA (v := .bool (((s.length : Nat) : Int) == (0 : Int))) rfl (fun _ henv => rn_bin henv rfl rfl rfl) ?_
  intro a henv
  rw [show (((s.length : Nat) : Int) == (0 : Int)) = false from beq_eq_false_iff_ne.2 (by omega)] at henv
  revert a
  refine mA rfl rfl ?_
  refine gA (v := .string ⟨s.toArray⟩) rfl rfl rfl rfl (fun _ henv => rn_move henv rfl) ?_
  refine gA (v := .int .u8 ((s.getD 0 0).toNat : Nat)) rfl rfl rfl rfl (fun _ henv => rn_idxS (i := 0) henv Tryd.underlying9 rfl rfl (by omega)) ?_
  refine gA (v := .bool ((((s.getD 0 0).toNat : Nat) : Int) != (91 : Int))) rfl rfl rfl rfl (fun _ henv => rn_bin henv rfl rfl rfl) ?_
  intro a henv
  rw [show ((((s.getD 0 0).toNat : Nat) : Int) != (91 : Int)) = false from bne_false (by omega)] at henv
  refine sv (v := .bool false) henv rfl (rn_pick henv rfl rfl) ?_
  clear henv a; intro a henv
  refine wpList_nil ?_
  refine th_n ?_
  refine if_f henv rfl (rfl) ?_
  refine wp_skip ?_
  refine th_n ?_
  refine wp_seq ?_
  refine wp_seq ?_
  refine region_seq ?_
  revert a
  refine mA rfl rfl ?_
  refine sA (v := .int .i64 (s.length : Nat)) rfl (fun _ henv => rn_lenS henv Tryd.underlying9 rfl) ?_
  refine sA (v := .bool (decide (((s.length : Nat) : Int) > (1 : Int)))) rfl (fun _ henv => rn_bin henv rfl rfl rfl) ?_
  intro a henv
  rw [show (decide (((s.length : Nat) : Int) > (1 : Int))) = true from decide_eq_true (by omega)] at henv
  revert a
  refine mA rfl rfl ?_
  refine gA (v := .string ⟨s.toArray⟩) rfl rfl rfl rfl (fun _ henv => rn_move henv rfl) ?_
  refine gA (v := .int .u8 ((s.getD 1 0).toNat : Nat)) rfl rfl rfl rfl (fun _ henv => rn_idxS (i := 1) henv Tryd.underlying9 rfl rfl (by omega)) ?_
  refine gA (v := .bool ((((s.getD 1 0).toNat : Nat) : Int) == (93 : Int))) rfl rfl rfl rfl (fun _ henv => rn_bin henv rfl rfl rfl) ?_
  intro a henv
  rw [show ((((s.getD 1 0).toNat : Nat) : Int) == (93 : Int)) = false from beq_eq_false_iff_ne.2 (by omega)] at henv
  refine sv (v := .bool false) henv rfl (rn_pick henv rfl rfl) ?_
  clear henv a; intro a henv
  refine wpList_nil ?_
  refine th_n ?_
  refine if_f henv rfl (rfl) ?_
  refine wp_skip ?_
  refine th_n ?_
  refine wp_seq ?_
  refine region_seq ?_
  refine sv (v := .slice none 0 0) henv rfl (rn_assign henv rfl) ?_
  clear henv a; intro a henv
  refine wpList_nil ?_
  refine th_n ?_
  refine wp_seq ?_
  refine region_seq ?_
  refine sv (v := .int .i64 1) henv rfl (rn_assign henv rfl) ?_
  clear henv a; intro a henv
  refine wpList_nil ?_
  refine th_n ?_
  refine wp_block ?_
  replace hst := (hst.addRowS notU 39 2).nilEs FM
  replace hst : St w0 _ [rowS notU 39 2 none 0 0 (fl fM ([]))] [pfEs FM ([])] := hst
  refine wp_loop_ghost (fun mz a w => ∃ p : Nat, ∃ j : Nat, ∃ zs : List Int, ∃ B : Option Addr, ∃ c : Nat, ∃ os : List NE, s.length + 1 - p = mz ∧ Env 82 a [(0, .string ⟨s.toArray⟩), (4, .slice B j c), (5, .int .i64 (p : Nat))] ∧ St w0 w [rowS notU 39 2 B j c (fl fM os)] [pfEs FM os] ∧ 1 ≤ p ∧ p ≤ s.length ∧ j < p ∧ zs.length = j ∧ os.map zz = zs ∧ ∀ r, Go s p zs r → Go s 1 [] r) _ ⟨1, 0, [], none, 0, [], rfl, henv.sub ⟨rfl, rfl, rfl, trivial⟩, hst.pick [0] [0] (by decide), (Nat.le_refl _), hlen, Nat.one_pos, rfl, rfl, (fun _ h => h)⟩ ?_
  clear henv hst a
  rintro mz a w51 ⟨p, j, zs, B, c, os, rfl, henv, hst, hp0, hp1, hjp, hzl, ho, hgo⟩
  refine wp_block ?_
  refine wp_seq ?_
  refine region_seq ?_
  revert a
  refine mA rfl rfl ?_
  refine aA rfl rfl ?_
  intro a henv
  refine wpList_nil ?_
  refine th_n ?_
  refine wp_seq ?_
  refine cut (fun a w => ∃ q : Nat, Env 82 a [(0, .string ⟨s.toArray⟩), (4, .slice B j c), (5, .int .i64 (p : Nat)), (6, .int .i64 (q : Nat))] ∧ St w0 w [rowS notU 39 2 B j c (fl fM os)] [pfEs FM os] ∧ Seg s p q) ?_ ?_
  · refine wp_block ?_
    refine wp_loop_ghost (fun mz a w => ∃ q : Nat, s.length - q = mz ∧ Env 82 a [(0, .string ⟨s.toArray⟩), (4, .slice B j c), (5, .int .i64 (p : Nat)), (6, .int .i64 (q : Nat))] ∧ St w0 w [rowS notU 39 2 B j c (fl fM os)] [pfEs FM os] ∧ p ≤ q ∧ q ≤ s.length ∧ ∀ i, p ≤ i → i < q → ¬ stp (s.getD i 0)) _ ⟨p, rfl, henv.sub ⟨rfl, rfl, rfl, rfl, trivial⟩, hst.pick [0] [0] (by decide), (Nat.le_refl _), hp1, (fun i h1 h2 => by omega)⟩ ?_
    clear henv hst a
    rintro mz a w52 ⟨q, rfl, henv, hst, hq1, hq2, hq3⟩
    rcases seg_cases s q hq2 with hv | ⟨hv1, hv2⟩ | ⟨hv1, hv2⟩ | ⟨hv1, hv2, hv3⟩
    · refine wp_seq ?_
      refine wp_seq ?_
      refine region_seq ?_
      revert a
      refine mA rfl rfl ?_
      refine mA rfl rfl ?_
      refine sA (v := .int .i64 (s.length : Nat)) rfl (fun _ henv => rn_lenS henv Tryd.underlying9 rfl) ?_
      refine sA (v := .bool (decide (((q : Nat) : Int) < ((s.length : Nat) : Int)))) rfl (fun _ henv => rn_bin henv rfl rfl rfl) ?_
      intro a henv
      rw [show (decide (((q : Nat) : Int) < ((s.length : Nat) : Int))) = false from decide_eq_false (by omega)] at henv
      revert a
      refine mA rfl rfl ?_
      refine kA rfl rfl rfl rfl rfl ?_
      refine kA rfl rfl rfl rfl rfl ?_
      refine kA rfl rfl rfl rfl rfl ?_
      refine kA rfl rfl rfl rfl rfl ?_
      refine sA (v := .bool false) rfl (fun _ henv => rn_pick henv rfl rfl) ?_
      refine mA rfl rfl ?_
      refine kA rfl rfl rfl rfl rfl ?_
      refine kA rfl rfl rfl rfl rfl ?_
      refine kA rfl rfl rfl rfl rfl ?_
      refine kA rfl rfl rfl rfl rfl ?_
      refine sA (v := .bool false) rfl (fun _ henv => rn_pick henv rfl rfl) ?_
      intro a henv
      refine wpList_nil ?_
      refine th_n ?_
      refine if_f henv rfl (rfl) ?_
      refine wp_exit ?_
      refine th_x (th_x (bl_x (th_n ?_)))
      exact ⟨q, henv.sub ⟨rfl, rfl, rfl, rfl, trivial⟩, hst.pick [0] [0] (by decide), ⟨hq1, hq2, hq3, fun h => absurd h (by omega)⟩⟩
    · refine wp_seq ?_
      refine wp_seq ?_
      refine region_seq ?_
      revert a
      refine mA rfl rfl ?_
      refine mA rfl rfl ?_
      refine sA (v := .int .i64 (s.length : Nat)) rfl (fun _ henv => rn_lenS henv Tryd.underlying9 rfl) ?_
      refine sA (v := .bool (decide (((q : Nat) : Int) < ((s.length : Nat) : Int)))) rfl (fun _ henv => rn_bin henv rfl rfl rfl) ?_
      intro a henv
      rw [show (decide (((q : Nat) : Int) < ((s.length : Nat) : Int))) = true from decide_eq_true (by omega)] at henv
      revert a
      refine mA rfl rfl ?_
      refine gA (v := .string ⟨s.toArray⟩) rfl rfl rfl rfl (fun _ henv => rn_move henv rfl) ?_
      refine gA (v := .int .i64 (q : Nat)) rfl rfl rfl rfl (fun _ henv => rn_move henv rfl) ?_
      refine gA (v := .int .u8 ((s.getD q 0).toNat : Nat)) rfl rfl rfl rfl (fun _ henv => rn_idxS (i := q) henv Tryd.underlying9 rfl rfl (by omega)) ?_
      refine gA (v := .bool ((((s.getD q 0).toNat : Nat) : Int) != (32 : Int))) rfl rfl rfl rfl (fun _ henv => rn_bin henv rfl rfl rfl) ?_
      intro a henv
      rw [show ((((s.getD q 0).toNat : Nat) : Int) != (32 : Int)) = false from bne_false (by omega)] at henv
      revert a
      refine sA (v := .bool false) rfl (fun _ henv => rn_pick henv rfl rfl) ?_
      refine mA rfl rfl ?_
      refine kA rfl rfl rfl rfl rfl ?_
      refine kA rfl rfl rfl rfl rfl ?_
      refine kA rfl rfl rfl rfl rfl ?_
      refine kA rfl rfl rfl rfl rfl ?_
      refine sA (v := .bool false) rfl (fun _ henv => rn_pick henv rfl rfl) ?_
      intro a henv
      refine wpList_nil ?_
      refine th_n ?_
      refine if_f henv rfl (rfl) ?_
      refine wp_exit ?_
      refine th_x (th_x (bl_x (th_n ?_)))
      exact ⟨q, henv.sub ⟨rfl, rfl, rfl, rfl, trivial⟩, hst.pick [0] [0] (by decide), ⟨hq1, hq2, hq3, fun _ => .inl hv2⟩⟩
    · refine wp_seq ?_
      refine wp_seq ?_
      refine region_seq ?_
      revert a
      refine mA rfl rfl ?_
      refine mA rfl rfl ?_
      refine sA (v := .int .i64 (s.length : Nat)) rfl (fun _ henv => rn_lenS henv Tryd.underlying9 rfl) ?_
      refine sA (v := .bool (decide (((q : Nat) : Int) < ((s.length : Nat) : Int)))) rfl (fun _ henv => rn_bin henv rfl rfl rfl) ?_
      intro a henv
      rw [show (decide (((q : Nat) : Int) < ((s.length : Nat) : Int))) = true from decide_eq_true (by omega)] at henv
      revert a
      refine mA rfl rfl ?_
      refine gA (v := .string ⟨s.toArray⟩) rfl rfl rfl rfl (fun _ henv => rn_move henv rfl) ?_
      refine gA (v := .int .i64 (q : Nat)) rfl rfl rfl rfl (fun _ henv => rn_move henv rfl) ?_
      refine gA (v := .int .u8 ((s.getD q 0).toNat : Nat)) rfl rfl rfl rfl (fun _ henv => rn_idxS (i := q) henv Tryd.underlying9 rfl rfl (by omega)) ?_
      refine gA (v := .bool ((((s.getD q 0).toNat : Nat) : Int) != (32 : Int))) rfl rfl rfl rfl (fun _ henv => rn_bin henv rfl rfl rfl) ?_
      intro a henv
      rw [show ((((s.getD q 0).toNat : Nat) : Int) != (32 : Int)) = true from bne_iff_ne.2 (by omega)] at henv
      revert a
      refine sA (v := .bool true) rfl (fun _ henv => rn_pick henv rfl rfl) ?_
      refine mA rfl rfl ?_
      refine gA (v := .string ⟨s.toArray⟩) rfl rfl rfl rfl (fun _ henv => rn_move henv rfl) ?_
      refine gA (v := .int .i64 (q : Nat)) rfl rfl rfl rfl (fun _ henv => rn_move henv rfl) ?_
      refine gA (v := .int .u8 ((s.getD q 0).toNat : Nat)) rfl rfl rfl rfl (fun _ henv => rn_idxS (i := q) henv Tryd.underlying9 rfl rfl (by omega)) ?_
      refine gA (v := .bool ((((s.getD q 0).toNat : Nat) : Int) != (93 : Int))) rfl rfl rfl rfl (fun _ henv => rn_bin henv rfl rfl rfl) ?_
      intro a henv
      rw [show ((((s.getD q 0).toNat : Nat) : Int) != (93 : Int)) = false from bne_false (by omega)] at henv
      refine sv (v := .bool false) henv rfl (rn_pick henv rfl rfl) ?_
      clear henv a; intro a henv
      refine wpList_nil ?_
      refine th_n ?_
      refine if_f henv rfl (rfl) ?_
      refine wp_exit ?_
      refine th_x (th_x (bl_x (th_n ?_)))
      exact ⟨q, henv.sub ⟨rfl, rfl, rfl, rfl, trivial⟩, hst.pick [0] [0] (by decide), ⟨hq1, hq2, hq3, fun _ => .inr hv2⟩⟩
    · refine wp_seq ?_
      refine wp_seq ?_
      refine region_seq ?_
      revert a
      refine mA rfl rfl ?_
      refine mA rfl rfl ?_
      refine sA (v := .int .i64 (s.length : Nat)) rfl (fun _ henv => rn_lenS henv Tryd.underlying9 rfl) ?_
      refine sA (v := .bool (decide (((q : Nat) : Int) < ((s.length : Nat) : Int)))) rfl (fun _ henv => rn_bin henv rfl rfl rfl) ?_
      intro a henv
      rw [show (decide (((q : Nat) : Int) < ((s.length : Nat) : Int))) = true from decide_eq_true (by omega)] at henv
      revert a
      refine mA rfl rfl ?_
      refine gA (v := .string ⟨s.toArray⟩) rfl rfl rfl rfl (fun _ henv => rn_move henv rfl) ?_
      refine gA (v := .int .i64 (q : Nat)) rfl rfl rfl rfl (fun _ henv => rn_move henv rfl) ?_
      refine gA (v := .int .u8 ((s.getD q 0).toNat : Nat)) rfl rfl rfl rfl (fun _ henv => rn_idxS (i := q) henv Tryd.underlying9 rfl rfl (by omega)) ?_
      refine gA (v := .bool ((((s.getD q 0).toNat : Nat) : Int) != (32 : Int))) rfl rfl rfl rfl (fun _ henv => rn_bin henv rfl rfl rfl) ?_
      intro a henv
      rw [show ((((s.getD q 0).toNat : Nat) : Int) != (32 : Int)) = true from bne_iff_ne.2 (by omega)] at henv
      revert a
      refine sA (v := .bool true) rfl (fun _ henv => rn_pick henv rfl rfl) ?_
      refine mA rfl rfl ?_
      refine gA (v := .string ⟨s.toArray⟩) rfl rfl rfl rfl (fun _ henv => rn_move henv rfl) ?_
      refine gA (v := .int .i64 (q : Nat)) rfl rfl rfl rfl (fun _ henv => rn_move henv rfl) ?_
      refine gA (v := .int .u8 ((s.getD q 0).toNat : Nat)) rfl rfl rfl rfl (fun _ henv => rn_idxS (i := q) henv Tryd.underlying9 rfl rfl (by omega)) ?_
      refine gA (v := .bool ((((s.getD q 0).toNat : Nat) : Int) != (93 : Int))) rfl rfl rfl rfl (fun _ henv => rn_bin henv rfl rfl rfl) ?_
      intro a henv
      rw [show ((((s.getD q 0).toNat : Nat) : Int) != (93 : Int)) = true from bne_iff_ne.2 (by omega)] at henv
      refine sv (v := .bool true) henv rfl (rn_pick henv rfl rfl) ?_
      clear henv a; intro a henv
      refine wpList_nil ?_
      refine th_n ?_
      refine if_t henv rfl (rfl) ?_
      refine wp_skip ?_
      refine th_n ?_
      refine wp_block ?_
      refine region_seq ?_
      revert a
      refine mA rfl rfl ?_
      refine sA (v := .int .i64 (q + 1 : Nat)) rfl (fun _ henv => rn_add henv rfl rfl (by rw [IntWalk.i64_in _ (by omega)]; omega)) ?_
      refine aA rfl rfl ?_
      intro a henv
      refine wpList_nil ?_
      refine bl_n ?_
      exact th_n ⟨_, (by omega), ⟨q + 1, rfl, henv.sub ⟨rfl, rfl, rfl, rfl, trivial⟩, hst.pick [0] [0] (by decide), (by omega), (by omega), (range_step (C := fun c => ¬ stp c) hq3 (fun hn => by unfold stp at hn; omega))⟩⟩
  clear henv hst a
  rintro a w53 ⟨q, henv, hst, hsen⟩
  have hs1 := hsen.1
  have hs2 := hsen.2.1
  have hlw : (cutw s p q).length ≤ 65536 := by rw [cutw_len hs1 hs2]; omega
  refine wp_seq ?_
  refine region_seq ?_
  revert a
  refine mA rfl rfl ?_
  refine mA rfl rfl ?_
  refine mA rfl rfl ?_
  refine sA (v := .string ⟨((s.drop p).take (q - p)).toArray⟩) rfl (fun _ henv => rn_cutS (n := p) (m := q) henv Tryd.underlying9 rfl rfl rfl (by omega) (by omega)) ?_
  intro a henv
  refine seq_step rfl (op_call henv rfl Tryd.call115 rfl (rread_w (t := cutw s p q) hlw) ?_)
  rintro e w57 ⟨z1, b1, _, rfl, ⟨A54, c55, rfl, hz56⟩, hw, hb⟩
  refine ⟨_, rfl, ?_⟩
  clear henv a; intro a henv
  replace hst := (hst.call hb).addR hz56 ⟨nou_rowS, trivial⟩
  clear hz56
  clear hb
  revert a
  refine mA rfl rfl ?_
  refine sA (v := .agg #[.bool (neg z1), .slice A54 (dl z1) c55]) rfl (fun _ henv => rn_extract henv rfl rfl) ?_
  refine sA (v := .int .i64 b1) rfl (fun _ henv => rn_extract henv rfl rfl) ?_
  intro a henv
  refine seq_step rfl (op_alloc (c := #[.bool (neg 0), .slice none (dl 0) 0]) henv hst rfl zero_anvil_anvilref02_Int rcells ?_)
  clear henv hst a; intro a w59 g58 henv hst
  refine seq_step rfl (op_store (k := 0) (c' := #[.bool (neg z1), .slice A54 (dl z1) c55]) henv hst (ty_anvil_anvilref02_Int.size) rfl rfl rfl rfl (by simp) rfl rfl ?_)
  clear henv hst a; intro a w60 henv hst
  refine sv (v := .int .i64 b1) henv rfl (rn_assign henv rfl) ?_
  clear henv a; intro a henv
  refine wpList_nil ?_
  refine th_n ?_
  refine wp_seq ?_
  refine wp_seq ?_
  refine region_seq ?_
  revert a
  refine mA rfl rfl ?_
  refine sA (v := .bool (decide (b1 ≥ (0 : Int)))) rfl (fun _ henv => rn_bin henv rfl rfl rfl) ?_
  intro a henv
  refine wpList_nil ?_
  refine th_n ?_
  refine if_split henv rfl (fun hc61 => ?_) (fun hc61 => ?_)
  · have hb1 := of_decide_eq_true hc61
    obtain ⟨b, rfl, hrb⟩ := wr_bad hw hb1
    have hbl := rb_le hrb
    rw [cutw_len hs1 hs2] at hbl
    refine wp_seq ?_
    refine region_seq ?_
    revert a
    refine mA rfl rfl ?_
    refine mA rfl rfl ?_
    refine sA (v := .int .i64 (p + b : Nat)) rfl (fun _ henv => rn_add henv rfl rfl (by rw [IntWalk.i64_in _ (by omega)]; omega)) ?_
    refine aA rfl rfl ?_
    refine aA rfl rfl ?_
    intro a henv
    refine wpList_nil ?_
    refine th_n ?_
    refine wp_ret ?_
    refine th_r (bl_r (th_r (bl_r ?_)))
    refine leave henv (res2 Tryd.results54 (RV.tmp henv rfl) (RV.tmp henv rfl)) ?_
    exact ⟨.inr ⟨_, (.go h0 hne h1 (hgo _ (.bad hsen hrb))), rfl⟩, hst.below⟩
  · have hb1 := of_decide_eq_false hc61
    have hrz := wr_ok hw hb1
    refine wp_skip ?_
    refine th_n ?_
    refine wp_seq ?_
    refine region_seq ?_
    revert a
    refine mA rfl rfl ?_
    refine sA (v := .agg #[.bool (neg z1), .slice A54 (dl z1) c55]) rfl (fun _ henv => rn_load0 henv ty_anvil_anvilref02_Int rfl (hst.oat (k := 0) rfl) rfl) ?_
    intro a henv
    refine seq_step rfl (op_buildSlice (z := 2) (pv := #[(0, .agg #[.bool (neg z1), .slice A54 (dl z1) c55])]) (c := #[.bool (neg z1), .slice A54 (dl z1) c55]) henv hst rfl Tryd.underlying32 (ty_anvil_anvilref02_Int.size) zero_anvil_anvilref02_Int (by decide) (by decide) rfl (by kernel_rfl) ?_)
    clear henv hst a; intro a w63 g62 henv hst
    refine seq_step rfl (op_appendS (k := 2) (j := 0) henv hst rfl Tryd.underlying32 inf_anvil_anvilref02_Int rfl rfl rfl rfl rfl rfl rfl rfl rfl rfl rfl (by unfold maxLen; omega) (by omega) ?_)
    clear henv hst a; intro a w66 g64 c65 henv hst
    rw [show fl fM os ++ (#[.bool (neg z1), .slice A54 (dl z1) c55] : Array Value).toList = fl fM (os ++ [(A54, c55, z1)]) from fl_snoc (f := fM) os (A54, c55, z1)] at hst
    replace hst := hst.snocEs (e := (A54, c55, z1)) (i := 1) (j := 0) rfl rfl
    refine sv (v := .slice (some ⟨g64, 0, none⟩) (j + 1) c65) henv rfl (rn_assign henv rfl) ?_
    clear henv a; intro a henv
    refine wpList_nil ?_
    refine th_n ?_
    refine wp_seq ?_
    refine wp_seq ?_
    refine region_seq ?_
    revert a
    refine mA rfl rfl ?_
    refine mA rfl rfl ?_
    refine sA (v := .int .i64 (s.length : Nat)) rfl (fun _ henv => rn_lenS henv Tryd.underlying9 rfl) ?_
    refine sA (v := .bool (((q : Nat) : Int) == ((s.length : Nat) : Int))) rfl (fun _ henv => rn_bin henv rfl rfl rfl) ?_
    intro a henv
    refine wpList_nil ?_
    refine th_n ?_
    refine if_split henv rfl (fun hc67 => ?_) (fun hc67 => ?_)
    · have hqe := eq_of_beq hc67
      replace hqe : q = s.length := by omega
      refine wp_seq ?_
      refine region_seq ?_
      revert a
      refine mA rfl rfl ?_
      refine aA rfl rfl ?_
      refine aA rfl rfl ?_
      intro a henv
      refine wpList_nil ?_
      refine th_n ?_
      refine wp_ret ?_
      refine th_r (bl_r (th_r (bl_r ?_)))
      refine leave henv (res2 Tryd.results54 (RV.tmp henv rfl) (RV.tmp henv rfl)) ?_
      exact ⟨.inr ⟨_, (.go h0 hne h1 (hgo _ (seg_fin hsen hrz hqe))), rfl⟩, hst.below⟩
    · have hqe := ne_of_beq_false hc67
      have hql : q < s.length := by omega
      refine wp_skip ?_
      refine th_n ?_
      refine wp_seq ?_
      refine region_seq ?_
      revert a
      refine mA rfl rfl ?_
      refine sA (v := .int .i64 (q + 1 : Nat)) rfl (fun _ henv => rn_add henv rfl rfl (by rw [IntWalk.i64_in _ (by omega)]; omega)) ?_
      refine aA rfl rfl ?_
      intro a henv
      refine wpList_nil ?_
      refine th_n ?_
      refine wp_seq ?_
      refine region_seq ?_
      revert a
      refine mA rfl rfl ?_
      refine mA rfl rfl ?_
      refine sA (v := .int .u8 ((s.getD q 0).toNat : Nat)) rfl (fun _ henv => rn_idxS (i := q) henv Tryd.underlying9 rfl rfl (by omega)) ?_
      refine sA (v := .bool ((((s.getD q 0).toNat : Nat) : Int) == (93 : Int))) rfl (fun _ henv => rn_bin henv rfl rfl rfl) ?_
      intro a henv
      refine wpList_nil ?_
      refine th_n ?_
      refine if_split henv rfl (fun hc68 => ?_) (fun hc68 => ?_)
      · have hdd := eq_of_beq hc68
        replace hdd : (s.getD q 0).toNat = 93 := by omega
        refine wp_seq ?_
        refine wp_seq ?_
        refine region_seq ?_
        revert a
        refine mA rfl rfl ?_
        refine mA rfl rfl ?_
        refine sA (v := .int .i64 (s.length : Nat)) rfl (fun _ henv => rn_lenS henv Tryd.underlying9 rfl) ?_
        refine sA (v := .bool (decide (((q + 1 : Nat) : Int) < ((s.length : Nat) : Int)))) rfl (fun _ henv => rn_bin henv rfl rfl rfl) ?_
        intro a henv
        refine wpList_nil ?_
        refine th_n ?_
        refine if_split henv rfl (fun hc69 => ?_) (fun hc69 => ?_)
        · have hlast := of_decide_eq_true hc69
          refine wp_seq ?_
          refine region_seq ?_
          revert a
          refine mA rfl rfl ?_
          refine aA rfl rfl ?_
          refine aA rfl rfl ?_
          intro a henv
          refine wpList_nil ?_
          refine th_n ?_
          refine wp_ret ?_
          refine th_r (bl_r (th_r (bl_r ?_)))
          refine leave henv (res2 Tryd.results54 (RV.tmp henv rfl) (RV.tmp henv rfl)) ?_
          exact ⟨.inr ⟨_, (.go h0 hne h1 (hgo _ (.more hsen hrz hdd (by omega)))), rfl⟩, hst.below⟩
        · have hlast := of_decide_eq_false hc69
          refine wp_skip ?_
          refine th_n ?_
          refine wp_seq ?_
          refine region_seq ?_
          revert a
          refine mA rfl rfl ?_
          refine aA rfl rfl ?_
          refine aA rfl rfl ?_
          intro a henv
          refine wpList_nil ?_
          refine th_n ?_
          refine wp_ret ?_
          refine bl_r (th_r (bl_r ?_))
          refine leave henv (res2 Tryd.results54 (RV.tmp henv rfl) (RV.tmp henv rfl)) ?_
          exact ⟨.inl ⟨zs ++ [z1], _, _, (.go h0 hne h1 (hgo _ (.done hsen hrz hdd (by omega)))), (by rw [List.length_append, hzl]; rfl), rfl, ⟨_, _, _, rfl, hst.newRow (k := 2) (j := 0) rfl rfl, (by have hol := congrArg List.length ho; rw [List.length_map] at hol; rw [List.length_append, hol, hzl]; rfl), (by rw [List.map_append, ho]; rfl)⟩⟩, hst.below⟩
      · have hdd := ne_of_beq_false hc68
        have hcc : (s.getD q 0).toNat = 32 := by have hn := hsen.2.2.2 hql; unfold stp at hn; omega
        refine wp_skip ?_
        refine bl_n ?_
        exact th_n ⟨_, (by omega), ⟨(q + 1), (j + 1), (zs ++ [z1]), (some ⟨g64, 0, none⟩), c65, (os ++ [(A54, c55, z1)]), rfl, henv.sub ⟨rfl, rfl, rfl, trivial⟩, hst.pick [2] [0] (by decide), (by omega), (by omega), (by omega), (by rw [List.length_append, hzl]; rfl), (by rw [List.map_append, ho]; rfl), (fun r hr => hgo r (.next hsen hrz hql hcc hr))⟩⟩
theorem ref_read {s : List UInt8} {w0 : World} (hl : s.length ≤ 65536) :
    Calls Tryd.prog 54 #[.string ⟨s.toArray⟩] w0 fun e w' => ((∃ zs n v, Rd0 s (.inl zs) ∧ zs.length = n ∧ e = .returned (.tuple #[v, .int .i64 (-1)]) ∧ MRow w0.heap.size w' v n zs) ∨ ∃ b : Nat, Rd0 s (.inr b) ∧ e = .returned (.tuple #[.slice none 0 0, .int .i64 (b : Nat)])) ∧ Below w0.heap.size w0 w' := by
  by_cases hne : s = []
  · exact (ref_read_empty (by rw [hne]; rfl)).mono fun e w' ⟨he, hb⟩ => ⟨.inr ⟨0, .no (.inl hne), he⟩, hb⟩
  have hlen : 1 ≤ s.length := List.length_pos_iff.2 hne
  by_cases h0 : (s.getD 0 0).toNat = 91
  · by_cases h1 : 1 < s.length ∧ (s.getD 1 0).toNat = 93
    · rcases Nat.lt_or_ge 2 s.length with h2 | h2
      · exact (ref_read_tail hl h0 h1.2 h2).mono fun e w' ⟨he, hb⟩ => ⟨.inr ⟨2, .tail h0 h1.2 h2, he⟩, hb⟩
      · exact (ref_read_void h0 h1.2 (by omega)).mono fun e w' ⟨v, he, hv, hb⟩ => ⟨.inl ⟨[], 0, v, .void h0 h1.2 (by omega), rfl, he, hv⟩, hb⟩
    · by_cases hx : s.length ≤ 1
      · exact ref_read_go hl h0 hne hx h1
      · exact ref_read_other hl h0 hne (by omega) (fun e => h1 ⟨by omega, e⟩) h1
  · exact (ref_read_no hl hlen h0).mono fun e w' ⟨he, hb⟩ => ⟨.inr ⟨0, .no (.inr h0), he⟩, hb⟩
end Go.Proofs.YtegglooojlheoaaDoor.W
