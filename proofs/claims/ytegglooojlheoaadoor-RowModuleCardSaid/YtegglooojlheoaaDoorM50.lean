/- row.Over, Content, Primitive; the reference's Over, Content, Zero, Primitive. Printed by pv/gen_row9.py. No condition. -/
import Derived.Test.YtegglooojlheoaaDoorM48
import Derived.Test.YtegglooojlheoaaDoorM15
import Derived.Test.YtegglooojlheoaaDoorM39
import Derived.Test.YtegglooojlheoaaDoorM49
import Derived.Test.YtegglooojlheoaaDoorM47
import Derived.Test.YtegglooojlheoaaDoorM24

namespace Go.Proofs.YtegglooojlheoaaDoor.W
open Go.RowKit Anv Go.Lib
theorem at_zs {es : List NE} {xs : List Int} {j : Nat} {A : Option Addr} {c : Nat} {z : Int} (hz : es.map zz = xs) (he : es[j]? = some (A, c, z)) : xs[j]? = some z := by rw [← hz, List.getElem?_map, he]; rfl
theorem mem_zs {es : List NE} {xs : List Int} {j : Nat} {A : Option Addr} {c : Nat} {z : Int} (hz : es.map zz = xs) (he : es[j]? = some (A, c, z)) : z ∈ xs := List.mem_of_getElem? (at_zs hz he)
theorem step_div {es os : List NE} {xs : List Int} {j : Nat} {A B : Option Addr} {c d : Nat} {z m : Int} (hz : es.map zz = xs) (ho : os.map zz = (xs.map (· / m)).take j) (he : es[j]? = some (A, c, z)) : (os ++ [(B, d, z / m)]).map zz = (xs.map (· / m)).take (j + 1) := by
  rw [List.map_append, ho, take_one (x := z / m) (by rw [List.getElem?_map, at_zs hz he]; rfl)]
  rfl
def ovr (x y : Int) : Int := if x % y = 0 then x / y else 0
theorem divs_step {es : List NE} {xs : List Int} {j : Nat} {A : Option Addr} {c : Nat} {z m : Int} (hz : es.map zz = xs) (hd : divs m (xs.take j)) (he : es[j]? = some (A, c, z)) (h : z % m = 0) : divs m (xs.take (j + 1)) := by
  rw [ztake_snoc hz he]
  intro x hx
  rcases List.mem_append.1 hx with hx | hx
  · exact hd x hx
  · rw [List.mem_singleton.1 hx]; exact h
theorem divs_no {es : List NE} {xs : List Int} {j : Nat} {A : Option Addr} {c : Nat} {z m : Int} (hz : es.map zz = xs) (he : es[j]? = some (A, c, z)) (h : z % m ≠ 0) : ¬ divs m xs := fun hd => h (hd z (mem_zs hz he))
theorem take_map_full {xs : List Int} {n : Nat} {f : Int → Int} (h : n = xs.length) : (xs.map f).take n = xs.map f := List.take_of_length_le (by rw [List.length_map]; omega)
theorem sign_ne {z : Int} (h : (z.sign != 0) = true) : z ≠ 0 := fun e => by rw [e] at h; cases h
theorem sign_eq0 {z : Int} (h : (z.sign != 0) = false) : z = 0 := Int.sign_eq_zero_iff_zero.1 (by simpa using h)
theorem sign_eq1 {z : Int} (h : (z.sign == 0) = true) : z = 0 := Int.sign_eq_zero_iff_zero.1 (eq_of_beq h)
theorem sign_ne1 {z : Int} (h : (z.sign == 0) = false) : z ≠ 0 := fun e => by rw [e] at h; cases h
theorem sign_ne0 {z : Int} (h : z ≠ 0) : (z.sign == 0) = false := beq_eq_false_iff_ne.2 fun e => h (Int.sign_eq_zero_iff_zero.1 e)
theorem sign_one {z : Int} (h : ((z - 1).sign == 0) = true) : z = 1 := by have := sign_eq1 h; omega
theorem zgcd_step {es : List NE} {xs : List Int} {j : Nat} {A : Option Addr} {c : Nat} {m z : Int} (hz : es.map zz = xs) (hm : m = gcdL (xs.take j)) (he : es[j]? = some (A, c, z)) : ((Int.gcd m z : Nat) : Int) = gcdL (xs.take (j + 1)) := by
  rw [ztake_snoc hz he, gcdL_snoc, hm]
theorem gcd_break {es : List NE} {xs : List Int} {j : Nat} {A : Option Addr} {c : Nat} {m z : Int} (hz : es.map zz = xs) (hm : m = gcdL (xs.take j)) (he : es[j]? = some (A, c, z)) (h1 : ((Int.gcd m z : Nat) : Int) = 1) : ((Int.gcd m z : Nat) : Int) = gcdL xs := by
  have h2 := zgcd_step hz hm he
  rw [h1] at h2 ⊢
  exact (gcdL_take_one h2.symm).symm
theorem zero_step {es : List NE} {xs : List Int} {j : Nat} {A : Option Addr} {c : Nat} {z : Int} (hz : es.map zz = xs) (h : ∀ x ∈ xs.take j, x = 0) (he : es[j]? = some (A, c, z)) (h0 : z = 0) : ∀ x ∈ xs.take (j + 1), x = 0 := by
  rw [ztake_snoc hz he]
  intro x hx
  rcases List.mem_append.1 hx with hx | hx
  · exact h x hx
  · rw [List.mem_singleton.1 hx]; exact h0
theorem prim_neg {xs : List Int} {z : Int} (h : lead xs = z) (hn : z.sign < 0) : -gcdL xs = primN xs := by
  unfold primN
  rw [h, if_pos (Int.sign_neg_iff.1 hn)]
theorem prim_pos {xs : List Int} {z : Int} (h : lead xs = z) (hn : ¬ z.sign < 0) : gcdL xs = primN xs := by
  unfold primN
  rw [h, if_neg fun h1 => hn (Int.sign_neg_iff.2 h1)]
theorem over_known {f : FuncId} {args : Array Value} {w : World} {p : Prop} {A : Value → Ending → Prop} {B : Value → World → Prop} {D : Ending → Prop} {C : World → Prop} (h : Calls Tryd.prog f args w fun e w' => ((p ∧ ∃ v, A v e ∧ B v w') ∨ (¬ p ∧ D e)) ∧ C w') (hp : p) : Calls Tryd.prog f args w fun e w' => ∃ v, A v e ∧ B v w' ∧ C w' :=
  h.mono fun _ _ ⟨h1, h2⟩ => h1.elim (fun ⟨_, v, h3, h4⟩ => ⟨v, h3, h4, h2⟩) fun ⟨hn, _⟩ => absurd hp hn
set_option maxRecDepth 100000 in
set_option maxHeartbeats 2000000 in
theorem row_over {A0 : Option Addr} {n0 c0 : Nat} {es0 : List NE} {xs : List Int} {M : Option Addr} {d : Nat} {m : Int} {w0 : World} (h0 : (pfRow fN FN 2 A0 n0 c0 es0).P w0) (hz0 : es0.map zz = xs) (hM : ZIn w0 M d m) (hm : zl m ≤ 100000) (hm0 : m ≠ 0) (hk : Zk 100000 xs) (hn : n0 ≤ 100000000) :
    Calls Tryd.prog 77 #[.slice A0 n0 c0, .agg #[.bool (neg m), .slice M (zl m) d]] w0 fun e w' => ((divs m xs ∧ ∃ v, e = .returned (.tuple #[v, .int .i64 0]) ∧ ZRow w0.heap.size w' v n0 (xs.map (· / m))) ∨ (¬ divs m xs ∧ e = .returned (.tuple #[.slice none 0 0, .int .i64 20]))) ∧ Below w0.heap.size w0 w' := by
  have hzb := hk.es hz0
  refine enter Tryd.func77 rfl Tryd.ntmps77 rfl ?_
  intro a henv hst
  replace hst := hst.addZ hM trivial
  have hlen0 := h0.2.1
  have hbig0 := Nat.le_trans h0.1.cap h0.1.big
  unfold maxLen at hbig0
  replace hst := hst.argRow h0
  clear h0
  refine wp_seq ?_
  refine region_seq ?_
  refine seq_step rfl (op_box (c := #[.bool (neg m), .slice M (zl m) d]) henv hst rfl rfl rfl ?_)
  clear henv hst a; intro a w52 g51 henv hst
  revert a
  refine aA rfl rfl ?_
  refine aA rfl rfl ?_
  intro a henv
  refine wpList_nil ?_
  refine th_n ?_
  refine wp_seq ?_
  refine wp_seq ?_
  refine region_seq ?_
  refine sv (v := .agg #[.bool (neg m), .slice M (zl m) d]) henv rfl (rn_load0 henv ty_anvil_integer_Int rfl (hst.oat (k := 0) rfl) rfl) ?_
  clear henv a; intro a henv
  refine seq_step rfl (op_call henv rfl Tryd.call31 rfl (sign_z (z := m)) ?_)
  rintro e w53 ⟨rfl, hb⟩
  refine ⟨_, rfl, ?_⟩
  clear henv a; intro a henv
  replace hst := hst.call hb
  clear hb
  refine sv (v := .bool (m.sign == (0 : Int))) henv rfl (rn_bin henv rfl rfl rfl) ?_
  clear henv a; intro a henv
  rw [show (m.sign == (0 : Int)) = false from (sign_ne0 hm0)] at henv
  refine wpList_nil ?_
  refine th_n ?_
  refine if_f henv rfl (rfl) ?_
  refine wp_skip ?_
  refine th_n ?_
  refine wp_seq ?_
  refine region_seq ?_
  refine sv (v := .slice none 0 0) henv rfl (rn_assign henv rfl) ?_
  clear henv a; intro a henv
  refine wpList_nil ?_
  refine th_n ?_
  refine wp_seq ?_
  refine wp_seq ?_
  refine region_seq ?_
  revert a
  refine mA rfl rfl ?_
  refine sA (v := .int .i64 (n0 : Nat)) rfl (fun _ henv => rn_len henv Tryd.underlying30 rfl) ?_
  refine mA rfl rfl ?_
  intro a henv
  refine wpList_nil ?_
  refine th_n ?_
  refine wp_block ?_
  replace hst := (hst.addRowS notU 36 2).nilEs FN
  replace hst : St w0 _ [rowS notU 36 2 none 0 0 (fl fN ([])), bk g51 #[.bool (neg m), .slice M (zl m) d] 36] [pfEs FN ([]), pfRow fN FN 2 A0 n0 c0 es0, pfZ M d m] := hst
  refine wp_loop_ghost (fun mz a w => ∃ j : Nat, ∃ B : Option Addr, ∃ e : Nat, ∃ os : List NE, n0 - j = mz ∧ Env 37 a [(3, .pointer (some ⟨g51, 0, none⟩)), (6, .slice B j e), (15, .slice A0 n0 c0), (16, .int .i64 (n0 : Nat)), (17, .int .i64 (j : Nat))] ∧ St w0 w [rowS notU 36 2 B j e (fl fN os), bk g51 #[.bool (neg m), .slice M (zl m) d] 36] [pfEs FN os, pfRow fN FN 2 A0 n0 c0 es0, pfZ M d m] ∧ j ≤ n0 ∧ os.map zz = (xs.map (· / m)).take j ∧ divs m (xs.take j)) _ ⟨0, none, 0, [], rfl, henv.sub ⟨rfl, rfl, rfl, rfl, rfl, trivial⟩, hst.pick [0, 1] [0, 1, 2] (by decide), (Nat.zero_le _), rfl, (fun _ h => by cases h)⟩ ?_
  clear henv hst a
  rintro mz a w54 ⟨j, B, e, os, rfl, henv, hst, hj, ho, hd⟩
  refine wp_seq ?_
  refine region_seq ?_
  refine sv (v := .bool (decide (((j : Nat) : Int) < ((n0 : Nat) : Int)))) henv rfl (rn_bin henv rfl rfl rfl) ?_
  clear henv a; intro a henv
  refine wpList_nil ?_
  refine th_n ?_
  refine wp_seq ?_
  refine if_split henv rfl (fun hc55 => ?_) (fun hc55 => ?_)
  · have hlt : j < n0 := by have := of_decide_eq_true hc55; omega
    obtain ⟨⟨A, c, z⟩, he0⟩ : ∃ e, es0[j]? = some e := ⟨_, List.getElem?_eq_getElem (by omega)⟩
    replace hst := hst.elem (k := 1) rfl he0
    replace hst : St w0 _ [rowS notU 36 2 B j e (fl fN os), bk g51 #[.bool (neg m), .slice M (zl m) d] 36] [pfZ A c z, pfEs FN os, pfRow fN FN 2 A0 n0 c0 es0, pfZ M d m] := hst
    have hzs := hzb.at he0
    refine wp_skip ?_
    refine th_n ?_
    refine wp_seq ?_
    refine wp_block ?_
    refine wp_seq ?_
    refine region_seq ?_
    revert a
    refine sA (v := .pointer (some ⟨ab A0, ao A0 + j * 2, none⟩)) rfl (fun _ henv => rn_idxR (i := j) henv Tryd.underlying30 (ty_anvil_integer_Int.size) rfl rfl (by omega) rfl (show (pfRow fN FN 2 A0 n0 c0 es0).P _ from (hst.pat (k := 2) rfl)).1) ?_
    refine sA (v := .agg #[.bool (neg z), .slice A (zl z) c]) rfl (fun _ henv => rn_loadE (i := j) (e := (A, c, z)) henv ty_anvil_integer_Int rfl rfl fN_len (show (pfRow fN FN 2 A0 n0 c0 es0).P _ from (hst.pat (k := 2) rfl)).1 (by omega) he0 rfl) ?_
    intro a henv
    refine seq_step rfl (op_alloc (c := #[.bool (neg 0), .slice none (zl 0) 0]) henv hst rfl zero_anvil_integer_Int zcells ?_)
    clear henv hst a; intro a w57 g56 henv hst
    refine seq_step rfl (op_store (k := 0) (c' := #[.bool (neg z), .slice A (zl z) c]) henv hst (ty_anvil_integer_Int.size) rfl rfl rfl rfl (by simp) rfl rfl ?_)
    clear henv hst a; intro a w58 henv hst
    refine wpList_nil ?_
    refine th_n ?_
    refine wp_seq ?_
    refine region_seq ?_
    revert a
    refine sA (v := .agg #[.bool (neg z), .slice A (zl z) c]) rfl (fun _ henv => rn_load0 henv ty_anvil_integer_Int rfl (hst.oat (k := 0) rfl) rfl) ?_
    refine sA (v := .agg #[.bool (neg m), .slice M (zl m) d]) rfl (fun _ henv => rn_load0 henv ty_anvil_integer_Int rfl (hst.oat (k := 2) rfl) rfl) ?_
    intro a henv
    have hs59 := zl_ediv z m
    refine seq_step rfl (op_call henv rfl Tryd.call117 rfl (divmod_z (x := z) (y := m) (show ZIn _ A c z from hst.pat (k := 0) rfl) (show ZIn _ M d m from hst.pat (k := 3) rfl) (by omega) (by omega) hm0) ?_)
    rintro e w66 ⟨_, _, rfl, ⟨A60, c61, rfl, hz62⟩, ⟨A63, c64, rfl, hz65⟩, hb⟩
    refine ⟨_, rfl, ?_⟩
    clear henv a; intro a henv
    replace hst := ((hst.call hb).addZ hz62 ⟨nou_bk rfl, nou_rowS, nou_bk rfl, trivial⟩).addZ hz65 ⟨nou_bk rfl, nou_rowS, nou_bk rfl, trivial⟩
    clear hz62 hz65
    clear hb
    revert a
    refine mA rfl rfl ?_
    refine sA (v := .agg #[.bool (neg (z / m)), .slice A60 (zl (z / m)) c61]) rfl (fun _ henv => rn_extract henv rfl rfl) ?_
    refine sA (v := .agg #[.bool (neg (z % m)), .slice A63 (zl (z % m)) c64]) rfl (fun _ henv => rn_extract henv rfl rfl) ?_
    refine sA (v := .int .i64 0) rfl (fun _ henv => rn_extract henv rfl rfl) ?_
    intro a henv
    refine seq_step rfl (op_alloc (c := #[.bool (neg 0), .slice none (zl 0) 0]) henv hst rfl zero_anvil_integer_Int zcells ?_)
    clear henv hst a; intro a w68 g67 henv hst
    refine seq_step rfl (op_alloc (c := #[.bool (neg 0), .slice none (zl 0) 0]) henv hst rfl zero_anvil_integer_Int zcells ?_)
    clear henv hst a; intro a w70 g69 henv hst
    refine seq_step rfl (op_store (k := 1) (c' := #[.bool (neg (z / m)), .slice A60 (zl (z / m)) c61]) henv hst (ty_anvil_integer_Int.size) rfl rfl rfl rfl (by simp) rfl rfl ?_)
    clear henv hst a; intro a w71 henv hst
    refine seq_step rfl (op_store (k := 0) (c' := #[.bool (neg (z % m)), .slice A63 (zl (z % m)) c64]) henv hst (ty_anvil_integer_Int.size) rfl rfl rfl rfl (by simp) rfl rfl ?_)
    clear henv hst a; intro a w72 henv hst
    refine sv (v := .int .i64 0) henv rfl (rn_assign henv rfl) ?_
    clear henv a; intro a henv
    refine wpList_nil ?_
    refine th_n ?_
    refine wp_seq ?_
    refine wp_seq ?_
    refine region_seq ?_
    refine sv (v := .agg #[.bool (neg (z % m)), .slice A63 (zl (z % m)) c64]) henv rfl (rn_load0 henv ty_anvil_integer_Int rfl (hst.oat (k := 0) rfl) rfl) ?_
    clear henv a; intro a henv
    refine seq_step rfl (op_call henv rfl Tryd.call31 rfl (sign_z (z := z % m)) ?_)
    rintro e w73 ⟨rfl, hb⟩
    refine ⟨_, rfl, ?_⟩
    clear henv a; intro a henv
    replace hst := hst.call hb
    clear hb
    refine sv (v := .bool ((z % m).sign != (0 : Int))) henv rfl (rn_bin henv rfl rfl rfl) ?_
    clear henv a; intro a henv
    refine wpList_nil ?_
    refine th_n ?_
    refine if_split henv rfl (fun hc74 => ?_) (fun hc74 => ?_)
    · have hne : z % m ≠ 0 := sign_ne hc74
      refine wp_seq ?_
      refine region_seq ?_
      revert a
      refine aA rfl rfl ?_
      refine aA rfl rfl ?_
      intro a henv
      refine wpList_nil ?_
      refine th_n ?_
      refine wp_ret ?_
      refine th_r (bl_r (th_r (th_r (bl_r (th_r ?_)))))
      refine leave henv (res2 Tryd.results77 (RV.tmp henv rfl) (RV.tmp henv rfl)) ?_
      exact ⟨.inr ⟨divs_no hz0 he0 hne, rfl⟩, hst.below⟩
    · have hze : z % m = 0 := sign_eq0 hc74
      refine wp_skip ?_
      refine th_n ?_
      refine region_seq ?_
      revert a
      refine mA rfl rfl ?_
      refine sA (v := .agg #[.bool (neg (z / m)), .slice A60 (zl (z / m)) c61]) rfl (fun _ henv => rn_load0 henv ty_anvil_integer_Int rfl (hst.oat (k := 1) rfl) rfl) ?_
      intro a henv
      refine seq_step rfl (op_buildSlice (z := 2) (pv := #[(0, .agg #[.bool (neg (z / m)), .slice A60 (zl (z / m)) c61])]) (c := #[.bool (neg (z / m)), .slice A60 (zl (z / m)) c61]) henv hst rfl Tryd.underlying30 (ty_anvil_integer_Int.size) zero_anvil_integer_Int (by decide) (by decide) rfl (by kernel_rfl) ?_)
      clear henv hst a; intro a w76 g75 henv hst
      refine seq_step rfl (op_appendS (k := 4) (j := 0) henv hst rfl Tryd.underlying30 inf_anvil_integer_Int rfl rfl rfl rfl rfl rfl rfl rfl rfl rfl rfl (by unfold maxLen; omega) (by omega) ?_)
      clear henv hst a; intro a w79 g77 c78 henv hst
      rw [show fl fN os ++ (#[.bool (neg (z / m)), .slice A60 (zl (z / m)) c61] : Array Value).toList = fl fN (os ++ [(A60, c61, (z / m))]) from fl_snoc (f := fN) os (A60, c61, (z / m))] at hst
      replace hst := hst.snocEs (e := (A60, c61, (z / m))) (i := 3) (j := 1) rfl rfl
      refine sv (v := .slice (some ⟨g77, 0, none⟩) (j + 1) c78) henv rfl (rn_assign henv rfl) ?_
      clear henv a; intro a henv
      refine wpList_nil ?_
      refine bl_n (th_n ?_)
      refine region_seq ?_
      revert a
      refine sA (v := .int .i64 (j + 1 : Nat)) rfl (fun _ henv => rn_add henv rfl rfl (by rw [IntWalk.i64_in _ (by omega)]; omega)) ?_
      refine mA rfl rfl ?_
      intro a henv
      refine wpList_nil ?_
      exact th_n ⟨_, (by omega), ⟨j + 1, (some ⟨g77, 0, none⟩), c78, (os ++ [(A60, c61, (z / m))]), rfl, henv.sub ⟨rfl, rfl, rfl, rfl, rfl, trivial⟩, hst.pick [4, 5] [0, 5, 6] (by decide), (by omega), (step_div hz0 ho he0), (divs_step hz0 hd he0 hze)⟩⟩
  · have hjn : j = n0 := by have := of_decide_eq_false hc55; omega
    refine wp_exit ?_
    refine th_x (th_x (bl_x (th_n ?_)))
    refine wp_seq ?_
    refine region_seq ?_
    revert a
    refine mA rfl rfl ?_
    refine aA rfl rfl ?_
    refine aA rfl rfl ?_
    intro a henv
    refine wpList_nil ?_
    refine th_n ?_
    refine wp_ret ?_
    refine leave henv (res2 Tryd.results77 (RV.tmp henv rfl) (RV.tmp henv rfl)) ?_
    have hfl : n0 = xs.length := by rw [← hz0, List.length_map]; exact hlen0.symm
    rw [hjn, hfl, List.take_length] at hd
    rw [hjn, take_map_full hfl] at ho
    exact ⟨.inl ⟨hd, _, rfl, ⟨_, _, os, congrArg (fun k => Value.slice _ k _) hjn, (hjn ▸ hst.newRow (k := 0) (j := 0) rfl rfl), map_len ho (by rw [List.length_map]; exact hfl.symm), ho⟩⟩, hst.below⟩
set_option maxRecDepth 100000 in
set_option maxHeartbeats 2000000 in
theorem row_content {A0 : Option Addr} {n0 c0 : Nat} {es0 : List NE} {xs : List Int} {w0 : World} (h0 : (pfRow fN FN 2 A0 n0 c0 es0).P w0) (hz0 : es0.map zz = xs) (hk : Zk 100000 xs) :
    Calls Tryd.prog 81 #[.slice A0 n0 c0] w0 fun e w' => ∃ v, e = .returned v ∧ ZAt w' v (gcdL xs) ∧ Below w0.heap.size w0 w' := by
  have hzb := hk.es hz0
  refine enter Tryd.func81 rfl Tryd.ntmps81 rfl ?_
  intro a henv hst
  have hlen0 := h0.2.1
  have hbig0 := Nat.le_trans h0.1.cap h0.1.big
  unfold maxLen at hbig0
  replace hst := hst.argRow h0
  clear h0
  refine wp_seq ?_
  refine region_seq ?_
  refine seq_step rfl (op_alloc (c := #[.bool (neg 0), .slice none (zl 0) 0]) henv hst rfl zero_anvil_integer_Int zcells ?_)
  clear henv hst a; intro a w52 g51 henv hst
  refine wpList_nil ?_
  refine th_n ?_
  refine wp_scope_straight ?_
  refine wp_seq ?_
  refine region_seq ?_
  refine seq_step rfl (op_alloc (c := #[.bool (neg 0), .slice none (zl 0) 0]) henv hst rfl zero_anvil_integer_Int zcells ?_)
  clear henv hst a; intro a w54 g53 henv hst
  refine wpList_nil ?_
  refine th_n ?_
  refine wp_seq ?_
  refine wp_label ?_
  refine th_n ?_
  refine wp_seq ?_
  refine wp_seq ?_
  refine region_seq ?_
  revert a
  refine mA rfl rfl ?_
  refine sA (v := .int .i64 (n0 : Nat)) rfl (fun _ henv => rn_len henv Tryd.underlying30 rfl) ?_
  refine mA rfl rfl ?_
  intro a henv
  refine wpList_nil ?_
  refine th_n ?_
  refine wp_block ?_
  replace hst := hst.addZ (zin_none _) ⟨nou_bk rfl, nou_bk rfl, trivial⟩
  refine wp_loop_ghost (fun mz a w => ∃ j : Nat, ∃ m : Int, ∃ B : Option Addr, ∃ d : Nat, n0 - j = mz ∧ Env 21 a [(2, .pointer (some ⟨g51, 0, none⟩)), (3, .pointer (some ⟨g53, 0, none⟩)), (6, .slice A0 n0 c0), (7, .int .i64 (n0 : Nat)), (8, .int .i64 (j : Nat))] ∧ St w0 w [bk g53 #[.bool (neg m), .slice B (zl m) d] 36, bk g51 #[.bool (neg 0), .slice none (zl 0) 0] 36] [pfZ B d m, pfRow fN FN 2 A0 n0 c0 es0] ∧ j ≤ n0 ∧ m = gcdL (xs.take j)) _ ⟨0, 0, none, 0, rfl, henv.sub ⟨rfl, rfl, rfl, rfl, rfl, trivial⟩, hst.pick [0, 1] [0, 1] (by decide), (Nat.zero_le _), rfl⟩ ?_
  clear henv hst a
  rintro mz a w55 ⟨j, m, B, d, rfl, henv, hst, hj, hm⟩
  have hms : zl m ≤ 100000 := by rw [hm]; exact zl_gcdL (hk.take j)
  refine wp_seq ?_
  refine region_seq ?_
  refine sv (v := .bool (decide (((j : Nat) : Int) < ((n0 : Nat) : Int)))) henv rfl (rn_bin henv rfl rfl rfl) ?_
  clear henv a; intro a henv
  refine wpList_nil ?_
  refine th_n ?_
  refine wp_seq ?_
  refine if_split henv rfl (fun hc56 => ?_) (fun hc56 => ?_)
  · have hlt : j < n0 := by have := of_decide_eq_true hc56; omega
    obtain ⟨⟨A, c, z⟩, he0⟩ : ∃ e, es0[j]? = some e := ⟨_, List.getElem?_eq_getElem (by omega)⟩
    replace hst := hst.elem (k := 1) rfl he0
    replace hst : St w0 _ [bk g53 #[.bool (neg m), .slice B (zl m) d] 36, bk g51 #[.bool (neg 0), .slice none (zl 0) 0] 36] [pfZ A c z, pfZ B d m, pfRow fN FN 2 A0 n0 c0 es0] := hst
    have hzs := hzb.at he0
    refine wp_skip ?_
    refine th_n ?_
    refine wp_seq ?_
    refine wp_block ?_
    refine wp_seq ?_
    refine region_seq ?_
    revert a
    refine sA (v := .pointer (some ⟨ab A0, ao A0 + j * 2, none⟩)) rfl (fun _ henv => rn_idxR (i := j) henv Tryd.underlying30 (ty_anvil_integer_Int.size) rfl rfl (by omega) rfl (show (pfRow fN FN 2 A0 n0 c0 es0).P _ from (hst.pat (k := 2) rfl)).1) ?_
    refine sA (v := .agg #[.bool (neg z), .slice A (zl z) c]) rfl (fun _ henv => rn_loadE (i := j) (e := (A, c, z)) henv ty_anvil_integer_Int rfl rfl fN_len (show (pfRow fN FN 2 A0 n0 c0 es0).P _ from (hst.pat (k := 2) rfl)).1 (by omega) he0 rfl) ?_
    intro a henv
    refine seq_step rfl (op_alloc (c := #[.bool (neg 0), .slice none (zl 0) 0]) henv hst rfl zero_anvil_integer_Int zcells ?_)
    clear henv hst a; intro a w58 g57 henv hst
    refine seq_step rfl (op_store (k := 0) (c' := #[.bool (neg z), .slice A (zl z) c]) henv hst (ty_anvil_integer_Int.size) rfl rfl rfl rfl (by simp) rfl rfl ?_)
    clear henv hst a; intro a w59 henv hst
    refine wpList_nil ?_
    refine th_n ?_
    refine wp_seq ?_
    refine region_seq ?_
    revert a
    refine sA (v := .agg #[.bool (neg m), .slice B (zl m) d]) rfl (fun _ henv => rn_load0 henv ty_anvil_integer_Int rfl (hst.oat (k := 1) rfl) rfl) ?_
    refine sA (v := .agg #[.bool (neg z), .slice A (zl z) c]) rfl (fun _ henv => rn_load0 henv ty_anvil_integer_Int rfl (hst.oat (k := 0) rfl) rfl) ?_
    intro a henv
    have hs60 := gcd_zq m z
    refine seq_step rfl (op_call henv rfl Tryd.call93 rfl (gcd_z (x := m) (y := z) (show ZIn _ B d m from hst.pat (k := 1) rfl) (show ZIn _ A c z from hst.pat (k := 0) rfl) (by omega) (by omega)) ?_)
    rintro e w64 ⟨_, rfl, ⟨A61, c62, rfl, hz63⟩, hb⟩
    refine ⟨_, rfl, ?_⟩
    clear henv a; intro a henv
    replace hst := (hst.call hb).addZ hz63 ⟨nou_bk rfl, nou_bk rfl, nou_bk rfl, trivial⟩
    clear hz63
    clear hb
    refine seq_step rfl (op_store (k := 1) (c' := #[.bool (neg ((Int.gcd m z : Nat) : Int)), .slice A61 (zl ((Int.gcd m z : Nat) : Int)) c62]) henv hst (ty_anvil_integer_Int.size) rfl rfl rfl rfl (by simp) rfl rfl ?_)
    clear henv hst a; intro a w65 henv hst
    refine wpList_nil ?_
    refine th_n ?_
    refine wp_seq ?_
    refine region_any (n := 4) (Sk [bk g57 #[.bool (neg z), .slice A (zl z) c] 36, bk g53 #[.bool (neg ((Int.gcd m z : Nat) : Int)), .slice A61 (zl ((Int.gcd m z : Nat) : Int)) c62] 36, bk g51 #[.bool (neg 0), .slice none (zl 0) 0] 36] [pfZ A61 c62 ((Int.gcd m z : Nat) : Int), pfZ A c z, pfZ B d m, pfRow fN FN 2 A0 n0 c0 es0] [] []) mixed rfl henv hst ?_
    clear henv hst; intro w66 henv hst
    refine tL (i := 0) 1 1 [2, 3] rfl (by kernel_rfl) (fun _ _ _ h => h) henv rfl ty_anvil_integer_Int rfl hst rfl rfl rfl ?_
    clear henv a; intro a henv
    refine sAny_one (i := 1) (by kernel_rfl) rfl rfl (op_call henv rfl Tryd.call43 rfl (of_z (n := (1 : Int)) (by decide) (by decide)) ?_)
    rintro e w70 ⟨_, rfl, ⟨A67, c68, rfl, hz69⟩, hb⟩
    refine ⟨_, rfl, ?_⟩
    clear henv a; intro a henv
    replace hst := (hst.call hb).addZ hz69 ⟨nou_bk rfl, nou_bk rfl, nou_bk rfl, trivial⟩
    clear hz69
    clear hb
    refine ⟨.inr ⟨hst.kn.pick [0, 1, 2] (rg 1 4), .inr (hst.kn.pick [] [])⟩, ?_⟩
    refine sAny_one (i := 2) (by kernel_rfl) rfl rfl (op_call henv rfl Tryd.call42 rfl (cmp_z (x := ((Int.gcd m z : Nat) : Int)) (y := 1) (show ZIn _ A61 c62 ((Int.gcd m z : Nat) : Int) from hst.pat (k := 1) rfl) (show ZIn _ A67 c68 1 from hst.pat (k := 0) rfl)) ?_)
    rintro e w71 ⟨rfl, hb⟩
    refine ⟨_, rfl, ?_⟩
    clear henv a; intro a henv
    replace hst := hst.call hb
    clear hb
    refine ⟨.inr ⟨hst.kn.pick [0, 1, 2] (rg 1 4), .inr (hst.kn.pick [] [])⟩, ?_⟩
    refine tA (i := 3) [] (v := .bool ((((Int.gcd m z : Nat) : Int) - 1).sign == (0 : Int))) rfl (by kernel_rfl) (fun _ _ _ h => h) henv rfl (fun _ => rn_bin henv rfl rfl rfl) ?_
    clear henv a; intro a henv
    refine sAny_done (by kernel_rfl) ?_ _
    refine th_n ?_
    refine if_split henv rfl (fun hc72 => ?_) (fun hc72 => ?_)
    · have hone : ((Int.gcd m z : Nat) : Int) = 1 := sign_one hc72
      refine wp_exit ?_
      refine bl_o rfl (th_x (th_x (bl_x (th_n ?_))))
      refine wp_seq ?_
      refine region_seq ?_
      refine sv (v := .agg #[.bool (neg ((Int.gcd m z : Nat) : Int)), .slice A61 (zl ((Int.gcd m z : Nat) : Int)) c62]) henv rfl (rn_load0 henv ty_anvil_integer_Int rfl (hst.oat (k := 1) rfl) rfl) ?_
      clear henv a; intro a henv
      refine seq_step rfl (op_store (k := 2) (c' := #[.bool (neg ((Int.gcd m z : Nat) : Int)), .slice A61 (zl ((Int.gcd m z : Nat) : Int)) c62]) henv hst (ty_anvil_integer_Int.size) rfl rfl rfl rfl (by simp) rfl rfl ?_)
      clear henv hst a; intro a w73 henv hst
      refine wpList_nil ?_
      refine th_n ?_
      refine wp_ret ?_
      refine sc_r ?_
      refine leave henv (res1 Tryd.results81 (RV.cell henv ty_anvil_integer_Int rfl (hst.oat (k := 2) rfl) rfl)) ?_
      have hfin : ((Int.gcd m z : Nat) : Int) = gcdL xs := gcd_break hz0 hm he0 hone
      exact ⟨_, rfl, (by rw [← hfin]; exact ⟨_, _, rfl, hst.pat (k := 1) rfl⟩), hst.below⟩
    · refine wp_skip ?_
      refine bl_n (th_n ?_)
      refine region_seq ?_
      revert a
      refine sA (v := .int .i64 (j + 1 : Nat)) rfl (fun _ henv => rn_add henv rfl rfl (by rw [IntWalk.i64_in _ (by omega)]; omega)) ?_
      refine mA rfl rfl ?_
      intro a henv
      refine wpList_nil ?_
      exact th_n ⟨_, (by omega), ⟨j + 1, ((Int.gcd m z : Nat) : Int), A61, c62, rfl, henv.sub ⟨rfl, rfl, rfl, rfl, rfl, trivial⟩, hst.pick [1, 2] [1, 4] (by decide), (by omega), (zgcd_step hz0 hm he0)⟩⟩
  · obtain rfl : j = n0 := by have := of_decide_eq_false hc56; omega
    refine wp_exit ?_
    refine th_x (th_x (bl_x (th_n ?_)))
    refine wp_seq ?_
    refine region_seq ?_
    refine sv (v := .agg #[.bool (neg m), .slice B (zl m) d]) henv rfl (rn_load0 henv ty_anvil_integer_Int rfl (hst.oat (k := 0) rfl) rfl) ?_
    clear henv a; intro a henv
    refine seq_step rfl (op_store (k := 1) (c' := #[.bool (neg m), .slice B (zl m) d]) henv hst (ty_anvil_integer_Int.size) rfl rfl rfl rfl (by simp) rfl rfl ?_)
    clear henv hst a; intro a w74 henv hst
    refine wpList_nil ?_
    refine th_n ?_
    refine wp_ret ?_
    refine sc_r ?_
    refine leave henv (res1 Tryd.results81 (RV.cell henv ty_anvil_integer_Int rfl (hst.oat (k := 1) rfl) rfl)) ?_
    have hfin : m = gcdL xs := by rw [hm, List.take_of_length_le (by rw [← hz0, List.length_map]; omega)]
    exact ⟨_, rfl, (by rw [← hfin]; exact ⟨_, _, rfl, hst.pat (k := 0) rfl⟩), hst.below⟩
set_option maxRecDepth 100000 in
set_option maxHeartbeats 2000000 in
theorem row_prim1 {A : Option Addr} {c : Nat} {z : Int} {w0 : World} (hx : ZIn w0 A c z) :
    Calls Tryd.prog 130 #[.agg #[.bool (neg z), .slice A (zl z) c]] w0 fun e w' => ∃ v, e = .returned v ∧ ZAt w' v z ∧ Below w0.heap.size w0 w' := by
  refine enter Tryd.func130 rfl Tryd.ntmps130 rfl ?_
  intro a henv hst
  replace hst := hst.addZ hx trivial
  refine wp_seq ?_
  refine region_seq ?_
  refine seq_step rfl (op_box (c := #[.bool (neg z), .slice A (zl z) c]) henv hst rfl rfl rfl ?_)
  clear henv hst a; intro a w52 g51 henv hst
  refine seq_step rfl (op_alloc (c := #[.bool (neg 0), .slice none (zl 0) 0]) henv hst rfl zero_anvil_integer_Int zcells ?_)
  clear henv hst a; intro a w54 g53 henv hst
  refine wpList_nil ?_
  refine th_n ?_
  refine wp_seq ?_
  refine region_seq ?_
  refine sv (v := .agg #[.bool (neg z), .slice A (zl z) c]) henv rfl (rn_load0 henv ty_anvil_integer_Int rfl (hst.oat (k := 1) rfl) rfl) ?_
  clear henv a; intro a henv
  refine seq_step rfl (op_store (k := 0) (c' := #[.bool (neg z), .slice A (zl z) c]) henv hst (ty_anvil_integer_Int.size) rfl rfl rfl rfl (by simp) rfl rfl ?_)
  clear henv hst a; intro a w55 henv hst
  refine wpList_nil ?_
  refine th_n ?_
  refine wp_ret ?_
  refine leave henv (res1 Tryd.results130 (RV.cell henv ty_anvil_integer_Int rfl (hst.oat (k := 0) rfl) rfl)) ?_
  exact ⟨_, rfl, ⟨_, _, rfl, hst.pat (k := 0) rfl⟩, hst.below⟩
set_option maxRecDepth 100000 in
set_option maxHeartbeats 8000000 in
theorem row_primitive {A0 : Option Addr} {n0 c0 : Nat} {es0 : List NE} {xs : List Int} {w0 : World} (h0 : (pfRow fN FN 2 A0 n0 c0 es0).P w0) (hz0 : es0.map zz = xs) (hk : Zk 100000 xs) (hn : n0 ≤ 100000000) :
    Calls Tryd.prog 80 #[.slice A0 n0 c0] w0 fun e w' => ∃ v u, e = .returned (.tuple #[v, u]) ∧ ZRow w0.heap.size w' v n0 (prim xs) ∧ ZAt w' u (primN xs) ∧ Below w0.heap.size w0 w' := by
  refine enter Tryd.func80 rfl Tryd.ntmps80 rfl ?_
  intro a henv hst
  have hlen0 := h0.2.1
  have hbig0 := Nat.le_trans h0.1.cap h0.1.big
  unfold maxLen at hbig0
  replace hst := hst.argRow h0
  clear h0
  refine wp_seq ?_
  refine region_seq ?_
  refine sv (v := .slice none 0 0) henv rfl (rn_assign henv rfl) ?_
  clear henv a; intro a henv
  refine seq_step rfl (op_alloc (c := #[.bool (neg 0), .slice none (zl 0) 0]) henv hst rfl zero_anvil_integer_Int zcells ?_)
  clear henv hst a; intro a w52 g51 henv hst
  refine wpList_nil ?_
  refine th_n ?_
  refine wp_seq ?_
  refine region_seq ?_
  refine sv (v := .slice A0 n0 c0) henv rfl (rn_move henv rfl) ?_
  clear henv a; intro a henv
  refine seq_step rfl (op_call henv rfl Tryd.call81 rfl (row_content (hst.pat (k := 0) rfl) hz0 hk) ?_)
  rintro e w56 ⟨_, rfl, ⟨A53, c54, rfl, hz55⟩, hb⟩
  refine ⟨_, rfl, ?_⟩
  clear henv a; intro a henv
  replace hst := (hst.call hb).addZ hz55 ⟨nou_bk rfl, trivial⟩
  clear hz55
  clear hb
  refine seq_step rfl (op_alloc (c := #[.bool (neg 0), .slice none (zl 0) 0]) henv hst rfl zero_anvil_integer_Int zcells ?_)
  clear henv hst a; intro a w58 g57 henv hst
  refine seq_step rfl (op_store (k := 0) (c' := #[.bool (neg (gcdL xs)), .slice A53 (zl (gcdL xs)) c54]) henv hst (ty_anvil_integer_Int.size) rfl rfl rfl rfl (by simp) rfl rfl ?_)
  clear henv hst a; intro a w59 henv hst
  refine wpList_nil ?_
  refine th_n ?_
  refine wp_seq ?_
  refine wp_seq ?_
  refine region_seq ?_
  revert a
  refine mA rfl rfl ?_
  refine sA (v := .int .i64 (n0 : Nat)) rfl (fun _ henv => rn_len henv Tryd.underlying30 rfl) ?_
  refine mA rfl rfl ?_
  intro a henv
  refine wpList_nil ?_
  refine th_n ?_
  refine wp_block ?_
  refine wp_loop_ghost (fun mz a w => ∃ j : Nat, n0 - j = mz ∧ Env 37 a [(0, .slice A0 n0 c0), (3, .pointer (some ⟨g51, 0, none⟩)), (4, .pointer (some ⟨g57, 0, none⟩)), (11, .slice A0 n0 c0), (12, .int .i64 (n0 : Nat)), (13, .int .i64 (j : Nat))] ∧ St w0 w [bk g57 #[.bool (neg (gcdL xs)), .slice A53 (zl (gcdL xs)) c54] 36, bk g51 #[.bool (neg 0), .slice none (zl 0) 0] 36] [pfZ A53 c54 (gcdL xs), pfRow fN FN 2 A0 n0 c0 es0] ∧ j ≤ n0 ∧ ∀ x ∈ xs.take j, x = 0) _ ⟨0, rfl, henv.sub ⟨rfl, rfl, rfl, rfl, rfl, rfl, trivial⟩, hst.pick [0, 1] [0, 1] (by decide), (Nat.zero_le _), (fun _ h => by cases h)⟩ ?_
  clear henv hst a
  rintro mz a w60 ⟨j, rfl, henv, hst, hj, hall⟩
  refine wp_seq ?_
  refine region_seq ?_
  refine sv (v := .bool (decide (((j : Nat) : Int) < ((n0 : Nat) : Int)))) henv rfl (rn_bin henv rfl rfl rfl) ?_
  clear henv a; intro a henv
  refine wpList_nil ?_
  refine th_n ?_
  refine wp_seq ?_
  refine if_split henv rfl (fun hc61 => ?_) (fun hc61 => ?_)
  · have hlt : j < n0 := by have := of_decide_eq_true hc61; omega
    obtain ⟨⟨A, c, z⟩, he0⟩ : ∃ e, es0[j]? = some e := ⟨_, List.getElem?_eq_getElem (by omega)⟩
    replace hst := hst.elem (k := 1) rfl he0
    replace hst : St w0 _ [bk g57 #[.bool (neg (gcdL xs)), .slice A53 (zl (gcdL xs)) c54] 36, bk g51 #[.bool (neg 0), .slice none (zl 0) 0] 36] [pfZ A c z, pfZ A53 c54 (gcdL xs), pfRow fN FN 2 A0 n0 c0 es0] := hst
    refine wp_skip ?_
    refine th_n ?_
    refine wp_seq ?_
    refine wp_block ?_
    refine wp_seq ?_
    refine region_seq ?_
    revert a
    refine sA (v := .pointer (some ⟨ab A0, ao A0 + j * 2, none⟩)) rfl (fun _ henv => rn_idxR (i := j) henv Tryd.underlying30 (ty_anvil_integer_Int.size) rfl rfl (by omega) rfl (show (pfRow fN FN 2 A0 n0 c0 es0).P _ from (hst.pat (k := 2) rfl)).1) ?_
    refine sA (v := .agg #[.bool (neg z), .slice A (zl z) c]) rfl (fun _ henv => rn_loadE (i := j) (e := (A, c, z)) henv ty_anvil_integer_Int rfl rfl fN_len (show (pfRow fN FN 2 A0 n0 c0 es0).P _ from (hst.pat (k := 2) rfl)).1 (by omega) he0 rfl) ?_
    intro a henv
    refine seq_step rfl (op_alloc (c := #[.bool (neg 0), .slice none (zl 0) 0]) henv hst rfl zero_anvil_integer_Int zcells ?_)
    clear henv hst a; intro a w63 g62 henv hst
    refine seq_step rfl (op_store (k := 0) (c' := #[.bool (neg z), .slice A (zl z) c]) henv hst (ty_anvil_integer_Int.size) rfl rfl rfl rfl (by simp) rfl rfl ?_)
    clear henv hst a; intro a w64 henv hst
    refine wpList_nil ?_
    refine th_n ?_
    refine wp_seq ?_
    refine wp_seq ?_
    refine region_seq ?_
    refine sv (v := .agg #[.bool (neg z), .slice A (zl z) c]) henv rfl (rn_load0 henv ty_anvil_integer_Int rfl (hst.oat (k := 0) rfl) rfl) ?_
    clear henv a; intro a henv
    refine seq_step rfl (op_call henv rfl Tryd.call31 rfl (sign_z (z := z)) ?_)
    rintro e w65 ⟨rfl, hb⟩
    refine ⟨_, rfl, ?_⟩
    clear henv a; intro a henv
    replace hst := hst.call hb
    clear hb
    refine sv (v := .bool (z.sign == (0 : Int))) henv rfl (rn_bin henv rfl rfl rfl) ?_
    clear henv a; intro a henv
    refine wpList_nil ?_
    refine th_n ?_
    refine if_split henv rfl (fun hc66 => ?_) (fun hc66 => ?_)
    · have hzz : z = 0 := sign_eq1 hc66
      refine wp_exit ?_
      refine th_x (bl_x (th_n ?_))
      refine region_seq ?_
      revert a
      refine sA (v := .int .i64 (j + 1 : Nat)) rfl (fun _ henv => rn_add henv rfl rfl (by rw [IntWalk.i64_in _ (by omega)]; omega)) ?_
      refine mA rfl rfl ?_
      intro a henv
      refine wpList_nil ?_
      exact th_n ⟨_, (by omega), ⟨j + 1, rfl, henv.sub ⟨rfl, rfl, rfl, rfl, rfl, rfl, trivial⟩, hst.pick [1, 2] [1, 2] (by decide), (by omega), (zero_step hz0 hall he0 hzz)⟩⟩
    · have hnz : z ≠ 0 := sign_ne1 hc66
      have hlead := lead_at hall (at_zs hz0 he0) hnz
      refine wp_skip ?_
      refine th_n ?_
      refine wp_seq ?_
      refine wp_seq ?_
      refine region_seq ?_
      refine sv (v := .agg #[.bool (neg z), .slice A (zl z) c]) henv rfl (rn_load0 henv ty_anvil_integer_Int rfl (hst.oat (k := 0) rfl) rfl) ?_
      clear henv a; intro a henv
      refine seq_step rfl (op_call henv rfl Tryd.call31 rfl (sign_z (z := z)) ?_)
      rintro e w67 ⟨rfl, hb⟩
      refine ⟨_, rfl, ?_⟩
      clear henv a; intro a henv
      replace hst := hst.call hb
      clear hb
      refine sv (v := .bool (decide (z.sign < (0 : Int)))) henv rfl (rn_bin henv rfl rfl rfl) ?_
      clear henv a; intro a henv
      refine wpList_nil ?_
      refine th_n ?_
      refine if_split henv rfl (fun hc68 => ?_) (fun hc68 => ?_)
      · have hp : -gcdL xs = primN xs := prim_neg hlead (of_decide_eq_true hc68)
        have hp0 := lead_ne ⟨z, mem_zs hz0 he0, hnz⟩
        refine region_seq ?_
        refine sv (v := .agg #[.bool (neg (gcdL xs)), .slice A53 (zl (gcdL xs)) c54]) henv rfl (rn_load0 henv ty_anvil_integer_Int rfl (hst.oat (k := 1) rfl) rfl) ?_
        clear henv a; intro a henv
        have hs69 := zl_neg (gcdL xs)
        refine seq_step rfl (op_call henv rfl Tryd.call103 rfl (neg_z (z := (gcdL xs)) (show ZIn _ A53 c54 (gcdL xs) from hst.pat (k := 1) rfl)) ?_)
        rintro e w73 ⟨_, rfl, ⟨A70, c71, rfl, hz72⟩, hb⟩
        refine ⟨_, rfl, ?_⟩
        clear henv a; intro a henv
        replace hst := (hst.call hb).addZ hz72 ⟨nou_bk rfl, nou_bk rfl, nou_bk rfl, trivial⟩
        clear hz72
        clear hb
        refine seq_step rfl (op_store (k := 1) (c' := #[.bool (neg (-(gcdL xs))), .slice A70 (zl (-(gcdL xs))) c71]) henv hst (ty_anvil_integer_Int.size) rfl rfl rfl rfl (by simp) rfl rfl ?_)
        clear henv hst a; intro a w74 henv hst
        refine wpList_nil ?_
        refine th_n ?_
        refine wp_seq ?_
        refine region_seq ?_
        revert a
        refine mA rfl rfl ?_
        refine sA (v := .agg #[.bool (neg (-(gcdL xs))), .slice A70 (zl (-(gcdL xs))) c71]) rfl (fun _ henv => rn_load0 henv ty_anvil_integer_Int rfl (hst.oat (k := 1) rfl) rfl) ?_
        intro a henv
        refine seq_step rfl (op_call henv rfl Tryd.call77 rfl (over_known (row_over (m := -(gcdL xs)) (hst.pat (k := 3) rfl) hz0 (show ZIn _ A70 c71 (-(gcdL xs)) from hst.pat (k := 0) rfl) (by have := zl_gcdL hk; (try rw [zl_neg]); omega) (by omega) hk (by omega)) (by rw [hp]; exact divs_prim xs)) ?_)
        rintro e w81 ⟨_, rfl, ⟨A75, c76, es77, rfl, hr, hl78, hz79⟩, hb⟩
        refine ⟨_, rfl, ?_⟩
        clear henv a; intro a henv
        replace hst := hst.freshRow hb hr (ap_N hr.2.1 ⟨nou_rowS, ⟨nou_bk rfl, nou_bk rfl, nou_bk rfl, trivial⟩⟩)
        clear hr
        clear hb
        revert a
        refine mA rfl rfl ?_
        refine sA (v := .slice A75 n0 c76) rfl (fun _ henv => rn_extract henv rfl rfl) ?_
        refine sA (v := .int .i64 0) rfl (fun _ henv => rn_extract henv rfl rfl) ?_
        refine aA rfl rfl ?_
        refine aA rfl rfl ?_
        intro a henv
        refine wpList_nil ?_
        refine th_n ?_
        refine wp_seq ?_
        refine region_any (n := 4) (Sk [rowS notU 36 2 A75 n0 c76 (fl fN es77), bk g62 #[.bool (neg z), .slice A (zl z) c] 36, bk g57 #[.bool (neg (-(gcdL xs))), .slice A70 (zl (-(gcdL xs))) c71] 36] [pfEs FN es77, pfZ A70 c71 (-(gcdL xs)), pfZ A c z, pfZ A53 c54 (gcdL xs), pfRow fN FN 2 A0 n0 c0 es0] [3] []) mixed rfl henv hst ?_
        clear henv hst; intro w82 henv hst
        refine tM (i := 0) [2, 3] rfl (by kernel_rfl) (fun _ _ _ h => h) henv rfl rfl ?_
        clear henv a; intro a henv
        refine tL (i := 1) 2 2 [3] rfl (by kernel_rfl) (fun _ _ _ h => h) henv rfl ty_anvil_integer_Int rfl hst rfl rfl rfl ?_
        clear henv a; intro a henv
        refine tA (i := 2) [3] (v := .slice A75 n0 c76) rfl (by kernel_rfl) (fun _ _ _ h => h) henv rfl (fun _ => rn_assign henv rfl) ?_
        clear henv a; intro a henv
        refine sAny_one (i := 3) (by kernel_rfl) rfl rfl (op_store (k := 3) (c' := #[.bool (neg (-(gcdL xs))), .slice A70 (zl (-(gcdL xs))) c71]) henv hst (ty_anvil_integer_Int.size) rfl rfl rfl rfl (by simp) rfl rfl ?_)
        clear henv hst a; intro a w83 henv hst
        refine ⟨.inr ⟨hst.kn.pick [0, 1, 2] (rg 0 5), .inl rfl⟩, ?_⟩
        refine sAny_done (by kernel_rfl) ?_ _
        refine th_n ?_
        refine wp_ret ?_
        refine bl_r (th_r (th_r (bl_r (th_r ?_))))
        refine leave henv (res2 Tryd.results80 (RV.tmp henv rfl) (RV.cell henv ty_anvil_integer_Int rfl (hst.oat (k := 3) rfl) rfl)) ?_
        exact ⟨_, _, rfl, ⟨_, _, _, rfl, hst.newRow (k := 0) (j := 0) rfl rfl, hl78, (hz79.trans (by unfold prim; rw [← hp]))⟩, (by rw [← hp]; exact ⟨_, _, rfl, hst.pat (k := 1) rfl⟩), hst.below⟩
      · have hp : gcdL xs = primN xs := prim_pos hlead (of_decide_eq_false hc68)
        have hp0 := lead_ne ⟨z, mem_zs hz0 he0, hnz⟩
        refine wp_skip ?_
        refine th_n ?_
        refine wp_seq ?_
        refine region_seq ?_
        revert a
        refine mA rfl rfl ?_
        refine sA (v := .agg #[.bool (neg (gcdL xs)), .slice A53 (zl (gcdL xs)) c54]) rfl (fun _ henv => rn_load0 henv ty_anvil_integer_Int rfl (hst.oat (k := 1) rfl) rfl) ?_
        intro a henv
        refine seq_step rfl (op_call henv rfl Tryd.call77 rfl (over_known (row_over (m := (gcdL xs)) (hst.pat (k := 2) rfl) hz0 (show ZIn _ A53 c54 (gcdL xs) from hst.pat (k := 1) rfl) (by have := zl_gcdL hk; (try rw [zl_neg]); omega) (by omega) hk (by omega)) (by rw [hp]; exact divs_prim xs)) ?_)
        rintro e w90 ⟨_, rfl, ⟨A84, c85, es86, rfl, hr, hl87, hz88⟩, hb⟩
        refine ⟨_, rfl, ?_⟩
        clear henv a; intro a henv
        replace hst := hst.freshRow hb hr (ap_N hr.2.1 ⟨nou_rowS, ⟨nou_bk rfl, nou_bk rfl, nou_bk rfl, trivial⟩⟩)
        clear hr
        clear hb
        revert a
        refine mA rfl rfl ?_
        refine sA (v := .slice A84 n0 c85) rfl (fun _ henv => rn_extract henv rfl rfl) ?_
        refine sA (v := .int .i64 0) rfl (fun _ henv => rn_extract henv rfl rfl) ?_
        refine aA rfl rfl ?_
        refine aA rfl rfl ?_
        intro a henv
        refine wpList_nil ?_
        refine th_n ?_
        refine wp_seq ?_
        refine region_any (n := 4) (Sk [rowS notU 36 2 A84 n0 c85 (fl fN es86), bk g62 #[.bool (neg z), .slice A (zl z) c] 36, bk g57 #[.bool (neg (gcdL xs)), .slice A53 (zl (gcdL xs)) c54] 36] [pfEs FN es86, pfZ A c z, pfZ A53 c54 (gcdL xs), pfRow fN FN 2 A0 n0 c0 es0] [3] []) mixed rfl henv hst ?_
        clear henv hst; intro w91 henv hst
        refine tM (i := 0) [2, 3] rfl (by kernel_rfl) (fun _ _ _ h => h) henv rfl rfl ?_
        clear henv a; intro a henv
        refine tL (i := 1) 2 2 [3] rfl (by kernel_rfl) (fun _ _ _ h => h) henv rfl ty_anvil_integer_Int rfl hst rfl rfl rfl ?_
        clear henv a; intro a henv
        refine tA (i := 2) [3] (v := .slice A84 n0 c85) rfl (by kernel_rfl) (fun _ _ _ h => h) henv rfl (fun _ => rn_assign henv rfl) ?_
        clear henv a; intro a henv
        refine sAny_one (i := 3) (by kernel_rfl) rfl rfl (op_store (k := 3) (c' := #[.bool (neg (gcdL xs)), .slice A53 (zl (gcdL xs)) c54]) henv hst (ty_anvil_integer_Int.size) rfl rfl rfl rfl (by simp) rfl rfl ?_)
        clear henv hst a; intro a w92 henv hst
        refine ⟨.inr ⟨hst.kn.pick [0, 1, 2] (rg 0 4), .inl rfl⟩, ?_⟩
        refine sAny_done (by kernel_rfl) ?_ _
        refine th_n ?_
        refine wp_ret ?_
        refine bl_r (th_r (th_r (bl_r (th_r ?_))))
        refine leave henv (res2 Tryd.results80 (RV.tmp henv rfl) (RV.cell henv ty_anvil_integer_Int rfl (hst.oat (k := 3) rfl) rfl)) ?_
        exact ⟨_, _, rfl, ⟨_, _, _, rfl, hst.newRow (k := 0) (j := 0) rfl rfl, hl87, (hz88.trans (by unfold prim; rw [← hp]))⟩, (by rw [← hp]; exact ⟨_, _, rfl, hst.pat (k := 2) rfl⟩), hst.below⟩
  · have hjn : j = n0 := by have := of_decide_eq_false hc61; omega
    have hfl : n0 = xs.length := by rw [← hz0, List.length_map]; exact hlen0.symm
    rw [hjn, hfl, List.take_length] at hall
    have hg0 : gcdL xs = primN xs := by rw [gcdL_zero hall, primN_zero hall]
    refine wp_exit ?_
    refine th_x (th_x (bl_x (th_n ?_)))
    refine wp_seq ?_
    refine region_any (n := 5) (Sk [bk g57 #[.bool (neg (gcdL xs)), .slice A53 (zl (gcdL xs)) c54] 36] [pfZ A53 c54 (gcdL xs), pfRow fN FN 2 A0 n0 c0 es0] [4] []) mixed rfl henv hst ?_
    clear henv hst; intro w93 henv hst
    refine tM (i := 0) [1, 3, 4] rfl (by kernel_rfl) (fun _ _ _ h => h) henv rfl rfl ?_
    clear henv a; intro a henv
    refine tL (i := 2) 0 0 [4] rfl (by kernel_rfl) (fun _ _ _ h => h) henv rfl ty_anvil_integer_Int rfl hst rfl rfl rfl ?_
    clear henv a; intro a henv
    refine sAny_one (i := 1) (by kernel_rfl) rfl rfl (op_call henv rfl Tryd.call102 rfl (row_each (E := pfT0) (g := (fun x => x)) (first := #[]) (caps := #[]) (hst.pat (k := 1) rfl) trivial Tryd.call130 (fun _ _ _ _ _ _ _ hx => calls_app (by simp) (row_prim1 hx)) hn) ?_)
    rintro e w100 ⟨_, rfl, ⟨A94, c95, es96, rfl, hr, hl97, hz98⟩, hb⟩
    refine ⟨_, rfl, ?_⟩
    clear henv a; intro a henv
    replace hst := hst.freshRow hb hr (ap_N hr.2.1 ⟨nou_rowS, ⟨nou_bk rfl, nou_bk rfl, trivial⟩⟩)
    clear hr
    clear hb
    refine ⟨.inr ⟨hst.kn.pick [1] [1, 2], .inr (hst.kn.pick [] [])⟩, ?_⟩
    refine tA (i := 3) [4] (v := .slice A94 n0 c95) rfl (by kernel_rfl) (fun _ _ _ h => h) henv rfl (fun _ => rn_assign henv rfl) ?_
    clear henv a; intro a henv
    refine sAny_one (i := 4) (by kernel_rfl) rfl rfl (op_store (k := 2) (c' := #[.bool (neg (gcdL xs)), .slice A53 (zl (gcdL xs)) c54]) henv hst (ty_anvil_integer_Int.size) rfl rfl rfl rfl (by simp) rfl rfl ?_)
    clear henv hst a; intro a w101 henv hst
    refine ⟨.inr ⟨hst.kn.pick [1] [1, 2], .inl rfl⟩, ?_⟩
    refine sAny_done (by kernel_rfl) ?_ _
    refine th_n ?_
    refine wp_ret ?_
    refine leave henv (res2 Tryd.results80 (RV.tmp henv rfl) (RV.cell henv ty_anvil_integer_Int rfl (hst.oat (k := 2) rfl) rfl)) ?_
    exact ⟨_, _, rfl, ⟨_, _, _, rfl, hst.newRow (k := 0) (j := 0) rfl rfl, hl97, (hz98.trans (by rw [List.map_id', hz0, prim_zero hall]))⟩, (by rw [← hg0]; exact ⟨_, _, rfl, hst.pat (k := 1) rfl⟩), hst.below⟩
end Go.Proofs.YtegglooojlheoaaDoor.W

/- RowSums: the law's walk. Printed by pv/gen_rowA.py. No condition. -/
namespace Go.Proofs.YtegglooojlheoaaDoor.W
open Go.RowKit Anv Go.Lib
theorem Zk.zb {k : Nat} {es : List NE} (h : Zk k (es.map zz)) : ZB k es := h.es rfl
theorem row_add' {A0 A1 : Option Addr} {n0 c0 c1 : Nat} {es0 es1 : List NE} {xs ys : List Int} {w0 : World} (h0 : (pfRow fN FN 2 A0 n0 c0 es0).P w0) (hz0 : es0.map zz = xs) (h1 : (pfRow fN FN 2 A1 n0 c1 es1).P w0) (hz1 : es1.map zz = ys) (hk0 : Zk 500000 xs) (hk1 : Zk 500000 ys) (hn : n0 ≤ 100000000) :
    Calls Tryd.prog 21 #[.slice A0 n0 c0, .slice A1 n0 c1] w0 fun e w' => ∃ v, e = .returned (.tuple #[v, .int .i64 0]) ∧ ZRow w0.heap.size w' v n0 (List.zipWith (· + ·) xs ys) ∧ Below w0.heap.size w0 w' := by
  subst hz0 hz1
  exact row_add h0 h1 hk0.zb hk1.zb hn
theorem abs_sum {k : Nat} : ∀ {zs : List Int}, Zk k zs → (sumL zs).natAbs ≤ zs.length * 4294967296 ^ k
  | [], _ => Nat.zero_le _
  | z :: zs, h => by
    have h1 := abs_sum (zs := zs) fun x hx => h x (List.mem_cons_of_mem _ hx)
    have h2 := lt32_zl (h z (List.mem_cons_self ..))
    have h3 := Int.natAbs_add_le z (sumL zs)
    rw [sumL_cons, List.length_cons, Nat.succ_mul]
    omega
theorem zl_sum1 {k : Nat} {zs : List Int} (h : Zk k zs) (hl : zs.length < 4294967296) : zl (sumL zs) ≤ k + 1 := by
  refine nl_le_of_lt (Nat.lt_of_le_of_lt (abs_sum h) ?_)
  rw [Nat.pow_succ, Nat.mul_comm]
  exact Nat.mul_lt_mul_of_pos_left hl (Nat.pow_pos (by decide))
end Go.Proofs.YtegglooojlheoaaDoor.W

/- RowModule: the law's walk. Printed by pv/gen_rowB.py. No condition. -/
namespace Go.Proofs.YtegglooojlheoaaDoor.W
open Go.RowKit Anv Go.Lib
theorem row_same_t {A0 A1 : Option Addr} {n0 c0 n1 c1 : Nat} {es0 es1 : List NE} {xs : List Int} {w0 : World} (h0 : (pfRow fN FN 2 A0 n0 c0 es0).P w0) (hz0 : es0.map zz = xs) (h1 : (pfRow fN FN 2 A1 n1 c1 es1).P w0) (hz1 : es1.map zz = xs) :
    Calls Tryd.prog 45 #[.slice A0 n0 c0, .slice A1 n1 c1] w0 fun e w' => e = .returned (.bool true) ∧ Below w0.heap.size w0 w' := by
  have h := row_same h0 h1
  rw [hz0, hz1, cmpR_eq rfl rfl] at h
  exact h
theorem zl_add1 {x y : Int} {k : Nat} (h1 : zl x ≤ k) (h2 : zl y ≤ k) : zl (x + y) ≤ k + 1 := by
  have h := add_lt32 (lt32_zl h1) (lt32_zl h2)
  rw [Nat.max_self] at h
  exact nl_le_of_lt h
theorem zl_dot {xs ys : List Int} {j k : Nat} (hk0 : Zk j xs) (hk1 : Zk k ys) (hn : xs.length ≤ 300) : zl (dotL xs ys) ≤ j + k + 1 := by
  have hz : Zk (j + k) (List.zipWith (· * ·) xs ys) := hk0.zip hk1 fun x y h1 h2 => Nat.le_trans (zl_mul x y) (by omega)
  exact zl_sum1 hz (by rw [List.length_zipWith]; omega)
theorem sub_sign0 {x y : Int} (h : x = y) : ((x - y).sign == 0) = true := by rw [h, Int.sub_self]; rfl
theorem prim_le1 (xs : List Int) : decide ((gcdL (prim xs) - 1).sign ≤ 0) = true := by
  rcases gcd_prim_cases xs with ⟨_, h⟩ | ⟨_, h⟩ <;> rw [h] <;> rfl
theorem prim_sign (xs : List Int) : ((gcdL (prim xs)).sign == (gcdL xs).sign) = true := by
  rcases gcd_prim_cases xs with ⟨h1, h⟩ | ⟨h1, h⟩
  · rw [h, h1]; rfl
  · rw [h, Int.sign_eq_one_of_pos h1]; rfl
set_option maxRecDepth 100000 in
set_option maxHeartbeats 8000000 in
theorem rmodule_eq {A0 A1 A2 A3 : Option Addr} {n0 c0 c1 n2 c2 n3 c3 : Nat} {es0 es1 : List UE} {b2 b3 : Bool} {xs2 xs3 : List Nat} {z2 z3 : Int} {w0 : World} (h0 : (pfRow fU FU 2 A0 n0 c0 es0).P w0) (hn0 : n0 ≤ 35184372088832) (hs0 : Sz es0) (h1 : (pfRow fU FU 2 A1 n0 c1 es1).P w0) (hn1 : n0 ≤ 35184372088832) (hs1 : Sz es1) (h2 : U32 w0 A2 n2 c2 xs2) (hn2 : n2 ≤ 35184372088832) (h3 : U32 w0 A3 n3 c3 xs3) (hn3 : n3 ≤ 35184372088832) (hv2 : sg b2 (val 4294967296 xs2) = z2) (hv3 : sg b3 (val 4294967296 xs3) = z3) :
    Calls Tryd.prog 13 #[.agg #[.slice A0 n0 c0, .slice A1 n0 c1, .bool b2, .slice A2 n2 c2, .bool b3, .slice A3 n3 c3]] w0 fun e w' => e = .returned (.bool true) ∧ Below w0.heap.size w0 w' := by
  refine enter Tryd.func13 rfl Tryd.ntmps13 rfl ?_
  intro a henv hst
  replace hst := (((hst.argRow h0).argRow h1).addU h2 trivial).addU h3 trivial
  clear h0 h1 h2 h3
  replace hst : St w0 _ [] [pfU A3 n3 c3 xs3, pfU A2 n2 c2 xs2, pfRow fU FU 2 A1 n0 c1 es1, pfRow fU FU 2 A0 n0 c0 es0] := hst
  refine wp_seq ?_
  refine region_seq ?_
  refine seq_step rfl (op_box (c := #[.slice A0 n0 c0, .slice A1 n0 c1, .bool b2, .slice A2 n2 c2, .bool b3, .slice A3 n3 c3]) henv hst rfl rfl rfl ?_)
  clear henv hst a; intro a w52 g51 henv hst
  refine sv (v := .bool false) henv rfl (rn_assign henv rfl) ?_
  clear henv a; intro a henv
  refine wpList_nil ?_
  refine th_n ?_
  refine wp_seq ?_
  refine wp_seq ?_
  refine region_seq ?_
  refine seq_step rfl (op_call henv rfl Tryd.call16 rfl (row_live) ?_)
  rintro e w53 ⟨rfl, hb⟩
  refine ⟨_, rfl, ?_⟩
  clear henv a; intro a henv
  replace hst := hst.call hb
  clear hb
  refine sv (v := .bool false) henv rfl (rn_un henv rfl rfl) ?_
  clear henv a; intro a henv
  refine wpList_nil ?_
  refine th_n ?_
  refine if_f henv rfl (rfl) ?_
  refine wp_skip ?_
  refine th_n ?_
  refine wp_seq ?_
  refine cut (fun a w => ∃ g55 : Nat, ∃ g57 : Nat, Env 206 a [(0, .agg #[.slice A0 n0 c0, .slice A1 n0 c1, .bool b2, .slice A2 n2 c2, .bool b3, .slice A3 n3 c3]), (2, .bool false), (28, .bool true), (29, .bool false), (5, .pointer (some ⟨g55, 0, none⟩)), (6, .pointer (some ⟨g57, 0, none⟩)), (3, .slice A0 n0 c0), (4, .slice A1 n0 c1)] ∧ St w0 w [bk g57 #[.bool b3, .slice A3 n3 c3] 25, bk g55 #[.bool b2, .slice A2 n2 c2] 25, bk g51 #[.slice A0 n0 c0, .slice A1 n0 c1, .bool b2, .slice A2 n2 c2, .bool b3, .slice A3 n3 c3] 27] [pfU A3 n3 c3 xs3, pfU A2 n2 c2 xs2, pfRow fU FU 2 A1 n0 c1 es1, pfRow fU FU 2 A0 n0 c0 es0]) ?_ ?_
  · refine region_any (n := 14) (Sk [bk g51 #[.slice A0 n0 c0, .slice A1 n0 c1, .bool b2, .slice A2 n2 c2, .bool b3, .slice A3 n3 c3] 27] [pfU A3 n3 c3 xs3, pfU A2 n2 c2 xs2, pfRow fU FU 2 A1 n0 c1 es1, pfRow fU FU 2 A0 n0 c0 es0] [12, 13] []) mixed rfl henv hst ?_
    clear henv hst; intro w54 henv hst
    refine tA (i := 0) [1, 10, 11, 12, 13] (v := .pointer (some ⟨g51, 0, none⟩)) rfl (by kernel_rfl) (fun _ _ _ h => h) henv rfl (fun _ => rn_fieldAddr henv fd_anvil_anvillaw04_Two_0 (ty__anvillaw04_Num.size) (by decide) rfl) ?_
    clear henv a; intro a henv
    refine sAny_take (i := 1) [10, 11, 12, 13] (fun w' => w'.heap[g51]? = some (.cells #[.slice A0 n0 c0, .slice A1 n0 c1, .bool b2, .slice A2 n2 c2, .bool b3, .slice A3 n3 c3] 27 (0, 0))) (v := .slice A0 n0 c0) rfl (by kernel_rfl) (fun _ _ _ h => h) (fun _ _ _ hS => hS.1.oat (k := 0) rfl) henv rfl (hst.oat (k := 0) rfl) (fun w' hg => rn_load1 henv ty__anvillaw04_Num rfl hg rfl) ?_
    clear henv a; intro a henv
    refine tA (i := 2) [3, 11, 12, 13] (v := .pointer (some ⟨g51, 1, none⟩)) rfl (by kernel_rfl) (fun _ _ _ h => h) henv rfl (fun _ => rn_fieldAddr henv fd_anvil_anvillaw04_Two_1 (ty__anvillaw04_Num.size) (by decide) rfl) ?_
    clear henv a; intro a henv
    refine sAny_take (i := 3) [11, 12, 13] (fun w' => w'.heap[g51]? = some (.cells #[.slice A0 n0 c0, .slice A1 n0 c1, .bool b2, .slice A2 n2 c2, .bool b3, .slice A3 n3 c3] 27 (0, 0))) (v := .slice A1 n0 c1) rfl (by kernel_rfl) (fun _ _ _ h => h) (fun _ _ _ hS => hS.1.oat (k := 0) rfl) henv rfl (hst.oat (k := 0) rfl) (fun w' hg => rn_load1 henv ty__anvillaw04_Num rfl hg rfl) ?_
    clear henv a; intro a henv
    refine tA (i := 4) [5, 12, 13] (v := .pointer (some ⟨g51, 2, none⟩)) rfl (by kernel_rfl) (fun _ _ _ h => h) henv rfl (fun _ => rn_fieldAddr henv fd_anvil_anvillaw04_Two_2 (ty_anvil_anvillaw04_Num.size) (by decide) rfl) ?_
    clear henv a; intro a henv
    refine sAny_take (i := 5) [12, 13] (fun w' => w'.heap[g51]? = some (.cells #[.slice A0 n0 c0, .slice A1 n0 c1, .bool b2, .slice A2 n2 c2, .bool b3, .slice A3 n3 c3] 27 (0, 0))) (v := .agg #[.bool b2, .slice A2 n2 c2]) rfl (by kernel_rfl) (fun _ _ _ h => h) (fun _ _ _ hS => hS.1.oat (k := 0) rfl) henv rfl (hst.oat (k := 0) rfl) (fun w' hg => rn_load henv ty_anvil_anvillaw04_Num rfl hg rfl rfl) ?_
    clear henv a; intro a henv
    refine tA (i := 6) [7, 13] (v := .pointer (some ⟨g51, 4, none⟩)) rfl (by kernel_rfl) (fun _ _ _ h => h) henv rfl (fun _ => rn_fieldAddr henv fd_anvil_anvillaw04_Two_3 (ty_anvil_anvillaw04_Num.size) (by decide) rfl) ?_
    clear henv a; intro a henv
    refine sAny_take (i := 7) [13] (fun w' => w'.heap[g51]? = some (.cells #[.slice A0 n0 c0, .slice A1 n0 c1, .bool b2, .slice A2 n2 c2, .bool b3, .slice A3 n3 c3] 27 (0, 0))) (v := .agg #[.bool b3, .slice A3 n3 c3]) rfl (by kernel_rfl) (fun _ _ _ h => h) (fun _ _ _ hS => hS.1.oat (k := 0) rfl) henv rfl (hst.oat (k := 0) rfl) (fun w' hg => rn_load henv ty_anvil_anvillaw04_Num rfl hg rfl rfl) ?_
    clear henv a; intro a henv
    refine sAny_all (rs := [8, 9]) (by kernel_rfl) (by simp) ?_
    simp only [List.forall_mem_cons, List.not_mem_nil, false_implies, implies_true, and_true]
    refine ⟨?_, ?_⟩
    · refine ⟨_, rfl, rfl, op_alloc (c := #[.bool false, .slice none 0 0]) henv hst rfl zero_anvil_anvillaw04_Num rfl ?_⟩
      clear henv hst a; intro a w56 g55 henv hst
      refine ⟨.inr ⟨hst.kn.pick [1] (rg 0 4), .inr (hst.kn.pick [] [])⟩, ?_⟩
      refine sAny_one (i := 9) (by kernel_rfl) rfl rfl (op_alloc (c := #[.bool false, .slice none 0 0]) henv hst rfl zero_anvil_anvillaw04_Num rfl ?_)
      clear henv hst a; intro a w58 g57 henv hst
      refine ⟨.inr ⟨hst.kn.pick [2] (rg 0 4), .inr (hst.kn.pick [] [])⟩, ?_⟩
      refine tA (i := 10) [11, 12, 13] (v := .slice A0 n0 c0) rfl (by kernel_rfl) (fun _ _ _ h => h) henv rfl (fun _ => rn_assign henv rfl) ?_
      clear henv a; intro a henv
      refine tA (i := 11) [12, 13] (v := .slice A1 n0 c1) rfl (by kernel_rfl) (fun _ _ _ h => h) henv rfl (fun _ => rn_assign henv rfl) ?_
      clear henv a; intro a henv
      refine sAny_one (i := 12) (by kernel_rfl) rfl rfl (op_store (k := 1) (c' := #[.bool b2, .slice A2 n2 c2]) henv hst (ty_anvil_anvillaw04_Num.size) rfl rfl rfl rfl (by simp) rfl rfl ?_)
      clear henv hst a; intro a w59 henv hst
      refine ⟨.inr ⟨hst.kn.pick [2] (rg 0 4), .inl rfl⟩, ?_⟩
      refine sAny_one (i := 13) (by kernel_rfl) rfl rfl (op_store (k := 0) (c' := #[.bool b3, .slice A3 n3 c3]) henv hst (ty_anvil_anvillaw04_Num.size) rfl rfl rfl rfl (by simp) rfl rfl ?_)
      clear henv hst a; intro a w60 henv hst
      refine ⟨.inr ⟨hst.kn.pick [2] (rg 0 4), .inl rfl⟩, ?_⟩
      refine sAny_done (by kernel_rfl) ?_ _
      exact th_n ⟨g55, g57, henv.sub ⟨rfl, rfl, rfl, rfl, rfl, rfl, rfl, rfl, trivial⟩, hst.pick [0, 1, 2] [0, 1, 2, 3] (by decide)⟩
    · refine ⟨_, rfl, rfl, op_alloc (c := #[.bool false, .slice none 0 0]) henv hst rfl zero_anvil_anvillaw04_Num rfl ?_⟩
      clear henv hst a; intro a w62 g61 henv hst
      refine ⟨.inr ⟨hst.kn.pick [1] (rg 0 4), .inr (hst.kn.pick [] [])⟩, ?_⟩
      refine sAny_one (i := 8) (by kernel_rfl) rfl rfl (op_alloc (c := #[.bool false, .slice none 0 0]) henv hst rfl zero_anvil_anvillaw04_Num rfl ?_)
      clear henv hst a; intro a w64 g63 henv hst
      refine ⟨.inr ⟨hst.kn.pick [2] (rg 0 4), .inr (hst.kn.pick [] [])⟩, ?_⟩
      refine tA (i := 10) [11, 12, 13] (v := .slice A0 n0 c0) rfl (by kernel_rfl) (fun _ _ _ h => h) henv rfl (fun _ => rn_assign henv rfl) ?_
      clear henv a; intro a henv
      refine tA (i := 11) [12, 13] (v := .slice A1 n0 c1) rfl (by kernel_rfl) (fun _ _ _ h => h) henv rfl (fun _ => rn_assign henv rfl) ?_
      clear henv a; intro a henv
      refine sAny_one (i := 12) (by kernel_rfl) rfl rfl (op_store (k := 0) (c' := #[.bool b2, .slice A2 n2 c2]) henv hst (ty_anvil_anvillaw04_Num.size) rfl rfl rfl rfl (by simp) rfl rfl ?_)
      clear henv hst a; intro a w65 henv hst
      refine ⟨.inr ⟨hst.kn.pick [2] (rg 0 4), .inl rfl⟩, ?_⟩
      refine sAny_one (i := 13) (by kernel_rfl) rfl rfl (op_store (k := 1) (c' := #[.bool b3, .slice A3 n3 c3]) henv hst (ty_anvil_anvillaw04_Num.size) rfl rfl rfl rfl (by simp) rfl rfl ?_)
      clear henv hst a; intro a w66 henv hst
      refine ⟨.inr ⟨hst.kn.pick [2] (rg 0 4), .inl rfl⟩, ?_⟩
      refine sAny_done (by kernel_rfl) ?_ _
      exact th_n ⟨g63, g61, henv.sub ⟨rfl, rfl, rfl, rfl, rfl, rfl, rfl, rfl, trivial⟩, hst.pick [1, 0, 2] [0, 1, 2, 3] (by decide)⟩
  clear henv hst a
  rintro a w67 ⟨g55, g57, henv, hst⟩
  refine wp_seq ?_
  refine wp_seq ?_
  refine region_seq ?_
  revert a
  refine mA rfl rfl ?_
  refine mA rfl rfl ?_
  refine sA (v := .agg #[.bool b2, .slice A2 n2 c2]) rfl (fun _ henv => rn_load0 henv ty_anvil_anvillaw04_Num rfl (hst.oat (k := 1) rfl) rfl) ?_
  refine sA (v := .agg #[.bool b3, .slice A3 n3 c3]) rfl (fun _ henv => rn_load0 henv ty_anvil_anvillaw04_Num rfl (hst.oat (k := 0) rfl) rfl) ?_
  intro a henv
  refine seq_step rfl (op_buildSlice (z := 2) (pv := #[(0, .agg #[.bool b2, .slice A2 n2 c2]), (1, .agg #[.bool b3, .slice A3 n3 c3])]) (c := #[.bool b2, .slice A2 n2 c2, .bool b3, .slice A3 n3 c3]) henv hst rfl Tryd.underlying22 (ty_anvil_anvillaw04_Num.size) zero_anvil_anvillaw04_Num (by decide) (by decide) rfl (by kernel_rfl) ?_)
  clear henv hst a; intro a w69 g68 henv hst
  refine seq_step rfl (op_buildSlice (z := 1) (pv := #[(0, .slice A0 n0 c0), (1, .slice A1 n0 c1), (2, .slice (some ⟨g68, 0, none⟩) 2 2)]) (c := #[.slice A0 n0 c0, .slice A1 n0 c1, .slice (some ⟨g68, 0, none⟩) 2 2]) henv hst rfl Tryd.underlying139 (ty__anvillaw04_Num.size) zero__anvillaw04_Num (by decide) (by decide) rfl (by kernel_rfl) ?_)
  clear henv hst a; intro a w71 g70 henv hst
  refine seq_step rfl (op_call henv rfl Tryd.call17 rfl (row_long (pv3 (v0 := (A0, n0, c0, es0)) (v1 := (A1, n0, c1, es1)) (v2 := (some ⟨g68, 0, none⟩, 2, 2, [(b2, A2, n2, c2, xs2), (b3, A3, n3, c3, xs3)])) (hst.oat (k := 0) rfl) (hst.pat (k := 3) rfl) (hst.pat (k := 2) rfl) (pu2 (e0 := (b2, A2, n2, c2, xs2)) (e1 := (b3, A3, n3, c3, xs3)) (hst.oat (k := 1) rfl) (show U32 _ A2 n2 c2 xs2 from hst.pat (k := 1) rfl) (show U32 _ A3 n3 c3 xs3 from hst.pat (k := 0) rfl))) (lg_cons hn0 hs0 (lg_cons hn1 hs1 (lg_cons (show 2 ≤ 35184372088832 by decide) (sz_cons hn2 (sz_cons hn3 sz_nil)) lg_nil)))) ?_)
  rintro e w72 ⟨bl, rfl, hbl, hb⟩
  refine ⟨_, rfl, ?_⟩
  clear henv a; intro a henv
  replace hst := hst.call hb
  clear hb
  cases bl
  · obtain ⟨hx0, hx1, hx2, hx3, hx4, hx5⟩ := tv_three (hbl rfl)
    replace hx4 : n2 ≤ 300 := hx4; replace hx5 : n3 ≤ 300 := hx5
    have hkx : Zk 300 (es0.map vz) := Zk.vz (hst.pat (k := 3) rfl).2.2 hx2
    have hky : Zk 300 (es1.map vz) := Zk.vz (hst.pat (k := 2) rfl).2.2 hx3
    have hle0 : es0.length = n0 := (hst.pat (k := 3) rfl).2.1
    replace hle0 : es0.length ≤ 300 := by omega
    have hle1 : es1.length = n0 := (hst.pat (k := 2) rfl).2.1
    replace hle1 : es1.length ≤ 300 := by omega
    have hz2s : zl z2 ≤ 300 := by rw [← hv2]; exact zl_vze (show U32 _ A2 n2 c2 xs2 from hst.pat (k := 1) rfl) hx4
    have hz3s : zl z3 ≤ 300 := by rw [← hv3]; exact zl_vze (show U32 _ A3 n3 c3 xs3 from hst.pat (k := 0) rfl) hx5
    have hel0 : es0.length = n0 := (hst.pat (k := 3) rfl).2.1
    have hel1 : es1.length = n0 := (hst.pat (k := 2) rfl).2.1
    have hg2 := zl_primN hkx
    have hkm : Zk 600 ((es0.map vz).map (z2 * ·)) := hkx.map fun z hz => Nat.le_trans (zl_mul _ _) (by omega)
    have hkmy : Zk 600 ((es1.map vz).map (z2 * ·)) := hky.map fun z hz => Nat.le_trans (zl_mul _ _) (by omega)
    have hka : Zk 601 (List.zipWith (· + ·) (es0.map vz) (es1.map vz)) := hkx.zip hky fun x y h1 h2 => Nat.le_trans (zl_add _ _) (by omega)
    have hkc : Zk 601 (List.zipWith (fun x y => z2 * x + z3 * y) (es0.map vz) (es1.map vz)) := hkx.zip hky fun x y h1 h2 => zl_add1 (Nat.le_trans (zl_mul z2 x) (by omega)) (Nat.le_trans (zl_mul z3 y) (by omega))
    have hd1 : zl (dotL (List.zipWith (fun x y => z2 * x + z3 * y) (es0.map vz) (es1.map vz)) (es1.map vz)) ≤ 1000 := Nat.le_trans (zl_dot hkc hky (by rw [List.length_zipWith, List.length_map]; omega)) (by decide)
    have hd2 : zl (dotL (es0.map vz) (es1.map vz)) ≤ 1000 := Nat.le_trans (zl_dot hkx hky (by rw [List.length_map]; exact hle0)) (by decide)
    have hd3 : zl (dotL (es1.map vz) (es1.map vz)) ≤ 1000 := Nat.le_trans (zl_dot hky hky (by rw [List.length_map]; omega)) (by decide)
    have hg1 := zl_gcdL hkx
    have ha2 := zl_abs z2
    have hmod := dot_module z2 z3 (show (es0.map vz).length = (es1.map vz).length by rw [List.length_map, List.length_map]; omega)
    revert a
    refine mA rfl rfl ?_
    refine gA (v := .slice A0 n0 c0) rfl rfl rfl rfl (fun _ henv => rn_move henv rfl) ?_
    refine gA (v := .int .i64 (n0 : Nat)) rfl rfl rfl rfl (fun _ henv => rn_len henv Tryd.underlying22 rfl) ?_
    refine gA (v := .slice A1 n0 c1) rfl rfl rfl rfl (fun _ henv => rn_move henv rfl) ?_
    refine gA (v := .int .i64 (n0 : Nat)) rfl rfl rfl rfl (fun _ henv => rn_len henv Tryd.underlying22 rfl) ?_
    refine gA (v := .bool (((n0 : Nat) : Int) != ((n0 : Nat) : Int))) rfl rfl rfl rfl (fun _ henv => rn_bin henv rfl rfl rfl) ?_
    intro a henv
    rw [show (((n0 : Nat) : Int) != ((n0 : Nat) : Int)) = false from (bne_self_eq_false _)] at henv
    refine sv (v := .bool false) henv rfl (rn_pick henv rfl rfl) ?_
    clear henv a; intro a henv
    refine wpList_nil ?_
    refine th_n ?_
    refine if_f henv rfl (rfl) ?_
    refine wp_skip ?_
    refine th_n ?_
    refine wp_seq ?_
    refine region_seq ?_
    refine sv (v := .slice A0 n0 c0) henv rfl (rn_move henv rfl) ?_
    clear henv a; intro a henv
    refine seq_step rfl (op_call henv rfl Tryd.call18 rfl (row_of2 (hst.pat (k := 3) rfl) (fun e he => Nat.le_trans (tl_mem he) (by omega)) (by omega)) ?_)
    rintro e w83 ⟨_, _, rfl, ⟨A73, c74, es75, rfl, hr, hl76, hz77⟩, ⟨A78, c79, es80, rfl, hr2, hl81, hz82⟩, hb⟩
    refine ⟨_, rfl, ?_⟩
    clear henv a; intro a henv
    replace hst := hst.fresh2 hb hr hl76 (ap_N hr.2.1 ⟨nou_bk rfl, nou_bk rfl, nou_bk rfl, nou_bk rfl, nou_bk rfl, trivial⟩) hr2 hl81 (ap_M hr2.2.1 ⟨nou_bk rfl, nou_bk rfl, nou_bk rfl, nou_bk rfl, nou_bk rfl, trivial⟩)
    clear hr
    clear hr2
    clear hb
    revert a
    refine mA rfl rfl ?_
    refine sA (v := .slice A73 n0 c74) rfl (fun _ henv => rn_extract henv rfl rfl) ?_
    refine sA (v := .slice A78 n0 c79) rfl (fun _ henv => rn_extract henv rfl rfl) ?_
    refine aA rfl rfl ?_
    refine aA rfl rfl ?_
    intro a henv
    refine wpList_nil ?_
    refine th_n ?_
    refine wp_seq ?_
    refine region_seq ?_
    refine sv (v := .slice A1 n0 c1) henv rfl (rn_move henv rfl) ?_
    clear henv a; intro a henv
    refine seq_step rfl (op_call henv rfl Tryd.call18 rfl (row_of2 (hst.pat (k := 4) rfl) (fun e he => Nat.le_trans (tl_mem he) (by omega)) (by omega)) ?_)
    rintro e w94 ⟨_, _, rfl, ⟨A84, c85, es86, rfl, hr, hl87, hz88⟩, ⟨A89, c90, es91, rfl, hr2, hl92, hz93⟩, hb⟩
    refine ⟨_, rfl, ?_⟩
    clear henv a; intro a henv
    replace hst := hst.fresh2 hb hr hl87 (ap_N hr.2.1 ⟨nou_bk rfl, nou_bk rfl, nou_bk rfl, nou_bk rfl, nou_bk rfl, trivial⟩) hr2 hl92 (ap_M hr2.2.1 ⟨nou_bk rfl, nou_bk rfl, nou_bk rfl, nou_bk rfl, nou_bk rfl, trivial⟩)
    clear hr
    clear hr2
    clear hb
    revert a
    refine mA rfl rfl ?_
    refine sA (v := .slice A84 n0 c85) rfl (fun _ henv => rn_extract henv rfl rfl) ?_
    refine sA (v := .slice A89 n0 c90) rfl (fun _ henv => rn_extract henv rfl rfl) ?_
    refine aA rfl rfl ?_
    refine aA rfl rfl ?_
    intro a henv
    refine wpList_nil ?_
    refine th_n ?_
    refine wp_seq ?_
    refine cut (fun a w => ∃ A96 : Option Addr, ∃ c97 : Nat, ∃ A100 : Option Addr, ∃ c101 : Nat, ∃ g104 : Nat, ∃ g106 : Nat, Env 206 a [(0, .agg #[.slice A0 n0 c0, .slice A1 n0 c1, .bool b2, .slice A2 n2 c2, .bool b3, .slice A3 n3 c3]), (2, .bool false), (28, .bool true), (29, .bool false), (5, .pointer (some ⟨g55, 0, none⟩)), (6, .pointer (some ⟨g57, 0, none⟩)), (3, .slice A0 n0 c0), (4, .slice A1 n0 c1), (38, .slice A0 n0 c0), (39, .slice A1 n0 c1), (40, .agg #[.bool b2, .slice A2 n2 c2]), (41, .agg #[.bool b3, .slice A3 n3 c3]), (42, .slice (some ⟨g68, 0, none⟩) 2 2), (43, .slice (some ⟨g70, 0, none⟩) 3 3), (44, .bool false), (45, .bool false), (46, .slice A0 n0 c0), (47, .int .i64 (n0 : Nat)), (48, .slice A1 n0 c1), (49, .int .i64 (n0 : Nat)), (50, .bool false), (51, .bool false), (53, .slice A0 n0 c0), (54, .tuple #[.slice A73 n0 c74, .slice A78 n0 c79]), (52, .tuple #[.slice A73 n0 c74, .slice A78 n0 c79]), (55, .slice A73 n0 c74), (56, .slice A78 n0 c79), (7, .slice A73 n0 c74), (58, .slice A1 n0 c1), (59, .tuple #[.slice A84 n0 c85, .slice A89 n0 c90]), (57, .tuple #[.slice A84 n0 c85, .slice A89 n0 c90]), (60, .slice A84 n0 c85), (61, .slice A89 n0 c90), (9, .slice A84 n0 c85), (11, .pointer (some ⟨g104, 0, none⟩)), (12, .pointer (some ⟨g106, 0, none⟩))] ∧ St w0 w [bk g106 #[.bool (neg z3), .slice A100 (zl z3) c101] 36, bk g104 #[.bool (neg z2), .slice A96 (zl z2) c97] 36, bk g70 #[.slice A0 n0 c0, .slice A1 n0 c1, .slice (some ⟨g68, 0, none⟩) 2 2] 22, bk g68 #[.bool b2, .slice A2 n2 c2, .bool b3, .slice A3 n3 c3] 25, bk g57 #[.bool b3, .slice A3 n3 c3] 25, bk g55 #[.bool b2, .slice A2 n2 c2] 25, bk g51 #[.slice A0 n0 c0, .slice A1 n0 c1, .bool b2, .slice A2 n2 c2, .bool b3, .slice A3 n3 c3] 27] [pfZ A100 c101 z3, pfZ A96 c97 z2, pfRow fM FM 2 A89 n0 c90 es91, pfRow fN FN 2 A84 n0 c85 es86, pfRow fM FM 2 A78 n0 c79 es80, pfRow fN FN 2 A73 n0 c74 es75, pfU A3 n3 c3 xs3, pfU A2 n2 c2 xs2, pfRow fU FU 2 A1 n0 c1 es1, pfRow fU FU 2 A0 n0 c0 es0]) ?_ ?_
    · refine region_any (n := 14) (Sk [bk g70 #[.slice A0 n0 c0, .slice A1 n0 c1, .slice (some ⟨g68, 0, none⟩) 2 2] 22, bk g68 #[.bool b2, .slice A2 n2 c2, .bool b3, .slice A3 n3 c3] 25, bk g57 #[.bool b3, .slice A3 n3 c3] 25, bk g55 #[.bool b2, .slice A2 n2 c2] 25, bk g51 #[.slice A0 n0 c0, .slice A1 n0 c1, .bool b2, .slice A2 n2 c2, .bool b3, .slice A3 n3 c3] 27] [pfRow fM FM 2 A89 n0 c90 es91, pfRow fN FN 2 A84 n0 c85 es86, pfRow fM FM 2 A78 n0 c79 es80, pfRow fN FN 2 A73 n0 c74 es75, pfU A3 n3 c3 xs3, pfU A2 n2 c2 xs2, pfRow fU FU 2 A1 n0 c1 es1, pfRow fU FU 2 A0 n0 c0 es0] [12, 13] []) mixed rfl henv hst ?_
      clear henv hst; intro w95 henv hst
      refine tA (i := 0) [1, 4, 9, 12, 13] (v := .pointer (some ⟨g55, 0, none⟩)) rfl (by kernel_rfl) (fun _ _ _ h => h) henv rfl (fun _ => rn_fieldAddr henv fd_anvil_anvillaw04_Num_0 (ty_bool.size) (by decide) rfl) ?_
      clear henv a; intro a henv
      refine sAny_take (i := 1) [4, 9, 12, 13] (fun w' => w'.heap[g55]? = some (.cells #[.bool b2, .slice A2 n2 c2] 25 (0, 0))) (v := .bool b2) rfl (by kernel_rfl) (fun _ _ _ h => h) (fun _ _ _ hS => hS.1.oat (k := 3) rfl) henv rfl (hst.oat (k := 3) rfl) (fun w' hg => rn_load1 henv ty_bool rfl hg rfl) ?_
      clear henv a; intro a henv
      refine tA (i := 2) [3, 4, 9, 12, 13] (v := .pointer (some ⟨g55, 1, none⟩)) rfl (by kernel_rfl) (fun _ _ _ h => h) henv rfl (fun _ => rn_fieldAddr henv fd_anvil_anvillaw04_Num_1 (ty__uint32.size) (by decide) rfl) ?_
      clear henv a; intro a henv
      refine sAny_take (i := 3) [4, 9, 12, 13] (fun w' => w'.heap[g55]? = some (.cells #[.bool b2, .slice A2 n2 c2] 25 (0, 0))) (v := .slice A2 n2 c2) rfl (by kernel_rfl) (fun _ _ _ h => h) (fun _ _ _ hS => hS.1.oat (k := 3) rfl) henv rfl (hst.oat (k := 3) rfl) (fun w' hg => rn_load1 henv ty__uint32 rfl hg rfl) ?_
      clear henv a; intro a henv
      refine tA (i := 5) [6, 9, 12, 13] (v := .pointer (some ⟨g57, 0, none⟩)) rfl (by kernel_rfl) (fun _ _ _ h => h) henv rfl (fun _ => rn_fieldAddr henv fd_anvil_anvillaw04_Num_0 (ty_bool.size) (by decide) rfl) ?_
      clear henv a; intro a henv
      refine sAny_take (i := 6) [9, 12, 13] (fun w' => w'.heap[g57]? = some (.cells #[.bool b3, .slice A3 n3 c3] 25 (0, 0))) (v := .bool b3) rfl (by kernel_rfl) (fun _ _ _ h => h) (fun _ _ _ hS => hS.1.oat (k := 2) rfl) henv rfl (hst.oat (k := 2) rfl) (fun w' hg => rn_load1 henv ty_bool rfl hg rfl) ?_
      clear henv a; intro a henv
      refine tA (i := 7) [8, 9, 12, 13] (v := .pointer (some ⟨g57, 1, none⟩)) rfl (by kernel_rfl) (fun _ _ _ h => h) henv rfl (fun _ => rn_fieldAddr henv fd_anvil_anvillaw04_Num_1 (ty__uint32.size) (by decide) rfl) ?_
      clear henv a; intro a henv
      refine sAny_take (i := 8) [9, 12, 13] (fun w' => w'.heap[g57]? = some (.cells #[.bool b3, .slice A3 n3 c3] 25 (0, 0))) (v := .slice A3 n3 c3) rfl (by kernel_rfl) (fun _ _ _ h => h) (fun _ _ _ hS => hS.1.oat (k := 2) rfl) henv rfl (hst.oat (k := 2) rfl) (fun w' hg => rn_load1 henv ty__uint32 rfl hg rfl) ?_
      clear henv a; intro a henv
      refine sAny_all (rs := [4, 10, 11]) (by kernel_rfl) (by simp) ?_
      simp only [List.forall_mem_cons, List.not_mem_nil, false_implies, implies_true, and_true]
      refine ⟨?_, ?_, ?_⟩
      · refine ⟨_, rfl, rfl, op_call henv rfl Tryd.call19 rfl (make_zv (show U32 _ A2 n2 c2 xs2 from hst.pat (k := 5) rfl) hv2 (by omega)) ?_⟩
        rintro e w99 ⟨_, rfl, ⟨A96, c97, rfl, hz98⟩, hb⟩
        refine ⟨_, rfl, ?_⟩
        clear henv a; intro a henv
        replace hst := (hst.call hb).addZ hz98 ⟨nou_bk rfl, nou_bk rfl, nou_bk rfl, nou_bk rfl, nou_bk rfl, trivial⟩
        clear hz98
        clear hb
        refine ⟨.inr ⟨hst.kn.pick (rg 0 5) (rg 1 8), .inr (hst.kn.pick [] [])⟩, ?_⟩
        refine sAny_all (rs := [9, 10, 11]) (by kernel_rfl) (by simp) ?_
        simp only [List.forall_mem_cons, List.not_mem_nil, false_implies, implies_true, and_true]
        refine ⟨?_, ?_, ?_⟩
        · refine ⟨_, rfl, rfl, op_call henv rfl Tryd.call19 rfl (make_zv (show U32 _ A3 n3 c3 xs3 from hst.pat (k := 5) rfl) hv3 (by omega)) ?_⟩
          rintro e w103 ⟨_, rfl, ⟨A100, c101, rfl, hz102⟩, hb⟩
          refine ⟨_, rfl, ?_⟩
          clear henv a; intro a henv
          replace hst := (hst.call hb).addZ hz102 ⟨nou_bk rfl, nou_bk rfl, nou_bk rfl, nou_bk rfl, nou_bk rfl, trivial⟩
          clear hz102
          clear hb
          refine ⟨.inr ⟨hst.kn.pick (rg 0 5) (rg 2 8), .inr (hst.kn.pick [] [])⟩, ?_⟩
          refine sAny_all (rs := [10, 11]) (by kernel_rfl) (by simp) ?_
          simp only [List.forall_mem_cons, List.not_mem_nil, false_implies, implies_true, and_true]
          refine ⟨?_, ?_⟩
          · refine ⟨_, rfl, rfl, op_alloc (c := #[.bool (neg 0), .slice none (zl 0) 0]) henv hst rfl zero_anvil_integer_Int zcells ?_⟩
            clear henv hst a; intro a w105 g104 henv hst
            refine ⟨.inr ⟨hst.kn.pick (rg 1 5) (rg 2 8), .inr (hst.kn.pick [] [])⟩, ?_⟩
            refine sAny_one (i := 11) (by kernel_rfl) rfl rfl (op_alloc (c := #[.bool (neg 0), .slice none (zl 0) 0]) henv hst rfl zero_anvil_integer_Int zcells ?_)
            clear henv hst a; intro a w107 g106 henv hst
            refine ⟨.inr ⟨hst.kn.pick (rg 2 5) (rg 2 8), .inr (hst.kn.pick [] [])⟩, ?_⟩
            refine sAny_one (i := 12) (by kernel_rfl) rfl rfl (op_store (k := 1) (c' := #[.bool (neg z2), .slice A96 (zl z2) c97]) henv hst (ty_anvil_integer_Int.size) rfl rfl rfl rfl (by simp) rfl rfl ?_)
            clear henv hst a; intro a w108 henv hst
            refine ⟨.inr ⟨hst.kn.pick (rg 2 5) (rg 2 8), .inl rfl⟩, ?_⟩
            refine sAny_one (i := 13) (by kernel_rfl) rfl rfl (op_store (k := 0) (c' := #[.bool (neg z3), .slice A100 (zl z3) c101]) henv hst (ty_anvil_integer_Int.size) rfl rfl rfl rfl (by simp) rfl rfl ?_)
            clear henv hst a; intro a w109 henv hst
            refine ⟨.inr ⟨hst.kn.pick (rg 2 5) (rg 2 8), .inl rfl⟩, ?_⟩
            refine sAny_done (by kernel_rfl) ?_ _
            exact th_n ⟨A96, c97, A100, c101, g104, g106, henv.sub ⟨rfl, rfl, rfl, rfl, rfl, rfl, rfl, rfl, rfl, rfl, rfl, rfl, rfl, rfl, rfl, rfl, rfl, rfl, rfl, rfl, rfl, rfl, rfl, rfl, rfl, rfl, rfl, rfl, rfl, rfl, rfl, rfl, rfl, rfl, rfl, rfl, trivial⟩, hst.pick [0, 1, 2, 3, 4, 5, 6] [0, 1, 2, 3, 4, 5, 6, 7, 8, 9] (by decide)⟩
          · refine ⟨_, rfl, rfl, op_alloc (c := #[.bool (neg 0), .slice none (zl 0) 0]) henv hst rfl zero_anvil_integer_Int zcells ?_⟩
            clear henv hst a; intro a w111 g110 henv hst
            refine ⟨.inr ⟨hst.kn.pick (rg 1 5) (rg 2 8), .inr (hst.kn.pick [] [])⟩, ?_⟩
            refine sAny_one (i := 10) (by kernel_rfl) rfl rfl (op_alloc (c := #[.bool (neg 0), .slice none (zl 0) 0]) henv hst rfl zero_anvil_integer_Int zcells ?_)
            clear henv hst a; intro a w113 g112 henv hst
            refine ⟨.inr ⟨hst.kn.pick (rg 2 5) (rg 2 8), .inr (hst.kn.pick [] [])⟩, ?_⟩
            refine sAny_one (i := 12) (by kernel_rfl) rfl rfl (op_store (k := 0) (c' := #[.bool (neg z2), .slice A96 (zl z2) c97]) henv hst (ty_anvil_integer_Int.size) rfl rfl rfl rfl (by simp) rfl rfl ?_)
            clear henv hst a; intro a w114 henv hst
            refine ⟨.inr ⟨hst.kn.pick (rg 2 5) (rg 2 8), .inl rfl⟩, ?_⟩
            refine sAny_one (i := 13) (by kernel_rfl) rfl rfl (op_store (k := 1) (c' := #[.bool (neg z3), .slice A100 (zl z3) c101]) henv hst (ty_anvil_integer_Int.size) rfl rfl rfl rfl (by simp) rfl rfl ?_)
            clear henv hst a; intro a w115 henv hst
            refine ⟨.inr ⟨hst.kn.pick (rg 2 5) (rg 2 8), .inl rfl⟩, ?_⟩
            refine sAny_done (by kernel_rfl) ?_ _
            exact th_n ⟨A96, c97, A100, c101, g112, g110, henv.sub ⟨rfl, rfl, rfl, rfl, rfl, rfl, rfl, rfl, rfl, rfl, rfl, rfl, rfl, rfl, rfl, rfl, rfl, rfl, rfl, rfl, rfl, rfl, rfl, rfl, rfl, rfl, rfl, rfl, rfl, rfl, rfl, rfl, rfl, rfl, rfl, rfl, trivial⟩, hst.pick [1, 0, 2, 3, 4, 5, 6] [0, 1, 2, 3, 4, 5, 6, 7, 8, 9] (by decide)⟩
        · refine ⟨_, rfl, rfl, op_alloc (c := #[.bool (neg 0), .slice none (zl 0) 0]) henv hst rfl zero_anvil_integer_Int zcells ?_⟩
          clear henv hst a; intro a w117 g116 henv hst
          refine ⟨.inr ⟨hst.kn.pick (rg 1 5) (rg 1 8), .inr (hst.kn.pick [] [])⟩, ?_⟩
          refine sAny_all (rs := [9, 11]) (by kernel_rfl) (by simp) ?_
          simp only [List.forall_mem_cons, List.not_mem_nil, false_implies, implies_true, and_true]
          refine ⟨?_, ?_⟩
          · refine ⟨_, rfl, rfl, op_call henv rfl Tryd.call19 rfl (make_zv (show U32 _ A3 n3 c3 xs3 from hst.pat (k := 5) rfl) hv3 (by omega)) ?_⟩
            rintro e w121 ⟨_, rfl, ⟨A118, c119, rfl, hz120⟩, hb⟩
            refine ⟨_, rfl, ?_⟩
            clear henv a; intro a henv
            replace hst := (hst.call hb).addZ hz120 ⟨nou_bk rfl, nou_bk rfl, nou_bk rfl, nou_bk rfl, nou_bk rfl, nou_bk rfl, trivial⟩
            clear hz120
            clear hb
            refine ⟨.inr ⟨hst.kn.pick (rg 1 5) (rg 2 8), .inr (hst.kn.pick [] [])⟩, ?_⟩
            refine sAny_one (i := 11) (by kernel_rfl) rfl rfl (op_alloc (c := #[.bool (neg 0), .slice none (zl 0) 0]) henv hst rfl zero_anvil_integer_Int zcells ?_)
            clear henv hst a; intro a w123 g122 henv hst
            refine ⟨.inr ⟨hst.kn.pick (rg 2 5) (rg 2 8), .inr (hst.kn.pick [] [])⟩, ?_⟩
            refine sAny_one (i := 12) (by kernel_rfl) rfl rfl (op_store (k := 1) (c' := #[.bool (neg z2), .slice A96 (zl z2) c97]) henv hst (ty_anvil_integer_Int.size) rfl rfl rfl rfl (by simp) rfl rfl ?_)
            clear henv hst a; intro a w124 henv hst
            refine ⟨.inr ⟨hst.kn.pick (rg 2 5) (rg 2 8), .inl rfl⟩, ?_⟩
            refine sAny_one (i := 13) (by kernel_rfl) rfl rfl (op_store (k := 0) (c' := #[.bool (neg z3), .slice A118 (zl z3) c119]) henv hst (ty_anvil_integer_Int.size) rfl rfl rfl rfl (by simp) rfl rfl ?_)
            clear henv hst a; intro a w125 henv hst
            refine ⟨.inr ⟨hst.kn.pick (rg 2 5) (rg 2 8), .inl rfl⟩, ?_⟩
            refine sAny_done (by kernel_rfl) ?_ _
            exact th_n ⟨A96, c97, A118, c119, g116, g122, henv.sub ⟨rfl, rfl, rfl, rfl, rfl, rfl, rfl, rfl, rfl, rfl, rfl, rfl, rfl, rfl, rfl, rfl, rfl, rfl, rfl, rfl, rfl, rfl, rfl, rfl, rfl, rfl, rfl, rfl, rfl, rfl, rfl, rfl, rfl, rfl, rfl, rfl, trivial⟩, hst.pick [0, 1, 2, 3, 4, 5, 6] [0, 1, 2, 3, 4, 5, 6, 7, 8, 9] (by decide)⟩
          · refine ⟨_, rfl, rfl, op_alloc (c := #[.bool (neg 0), .slice none (zl 0) 0]) henv hst rfl zero_anvil_integer_Int zcells ?_⟩
            clear henv hst a; intro a w127 g126 henv hst
            refine ⟨.inr ⟨hst.kn.pick (rg 2 5) (rg 1 8), .inr (hst.kn.pick [] [])⟩, ?_⟩
            refine sAny_one (i := 9) (by kernel_rfl) rfl rfl (op_call henv rfl Tryd.call19 rfl (make_zv (show U32 _ A3 n3 c3 xs3 from hst.pat (k := 5) rfl) hv3 (by omega)) ?_)
            rintro e w131 ⟨_, rfl, ⟨A128, c129, rfl, hz130⟩, hb⟩
            refine ⟨_, rfl, ?_⟩
            clear henv a; intro a henv
            replace hst := (hst.call hb).addZ hz130 ⟨nou_bk rfl, nou_bk rfl, nou_bk rfl, nou_bk rfl, nou_bk rfl, nou_bk rfl, nou_bk rfl, trivial⟩
            clear hz130
            clear hb
            refine ⟨.inr ⟨hst.kn.pick (rg 2 5) (rg 2 8), .inr (hst.kn.pick [] [])⟩, ?_⟩
            refine sAny_one (i := 12) (by kernel_rfl) rfl rfl (op_store (k := 1) (c' := #[.bool (neg z2), .slice A96 (zl z2) c97]) henv hst (ty_anvil_integer_Int.size) rfl rfl rfl rfl (by simp) rfl rfl ?_)
            clear henv hst a; intro a w132 henv hst
            refine ⟨.inr ⟨hst.kn.pick (rg 2 5) (rg 2 8), .inl rfl⟩, ?_⟩
            refine sAny_one (i := 13) (by kernel_rfl) rfl rfl (op_store (k := 0) (c' := #[.bool (neg z3), .slice A128 (zl z3) c129]) henv hst (ty_anvil_integer_Int.size) rfl rfl rfl rfl (by simp) rfl rfl ?_)
            clear henv hst a; intro a w133 henv hst
            refine ⟨.inr ⟨hst.kn.pick (rg 2 5) (rg 2 8), .inl rfl⟩, ?_⟩
            refine sAny_done (by kernel_rfl) ?_ _
            exact th_n ⟨A96, c97, A128, c129, g116, g126, henv.sub ⟨rfl, rfl, rfl, rfl, rfl, rfl, rfl, rfl, rfl, rfl, rfl, rfl, rfl, rfl, rfl, rfl, rfl, rfl, rfl, rfl, rfl, rfl, rfl, rfl, rfl, rfl, rfl, rfl, rfl, rfl, rfl, rfl, rfl, rfl, rfl, rfl, trivial⟩, hst.pick [0, 1, 2, 3, 4, 5, 6] [0, 1, 2, 3, 4, 5, 6, 7, 8, 9] (by decide)⟩
        · refine ⟨_, rfl, rfl, op_alloc (c := #[.bool (neg 0), .slice none (zl 0) 0]) henv hst rfl zero_anvil_integer_Int zcells ?_⟩
          clear henv hst a; intro a w135 g134 henv hst
          refine ⟨.inr ⟨hst.kn.pick (rg 1 5) (rg 1 8), .inr (hst.kn.pick [] [])⟩, ?_⟩
          refine sAny_all (rs := [9, 10]) (by kernel_rfl) (by simp) ?_
          simp only [List.forall_mem_cons, List.not_mem_nil, false_implies, implies_true, and_true]
          refine ⟨?_, ?_⟩
          · refine ⟨_, rfl, rfl, op_call henv rfl Tryd.call19 rfl (make_zv (show U32 _ A3 n3 c3 xs3 from hst.pat (k := 5) rfl) hv3 (by omega)) ?_⟩
            rintro e w139 ⟨_, rfl, ⟨A136, c137, rfl, hz138⟩, hb⟩
            refine ⟨_, rfl, ?_⟩
            clear henv a; intro a henv
            replace hst := (hst.call hb).addZ hz138 ⟨nou_bk rfl, nou_bk rfl, nou_bk rfl, nou_bk rfl, nou_bk rfl, nou_bk rfl, trivial⟩
            clear hz138
            clear hb
            refine ⟨.inr ⟨hst.kn.pick (rg 1 5) (rg 2 8), .inr (hst.kn.pick [] [])⟩, ?_⟩
            refine sAny_one (i := 10) (by kernel_rfl) rfl rfl (op_alloc (c := #[.bool (neg 0), .slice none (zl 0) 0]) henv hst rfl zero_anvil_integer_Int zcells ?_)
            clear henv hst a; intro a w141 g140 henv hst
            refine ⟨.inr ⟨hst.kn.pick (rg 2 5) (rg 2 8), .inr (hst.kn.pick [] [])⟩, ?_⟩
            refine sAny_one (i := 12) (by kernel_rfl) rfl rfl (op_store (k := 0) (c' := #[.bool (neg z2), .slice A96 (zl z2) c97]) henv hst (ty_anvil_integer_Int.size) rfl rfl rfl rfl (by simp) rfl rfl ?_)
            clear henv hst a; intro a w142 henv hst
            refine ⟨.inr ⟨hst.kn.pick (rg 2 5) (rg 2 8), .inl rfl⟩, ?_⟩
            refine sAny_one (i := 13) (by kernel_rfl) rfl rfl (op_store (k := 1) (c' := #[.bool (neg z3), .slice A136 (zl z3) c137]) henv hst (ty_anvil_integer_Int.size) rfl rfl rfl rfl (by simp) rfl rfl ?_)
            clear henv hst a; intro a w143 henv hst
            refine ⟨.inr ⟨hst.kn.pick (rg 2 5) (rg 2 8), .inl rfl⟩, ?_⟩
            refine sAny_done (by kernel_rfl) ?_ _
            exact th_n ⟨A96, c97, A136, c137, g140, g134, henv.sub ⟨rfl, rfl, rfl, rfl, rfl, rfl, rfl, rfl, rfl, rfl, rfl, rfl, rfl, rfl, rfl, rfl, rfl, rfl, rfl, rfl, rfl, rfl, rfl, rfl, rfl, rfl, rfl, rfl, rfl, rfl, rfl, rfl, rfl, rfl, rfl, rfl, trivial⟩, hst.pick [1, 0, 2, 3, 4, 5, 6] [0, 1, 2, 3, 4, 5, 6, 7, 8, 9] (by decide)⟩
          · refine ⟨_, rfl, rfl, op_alloc (c := #[.bool (neg 0), .slice none (zl 0) 0]) henv hst rfl zero_anvil_integer_Int zcells ?_⟩
            clear henv hst a; intro a w145 g144 henv hst
            refine ⟨.inr ⟨hst.kn.pick (rg 2 5) (rg 1 8), .inr (hst.kn.pick [] [])⟩, ?_⟩
            refine sAny_one (i := 9) (by kernel_rfl) rfl rfl (op_call henv rfl Tryd.call19 rfl (make_zv (show U32 _ A3 n3 c3 xs3 from hst.pat (k := 5) rfl) hv3 (by omega)) ?_)
            rintro e w149 ⟨_, rfl, ⟨A146, c147, rfl, hz148⟩, hb⟩
            refine ⟨_, rfl, ?_⟩
            clear henv a; intro a henv
            replace hst := (hst.call hb).addZ hz148 ⟨nou_bk rfl, nou_bk rfl, nou_bk rfl, nou_bk rfl, nou_bk rfl, nou_bk rfl, nou_bk rfl, trivial⟩
            clear hz148
            clear hb
            refine ⟨.inr ⟨hst.kn.pick (rg 2 5) (rg 2 8), .inr (hst.kn.pick [] [])⟩, ?_⟩
            refine sAny_one (i := 12) (by kernel_rfl) rfl rfl (op_store (k := 0) (c' := #[.bool (neg z2), .slice A96 (zl z2) c97]) henv hst (ty_anvil_integer_Int.size) rfl rfl rfl rfl (by simp) rfl rfl ?_)
            clear henv hst a; intro a w150 henv hst
            refine ⟨.inr ⟨hst.kn.pick (rg 2 5) (rg 2 8), .inl rfl⟩, ?_⟩
            refine sAny_one (i := 13) (by kernel_rfl) rfl rfl (op_store (k := 1) (c' := #[.bool (neg z3), .slice A146 (zl z3) c147]) henv hst (ty_anvil_integer_Int.size) rfl rfl rfl rfl (by simp) rfl rfl ?_)
            clear henv hst a; intro a w151 henv hst
            refine ⟨.inr ⟨hst.kn.pick (rg 2 5) (rg 2 8), .inl rfl⟩, ?_⟩
            refine sAny_done (by kernel_rfl) ?_ _
            exact th_n ⟨A96, c97, A146, c147, g144, g134, henv.sub ⟨rfl, rfl, rfl, rfl, rfl, rfl, rfl, rfl, rfl, rfl, rfl, rfl, rfl, rfl, rfl, rfl, rfl, rfl, rfl, rfl, rfl, rfl, rfl, rfl, rfl, rfl, rfl, rfl, rfl, rfl, rfl, rfl, rfl, rfl, rfl, rfl, trivial⟩, hst.pick [1, 0, 2, 3, 4, 5, 6] [0, 1, 2, 3, 4, 5, 6, 7, 8, 9] (by decide)⟩
      · refine ⟨_, rfl, rfl, op_alloc (c := #[.bool (neg 0), .slice none (zl 0) 0]) henv hst rfl zero_anvil_integer_Int zcells ?_⟩
        clear henv hst a; intro a w153 g152 henv hst
        refine ⟨.inr ⟨hst.kn.pick (rg 1 5) (rg 0 8), .inr (hst.kn.pick [] [])⟩, ?_⟩
        refine sAny_all (rs := [4, 11]) (by kernel_rfl) (by simp) ?_
        simp only [List.forall_mem_cons, List.not_mem_nil, false_implies, implies_true, and_true]
        refine ⟨?_, ?_⟩
        · refine ⟨_, rfl, rfl, op_call henv rfl Tryd.call19 rfl (make_zv (show U32 _ A2 n2 c2 xs2 from hst.pat (k := 5) rfl) hv2 (by omega)) ?_⟩
          rintro e w157 ⟨_, rfl, ⟨A154, c155, rfl, hz156⟩, hb⟩
          refine ⟨_, rfl, ?_⟩
          clear henv a; intro a henv
          replace hst := (hst.call hb).addZ hz156 ⟨nou_bk rfl, nou_bk rfl, nou_bk rfl, nou_bk rfl, nou_bk rfl, nou_bk rfl, trivial⟩
          clear hz156
          clear hb
          refine ⟨.inr ⟨hst.kn.pick (rg 1 5) (rg 1 8), .inr (hst.kn.pick [] [])⟩, ?_⟩
          refine sAny_all (rs := [9, 11]) (by kernel_rfl) (by simp) ?_
          simp only [List.forall_mem_cons, List.not_mem_nil, false_implies, implies_true, and_true]
          refine ⟨?_, ?_⟩
          · refine ⟨_, rfl, rfl, op_call henv rfl Tryd.call19 rfl (make_zv (show U32 _ A3 n3 c3 xs3 from hst.pat (k := 5) rfl) hv3 (by omega)) ?_⟩
            rintro e w161 ⟨_, rfl, ⟨A158, c159, rfl, hz160⟩, hb⟩
            refine ⟨_, rfl, ?_⟩
            clear henv a; intro a henv
            replace hst := (hst.call hb).addZ hz160 ⟨nou_bk rfl, nou_bk rfl, nou_bk rfl, nou_bk rfl, nou_bk rfl, nou_bk rfl, trivial⟩
            clear hz160
            clear hb
            refine ⟨.inr ⟨hst.kn.pick (rg 1 5) (rg 2 8), .inr (hst.kn.pick [] [])⟩, ?_⟩
            refine sAny_one (i := 11) (by kernel_rfl) rfl rfl (op_alloc (c := #[.bool (neg 0), .slice none (zl 0) 0]) henv hst rfl zero_anvil_integer_Int zcells ?_)
            clear henv hst a; intro a w163 g162 henv hst
            refine ⟨.inr ⟨hst.kn.pick (rg 2 5) (rg 2 8), .inr (hst.kn.pick [] [])⟩, ?_⟩
            refine sAny_one (i := 12) (by kernel_rfl) rfl rfl (op_store (k := 1) (c' := #[.bool (neg z2), .slice A154 (zl z2) c155]) henv hst (ty_anvil_integer_Int.size) rfl rfl rfl rfl (by simp) rfl rfl ?_)
            clear henv hst a; intro a w164 henv hst
            refine ⟨.inr ⟨hst.kn.pick (rg 2 5) (rg 2 8), .inl rfl⟩, ?_⟩
            refine sAny_one (i := 13) (by kernel_rfl) rfl rfl (op_store (k := 0) (c' := #[.bool (neg z3), .slice A158 (zl z3) c159]) henv hst (ty_anvil_integer_Int.size) rfl rfl rfl rfl (by simp) rfl rfl ?_)
            clear henv hst a; intro a w165 henv hst
            refine ⟨.inr ⟨hst.kn.pick (rg 2 5) (rg 2 8), .inl rfl⟩, ?_⟩
            refine sAny_done (by kernel_rfl) ?_ _
            exact th_n ⟨A154, c155, A158, c159, g152, g162, henv.sub ⟨rfl, rfl, rfl, rfl, rfl, rfl, rfl, rfl, rfl, rfl, rfl, rfl, rfl, rfl, rfl, rfl, rfl, rfl, rfl, rfl, rfl, rfl, rfl, rfl, rfl, rfl, rfl, rfl, rfl, rfl, rfl, rfl, rfl, rfl, rfl, rfl, trivial⟩, hst.pick [0, 1, 2, 3, 4, 5, 6] [0, 1, 2, 3, 4, 5, 6, 7, 8, 9] (by decide)⟩
          · refine ⟨_, rfl, rfl, op_alloc (c := #[.bool (neg 0), .slice none (zl 0) 0]) henv hst rfl zero_anvil_integer_Int zcells ?_⟩
            clear henv hst a; intro a w167 g166 henv hst
            refine ⟨.inr ⟨hst.kn.pick (rg 2 5) (rg 1 8), .inr (hst.kn.pick [] [])⟩, ?_⟩
            refine sAny_one (i := 9) (by kernel_rfl) rfl rfl (op_call henv rfl Tryd.call19 rfl (make_zv (show U32 _ A3 n3 c3 xs3 from hst.pat (k := 5) rfl) hv3 (by omega)) ?_)
            rintro e w171 ⟨_, rfl, ⟨A168, c169, rfl, hz170⟩, hb⟩
            refine ⟨_, rfl, ?_⟩
            clear henv a; intro a henv
            replace hst := (hst.call hb).addZ hz170 ⟨nou_bk rfl, nou_bk rfl, nou_bk rfl, nou_bk rfl, nou_bk rfl, nou_bk rfl, nou_bk rfl, trivial⟩
            clear hz170
            clear hb
            refine ⟨.inr ⟨hst.kn.pick (rg 2 5) (rg 2 8), .inr (hst.kn.pick [] [])⟩, ?_⟩
            refine sAny_one (i := 12) (by kernel_rfl) rfl rfl (op_store (k := 1) (c' := #[.bool (neg z2), .slice A154 (zl z2) c155]) henv hst (ty_anvil_integer_Int.size) rfl rfl rfl rfl (by simp) rfl rfl ?_)
            clear henv hst a; intro a w172 henv hst
            refine ⟨.inr ⟨hst.kn.pick (rg 2 5) (rg 2 8), .inl rfl⟩, ?_⟩
            refine sAny_one (i := 13) (by kernel_rfl) rfl rfl (op_store (k := 0) (c' := #[.bool (neg z3), .slice A168 (zl z3) c169]) henv hst (ty_anvil_integer_Int.size) rfl rfl rfl rfl (by simp) rfl rfl ?_)
            clear henv hst a; intro a w173 henv hst
            refine ⟨.inr ⟨hst.kn.pick (rg 2 5) (rg 2 8), .inl rfl⟩, ?_⟩
            refine sAny_done (by kernel_rfl) ?_ _
            exact th_n ⟨A154, c155, A168, c169, g152, g166, henv.sub ⟨rfl, rfl, rfl, rfl, rfl, rfl, rfl, rfl, rfl, rfl, rfl, rfl, rfl, rfl, rfl, rfl, rfl, rfl, rfl, rfl, rfl, rfl, rfl, rfl, rfl, rfl, rfl, rfl, rfl, rfl, rfl, rfl, rfl, rfl, rfl, rfl, trivial⟩, hst.pick [0, 1, 2, 3, 4, 5, 6] [0, 1, 2, 3, 4, 5, 6, 7, 8, 9] (by decide)⟩
        · refine ⟨_, rfl, rfl, op_alloc (c := #[.bool (neg 0), .slice none (zl 0) 0]) henv hst rfl zero_anvil_integer_Int zcells ?_⟩
          clear henv hst a; intro a w175 g174 henv hst
          refine ⟨.inr ⟨hst.kn.pick (rg 2 5) (rg 0 8), .inr (hst.kn.pick [] [])⟩, ?_⟩
          refine sAny_one (i := 4) (by kernel_rfl) rfl rfl (op_call henv rfl Tryd.call19 rfl (make_zv (show U32 _ A2 n2 c2 xs2 from hst.pat (k := 5) rfl) hv2 (by omega)) ?_)
          rintro e w179 ⟨_, rfl, ⟨A176, c177, rfl, hz178⟩, hb⟩
          refine ⟨_, rfl, ?_⟩
          clear henv a; intro a henv
          replace hst := (hst.call hb).addZ hz178 ⟨nou_bk rfl, nou_bk rfl, nou_bk rfl, nou_bk rfl, nou_bk rfl, nou_bk rfl, nou_bk rfl, trivial⟩
          clear hz178
          clear hb
          refine ⟨.inr ⟨hst.kn.pick (rg 2 5) (rg 1 8), .inr (hst.kn.pick [] [])⟩, ?_⟩
          refine sAny_one (i := 9) (by kernel_rfl) rfl rfl (op_call henv rfl Tryd.call19 rfl (make_zv (show U32 _ A3 n3 c3 xs3 from hst.pat (k := 5) rfl) hv3 (by omega)) ?_)
          rintro e w183 ⟨_, rfl, ⟨A180, c181, rfl, hz182⟩, hb⟩
          refine ⟨_, rfl, ?_⟩
          clear henv a; intro a henv
          replace hst := (hst.call hb).addZ hz182 ⟨nou_bk rfl, nou_bk rfl, nou_bk rfl, nou_bk rfl, nou_bk rfl, nou_bk rfl, nou_bk rfl, trivial⟩
          clear hz182
          clear hb
          refine ⟨.inr ⟨hst.kn.pick (rg 2 5) (rg 2 8), .inr (hst.kn.pick [] [])⟩, ?_⟩
          refine sAny_one (i := 12) (by kernel_rfl) rfl rfl (op_store (k := 1) (c' := #[.bool (neg z2), .slice A176 (zl z2) c177]) henv hst (ty_anvil_integer_Int.size) rfl rfl rfl rfl (by simp) rfl rfl ?_)
          clear henv hst a; intro a w184 henv hst
          refine ⟨.inr ⟨hst.kn.pick (rg 2 5) (rg 2 8), .inl rfl⟩, ?_⟩
          refine sAny_one (i := 13) (by kernel_rfl) rfl rfl (op_store (k := 0) (c' := #[.bool (neg z3), .slice A180 (zl z3) c181]) henv hst (ty_anvil_integer_Int.size) rfl rfl rfl rfl (by simp) rfl rfl ?_)
          clear henv hst a; intro a w185 henv hst
          refine ⟨.inr ⟨hst.kn.pick (rg 2 5) (rg 2 8), .inl rfl⟩, ?_⟩
          refine sAny_done (by kernel_rfl) ?_ _
          exact th_n ⟨A176, c177, A180, c181, g152, g174, henv.sub ⟨rfl, rfl, rfl, rfl, rfl, rfl, rfl, rfl, rfl, rfl, rfl, rfl, rfl, rfl, rfl, rfl, rfl, rfl, rfl, rfl, rfl, rfl, rfl, rfl, rfl, rfl, rfl, rfl, rfl, rfl, rfl, rfl, rfl, rfl, rfl, rfl, trivial⟩, hst.pick [0, 1, 2, 3, 4, 5, 6] [0, 1, 2, 3, 4, 5, 6, 7, 8, 9] (by decide)⟩
      · refine ⟨_, rfl, rfl, op_alloc (c := #[.bool (neg 0), .slice none (zl 0) 0]) henv hst rfl zero_anvil_integer_Int zcells ?_⟩
        clear henv hst a; intro a w187 g186 henv hst
        refine ⟨.inr ⟨hst.kn.pick (rg 1 5) (rg 0 8), .inr (hst.kn.pick [] [])⟩, ?_⟩
        refine sAny_all (rs := [4, 10]) (by kernel_rfl) (by simp) ?_
        simp only [List.forall_mem_cons, List.not_mem_nil, false_implies, implies_true, and_true]
        refine ⟨?_, ?_⟩
        · refine ⟨_, rfl, rfl, op_call henv rfl Tryd.call19 rfl (make_zv (show U32 _ A2 n2 c2 xs2 from hst.pat (k := 5) rfl) hv2 (by omega)) ?_⟩
          rintro e w191 ⟨_, rfl, ⟨A188, c189, rfl, hz190⟩, hb⟩
          refine ⟨_, rfl, ?_⟩
          clear henv a; intro a henv
          replace hst := (hst.call hb).addZ hz190 ⟨nou_bk rfl, nou_bk rfl, nou_bk rfl, nou_bk rfl, nou_bk rfl, nou_bk rfl, trivial⟩
          clear hz190
          clear hb
          refine ⟨.inr ⟨hst.kn.pick (rg 1 5) (rg 1 8), .inr (hst.kn.pick [] [])⟩, ?_⟩
          refine sAny_all (rs := [9, 10]) (by kernel_rfl) (by simp) ?_
          simp only [List.forall_mem_cons, List.not_mem_nil, false_implies, implies_true, and_true]
          refine ⟨?_, ?_⟩
          · refine ⟨_, rfl, rfl, op_call henv rfl Tryd.call19 rfl (make_zv (show U32 _ A3 n3 c3 xs3 from hst.pat (k := 5) rfl) hv3 (by omega)) ?_⟩
            rintro e w195 ⟨_, rfl, ⟨A192, c193, rfl, hz194⟩, hb⟩
            refine ⟨_, rfl, ?_⟩
            clear henv a; intro a henv
            replace hst := (hst.call hb).addZ hz194 ⟨nou_bk rfl, nou_bk rfl, nou_bk rfl, nou_bk rfl, nou_bk rfl, nou_bk rfl, trivial⟩
            clear hz194
            clear hb
            refine ⟨.inr ⟨hst.kn.pick (rg 1 5) (rg 2 8), .inr (hst.kn.pick [] [])⟩, ?_⟩
            refine sAny_one (i := 10) (by kernel_rfl) rfl rfl (op_alloc (c := #[.bool (neg 0), .slice none (zl 0) 0]) henv hst rfl zero_anvil_integer_Int zcells ?_)
            clear henv hst a; intro a w197 g196 henv hst
            refine ⟨.inr ⟨hst.kn.pick (rg 2 5) (rg 2 8), .inr (hst.kn.pick [] [])⟩, ?_⟩
            refine sAny_one (i := 12) (by kernel_rfl) rfl rfl (op_store (k := 0) (c' := #[.bool (neg z2), .slice A188 (zl z2) c189]) henv hst (ty_anvil_integer_Int.size) rfl rfl rfl rfl (by simp) rfl rfl ?_)
            clear henv hst a; intro a w198 henv hst
            refine ⟨.inr ⟨hst.kn.pick (rg 2 5) (rg 2 8), .inl rfl⟩, ?_⟩
            refine sAny_one (i := 13) (by kernel_rfl) rfl rfl (op_store (k := 1) (c' := #[.bool (neg z3), .slice A192 (zl z3) c193]) henv hst (ty_anvil_integer_Int.size) rfl rfl rfl rfl (by simp) rfl rfl ?_)
            clear henv hst a; intro a w199 henv hst
            refine ⟨.inr ⟨hst.kn.pick (rg 2 5) (rg 2 8), .inl rfl⟩, ?_⟩
            refine sAny_done (by kernel_rfl) ?_ _
            exact th_n ⟨A188, c189, A192, c193, g196, g186, henv.sub ⟨rfl, rfl, rfl, rfl, rfl, rfl, rfl, rfl, rfl, rfl, rfl, rfl, rfl, rfl, rfl, rfl, rfl, rfl, rfl, rfl, rfl, rfl, rfl, rfl, rfl, rfl, rfl, rfl, rfl, rfl, rfl, rfl, rfl, rfl, rfl, rfl, trivial⟩, hst.pick [1, 0, 2, 3, 4, 5, 6] [0, 1, 2, 3, 4, 5, 6, 7, 8, 9] (by decide)⟩
          · refine ⟨_, rfl, rfl, op_alloc (c := #[.bool (neg 0), .slice none (zl 0) 0]) henv hst rfl zero_anvil_integer_Int zcells ?_⟩
            clear henv hst a; intro a w201 g200 henv hst
            refine ⟨.inr ⟨hst.kn.pick (rg 2 5) (rg 1 8), .inr (hst.kn.pick [] [])⟩, ?_⟩
            refine sAny_one (i := 9) (by kernel_rfl) rfl rfl (op_call henv rfl Tryd.call19 rfl (make_zv (show U32 _ A3 n3 c3 xs3 from hst.pat (k := 5) rfl) hv3 (by omega)) ?_)
            rintro e w205 ⟨_, rfl, ⟨A202, c203, rfl, hz204⟩, hb⟩
            refine ⟨_, rfl, ?_⟩
            clear henv a; intro a henv
            replace hst := (hst.call hb).addZ hz204 ⟨nou_bk rfl, nou_bk rfl, nou_bk rfl, nou_bk rfl, nou_bk rfl, nou_bk rfl, nou_bk rfl, trivial⟩
            clear hz204
            clear hb
            refine ⟨.inr ⟨hst.kn.pick (rg 2 5) (rg 2 8), .inr (hst.kn.pick [] [])⟩, ?_⟩
            refine sAny_one (i := 12) (by kernel_rfl) rfl rfl (op_store (k := 0) (c' := #[.bool (neg z2), .slice A188 (zl z2) c189]) henv hst (ty_anvil_integer_Int.size) rfl rfl rfl rfl (by simp) rfl rfl ?_)
            clear henv hst a; intro a w206 henv hst
            refine ⟨.inr ⟨hst.kn.pick (rg 2 5) (rg 2 8), .inl rfl⟩, ?_⟩
            refine sAny_one (i := 13) (by kernel_rfl) rfl rfl (op_store (k := 1) (c' := #[.bool (neg z3), .slice A202 (zl z3) c203]) henv hst (ty_anvil_integer_Int.size) rfl rfl rfl rfl (by simp) rfl rfl ?_)
            clear henv hst a; intro a w207 henv hst
            refine ⟨.inr ⟨hst.kn.pick (rg 2 5) (rg 2 8), .inl rfl⟩, ?_⟩
            refine sAny_done (by kernel_rfl) ?_ _
            exact th_n ⟨A188, c189, A202, c203, g200, g186, henv.sub ⟨rfl, rfl, rfl, rfl, rfl, rfl, rfl, rfl, rfl, rfl, rfl, rfl, rfl, rfl, rfl, rfl, rfl, rfl, rfl, rfl, rfl, rfl, rfl, rfl, rfl, rfl, rfl, rfl, rfl, rfl, rfl, rfl, rfl, rfl, rfl, rfl, trivial⟩, hst.pick [1, 0, 2, 3, 4, 5, 6] [0, 1, 2, 3, 4, 5, 6, 7, 8, 9] (by decide)⟩
        · refine ⟨_, rfl, rfl, op_alloc (c := #[.bool (neg 0), .slice none (zl 0) 0]) henv hst rfl zero_anvil_integer_Int zcells ?_⟩
          clear henv hst a; intro a w209 g208 henv hst
          refine ⟨.inr ⟨hst.kn.pick (rg 2 5) (rg 0 8), .inr (hst.kn.pick [] [])⟩, ?_⟩
          refine sAny_one (i := 4) (by kernel_rfl) rfl rfl (op_call henv rfl Tryd.call19 rfl (make_zv (show U32 _ A2 n2 c2 xs2 from hst.pat (k := 5) rfl) hv2 (by omega)) ?_)
          rintro e w213 ⟨_, rfl, ⟨A210, c211, rfl, hz212⟩, hb⟩
          refine ⟨_, rfl, ?_⟩
          clear henv a; intro a henv
          replace hst := (hst.call hb).addZ hz212 ⟨nou_bk rfl, nou_bk rfl, nou_bk rfl, nou_bk rfl, nou_bk rfl, nou_bk rfl, nou_bk rfl, trivial⟩
          clear hz212
          clear hb
          refine ⟨.inr ⟨hst.kn.pick (rg 2 5) (rg 1 8), .inr (hst.kn.pick [] [])⟩, ?_⟩
          refine sAny_one (i := 9) (by kernel_rfl) rfl rfl (op_call henv rfl Tryd.call19 rfl (make_zv (show U32 _ A3 n3 c3 xs3 from hst.pat (k := 5) rfl) hv3 (by omega)) ?_)
          rintro e w217 ⟨_, rfl, ⟨A214, c215, rfl, hz216⟩, hb⟩
          refine ⟨_, rfl, ?_⟩
          clear henv a; intro a henv
          replace hst := (hst.call hb).addZ hz216 ⟨nou_bk rfl, nou_bk rfl, nou_bk rfl, nou_bk rfl, nou_bk rfl, nou_bk rfl, nou_bk rfl, trivial⟩
          clear hz216
          clear hb
          refine ⟨.inr ⟨hst.kn.pick (rg 2 5) (rg 2 8), .inr (hst.kn.pick [] [])⟩, ?_⟩
          refine sAny_one (i := 12) (by kernel_rfl) rfl rfl (op_store (k := 0) (c' := #[.bool (neg z2), .slice A210 (zl z2) c211]) henv hst (ty_anvil_integer_Int.size) rfl rfl rfl rfl (by simp) rfl rfl ?_)
          clear henv hst a; intro a w218 henv hst
          refine ⟨.inr ⟨hst.kn.pick (rg 2 5) (rg 2 8), .inl rfl⟩, ?_⟩
          refine sAny_one (i := 13) (by kernel_rfl) rfl rfl (op_store (k := 1) (c' := #[.bool (neg z3), .slice A214 (zl z3) c215]) henv hst (ty_anvil_integer_Int.size) rfl rfl rfl rfl (by simp) rfl rfl ?_)
          clear henv hst a; intro a w219 henv hst
          refine ⟨.inr ⟨hst.kn.pick (rg 2 5) (rg 2 8), .inl rfl⟩, ?_⟩
          refine sAny_done (by kernel_rfl) ?_ _
          exact th_n ⟨A210, c211, A214, c215, g208, g186, henv.sub ⟨rfl, rfl, rfl, rfl, rfl, rfl, rfl, rfl, rfl, rfl, rfl, rfl, rfl, rfl, rfl, rfl, rfl, rfl, rfl, rfl, rfl, rfl, rfl, rfl, rfl, rfl, rfl, rfl, rfl, rfl, rfl, rfl, rfl, rfl, rfl, rfl, trivial⟩, hst.pick [1, 0, 2, 3, 4, 5, 6] [0, 1, 2, 3, 4, 5, 6, 7, 8, 9] (by decide)⟩
    clear henv hst a
    rintro a w220 ⟨A96, c97, A100, c101, g104, g106, henv, hst⟩
    refine wp_seq ?_
    refine region_seq ?_
    revert a
    refine mA rfl rfl ?_
    refine mA rfl rfl ?_
    intro a henv
    refine seq_step rfl (op_call henv rfl Tryd.call21 rfl (row_add' (hst.pat (k := 5) rfl) hz77 (hst.pat (k := 3) rfl) hz88 ((hkx.mono (by decide))) ((hky.mono (by decide))) (by omega)) ?_)
    rintro e w226 ⟨_, rfl, ⟨A221, c222, es223, rfl, hr, hl224, hz225⟩, hb⟩
    refine ⟨_, rfl, ?_⟩
    clear henv a; intro a henv
    replace hst := hst.freshRd hb hr hl224 (ap_N hr.2.1 ⟨nou_bk rfl, nou_bk rfl, nou_bk rfl, nou_bk rfl, nou_bk rfl, nou_bk rfl, nou_bk rfl, trivial⟩)
    clear hr
    clear hb
    revert a
    refine mA rfl rfl ?_
    refine sA (v := .slice A221 n0 c222) rfl (fun _ henv => rn_extract henv rfl rfl) ?_
    refine sA (v := .int .i64 0) rfl (fun _ henv => rn_extract henv rfl rfl) ?_
    refine aA rfl rfl ?_
    refine aA rfl rfl ?_
    intro a henv
    refine wpList_nil ?_
    refine th_n ?_
    refine wp_seq ?_
    refine region_any (n := 12) (Sk [bk g106 #[.bool (neg z3), .slice A100 (zl z3) c101] 36, bk g104 #[.bool (neg z2), .slice A96 (zl z2) c97] 36, bk g70 #[.slice A0 n0 c0, .slice A1 n0 c1, .slice (some ⟨g68, 0, none⟩) 2 2] 22, bk g68 #[.bool b2, .slice A2 n2 c2, .bool b3, .slice A3 n3 c3] 25, bk g57 #[.bool b3, .slice A3 n3 c3] 25, bk g55 #[.bool b2, .slice A2 n2 c2] 25, bk g51 #[.slice A0 n0 c0, .slice A1 n0 c1, .bool b2, .slice A2 n2 c2, .bool b3, .slice A3 n3 c3] 27] [pfRow fN FN 2 A221 n0 c222 es223, pfZ A100 c101 z3, pfZ A96 c97 z2, pfRow fM FM 2 A89 n0 c90 es91, pfRow fN FN 2 A84 n0 c85 es86, pfRow fM FM 2 A78 n0 c79 es80, pfRow fN FN 2 A73 n0 c74 es75, pfU A3 n3 c3 xs3, pfU A2 n2 c2 xs2, pfRow fU FU 2 A1 n0 c1 es1, pfRow fU FU 2 A0 n0 c0 es0] [] []) mixed rfl henv hst ?_
    clear henv hst; intro w227 henv hst
    refine tM (i := 0) [2, 5, 6, 7, 8, 9, 10, 11] rfl (by kernel_rfl) (fun _ _ _ h => h) henv rfl rfl ?_
    clear henv a; intro a henv
    refine tL (i := 1) 1 1 [2, 5, 6, 7, 8, 9, 10, 11] rfl (by kernel_rfl) (fun _ _ _ h => h) henv rfl ty_anvil_integer_Int rfl hst rfl rfl rfl ?_
    clear henv a; intro a henv
    refine tM (i := 3) (rg 5 7) rfl (by kernel_rfl) (fun _ _ _ h => h) henv rfl rfl ?_
    clear henv a; intro a henv
    refine tL (i := 4) 1 1 (rg 5 7) rfl (by kernel_rfl) (fun _ _ _ h => h) henv rfl ty_anvil_integer_Int rfl hst rfl rfl rfl ?_
    clear henv a; intro a henv
    refine sAny_one (i := 2) (by kernel_rfl) rfl rfl (op_call henv rfl Tryd.call26 rfl (row_scale (hst.pat (k := 6) rfl) hz77 (show ZIn _ A96 c97 z2 from hst.pat (k := 2) rfl) (by omega) ((hkx.mono (by decide))) (by omega)) ?_)
    rintro e w233 ⟨_, rfl, ⟨A228, c229, es230, rfl, hr, hl231, hz232⟩, hb⟩
    refine ⟨_, rfl, ?_⟩
    clear henv a; intro a henv
    replace hst := hst.freshRd hb hr hl231 (ap_N hr.2.1 ⟨nou_bk rfl, nou_bk rfl, nou_bk rfl, nou_bk rfl, nou_bk rfl, nou_bk rfl, nou_bk rfl, trivial⟩)
    clear hr
    clear hb
    refine ⟨.inr ⟨hst.kn.pick (rg 0 7) (rg 1 11), .inr (hst.kn.pick [] [])⟩, ?_⟩
    refine sAny_one (i := 5) (by kernel_rfl) rfl rfl (op_call henv rfl Tryd.call26 rfl (row_scale (hst.pat (k := 5) rfl) hz88 (show ZIn _ A96 c97 z2 from hst.pat (k := 3) rfl) (by omega) ((hky.mono (by decide))) (by omega)) ?_)
    rintro e w239 ⟨_, rfl, ⟨A234, c235, es236, rfl, hr, hl237, hz238⟩, hb⟩
    refine ⟨_, rfl, ?_⟩
    clear henv a; intro a henv
    replace hst := hst.freshRd hb hr hl237 (ap_N hr.2.1 ⟨nou_bk rfl, nou_bk rfl, nou_bk rfl, nou_bk rfl, nou_bk rfl, nou_bk rfl, nou_bk rfl, trivial⟩)
    clear hr
    clear hb
    refine ⟨.inr ⟨hst.kn.pick (rg 0 7) (rg 2 11), .inr (hst.kn.pick [] [])⟩, ?_⟩
    refine sAny_one (i := 6) (by kernel_rfl) rfl rfl (op_call henv rfl Tryd.call21 rfl (row_add' (hst.pat (k := 1) rfl) hz232 (hst.pat (k := 0) rfl) hz238 ((hkm.mono (by decide))) ((hkmy.mono (by decide))) (by omega)) ?_)
    rintro e w245 ⟨_, rfl, ⟨A240, c241, es242, rfl, hr, hl243, hz244⟩, hb⟩
    refine ⟨_, rfl, ?_⟩
    clear henv a; intro a henv
    replace hst := hst.freshRd hb hr hl243 (ap_N hr.2.1 ⟨nou_bk rfl, nou_bk rfl, nou_bk rfl, nou_bk rfl, nou_bk rfl, nou_bk rfl, nou_bk rfl, trivial⟩)
    clear hr
    clear hb
    refine ⟨.inr ⟨hst.kn.pick (rg 0 7) (rg 3 11), .inr (hst.kn.pick [] [])⟩, ?_⟩
    refine tM (i := 7) (rg 8 4) rfl (by kernel_rfl) (fun _ _ _ h => h) henv rfl rfl ?_
    clear henv a; intro a henv
    refine tA (i := 8) [10, 11] (v := .slice A240 n0 c241) rfl (by kernel_rfl) (fun _ _ _ h => h) henv rfl (fun _ => rn_extract henv rfl rfl) ?_
    clear henv a; intro a henv
    refine tA (i := 9) [11] (v := .int .i64 0) rfl (by kernel_rfl) (fun _ _ _ h => h) henv rfl (fun _ => rn_extract henv rfl rfl) ?_
    clear henv a; intro a henv
    refine tA (i := 10) [11] (v := .slice A240 n0 c241) rfl (by kernel_rfl) (fun _ _ _ h => h) henv rfl (fun _ => rn_assign henv rfl) ?_
    clear henv a; intro a henv
    refine tA (i := 11) [] (v := .int .i64 0) rfl (by kernel_rfl) (fun _ _ _ h => h) henv rfl (fun _ => rn_assign henv rfl) ?_
    clear henv a; intro a henv
    refine sAny_done (by kernel_rfl) ?_ _
    refine th_n ?_
    refine wp_seq ?_
    refine region_seq ?_
    revert a
    refine sA (v := .agg #[.bool (neg z2), .slice A96 (zl z2) c97]) rfl (fun _ henv => rn_load0 henv ty_anvil_integer_Int rfl (hst.oat (k := 1) rfl) rfl) ?_
    refine mA rfl rfl ?_
    refine sA (v := .agg #[.bool (neg z3), .slice A100 (zl z3) c101]) rfl (fun _ henv => rn_load0 henv ty_anvil_integer_Int rfl (hst.oat (k := 0) rfl) rfl) ?_
    refine mA rfl rfl ?_
    intro a henv
    refine seq_step rfl (op_call henv rfl Tryd.call23 rfl (row_combine (hst.pat (k := 9) rfl) hz77 (hst.pat (k := 7) rfl) hz88 (show ZIn _ A96 c97 z2 from hst.pat (k := 5) rfl) (show ZIn _ A100 c101 z3 from hst.pat (k := 4) rfl) (by omega) (by omega) ((hkx.mono (by decide))) ((hky.mono (by decide))) (by omega)) ?_)
    rintro e w251 ⟨_, rfl, ⟨A246, c247, es248, rfl, hr, hl249, hz250⟩, hb⟩
    refine ⟨_, rfl, ?_⟩
    clear henv a; intro a henv
    replace hst := hst.freshRd hb hr hl249 (ap_N hr.2.1 ⟨nou_bk rfl, nou_bk rfl, nou_bk rfl, nou_bk rfl, nou_bk rfl, nou_bk rfl, nou_bk rfl, trivial⟩)
    clear hr
    clear hb
    revert a
    refine mA rfl rfl ?_
    refine sA (v := .slice A246 n0 c247) rfl (fun _ henv => rn_extract henv rfl rfl) ?_
    refine sA (v := .int .i64 0) rfl (fun _ henv => rn_extract henv rfl rfl) ?_
    refine aA rfl rfl ?_
    refine aA rfl rfl ?_
    intro a henv
    refine wpList_nil ?_
    refine th_n ?_
    refine wp_seq ?_
    refine region_seq ?_
    revert a
    refine mA rfl rfl ?_
    refine mA rfl rfl ?_
    intro a henv
    refine seq_step rfl (op_call henv rfl Tryd.call24 rfl (row_dot (hst.pat (k := 0) rfl) hz250 (hst.pat (k := 8) rfl) hz88 ((hkc.mono (by decide))) ((hky.mono (by decide))) (by omega)) ?_)
    rintro e w255 ⟨_, rfl, ⟨A252, c253, rfl, hz254⟩, hb⟩
    refine ⟨_, rfl, ?_⟩
    clear henv a; intro a henv
    replace hst := (hst.call hb).addZ hz254 ⟨nou_bk rfl, nou_bk rfl, nou_bk rfl, nou_bk rfl, nou_bk rfl, nou_bk rfl, nou_bk rfl, trivial⟩
    clear hz254
    clear hb
    revert a
    refine mA rfl rfl ?_
    refine sA (v := .agg #[.bool (neg (dotL (List.zipWith (fun x y => z2 * x + z3 * y) (es0.map vz) (es1.map vz)) (es1.map vz))), .slice A252 (zl (dotL (List.zipWith (fun x y => z2 * x + z3 * y) (es0.map vz) (es1.map vz)) (es1.map vz))) c253]) rfl (fun _ henv => rn_extract henv rfl rfl) ?_
    refine sA (v := .int .i64 0) rfl (fun _ henv => rn_extract henv rfl rfl) ?_
    intro a henv
    refine seq_step rfl (op_alloc (c := #[.bool (neg 0), .slice none (zl 0) 0]) henv hst rfl zero_anvil_integer_Int zcells ?_)
    clear henv hst a; intro a w257 g256 henv hst
    refine seq_step rfl (op_store (k := 0) (c' := #[.bool (neg (dotL (List.zipWith (fun x y => z2 * x + z3 * y) (es0.map vz) (es1.map vz)) (es1.map vz))), .slice A252 (zl (dotL (List.zipWith (fun x y => z2 * x + z3 * y) (es0.map vz) (es1.map vz)) (es1.map vz))) c253]) henv hst (ty_anvil_integer_Int.size) rfl rfl rfl rfl (by simp) rfl rfl ?_)
    clear henv hst a; intro a w258 henv hst
    refine sv (v := .int .i64 0) henv rfl (rn_assign henv rfl) ?_
    clear henv a; intro a henv
    refine wpList_nil ?_
    refine th_n ?_
    refine wp_seq ?_
    refine region_seq ?_
    revert a
    refine mA rfl rfl ?_
    refine mA rfl rfl ?_
    intro a henv
    refine seq_step rfl (op_call henv rfl Tryd.call24 rfl (row_dot (hst.pat (k := 11) rfl) hz77 (hst.pat (k := 9) rfl) hz88 ((hkx.mono (by decide))) ((hky.mono (by decide))) (by omega)) ?_)
    rintro e w262 ⟨_, rfl, ⟨A259, c260, rfl, hz261⟩, hb⟩
    refine ⟨_, rfl, ?_⟩
    clear henv a; intro a henv
    replace hst := (hst.call hb).addZ hz261 ⟨nou_bk rfl, nou_bk rfl, nou_bk rfl, nou_bk rfl, nou_bk rfl, nou_bk rfl, nou_bk rfl, nou_bk rfl, trivial⟩
    clear hz261
    clear hb
    revert a
    refine mA rfl rfl ?_
    refine sA (v := .agg #[.bool (neg (dotL (es0.map vz) (es1.map vz))), .slice A259 (zl (dotL (es0.map vz) (es1.map vz))) c260]) rfl (fun _ henv => rn_extract henv rfl rfl) ?_
    refine sA (v := .int .i64 0) rfl (fun _ henv => rn_extract henv rfl rfl) ?_
    intro a henv
    refine seq_step rfl (op_alloc (c := #[.bool (neg 0), .slice none (zl 0) 0]) henv hst rfl zero_anvil_integer_Int zcells ?_)
    clear henv hst a; intro a w264 g263 henv hst
    refine seq_step rfl (op_store (k := 0) (c' := #[.bool (neg (dotL (es0.map vz) (es1.map vz))), .slice A259 (zl (dotL (es0.map vz) (es1.map vz))) c260]) henv hst (ty_anvil_integer_Int.size) rfl rfl rfl rfl (by simp) rfl rfl ?_)
    clear henv hst a; intro a w265 henv hst
    refine sv (v := .int .i64 0) henv rfl (rn_assign henv rfl) ?_
    clear henv a; intro a henv
    refine wpList_nil ?_
    refine th_n ?_
    refine wp_seq ?_
    refine region_seq ?_
    revert a
    refine mA rfl rfl ?_
    refine mA rfl rfl ?_
    intro a henv
    refine seq_step rfl (op_call henv rfl Tryd.call24 rfl (row_dot (hst.pat (k := 10) rfl) hz88 (hst.pat (k := 10) rfl) hz88 ((hky.mono (by decide))) ((hky.mono (by decide))) (by omega)) ?_)
    rintro e w269 ⟨_, rfl, ⟨A266, c267, rfl, hz268⟩, hb⟩
    refine ⟨_, rfl, ?_⟩
    clear henv a; intro a henv
    replace hst := (hst.call hb).addZ hz268 ⟨nou_bk rfl, nou_bk rfl, nou_bk rfl, nou_bk rfl, nou_bk rfl, nou_bk rfl, nou_bk rfl, nou_bk rfl, nou_bk rfl, trivial⟩
    clear hz268
    clear hb
    revert a
    refine mA rfl rfl ?_
    refine sA (v := .agg #[.bool (neg (dotL (es1.map vz) (es1.map vz))), .slice A266 (zl (dotL (es1.map vz) (es1.map vz))) c267]) rfl (fun _ henv => rn_extract henv rfl rfl) ?_
    refine sA (v := .int .i64 0) rfl (fun _ henv => rn_extract henv rfl rfl) ?_
    intro a henv
    refine seq_step rfl (op_alloc (c := #[.bool (neg 0), .slice none (zl 0) 0]) henv hst rfl zero_anvil_integer_Int zcells ?_)
    clear henv hst a; intro a w271 g270 henv hst
    refine seq_step rfl (op_store (k := 0) (c' := #[.bool (neg (dotL (es1.map vz) (es1.map vz))), .slice A266 (zl (dotL (es1.map vz) (es1.map vz))) c267]) henv hst (ty_anvil_integer_Int.size) rfl rfl rfl rfl (by simp) rfl rfl ?_)
    clear henv hst a; intro a w272 henv hst
    refine sv (v := .int .i64 0) henv rfl (rn_assign henv rfl) ?_
    clear henv a; intro a henv
    refine wpList_nil ?_
    refine th_n ?_
    refine wp_seq ?_
    refine wp_seq ?_
    refine region_seq ?_
    revert a
    refine mA rfl rfl ?_
    refine sA (v := .bool false) rfl (fun _ henv => rn_bin henv rfl rfl rfl) ?_
    refine mA rfl rfl ?_
    refine gA (v := .int .i64 0) rfl rfl rfl rfl (fun _ henv => rn_move henv rfl) ?_
    refine gA (v := .bool false) rfl rfl rfl rfl (fun _ henv => rn_bin henv rfl rfl rfl) ?_
    refine sA (v := .bool false) rfl (fun _ henv => rn_pick henv rfl rfl) ?_
    refine mA rfl rfl ?_
    refine gA (v := .int .i64 0) rfl rfl rfl rfl (fun _ henv => rn_move henv rfl) ?_
    refine gA (v := .bool false) rfl rfl rfl rfl (fun _ henv => rn_bin henv rfl rfl rfl) ?_
    refine sA (v := .bool false) rfl (fun _ henv => rn_pick henv rfl rfl) ?_
    refine mA rfl rfl ?_
    refine gA (v := .int .i64 0) rfl rfl rfl rfl (fun _ henv => rn_move henv rfl) ?_
    refine gA (v := .bool false) rfl rfl rfl rfl (fun _ henv => rn_bin henv rfl rfl rfl) ?_
    refine sA (v := .bool false) rfl (fun _ henv => rn_pick henv rfl rfl) ?_
    refine mA rfl rfl ?_
    refine gA (v := .int .i64 0) rfl rfl rfl rfl (fun _ henv => rn_move henv rfl) ?_
    refine gA (v := .bool false) rfl rfl rfl rfl (fun _ henv => rn_bin henv rfl rfl rfl) ?_
    refine sA (v := .bool false) rfl (fun _ henv => rn_pick henv rfl rfl) ?_
    refine mA rfl rfl ?_
    refine gA (v := .int .i64 0) rfl rfl rfl rfl (fun _ henv => rn_move henv rfl) ?_
    refine gA (v := .bool false) rfl rfl rfl rfl (fun _ henv => rn_bin henv rfl rfl rfl) ?_
    refine sA (v := .bool false) rfl (fun _ henv => rn_pick henv rfl rfl) ?_
    refine mA rfl rfl ?_
    intro a henv
    refine seq_g rfl henv rfl rfl (op_call henv rfl Tryd.call16 rfl (row_live) ?_)
    rintro e w273 ⟨rfl, hb⟩
    refine ⟨_, rfl, ?_⟩
    clear henv a; intro a henv
    replace hst := hst.call hb
    clear hb
    revert a
    refine gA (v := .bool false) rfl rfl rfl rfl (fun _ henv => rn_un henv rfl rfl) ?_
    refine sA (v := .bool false) rfl (fun _ henv => rn_pick henv rfl rfl) ?_
    intro a henv
    refine wpList_nil ?_
    refine th_n ?_
    refine if_f henv rfl (rfl) ?_
    refine wp_skip ?_
    refine th_n ?_
    refine wp_seq ?_
    refine region_seq ?_
    refine sv (v := .slice A73 n0 c74) henv rfl (rn_move henv rfl) ?_
    clear henv a; intro a henv
    refine seq_step rfl (op_call henv rfl Tryd.call80 rfl (row_primitive (hst.pat (k := 13) rfl) hz77 ((hkx.mono (by decide))) (by omega)) ?_)
    rintro e w282 ⟨_, _, rfl, ⟨A274, c275, es276, rfl, hr, hl277, hz278⟩, ⟨A279, c280, rfl, hz281⟩, hb⟩
    refine ⟨_, rfl, ?_⟩
    clear henv a; intro a henv
    replace hst := (hst.freshRd hb hr hl277 (ap_N hr.2.1 ⟨nou_bk rfl, nou_bk rfl, nou_bk rfl, nou_bk rfl, nou_bk rfl, nou_bk rfl, nou_bk rfl, nou_bk rfl, nou_bk rfl, nou_bk rfl, trivial⟩)).addZ hz281 ⟨nou_bk rfl, nou_bk rfl, nou_bk rfl, nou_bk rfl, nou_bk rfl, nou_bk rfl, nou_bk rfl, nou_bk rfl, nou_bk rfl, nou_bk rfl, trivial⟩
    clear hr hz281
    clear hb
    revert a
    refine mA rfl rfl ?_
    refine sA (v := .slice A274 n0 c275) rfl (fun _ henv => rn_extract henv rfl rfl) ?_
    refine sA (v := .agg #[.bool (neg (primN (es0.map vz))), .slice A279 (zl (primN (es0.map vz))) c280]) rfl (fun _ henv => rn_extract henv rfl rfl) ?_
    intro a henv
    refine seq_step rfl (op_alloc (c := #[.bool (neg 0), .slice none (zl 0) 0]) henv hst rfl zero_anvil_integer_Int zcells ?_)
    clear henv hst a; intro a w284 g283 henv hst
    refine sv (v := .slice A274 n0 c275) henv rfl (rn_assign henv rfl) ?_
    clear henv a; intro a henv
    refine seq_step rfl (op_store (k := 0) (c' := #[.bool (neg (primN (es0.map vz))), .slice A279 (zl (primN (es0.map vz))) c280]) henv hst (ty_anvil_integer_Int.size) rfl rfl rfl rfl (by simp) rfl rfl ?_)
    clear henv hst a; intro a w285 henv hst
    refine wpList_nil ?_
    refine th_n ?_
    refine wp_seq ?_
    refine region_seq ?_
    refine sv (v := .slice A274 n0 c275) henv rfl (rn_move henv rfl) ?_
    clear henv a; intro a henv
    refine seq_step rfl (op_call henv rfl Tryd.call81 rfl (row_content (hst.pat (k := 1) rfl) hz278 ((hkx.prim.mono (by decide)))) ?_)
    rintro e w289 ⟨_, rfl, ⟨A286, c287, rfl, hz288⟩, hb⟩
    refine ⟨_, rfl, ?_⟩
    clear henv a; intro a henv
    replace hst := (hst.call hb).addZ hz288 ⟨nou_bk rfl, nou_bk rfl, nou_bk rfl, nou_bk rfl, nou_bk rfl, nou_bk rfl, nou_bk rfl, nou_bk rfl, nou_bk rfl, nou_bk rfl, nou_bk rfl, trivial⟩
    clear hz288
    clear hb
    refine seq_step rfl (op_alloc (c := #[.bool (neg 0), .slice none (zl 0) 0]) henv hst rfl zero_anvil_integer_Int zcells ?_)
    clear henv hst a; intro a w291 g290 henv hst
    refine seq_step rfl (op_store (k := 0) (c' := #[.bool (neg (gcdL (prim (es0.map vz)))), .slice A286 (zl (gcdL (prim (es0.map vz)))) c287]) henv hst (ty_anvil_integer_Int.size) rfl rfl rfl rfl (by simp) rfl rfl ?_)
    clear henv hst a; intro a w292 henv hst
    refine wpList_nil ?_
    refine th_n ?_
    refine wp_seq ?_
    refine region_any (n := 60) (Sk [bk g290 #[.bool (neg (gcdL (prim (es0.map vz)))), .slice A286 (zl (gcdL (prim (es0.map vz)))) c287] 36, bk g283 #[.bool (neg (primN (es0.map vz))), .slice A279 (zl (primN (es0.map vz))) c280] 36, bk g270 #[.bool (neg (dotL (es1.map vz) (es1.map vz))), .slice A266 (zl (dotL (es1.map vz) (es1.map vz))) c267] 36, bk g263 #[.bool (neg (dotL (es0.map vz) (es1.map vz))), .slice A259 (zl (dotL (es0.map vz) (es1.map vz))) c260] 36, bk g256 #[.bool (neg (dotL (List.zipWith (fun x y => z2 * x + z3 * y) (es0.map vz) (es1.map vz)) (es1.map vz))), .slice A252 (zl (dotL (List.zipWith (fun x y => z2 * x + z3 * y) (es0.map vz) (es1.map vz)) (es1.map vz))) c253] 36, bk g106 #[.bool (neg z3), .slice A100 (zl z3) c101] 36, bk g104 #[.bool (neg z2), .slice A96 (zl z2) c97] 36, bk g70 #[.slice A0 n0 c0, .slice A1 n0 c1, .slice (some ⟨g68, 0, none⟩) 2 2] 22, bk g68 #[.bool b2, .slice A2 n2 c2, .bool b3, .slice A3 n3 c3] 25, bk g57 #[.bool b3, .slice A3 n3 c3] 25, bk g55 #[.bool b2, .slice A2 n2 c2] 25, bk g51 #[.slice A0 n0 c0, .slice A1 n0 c1, .bool b2, .slice A2 n2 c2, .bool b3, .slice A3 n3 c3] 27] [pfZ A286 c287 (gcdL (prim (es0.map vz))), pfZ A279 c280 (primN (es0.map vz)), pfRow fN FN 2 A274 n0 c275 es276, pfZ A266 c267 (dotL (es1.map vz) (es1.map vz)), pfZ A259 c260 (dotL (es0.map vz) (es1.map vz)), pfZ A252 c253 (dotL (List.zipWith (fun x y => z2 * x + z3 * y) (es0.map vz) (es1.map vz)) (es1.map vz)), pfRow fN FN 2 A246 n0 c247 es248, pfRow fN FN 2 A240 n0 c241 es242, pfRow fN FN 2 A234 n0 c235 es236, pfRow fN FN 2 A228 n0 c229 es230, pfRow fN FN 2 A221 n0 c222 es223, pfZ A100 c101 z3, pfZ A96 c97 z2, pfRow fM FM 2 A89 n0 c90 es91, pfRow fN FN 2 A84 n0 c85 es86, pfRow fM FM 2 A78 n0 c79 es80, pfRow fN FN 2 A73 n0 c74 es75, pfU A3 n3 c3 xs3, pfU A2 n2 c2 xs2, pfRow fU FU 2 A1 n0 c1 es1, pfRow fU FU 2 A0 n0 c0 es0] [] []) mixed rfl henv hst ?_
    clear henv hst; intro w293 henv hst
    refine tM (i := 0) [2, 4, 5, 6, 7, 8, 9, 10, 11, 12, 13, 14, 15, 16, 17, 18, 19, 20, 21, 22, 23, 24, 25, 26, 27, 28, 29, 30, 31, 32, 33, 34, 35, 36, 37, 38, 39, 40, 41, 42, 43, 44, 45, 46, 47, 48, 49, 50, 51, 52, 53, 54, 55, 56, 57, 58, 59] rfl (by kernel_rfl) (fun _ _ _ h => h) henv rfl rfl ?_
    clear henv a; intro a henv
    refine tL (i := 1) 6 6 [2, 4, 5, 6, 7, 8, 9, 10, 11, 12, 13, 14, 15, 16, 17, 18, 19, 20, 21, 22, 23, 24, 25, 26, 27, 28, 29, 30, 31, 32, 33, 34, 35, 36, 37, 38, 39, 40, 41, 42, 43, 44, 45, 46, 47, 48, 49, 50, 51, 52, 53, 54, 55, 56, 57, 58, 59] rfl (by kernel_rfl) (fun _ _ _ h => h) henv rfl ty_anvil_integer_Int rfl hst rfl rfl rfl ?_
    clear henv a; intro a henv
    refine tM (i := 3) (rg 4 56) rfl (by kernel_rfl) (fun _ _ _ h => h) henv rfl rfl ?_
    clear henv a; intro a henv
    refine sAny_one (i := 2) (by kernel_rfl) rfl rfl (op_call henv rfl Tryd.call26 rfl (row_scale (hst.pat (k := 10) rfl) hz225 (show ZIn _ A96 c97 z2 from hst.pat (k := 12) rfl) (by omega) ((hka.mono (by decide))) (by omega)) ?_)
    rintro e w299 ⟨_, rfl, ⟨A294, c295, es296, rfl, hr, hl297, hz298⟩, hb⟩
    refine ⟨_, rfl, ?_⟩
    clear henv a; intro a henv
    replace hst := hst.freshRd hb hr hl297 (ap_N hr.2.1 ⟨nou_bk rfl, nou_bk rfl, nou_bk rfl, nou_bk rfl, nou_bk rfl, nou_bk rfl, nou_bk rfl, nou_bk rfl, nou_bk rfl, nou_bk rfl, nou_bk rfl, nou_bk rfl, trivial⟩)
    clear hr
    clear hb
    refine ⟨.inr ⟨hst.kn.pick (rg 0 12) (rg 1 21), .inr (hst.kn.pick [] [])⟩, ?_⟩
    refine sAny_one (i := 4) (by kernel_rfl) rfl rfl (op_call henv rfl Tryd.call45 rfl (row_same_t (hst.pat (k := 0) rfl) hz298 (hst.pat (k := 8) rfl) (hz244.trans (map_zip_add _ _ _).symm)) ?_)
    rintro e w300 ⟨rfl, hb⟩
    refine ⟨_, rfl, ?_⟩
    clear henv a; intro a henv
    replace hst := hst.call hb
    clear hb
    refine ⟨.inr ⟨hst.kn.pick (rg 0 12) (rg 1 21), .inr (hst.kn.pick [] [])⟩, ?_⟩
    refine tM (i := 5) (rg 6 54) rfl (by kernel_rfl) (fun _ _ _ h => h) henv rfl rfl ?_
    clear henv a; intro a henv
    refine tLg (i := 6) 4 4 (rg 14 46) rfl (by kernel_rfl) (fun _ _ _ h => h) henv rfl rfl rfl rfl ty_anvil_integer_Int rfl hst rfl rfl rfl ?_
    clear henv a; intro a henv
    refine tLg (i := 7) 6 6 [9, 12, 13, 14, 15, 16, 17, 18, 19, 20, 21, 22, 23, 24, 25, 26, 27, 28, 29, 30, 31, 32, 33, 34, 35, 36, 37, 38, 39, 40, 41, 42, 43, 44, 45, 46, 47, 48, 49, 50, 51, 52, 53, 54, 55, 56, 57, 58, 59] rfl (by kernel_rfl) (fun _ _ _ h => h) henv rfl rfl rfl rfl ty_anvil_integer_Int rfl hst rfl rfl rfl ?_
    clear henv a; intro a henv
    refine tLg (i := 8) 3 3 [9, 12, 13, 14, 15, 16, 17, 18, 19, 20, 21, 22, 23, 24, 25, 26, 27, 28, 29, 30, 31, 32, 33, 34, 35, 36, 37, 38, 39, 40, 41, 42, 43, 44, 45, 46, 47, 48, 49, 50, 51, 52, 53, 54, 55, 56, 57, 58, 59] rfl (by kernel_rfl) (fun _ _ _ h => h) henv rfl rfl rfl rfl ty_anvil_integer_Int rfl hst rfl rfl rfl ?_
    clear henv a; intro a henv
    refine tLg (i := 10) 5 5 (rg 12 48) rfl (by kernel_rfl) (fun _ _ _ h => h) henv rfl rfl rfl rfl ty_anvil_integer_Int rfl hst rfl rfl rfl ?_
    clear henv a; intro a henv
    refine tLg (i := 11) 2 2 (rg 12 48) rfl (by kernel_rfl) (fun _ _ _ h => h) henv rfl rfl rfl rfl ty_anvil_integer_Int rfl hst rfl rfl rfl ?_
    clear henv a; intro a henv
    have hs301 := zl_mul z2 (dotL (es0.map vz) (es1.map vz))
    refine sAny_oneg (i := 9) (by kernel_rfl) rfl rfl henv rfl rfl rfl (op_call henv rfl Tryd.call84 rfl (mul_z (x := z2) (y := (dotL (es0.map vz) (es1.map vz))) (show ZIn _ A96 c97 z2 from hst.pat (k := 13) rfl) (show ZIn _ A259 c260 (dotL (es0.map vz) (es1.map vz)) from hst.pat (k := 5) rfl) (by omega) (by omega)) ?_)
    rintro e w305 ⟨_, rfl, ⟨A302, c303, rfl, hz304⟩, hb⟩
    refine ⟨_, rfl, ?_⟩
    clear henv a; intro a henv
    replace hst := (hst.call hb).addZ hz304 ⟨nou_bk rfl, nou_bk rfl, nou_bk rfl, nou_bk rfl, nou_bk rfl, nou_bk rfl, nou_bk rfl, nou_bk rfl, nou_bk rfl, nou_bk rfl, nou_bk rfl, nou_bk rfl, trivial⟩
    clear hz304
    clear hb
    refine ⟨.inr ⟨hst.kn.pick (rg 0 12) (rg 2 21), .inr (hst.kn.pick [] [])⟩, ?_⟩
    have hs306 := zl_mul z3 (dotL (es1.map vz) (es1.map vz))
    refine sAny_oneg (i := 12) (by kernel_rfl) rfl rfl henv rfl rfl rfl (op_call henv rfl Tryd.call84 rfl (mul_z (x := z3) (y := (dotL (es1.map vz) (es1.map vz))) (show ZIn _ A100 c101 z3 from hst.pat (k := 13) rfl) (show ZIn _ A266 c267 (dotL (es1.map vz) (es1.map vz)) from hst.pat (k := 5) rfl) (by omega) (by omega)) ?_)
    rintro e w310 ⟨_, rfl, ⟨A307, c308, rfl, hz309⟩, hb⟩
    refine ⟨_, rfl, ?_⟩
    clear henv a; intro a henv
    replace hst := (hst.call hb).addZ hz309 ⟨nou_bk rfl, nou_bk rfl, nou_bk rfl, nou_bk rfl, nou_bk rfl, nou_bk rfl, nou_bk rfl, nou_bk rfl, nou_bk rfl, nou_bk rfl, nou_bk rfl, nou_bk rfl, trivial⟩
    clear hz309
    clear hb
    refine ⟨.inr ⟨hst.kn.pick (rg 0 12) (rg 3 21), .inr (hst.kn.pick [] [])⟩, ?_⟩
    have hs311 := zl_add (z2 * (dotL (es0.map vz) (es1.map vz))) (z3 * (dotL (es1.map vz) (es1.map vz)))
    refine sAny_oneg (i := 13) (by kernel_rfl) rfl rfl henv rfl rfl rfl (op_call henv rfl Tryd.call85 rfl (add_z (x := z2 * (dotL (es0.map vz) (es1.map vz))) (y := z3 * (dotL (es1.map vz) (es1.map vz))) (show ZIn _ A302 c303 (z2 * (dotL (es0.map vz) (es1.map vz))) from hst.pat (k := 1) rfl) (show ZIn _ A307 c308 (z3 * (dotL (es1.map vz) (es1.map vz))) from hst.pat (k := 0) rfl) (by omega) (by omega)) ?_)
    rintro e w315 ⟨_, rfl, ⟨A312, c313, rfl, hz314⟩, hb⟩
    refine ⟨_, rfl, ?_⟩
    clear henv a; intro a henv
    replace hst := (hst.call hb).addZ hz314 ⟨nou_bk rfl, nou_bk rfl, nou_bk rfl, nou_bk rfl, nou_bk rfl, nou_bk rfl, nou_bk rfl, nou_bk rfl, nou_bk rfl, nou_bk rfl, nou_bk rfl, nou_bk rfl, trivial⟩
    clear hz314
    clear hb
    refine ⟨.inr ⟨hst.kn.pick (rg 0 12) (rg 4 21), .inr (hst.kn.pick [] [])⟩, ?_⟩
    refine sAny_oneg (i := 14) (by kernel_rfl) rfl rfl henv rfl rfl rfl (op_call henv rfl Tryd.call42 rfl (cmp_z (x := (dotL (List.zipWith (fun x y => z2 * x + z3 * y) (es0.map vz) (es1.map vz)) (es1.map vz))) (y := (z2 * (dotL (es0.map vz) (es1.map vz))) + (z3 * (dotL (es1.map vz) (es1.map vz)))) (show ZIn _ A252 c253 (dotL (List.zipWith (fun x y => z2 * x + z3 * y) (es0.map vz) (es1.map vz)) (es1.map vz)) from hst.pat (k := 9) rfl) (show ZIn _ A312 c313 ((z2 * (dotL (es0.map vz) (es1.map vz))) + (z3 * (dotL (es1.map vz) (es1.map vz)))) from hst.pat (k := 0) rfl)) ?_)
    rintro e w316 ⟨rfl, hb⟩
    refine ⟨_, rfl, ?_⟩
    clear henv a; intro a henv
    replace hst := hst.call hb
    clear hb
    refine ⟨.inr ⟨hst.kn.pick (rg 0 12) (rg 4 21), .inr (hst.kn.pick [] [])⟩, ?_⟩
    refine tAg (i := 15) (rg 16 44) (v := .bool (((dotL (List.zipWith (fun x y => z2 * x + z3 * y) (es0.map vz) (es1.map vz)) (es1.map vz)) - ((z2 * (dotL (es0.map vz) (es1.map vz))) + (z3 * (dotL (es1.map vz) (es1.map vz))))).sign == (0 : Int))) rfl (by kernel_rfl) (fun _ _ _ h => h) henv rfl rfl rfl rfl (fun _ => rn_bin henv rfl rfl rfl) ?_
    clear henv a; intro a henv
    rw [show (((dotL (List.zipWith (fun x y => z2 * x + z3 * y) (es0.map vz) (es1.map vz)) (es1.map vz)) - ((z2 * (dotL (es0.map vz) (es1.map vz))) + (z3 * (dotL (es1.map vz) (es1.map vz))))).sign == (0 : Int)) = true from (sub_sign0 hmod)] at henv
    refine tA (i := 16) (rg 17 43) (v := .bool true) rfl (by kernel_rfl) (fun _ _ _ h => h) henv rfl (fun _ => rn_pick henv rfl rfl) ?_
    clear henv a; intro a henv
    refine tM (i := 17) (rg 18 42) rfl (by kernel_rfl) (fun _ _ _ h => h) henv rfl rfl ?_
    clear henv a; intro a henv
    refine tAg (i := 18) [20, 22, 23, 24, 25, 26, 27, 28, 29, 30, 31, 32, 33, 34, 35, 36, 37, 38, 39, 40, 41, 42, 43, 44, 45, 46, 47, 48, 49, 50, 51, 52, 53, 54, 55, 56, 57, 58, 59] (v := .slice A274 n0 c275) rfl (by kernel_rfl) (fun _ _ _ h => h) henv rfl rfl rfl rfl (fun _ => rn_move henv rfl) ?_
    clear henv a; intro a henv
    refine tLg (i := 19) 1 1 [20, 22, 23, 24, 25, 26, 27, 28, 29, 30, 31, 32, 33, 34, 35, 36, 37, 38, 39, 40, 41, 42, 43, 44, 45, 46, 47, 48, 49, 50, 51, 52, 53, 54, 55, 56, 57, 58, 59] rfl (by kernel_rfl) (fun _ _ _ h => h) henv rfl rfl rfl rfl ty_anvil_integer_Int rfl hst rfl rfl rfl ?_
    clear henv a; intro a henv
    refine tAg (i := 21) (rg 22 38) (v := .slice A73 n0 c74) rfl (by kernel_rfl) (fun _ _ _ h => h) henv rfl rfl rfl rfl (fun _ => rn_move henv rfl) ?_
    clear henv a; intro a henv
    refine sAny_oneg (i := 20) (by kernel_rfl) rfl rfl henv rfl rfl rfl (op_call henv rfl Tryd.call26 rfl (row_scale (hst.pat (k := 6) rfl) hz278 (show ZIn _ A279 c280 (primN (es0.map vz)) from hst.pat (k := 5) rfl) (by omega) ((hkx.prim.mono (by decide))) (by omega)) ?_)
    rintro e w322 ⟨_, rfl, ⟨A317, c318, es319, rfl, hr, hl320, hz321⟩, hb⟩
    refine ⟨_, rfl, ?_⟩
    clear henv a; intro a henv
    replace hst := hst.freshRd hb hr hl320 (ap_N hr.2.1 ⟨nou_bk rfl, nou_bk rfl, nou_bk rfl, nou_bk rfl, nou_bk rfl, nou_bk rfl, nou_bk rfl, nou_bk rfl, nou_bk rfl, nou_bk rfl, nou_bk rfl, nou_bk rfl, trivial⟩)
    clear hr
    clear hb
    refine ⟨.inr ⟨hst.kn.pick (rg 0 12) (rg 5 21), .inr (hst.kn.pick [] [])⟩, ?_⟩
    refine sAny_oneg (i := 22) (by kernel_rfl) rfl rfl henv rfl rfl rfl (op_call henv rfl Tryd.call45 rfl (row_same_t (hst.pat (k := 0) rfl) hz321 (hst.pat (k := 21) rfl) (hz77.trans (prim_mul _).symm)) ?_)
    rintro e w323 ⟨rfl, hb⟩
    refine ⟨_, rfl, ?_⟩
    clear henv a; intro a henv
    replace hst := hst.call hb
    clear hb
    refine ⟨.inr ⟨hst.kn.pick (rg 0 12) (rg 5 21), .inr (hst.kn.pick [] [])⟩, ?_⟩
    refine tA (i := 23) (rg 24 36) (v := .bool true) rfl (by kernel_rfl) (fun _ _ _ h => h) henv rfl (fun _ => rn_pick henv rfl rfl) ?_
    clear henv a; intro a henv
    refine tM (i := 24) (rg 25 35) rfl (by kernel_rfl) (fun _ _ _ h => h) henv rfl rfl ?_
    clear henv a; intro a henv
    refine tLg (i := 25) 0 0 (rg 27 33) rfl (by kernel_rfl) (fun _ _ _ h => h) henv rfl rfl rfl rfl ty_anvil_integer_Int rfl hst rfl rfl rfl ?_
    clear henv a; intro a henv
    refine sAny_oneg (i := 26) (by kernel_rfl) rfl rfl henv rfl rfl rfl (op_call henv rfl Tryd.call43 rfl (of_z (n := (1 : Int)) (by decide) (by decide)) ?_)
    rintro e w327 ⟨_, rfl, ⟨A324, c325, rfl, hz326⟩, hb⟩
    refine ⟨_, rfl, ?_⟩
    clear henv a; intro a henv
    replace hst := (hst.call hb).addZ hz326 ⟨nou_bk rfl, nou_bk rfl, nou_bk rfl, nou_bk rfl, nou_bk rfl, nou_bk rfl, nou_bk rfl, nou_bk rfl, nou_bk rfl, nou_bk rfl, nou_bk rfl, nou_bk rfl, trivial⟩
    clear hz326
    clear hb
    refine ⟨.inr ⟨hst.kn.pick (rg 0 12) (rg 6 21), .inr (hst.kn.pick [] [])⟩, ?_⟩
    refine sAny_oneg (i := 27) (by kernel_rfl) rfl rfl henv rfl rfl rfl (op_call henv rfl Tryd.call42 rfl (cmp_z (x := (gcdL (prim (es0.map vz)))) (y := 1) (show ZIn _ A286 c287 (gcdL (prim (es0.map vz))) from hst.pat (k := 6) rfl) (show ZIn _ A324 c325 1 from hst.pat (k := 0) rfl)) ?_)
    rintro e w328 ⟨rfl, hb⟩
    refine ⟨_, rfl, ?_⟩
    clear henv a; intro a henv
    replace hst := hst.call hb
    clear hb
    refine ⟨.inr ⟨hst.kn.pick (rg 0 12) (rg 6 21), .inr (hst.kn.pick [] [])⟩, ?_⟩
    refine tAg (i := 28) (rg 29 31) (v := .bool (decide (((gcdL (prim (es0.map vz))) - 1).sign ≤ (0 : Int)))) rfl (by kernel_rfl) (fun _ _ _ h => h) henv rfl rfl rfl rfl (fun _ => rn_bin henv rfl rfl rfl) ?_
    clear henv a; intro a henv
    rw [show (decide (((gcdL (prim (es0.map vz))) - 1).sign ≤ (0 : Int))) = true from (prim_le1 _)] at henv
    refine tA (i := 29) (rg 30 30) (v := .bool true) rfl (by kernel_rfl) (fun _ _ _ h => h) henv rfl (fun _ => rn_pick henv rfl rfl) ?_
    clear henv a; intro a henv
    refine tM (i := 30) (rg 31 29) rfl (by kernel_rfl) (fun _ _ _ h => h) henv rfl rfl ?_
    clear henv a; intro a henv
    refine tLg (i := 31) 0 0 [32, 34, 35, 36, 37, 38, 39, 40, 41, 42, 43, 44, 45, 46, 47, 48, 49, 50, 51, 52, 53, 54, 55, 56, 57, 58, 59] rfl (by kernel_rfl) (fun _ _ _ h => h) henv rfl rfl rfl rfl ty_anvil_integer_Int rfl hst rfl rfl rfl ?_
    clear henv a; intro a henv
    refine tAg (i := 33) (rg 34 26) (v := .slice A73 n0 c74) rfl (by kernel_rfl) (fun _ _ _ h => h) henv rfl rfl rfl rfl (fun _ => rn_move henv rfl) ?_
    clear henv a; intro a henv
    refine sAny_oneg (i := 32) (by kernel_rfl) rfl rfl henv rfl rfl rfl (op_call henv rfl Tryd.call31 rfl (sign_z (z := (gcdL (prim (es0.map vz))))) ?_)
    rintro e w329 ⟨rfl, hb⟩
    refine ⟨_, rfl, ?_⟩
    clear henv a; intro a henv
    replace hst := hst.call hb
    clear hb
    refine ⟨.inr ⟨hst.kn.pick (rg 0 12) (rg 6 21), .inr (hst.kn.pick [] [])⟩, ?_⟩
    refine sAny_oneg (i := 34) (by kernel_rfl) rfl rfl henv rfl rfl rfl (op_call henv rfl Tryd.call81 rfl (row_content (hst.pat (k := 22) rfl) hz77 ((hkx.mono (by decide)))) ?_)
    rintro e w333 ⟨_, rfl, ⟨A330, c331, rfl, hz332⟩, hb⟩
    refine ⟨_, rfl, ?_⟩
    clear henv a; intro a henv
    replace hst := (hst.call hb).addZ hz332 ⟨nou_bk rfl, nou_bk rfl, nou_bk rfl, nou_bk rfl, nou_bk rfl, nou_bk rfl, nou_bk rfl, nou_bk rfl, nou_bk rfl, nou_bk rfl, nou_bk rfl, nou_bk rfl, trivial⟩
    clear hz332
    clear hb
    refine ⟨.inr ⟨hst.kn.pick (rg 0 12) (rg 7 21), .inr (hst.kn.pick [] [])⟩, ?_⟩
    refine sAny_oneg (i := 35) (by kernel_rfl) rfl rfl henv rfl rfl rfl (op_call henv rfl Tryd.call31 rfl (sign_z (z := (gcdL (es0.map vz)))) ?_)
    rintro e w334 ⟨rfl, hb⟩
    refine ⟨_, rfl, ?_⟩
    clear henv a; intro a henv
    replace hst := hst.call hb
    clear hb
    refine ⟨.inr ⟨hst.kn.pick (rg 0 12) (rg 7 21), .inr (hst.kn.pick [] [])⟩, ?_⟩
    refine tAg (i := 36) (rg 37 23) (v := .bool ((gcdL (prim (es0.map vz))).sign == (gcdL (es0.map vz)).sign)) rfl (by kernel_rfl) (fun _ _ _ h => h) henv rfl rfl rfl rfl (fun _ => rn_bin henv rfl rfl rfl) ?_
    clear henv a; intro a henv
    rw [show ((gcdL (prim (es0.map vz))).sign == (gcdL (es0.map vz)).sign) = true from (prim_sign _)] at henv
    refine tA (i := 37) (rg 38 22) (v := .bool true) rfl (by kernel_rfl) (fun _ _ _ h => h) henv rfl (fun _ => rn_pick henv rfl rfl) ?_
    clear henv a; intro a henv
    refine tM (i := 38) (rg 39 21) rfl (by kernel_rfl) (fun _ _ _ h => h) henv rfl rfl ?_
    clear henv a; intro a henv
    refine tAg (i := 39) [41, 42, 44, 46, 47, 48, 49, 50, 51, 52, 53, 54, 55, 56, 57, 58, 59] (v := .slice A73 n0 c74) rfl (by kernel_rfl) (fun _ _ _ h => h) henv rfl rfl rfl rfl (fun _ => rn_move henv rfl) ?_
    clear henv a; intro a henv
    refine tLg (i := 40) 6 6 [41, 42, 44, 46, 47, 48, 49, 50, 51, 52, 53, 54, 55, 56, 57, 58, 59] rfl (by kernel_rfl) (fun _ _ _ h => h) henv rfl rfl rfl rfl ty_anvil_integer_Int rfl hst rfl rfl rfl ?_
    clear henv a; intro a henv
    refine tAg (i := 43) [44, 46, 47, 48, 49, 50, 51, 52, 53, 54, 55, 56, 57, 58, 59] (v := .slice A73 n0 c74) rfl (by kernel_rfl) (fun _ _ _ h => h) henv rfl rfl rfl rfl (fun _ => rn_move henv rfl) ?_
    clear henv a; intro a henv
    refine tLg (i := 45) 6 6 (rg 46 14) rfl (by kernel_rfl) (fun _ _ _ h => h) henv rfl rfl rfl rfl ty_anvil_integer_Int rfl hst rfl rfl rfl ?_
    clear henv a; intro a henv
    refine sAny_oneg (i := 41) (by kernel_rfl) rfl rfl henv rfl rfl rfl (op_call henv rfl Tryd.call26 rfl (row_scale (hst.pat (k := 23) rfl) hz77 (show ZIn _ A96 c97 z2 from hst.pat (k := 19) rfl) (by omega) ((hkx.mono (by decide))) (by omega)) ?_)
    rintro e w340 ⟨_, rfl, ⟨A335, c336, es337, rfl, hr, hl338, hz339⟩, hb⟩
    refine ⟨_, rfl, ?_⟩
    clear henv a; intro a henv
    replace hst := hst.freshRd hb hr hl338 (ap_N hr.2.1 ⟨nou_bk rfl, nou_bk rfl, nou_bk rfl, nou_bk rfl, nou_bk rfl, nou_bk rfl, nou_bk rfl, nou_bk rfl, nou_bk rfl, nou_bk rfl, nou_bk rfl, nou_bk rfl, trivial⟩)
    clear hr
    clear hb
    refine ⟨.inr ⟨hst.kn.pick (rg 0 12) (rg 8 21), .inr (hst.kn.pick [] [])⟩, ?_⟩
    refine sAny_oneg (i := 42) (by kernel_rfl) rfl rfl henv rfl rfl rfl (op_call henv rfl Tryd.call81 rfl (row_content (hst.pat (k := 0) rfl) hz339 ((hkm.mono (by decide)))) ?_)
    rintro e w344 ⟨_, rfl, ⟨A341, c342, rfl, hz343⟩, hb⟩
    refine ⟨_, rfl, ?_⟩
    clear henv a; intro a henv
    replace hst := (hst.call hb).addZ hz343 ⟨nou_bk rfl, nou_bk rfl, nou_bk rfl, nou_bk rfl, nou_bk rfl, nou_bk rfl, nou_bk rfl, nou_bk rfl, nou_bk rfl, nou_bk rfl, nou_bk rfl, nou_bk rfl, trivial⟩
    clear hz343
    clear hb
    refine ⟨.inr ⟨hst.kn.pick (rg 0 12) (rg 9 21), .inr (hst.kn.pick [] [])⟩, ?_⟩
    refine sAny_oneg (i := 44) (by kernel_rfl) rfl rfl henv rfl rfl rfl (op_call henv rfl Tryd.call81 rfl (row_content (hst.pat (k := 25) rfl) hz77 ((hkx.mono (by decide)))) ?_)
    rintro e w348 ⟨_, rfl, ⟨A345, c346, rfl, hz347⟩, hb⟩
    refine ⟨_, rfl, ?_⟩
    clear henv a; intro a henv
    replace hst := (hst.call hb).addZ hz347 ⟨nou_bk rfl, nou_bk rfl, nou_bk rfl, nou_bk rfl, nou_bk rfl, nou_bk rfl, nou_bk rfl, nou_bk rfl, nou_bk rfl, nou_bk rfl, nou_bk rfl, nou_bk rfl, trivial⟩
    clear hz347
    clear hb
    refine ⟨.inr ⟨hst.kn.pick (rg 0 12) (rg 10 21), .inr (hst.kn.pick [] [])⟩, ?_⟩
    refine sAny_oneg (i := 46) (by kernel_rfl) rfl rfl henv rfl rfl rfl (op_call henv rfl Tryd.call86 rfl (abs_z (z := z2) (show ZIn _ A96 c97 z2 from hst.pat (k := 22) rfl)) ?_)
    rintro e w352 ⟨_, rfl, ⟨A349, c350, rfl, hz351⟩, hb⟩
    refine ⟨_, rfl, ?_⟩
    clear henv a; intro a henv
    replace hst := (hst.call hb).addZ hz351 ⟨nou_bk rfl, nou_bk rfl, nou_bk rfl, nou_bk rfl, nou_bk rfl, nou_bk rfl, nou_bk rfl, nou_bk rfl, nou_bk rfl, nou_bk rfl, nou_bk rfl, nou_bk rfl, trivial⟩
    clear hz351
    clear hb
    refine ⟨.inr ⟨hst.kn.pick (rg 0 12) (rg 11 21), .inr (hst.kn.pick [] [])⟩, ?_⟩
    have hs353 := zl_mul (gcdL (es0.map vz)) (z2.natAbs : Int)
    refine sAny_oneg (i := 47) (by kernel_rfl) rfl rfl henv rfl rfl rfl (op_call henv rfl Tryd.call84 rfl (mul_z (x := (gcdL (es0.map vz))) (y := (z2.natAbs : Int)) (show ZIn _ A345 c346 (gcdL (es0.map vz)) from hst.pat (k := 1) rfl) (show ZIn _ A349 c350 (z2.natAbs : Int) from hst.pat (k := 0) rfl) (by omega) (by omega)) ?_)
    rintro e w357 ⟨_, rfl, ⟨A354, c355, rfl, hz356⟩, hb⟩
    refine ⟨_, rfl, ?_⟩
    clear henv a; intro a henv
    replace hst := (hst.call hb).addZ hz356 ⟨nou_bk rfl, nou_bk rfl, nou_bk rfl, nou_bk rfl, nou_bk rfl, nou_bk rfl, nou_bk rfl, nou_bk rfl, nou_bk rfl, nou_bk rfl, nou_bk rfl, nou_bk rfl, trivial⟩
    clear hz356
    clear hb
    refine ⟨.inr ⟨hst.kn.pick (rg 0 12) (rg 12 21), .inr (hst.kn.pick [] [])⟩, ?_⟩
    refine sAny_oneg (i := 48) (by kernel_rfl) rfl rfl henv rfl rfl rfl (op_call henv rfl Tryd.call42 rfl (cmp_z (x := (gcdL ((es0.map vz).map (z2 * ·)))) (y := (gcdL (es0.map vz)) * (z2.natAbs : Int)) (show ZIn _ A341 c342 (gcdL ((es0.map vz).map (z2 * ·))) from hst.pat (k := 3) rfl) (show ZIn _ A354 c355 ((gcdL (es0.map vz)) * (z2.natAbs : Int)) from hst.pat (k := 0) rfl)) ?_)
    rintro e w358 ⟨rfl, hb⟩
    refine ⟨_, rfl, ?_⟩
    clear henv a; intro a henv
    replace hst := hst.call hb
    clear hb
    refine ⟨.inr ⟨hst.kn.pick (rg 0 12) (rg 12 21), .inr (hst.kn.pick [] [])⟩, ?_⟩
    refine tAg (i := 49) (rg 50 10) (v := .bool (((gcdL ((es0.map vz).map (z2 * ·))) - ((gcdL (es0.map vz)) * (z2.natAbs : Int))).sign == (0 : Int))) rfl (by kernel_rfl) (fun _ _ _ h => h) henv rfl rfl rfl rfl (fun _ => rn_bin henv rfl rfl rfl) ?_
    clear henv a; intro a henv
    rw [show (((gcdL ((es0.map vz).map (z2 * ·))) - ((gcdL (es0.map vz)) * (z2.natAbs : Int))).sign == (0 : Int)) = true from (sub_sign0 (gcdL_map_mul _ _))] at henv
    refine tA (i := 50) (rg 51 9) (v := .bool true) rfl (by kernel_rfl) (fun _ _ _ h => h) henv rfl (fun _ => rn_pick henv rfl rfl) ?_
    clear henv a; intro a henv
    refine tM (i := 51) (rg 52 8) rfl (by kernel_rfl) (fun _ _ _ h => h) henv rfl rfl ?_
    clear henv a; intro a henv
    refine tAg (i := 52) [53, 55, 56, 57, 58, 59] (v := .slice A73 n0 c74) rfl (by kernel_rfl) (fun _ _ _ h => h) henv rfl rfl rfl rfl (fun _ => rn_move henv rfl) ?_
    clear henv a; intro a henv
    refine tLg (i := 54) 1 1 (rg 55 5) rfl (by kernel_rfl) (fun _ _ _ h => h) henv rfl rfl rfl rfl ty_anvil_integer_Int rfl hst rfl rfl rfl ?_
    clear henv a; intro a henv
    refine sAny_oneg (i := 53) (by kernel_rfl) rfl rfl henv rfl rfl rfl (op_call henv rfl Tryd.call81 rfl (row_content (hst.pat (k := 28) rfl) hz77 ((hkx.mono (by decide)))) ?_)
    rintro e w362 ⟨_, rfl, ⟨A359, c360, rfl, hz361⟩, hb⟩
    refine ⟨_, rfl, ?_⟩
    clear henv a; intro a henv
    replace hst := (hst.call hb).addZ hz361 ⟨nou_bk rfl, nou_bk rfl, nou_bk rfl, nou_bk rfl, nou_bk rfl, nou_bk rfl, nou_bk rfl, nou_bk rfl, nou_bk rfl, nou_bk rfl, nou_bk rfl, nou_bk rfl, trivial⟩
    clear hz361
    clear hb
    refine ⟨.inr ⟨hst.kn.pick (rg 0 12) (rg 13 21), .inr (hst.kn.pick [] [])⟩, ?_⟩
    refine sAny_oneg (i := 55) (by kernel_rfl) rfl rfl henv rfl rfl rfl (op_call henv rfl Tryd.call86 rfl (abs_z (z := (primN (es0.map vz))) (show ZIn _ A279 c280 (primN (es0.map vz)) from hst.pat (k := 14) rfl)) ?_)
    rintro e w366 ⟨_, rfl, ⟨A363, c364, rfl, hz365⟩, hb⟩
    refine ⟨_, rfl, ?_⟩
    clear henv a; intro a henv
    replace hst := (hst.call hb).addZ hz365 ⟨nou_bk rfl, nou_bk rfl, nou_bk rfl, nou_bk rfl, nou_bk rfl, nou_bk rfl, nou_bk rfl, nou_bk rfl, nou_bk rfl, nou_bk rfl, nou_bk rfl, nou_bk rfl, trivial⟩
    clear hz365
    clear hb
    refine ⟨.inr ⟨hst.kn.pick (rg 0 12) (rg 14 21), .inr (hst.kn.pick [] [])⟩, ?_⟩
    refine sAny_oneg (i := 56) (by kernel_rfl) rfl rfl henv rfl rfl rfl (op_call henv rfl Tryd.call42 rfl (cmp_z (x := (gcdL (es0.map vz))) (y := ((primN (es0.map vz)).natAbs : Int)) (show ZIn _ A359 c360 (gcdL (es0.map vz)) from hst.pat (k := 1) rfl) (show ZIn _ A363 c364 ((primN (es0.map vz)).natAbs : Int) from hst.pat (k := 0) rfl)) ?_)
    rintro e w367 ⟨rfl, hb⟩
    refine ⟨_, rfl, ?_⟩
    clear henv a; intro a henv
    replace hst := hst.call hb
    clear hb
    refine ⟨.inr ⟨hst.kn.pick (rg 0 12) (rg 14 21), .inr (hst.kn.pick [] [])⟩, ?_⟩
    refine tAg (i := 57) [58, 59] (v := .bool (((gcdL (es0.map vz)) - ((primN (es0.map vz)).natAbs : Int)).sign == (0 : Int))) rfl (by kernel_rfl) (fun _ _ _ h => h) henv rfl rfl rfl rfl (fun _ => rn_bin henv rfl rfl rfl) ?_
    clear henv a; intro a henv
    rw [show (((gcdL (es0.map vz)) - ((primN (es0.map vz)).natAbs : Int)).sign == (0 : Int)) = true from (sub_sign0 (primN_abs _).symm)] at henv
    refine tA (i := 58) [59] (v := .bool true) rfl (by kernel_rfl) (fun _ _ _ h => h) henv rfl (fun _ => rn_pick henv rfl rfl) ?_
    clear henv a; intro a henv
    refine tA (i := 59) [] (v := .bool true) rfl (by kernel_rfl) (fun _ _ _ h => h) henv rfl (fun _ => rn_assign henv rfl) ?_
    clear henv a; intro a henv
    refine sAny_done (by kernel_rfl) ?_ _
    refine th_n ?_
    refine wp_ret ?_
    refine leave henv (res1 Tryd.results13 (RV.tmp henv rfl)) ?_
    exact ⟨rfl, hst.below⟩
  · clear hbl
    revert a
    refine mA rfl rfl ?_
    refine kA rfl rfl rfl rfl rfl ?_
    refine kA rfl rfl rfl rfl rfl ?_
    refine kA rfl rfl rfl rfl rfl ?_
    refine kA rfl rfl rfl rfl rfl ?_
    refine kA rfl rfl rfl rfl rfl ?_
    refine sA (v := .bool true) rfl (fun _ henv => rn_pick henv rfl rfl) ?_
    intro a henv
    refine wpList_nil ?_
    refine th_n ?_
    refine if_t henv rfl (rfl) ?_
    refine wp_seq ?_
    refine region_seq ?_
    refine sv (v := .bool true) henv rfl (rn_assign henv rfl) ?_
    clear henv a; intro a henv
    refine wpList_nil ?_
    refine th_n ?_
    refine wp_ret ?_
    refine th_r ?_
    refine leave henv (res1 Tryd.results13 (RV.tmp henv rfl)) ?_
    exact ⟨rfl, hst.below⟩
set_option maxRecDepth 100000 in
set_option maxHeartbeats 8000000 in
theorem rmodule_ne {A0 A1 A2 A3 : Option Addr} {n0 c0 n1 c1 n2 c2 n3 c3 : Nat} {es0 es1 : List UE} {b2 b3 : Bool} {xs2 xs3 : List Nat} {z2 z3 : Int} {w0 : World} (h0 : (pfRow fU FU 2 A0 n0 c0 es0).P w0) (hn0 : n0 ≤ 35184372088832) (hs0 : Sz es0) (h1 : (pfRow fU FU 2 A1 n1 c1 es1).P w0) (hn1 : n1 ≤ 35184372088832) (hs1 : Sz es1) (h2 : U32 w0 A2 n2 c2 xs2) (hn2 : n2 ≤ 35184372088832) (h3 : U32 w0 A3 n3 c3 xs3) (hn3 : n3 ≤ 35184372088832) (hv2 : sg b2 (val 4294967296 xs2) = z2) (hv3 : sg b3 (val 4294967296 xs3) = z3) (hne : n0 ≠ n1) :
    Calls Tryd.prog 13 #[.agg #[.slice A0 n0 c0, .slice A1 n1 c1, .bool b2, .slice A2 n2 c2, .bool b3, .slice A3 n3 c3]] w0 fun e w' => e = .returned (.bool true) ∧ Below w0.heap.size w0 w' := by
  refine enter Tryd.func13 rfl Tryd.ntmps13 rfl ?_
  intro a henv hst
  replace hst := (((hst.argRow h0).argRow h1).addU h2 trivial).addU h3 trivial
  clear h0 h1 h2 h3
  replace hst : St w0 _ [] [pfU A3 n3 c3 xs3, pfU A2 n2 c2 xs2, pfRow fU FU 2 A1 n1 c1 es1, pfRow fU FU 2 A0 n0 c0 es0] := hst
  refine wp_seq ?_
  refine region_seq ?_
  refine seq_step rfl (op_box (c := #[.slice A0 n0 c0, .slice A1 n1 c1, .bool b2, .slice A2 n2 c2, .bool b3, .slice A3 n3 c3]) henv hst rfl rfl rfl ?_)
  clear henv hst a; intro a w52 g51 henv hst
  refine sv (v := .bool false) henv rfl (rn_assign henv rfl) ?_
  clear henv a; intro a henv
  refine wpList_nil ?_
  refine th_n ?_
  refine wp_seq ?_
  refine wp_seq ?_
  refine region_seq ?_
  refine seq_step rfl (op_call henv rfl Tryd.call16 rfl (row_live) ?_)
  rintro e w53 ⟨rfl, hb⟩
  refine ⟨_, rfl, ?_⟩
  clear henv a; intro a henv
  replace hst := hst.call hb
  clear hb
  refine sv (v := .bool false) henv rfl (rn_un henv rfl rfl) ?_
  clear henv a; intro a henv
  refine wpList_nil ?_
  refine th_n ?_
  refine if_f henv rfl (rfl) ?_
  refine wp_skip ?_
  refine th_n ?_
  refine wp_seq ?_
  refine cut (fun a w => ∃ g55 : Nat, ∃ g57 : Nat, Env 206 a [(0, .agg #[.slice A0 n0 c0, .slice A1 n1 c1, .bool b2, .slice A2 n2 c2, .bool b3, .slice A3 n3 c3]), (2, .bool false), (28, .bool true), (29, .bool false), (5, .pointer (some ⟨g55, 0, none⟩)), (6, .pointer (some ⟨g57, 0, none⟩)), (3, .slice A0 n0 c0), (4, .slice A1 n1 c1)] ∧ St w0 w [bk g57 #[.bool b3, .slice A3 n3 c3] 25, bk g55 #[.bool b2, .slice A2 n2 c2] 25, bk g51 #[.slice A0 n0 c0, .slice A1 n1 c1, .bool b2, .slice A2 n2 c2, .bool b3, .slice A3 n3 c3] 27] [pfU A3 n3 c3 xs3, pfU A2 n2 c2 xs2, pfRow fU FU 2 A1 n1 c1 es1, pfRow fU FU 2 A0 n0 c0 es0]) ?_ ?_
  · refine region_any (n := 14) (Sk [bk g51 #[.slice A0 n0 c0, .slice A1 n1 c1, .bool b2, .slice A2 n2 c2, .bool b3, .slice A3 n3 c3] 27] [pfU A3 n3 c3 xs3, pfU A2 n2 c2 xs2, pfRow fU FU 2 A1 n1 c1 es1, pfRow fU FU 2 A0 n0 c0 es0] [12, 13] []) mixed rfl henv hst ?_
    clear henv hst; intro w54 henv hst
    refine tA (i := 0) [1, 10, 11, 12, 13] (v := .pointer (some ⟨g51, 0, none⟩)) rfl (by kernel_rfl) (fun _ _ _ h => h) henv rfl (fun _ => rn_fieldAddr henv fd_anvil_anvillaw04_Two_0 (ty__anvillaw04_Num.size) (by decide) rfl) ?_
    clear henv a; intro a henv
    refine sAny_take (i := 1) [10, 11, 12, 13] (fun w' => w'.heap[g51]? = some (.cells #[.slice A0 n0 c0, .slice A1 n1 c1, .bool b2, .slice A2 n2 c2, .bool b3, .slice A3 n3 c3] 27 (0, 0))) (v := .slice A0 n0 c0) rfl (by kernel_rfl) (fun _ _ _ h => h) (fun _ _ _ hS => hS.1.oat (k := 0) rfl) henv rfl (hst.oat (k := 0) rfl) (fun w' hg => rn_load1 henv ty__anvillaw04_Num rfl hg rfl) ?_
    clear henv a; intro a henv
    refine tA (i := 2) [3, 11, 12, 13] (v := .pointer (some ⟨g51, 1, none⟩)) rfl (by kernel_rfl) (fun _ _ _ h => h) henv rfl (fun _ => rn_fieldAddr henv fd_anvil_anvillaw04_Two_1 (ty__anvillaw04_Num.size) (by decide) rfl) ?_
    clear henv a; intro a henv
    refine sAny_take (i := 3) [11, 12, 13] (fun w' => w'.heap[g51]? = some (.cells #[.slice A0 n0 c0, .slice A1 n1 c1, .bool b2, .slice A2 n2 c2, .bool b3, .slice A3 n3 c3] 27 (0, 0))) (v := .slice A1 n1 c1) rfl (by kernel_rfl) (fun _ _ _ h => h) (fun _ _ _ hS => hS.1.oat (k := 0) rfl) henv rfl (hst.oat (k := 0) rfl) (fun w' hg => rn_load1 henv ty__anvillaw04_Num rfl hg rfl) ?_
    clear henv a; intro a henv
    refine tA (i := 4) [5, 12, 13] (v := .pointer (some ⟨g51, 2, none⟩)) rfl (by kernel_rfl) (fun _ _ _ h => h) henv rfl (fun _ => rn_fieldAddr henv fd_anvil_anvillaw04_Two_2 (ty_anvil_anvillaw04_Num.size) (by decide) rfl) ?_
    clear henv a; intro a henv
    refine sAny_take (i := 5) [12, 13] (fun w' => w'.heap[g51]? = some (.cells #[.slice A0 n0 c0, .slice A1 n1 c1, .bool b2, .slice A2 n2 c2, .bool b3, .slice A3 n3 c3] 27 (0, 0))) (v := .agg #[.bool b2, .slice A2 n2 c2]) rfl (by kernel_rfl) (fun _ _ _ h => h) (fun _ _ _ hS => hS.1.oat (k := 0) rfl) henv rfl (hst.oat (k := 0) rfl) (fun w' hg => rn_load henv ty_anvil_anvillaw04_Num rfl hg rfl rfl) ?_
    clear henv a; intro a henv
    refine tA (i := 6) [7, 13] (v := .pointer (some ⟨g51, 4, none⟩)) rfl (by kernel_rfl) (fun _ _ _ h => h) henv rfl (fun _ => rn_fieldAddr henv fd_anvil_anvillaw04_Two_3 (ty_anvil_anvillaw04_Num.size) (by decide) rfl) ?_
    clear henv a; intro a henv
    refine sAny_take (i := 7) [13] (fun w' => w'.heap[g51]? = some (.cells #[.slice A0 n0 c0, .slice A1 n1 c1, .bool b2, .slice A2 n2 c2, .bool b3, .slice A3 n3 c3] 27 (0, 0))) (v := .agg #[.bool b3, .slice A3 n3 c3]) rfl (by kernel_rfl) (fun _ _ _ h => h) (fun _ _ _ hS => hS.1.oat (k := 0) rfl) henv rfl (hst.oat (k := 0) rfl) (fun w' hg => rn_load henv ty_anvil_anvillaw04_Num rfl hg rfl rfl) ?_
    clear henv a; intro a henv
    refine sAny_all (rs := [8, 9]) (by kernel_rfl) (by simp) ?_
    simp only [List.forall_mem_cons, List.not_mem_nil, false_implies, implies_true, and_true]
    refine ⟨?_, ?_⟩
    · refine ⟨_, rfl, rfl, op_alloc (c := #[.bool false, .slice none 0 0]) henv hst rfl zero_anvil_anvillaw04_Num rfl ?_⟩
      clear henv hst a; intro a w56 g55 henv hst
      refine ⟨.inr ⟨hst.kn.pick [1] (rg 0 4), .inr (hst.kn.pick [] [])⟩, ?_⟩
      refine sAny_one (i := 9) (by kernel_rfl) rfl rfl (op_alloc (c := #[.bool false, .slice none 0 0]) henv hst rfl zero_anvil_anvillaw04_Num rfl ?_)
      clear henv hst a; intro a w58 g57 henv hst
      refine ⟨.inr ⟨hst.kn.pick [2] (rg 0 4), .inr (hst.kn.pick [] [])⟩, ?_⟩
      refine tA (i := 10) [11, 12, 13] (v := .slice A0 n0 c0) rfl (by kernel_rfl) (fun _ _ _ h => h) henv rfl (fun _ => rn_assign henv rfl) ?_
      clear henv a; intro a henv
      refine tA (i := 11) [12, 13] (v := .slice A1 n1 c1) rfl (by kernel_rfl) (fun _ _ _ h => h) henv rfl (fun _ => rn_assign henv rfl) ?_
      clear henv a; intro a henv
      refine sAny_one (i := 12) (by kernel_rfl) rfl rfl (op_store (k := 1) (c' := #[.bool b2, .slice A2 n2 c2]) henv hst (ty_anvil_anvillaw04_Num.size) rfl rfl rfl rfl (by simp) rfl rfl ?_)
      clear henv hst a; intro a w59 henv hst
      refine ⟨.inr ⟨hst.kn.pick [2] (rg 0 4), .inl rfl⟩, ?_⟩
      refine sAny_one (i := 13) (by kernel_rfl) rfl rfl (op_store (k := 0) (c' := #[.bool b3, .slice A3 n3 c3]) henv hst (ty_anvil_anvillaw04_Num.size) rfl rfl rfl rfl (by simp) rfl rfl ?_)
      clear henv hst a; intro a w60 henv hst
      refine ⟨.inr ⟨hst.kn.pick [2] (rg 0 4), .inl rfl⟩, ?_⟩
      refine sAny_done (by kernel_rfl) ?_ _
      exact th_n ⟨g55, g57, henv.sub ⟨rfl, rfl, rfl, rfl, rfl, rfl, rfl, rfl, trivial⟩, hst.pick [0, 1, 2] [0, 1, 2, 3] (by decide)⟩
    · refine ⟨_, rfl, rfl, op_alloc (c := #[.bool false, .slice none 0 0]) henv hst rfl zero_anvil_anvillaw04_Num rfl ?_⟩
      clear henv hst a; intro a w62 g61 henv hst
      refine ⟨.inr ⟨hst.kn.pick [1] (rg 0 4), .inr (hst.kn.pick [] [])⟩, ?_⟩
      refine sAny_one (i := 8) (by kernel_rfl) rfl rfl (op_alloc (c := #[.bool false, .slice none 0 0]) henv hst rfl zero_anvil_anvillaw04_Num rfl ?_)
      clear henv hst a; intro a w64 g63 henv hst
      refine ⟨.inr ⟨hst.kn.pick [2] (rg 0 4), .inr (hst.kn.pick [] [])⟩, ?_⟩
      refine tA (i := 10) [11, 12, 13] (v := .slice A0 n0 c0) rfl (by kernel_rfl) (fun _ _ _ h => h) henv rfl (fun _ => rn_assign henv rfl) ?_
      clear henv a; intro a henv
      refine tA (i := 11) [12, 13] (v := .slice A1 n1 c1) rfl (by kernel_rfl) (fun _ _ _ h => h) henv rfl (fun _ => rn_assign henv rfl) ?_
      clear henv a; intro a henv
      refine sAny_one (i := 12) (by kernel_rfl) rfl rfl (op_store (k := 0) (c' := #[.bool b2, .slice A2 n2 c2]) henv hst (ty_anvil_anvillaw04_Num.size) rfl rfl rfl rfl (by simp) rfl rfl ?_)
      clear henv hst a; intro a w65 henv hst
      refine ⟨.inr ⟨hst.kn.pick [2] (rg 0 4), .inl rfl⟩, ?_⟩
      refine sAny_one (i := 13) (by kernel_rfl) rfl rfl (op_store (k := 1) (c' := #[.bool b3, .slice A3 n3 c3]) henv hst (ty_anvil_anvillaw04_Num.size) rfl rfl rfl rfl (by simp) rfl rfl ?_)
      clear henv hst a; intro a w66 henv hst
      refine ⟨.inr ⟨hst.kn.pick [2] (rg 0 4), .inl rfl⟩, ?_⟩
      refine sAny_done (by kernel_rfl) ?_ _
      exact th_n ⟨g63, g61, henv.sub ⟨rfl, rfl, rfl, rfl, rfl, rfl, rfl, rfl, trivial⟩, hst.pick [1, 0, 2] [0, 1, 2, 3] (by decide)⟩
  clear henv hst a
  rintro a w67 ⟨g55, g57, henv, hst⟩
  refine wp_seq ?_
  refine wp_seq ?_
  refine region_seq ?_
  revert a
  refine mA rfl rfl ?_
  refine mA rfl rfl ?_
  refine sA (v := .agg #[.bool b2, .slice A2 n2 c2]) rfl (fun _ henv => rn_load0 henv ty_anvil_anvillaw04_Num rfl (hst.oat (k := 1) rfl) rfl) ?_
  refine sA (v := .agg #[.bool b3, .slice A3 n3 c3]) rfl (fun _ henv => rn_load0 henv ty_anvil_anvillaw04_Num rfl (hst.oat (k := 0) rfl) rfl) ?_
  intro a henv
  refine seq_step rfl (op_buildSlice (z := 2) (pv := #[(0, .agg #[.bool b2, .slice A2 n2 c2]), (1, .agg #[.bool b3, .slice A3 n3 c3])]) (c := #[.bool b2, .slice A2 n2 c2, .bool b3, .slice A3 n3 c3]) henv hst rfl Tryd.underlying22 (ty_anvil_anvillaw04_Num.size) zero_anvil_anvillaw04_Num (by decide) (by decide) rfl (by kernel_rfl) ?_)
  clear henv hst a; intro a w69 g68 henv hst
  refine seq_step rfl (op_buildSlice (z := 1) (pv := #[(0, .slice A0 n0 c0), (1, .slice A1 n1 c1), (2, .slice (some ⟨g68, 0, none⟩) 2 2)]) (c := #[.slice A0 n0 c0, .slice A1 n1 c1, .slice (some ⟨g68, 0, none⟩) 2 2]) henv hst rfl Tryd.underlying139 (ty__anvillaw04_Num.size) zero__anvillaw04_Num (by decide) (by decide) rfl (by kernel_rfl) ?_)
  clear henv hst a; intro a w71 g70 henv hst
  refine seq_step rfl (op_call henv rfl Tryd.call17 rfl (row_long (pv3 (v0 := (A0, n0, c0, es0)) (v1 := (A1, n1, c1, es1)) (v2 := (some ⟨g68, 0, none⟩, 2, 2, [(b2, A2, n2, c2, xs2), (b3, A3, n3, c3, xs3)])) (hst.oat (k := 0) rfl) (hst.pat (k := 3) rfl) (hst.pat (k := 2) rfl) (pu2 (e0 := (b2, A2, n2, c2, xs2)) (e1 := (b3, A3, n3, c3, xs3)) (hst.oat (k := 1) rfl) (show U32 _ A2 n2 c2 xs2 from hst.pat (k := 1) rfl) (show U32 _ A3 n3 c3 xs3 from hst.pat (k := 0) rfl))) (lg_cons hn0 hs0 (lg_cons hn1 hs1 (lg_cons (show 2 ≤ 35184372088832 by decide) (sz_cons hn2 (sz_cons hn3 sz_nil)) lg_nil)))) ?_)
  rintro e w72 ⟨bl, rfl, hbl, hb⟩
  refine ⟨_, rfl, ?_⟩
  clear henv a; intro a henv
  replace hst := hst.call hb
  clear hb
  cases bl
  · obtain ⟨hx0, hx1, hx2, hx3, hx4, hx5⟩ := tv_three (hbl rfl)
    replace hx4 : n2 ≤ 300 := hx4; replace hx5 : n3 ≤ 300 := hx5
    have hkx : Zk 300 (es0.map vz) := Zk.vz (hst.pat (k := 3) rfl).2.2 hx2
    have hky : Zk 300 (es1.map vz) := Zk.vz (hst.pat (k := 2) rfl).2.2 hx3
    have hle0 : es0.length = n0 := (hst.pat (k := 3) rfl).2.1
    replace hle0 : es0.length ≤ 300 := by omega
    have hle1 : es1.length = n1 := (hst.pat (k := 2) rfl).2.1
    replace hle1 : es1.length ≤ 300 := by omega
    have hz2s : zl z2 ≤ 300 := by rw [← hv2]; exact zl_vze (show U32 _ A2 n2 c2 xs2 from hst.pat (k := 1) rfl) hx4
    have hz3s : zl z3 ≤ 300 := by rw [← hv3]; exact zl_vze (show U32 _ A3 n3 c3 xs3 from hst.pat (k := 0) rfl) hx5
    revert a
    refine mA rfl rfl ?_
    refine gA (v := .slice A0 n0 c0) rfl rfl rfl rfl (fun _ henv => rn_move henv rfl) ?_
    refine gA (v := .int .i64 (n0 : Nat)) rfl rfl rfl rfl (fun _ henv => rn_len henv Tryd.underlying22 rfl) ?_
    refine gA (v := .slice A1 n1 c1) rfl rfl rfl rfl (fun _ henv => rn_move henv rfl) ?_
    refine gA (v := .int .i64 (n1 : Nat)) rfl rfl rfl rfl (fun _ henv => rn_len henv Tryd.underlying22 rfl) ?_
    refine gA (v := .bool (((n0 : Nat) : Int) != ((n1 : Nat) : Int))) rfl rfl rfl rfl (fun _ henv => rn_bin henv rfl rfl rfl) ?_
    intro a henv
    rw [show (((n0 : Nat) : Int) != ((n1 : Nat) : Int)) = true from (bne_iff_ne.2 (by omega))] at henv
    refine sv (v := .bool true) henv rfl (rn_pick henv rfl rfl) ?_
    clear henv a; intro a henv
    refine wpList_nil ?_
    refine th_n ?_
    refine if_t henv rfl (rfl) ?_
    refine wp_seq ?_
    refine region_seq ?_
    refine sv (v := .bool true) henv rfl (rn_assign henv rfl) ?_
    clear henv a; intro a henv
    refine wpList_nil ?_
    refine th_n ?_
    refine wp_ret ?_
    refine th_r ?_
    refine leave henv (res1 Tryd.results13 (RV.tmp henv rfl)) ?_
    exact ⟨rfl, hst.below⟩
  · clear hbl
    revert a
    refine mA rfl rfl ?_
    refine kA rfl rfl rfl rfl rfl ?_
    refine kA rfl rfl rfl rfl rfl ?_
    refine kA rfl rfl rfl rfl rfl ?_
    refine kA rfl rfl rfl rfl rfl ?_
    refine kA rfl rfl rfl rfl rfl ?_
    refine sA (v := .bool true) rfl (fun _ henv => rn_pick henv rfl rfl) ?_
    intro a henv
    refine wpList_nil ?_
    refine th_n ?_
    refine if_t henv rfl (rfl) ?_
    refine wp_seq ?_
    refine region_seq ?_
    refine sv (v := .bool true) henv rfl (rn_assign henv rfl) ?_
    clear henv a; intro a henv
    refine wpList_nil ?_
    refine th_n ?_
    refine wp_ret ?_
    refine th_r ?_
    refine leave henv (res1 Tryd.results13 (RV.tmp henv rfl)) ?_
    exact ⟨rfl, hst.below⟩
theorem rmodule_law {A0 A1 A2 A3 : Option Addr} {n0 c0 n1 c1 n2 c2 n3 c3 : Nat} {es0 es1 : List UE} {b2 b3 : Bool} {xs2 xs3 : List Nat}  {w0 : World} (h0 : (pfRow fU FU 2 A0 n0 c0 es0).P w0) (hn0 : n0 ≤ 35184372088832) (hs0 : Sz es0) (h1 : (pfRow fU FU 2 A1 n1 c1 es1).P w0) (hn1 : n1 ≤ 35184372088832) (hs1 : Sz es1) (h2 : U32 w0 A2 n2 c2 xs2) (hn2 : n2 ≤ 35184372088832) (h3 : U32 w0 A3 n3 c3 xs3) (hn3 : n3 ≤ 35184372088832) :
    Calls Tryd.prog 13 #[.agg #[.slice A0 n0 c0, .slice A1 n1 c1, .bool b2, .slice A2 n2 c2, .bool b3, .slice A3 n3 c3]] w0 fun e w' => e = .returned (.bool true) ∧ Below w0.heap.size w0 w' := by
  by_cases hne : n0 = n1
  · subst hne
    exact rmodule_eq h0 hn0 hs0 h1 hn1 hs1 h2 hn2 h3 hn3 rfl rfl
  · exact rmodule_ne h0 hn0 hs0 h1 hn1 hs1 h2 hn2 h3 hn3 rfl rfl hne
end Go.Proofs.YtegglooojlheoaaDoor.W
