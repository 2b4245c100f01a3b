/- row.Over, Content, Primitive; the reference's Over, Content, Zero, Primitive. Printed by pv/gen_row9.py. No condition. -/
import Derived.Test.YtegglooojlheoaaDoorM47
import Derived.Test.YtegglooojlheoaaDoorM15
import Derived.Test.YtegglooojlheoaaDoorM38
import Derived.Test.YtegglooojlheoaaDoorM48
import Derived.Test.YtegglooojlheoaaDoorM24

namespace Go.Proofs.YtegglooojlheoaaDoor.W
open Go.RowKit Anv Go.Lib
theorem at_zs {es : List NE} {xs : List Int} {j : Nat} {A : Option Addr} {c : Nat} {z : Int} (hz : es.map zz = xs) (he : es[j]? = some (A, c, z)) : xs[j]? = some z := by rw [← hz, List.getElem?_map, he]; rfl
theorem mem_zs {es : List NE} {xs : List Int} {j : Nat} {A : Option Addr} {c : Nat} {z : Int} (hz : es.map zz = xs) (he : es[j]? = some (A, c, z)) : z ∈ xs := List.mem_of_getElem? (at_zs hz he)
theorem step_div {es os : List NE} {xs : List Int} {j : Nat} {A B : Option Addr} {c d : Nat} {z m : Int} (hz : es.map zz = xs) (ho : os.map zz = (xs.map (· / m)).take j) (he : es[j]? = some (A, c, z)) : (os ++ [(B, d, z / m)]).map zz = (xs.map (· / m)).take (j + 1) := by
  rw [List.map_append, ho, take_one (x := z / m) (by rw [List.getElem?_map, at_zs hz he]; rfl)]
  rfl
def ovr (x y : Int) : Int := if x % y = 0 then x / y else 0
theorem step_ovr {es os : List NE} {xs : List Int} {j : Nat} {A B : Option Addr} {c d : Nat} {z m : Int} (hz : es.map zz = xs) (ho : os.map zz = (xs.map (· / m)).take j) (he : es[j]? = some (A, c, z)) (h : z % m = 0) : (os ++ [(B, d, ovr z m)]).map zz = (xs.map (· / m)).take (j + 1) := by
  rw [show ovr z m = z / m from if_pos h]
  exact step_div hz ho he
theorem divs_step {es : List NE} {xs : List Int} {j : Nat} {A : Option Addr} {c : Nat} {z m : Int} (hz : es.map zz = xs) (hd : divs m (xs.take j)) (he : es[j]? = some (A, c, z)) (h : z % m = 0) : divs m (xs.take (j + 1)) := by
  rw [ztake_snoc hz he]
  intro x hx
  rcases List.mem_append.1 hx with hx | hx
  · exact hd x hx
  · rw [List.mem_singleton.1 hx]; exact h
theorem divs_no {es : List NE} {xs : List Int} {j : Nat} {A : Option Addr} {c : Nat} {z m : Int} (hz : es.map zz = xs) (he : es[j]? = some (A, c, z)) (h : z % m ≠ 0) : ¬ divs m xs := fun hd => h (hd z (mem_zs hz he))
theorem take_map_full {xs : List Int} {n : Nat} {f : Int → Int} (h : n = xs.length) : (xs.map f).take n = xs.map f := List.take_of_length_le (by rw [List.length_map]; omega)
theorem sign_ne {z : Int} (h : (z.sign != 0) = true) : z ≠ 0 := fun e => by rw [e] at h; cases h
theorem sign_eq0 {z : Int} (h : (z.sign != 0) = false) : z = 0 := Int.sign_eq_zero_iff_zero.1 (by simpa using h)
theorem sign_eq1 {z : Int} (h : (z.sign == 0) = true) : z = 0 := Int.sign_eq_zero_iff_zero.1 (eq_of_beq h)
theorem sign_ne1 {z : Int} (h : (z.sign == 0) = false) : z ≠ 0 := fun e => by rw [e] at h; cases h
theorem sign_ne0 {z : Int} (h : z ≠ 0) : (z.sign == 0) = false := beq_eq_false_iff_ne.2 fun e => h (Int.sign_eq_zero_iff_zero.1 e)
theorem sign_one {z : Int} (h : ((z - 1).sign == 0) = true) : z = 1 := by have := sign_eq1 h; omega
theorem not_dec_true {p : Prop} [Decidable p] (h : (!decide p) = true) : ¬ p := by simpa using h
theorem not_dec_false {p : Prop} [Decidable p] (h : (!decide p) = false) : p := by simpa using h
theorem zgcd_step {es : List NE} {xs : List Int} {j : Nat} {A : Option Addr} {c : Nat} {m z : Int} (hz : es.map zz = xs) (hm : m = gcdL (xs.take j)) (he : es[j]? = some (A, c, z)) : ((Int.gcd m z : Nat) : Int) = gcdL (xs.take (j + 1)) := by
  rw [ztake_snoc hz he, gcdL_snoc, hm]
theorem gcd_break {es : List NE} {xs : List Int} {j : Nat} {A : Option Addr} {c : Nat} {m z : Int} (hz : es.map zz = xs) (hm : m = gcdL (xs.take j)) (he : es[j]? = some (A, c, z)) (h1 : ((Int.gcd m z : Nat) : Int) = 1) : ((Int.gcd m z : Nat) : Int) = gcdL xs := by
  have h2 := zgcd_step hz hm he
  rw [h1] at h2 ⊢
  exact (gcdL_take_one h2.symm).symm
theorem zero_step {es : List NE} {xs : List Int} {j : Nat} {A : Option Addr} {c : Nat} {z : Int} (hz : es.map zz = xs) (h : ∀ x ∈ xs.take j, x = 0) (he : es[j]? = some (A, c, z)) (h0 : z = 0) : ∀ x ∈ xs.take (j + 1), x = 0 := by
  rw [ztake_snoc hz he]
  intro x hx
  rcases List.mem_append.1 hx with hx | hx
  · exact h x hx
  · rw [List.mem_singleton.1 hx]; exact h0
theorem prim_neg {xs : List Int} {z : Int} (h : lead xs = z) (hn : z.sign < 0) : -gcdL xs = primN xs := by
  unfold primN
  rw [h, if_pos (Int.sign_neg_iff.1 hn)]
theorem prim_pos {xs : List Int} {z : Int} (h : lead xs = z) (hn : ¬ z.sign < 0) : gcdL xs = primN xs := by
  unfold primN
  rw [h, if_neg fun h1 => hn (Int.sign_neg_iff.2 h1)]
theorem over_known {f : FuncId} {args : Array Value} {w : World} {p : Prop} {A : Value → Ending → Prop} {B : Value → World → Prop} {D : Ending → Prop} {C : World → Prop} (h : Calls Tryd.prog f args w fun e w' => ((p ∧ ∃ v, A v e ∧ B v w') ∨ (¬ p ∧ D e)) ∧ C w') (hp : p) : Calls Tryd.prog f args w fun e w' => ∃ v, A v e ∧ B v w' ∧ C w' :=
  h.mono fun _ _ ⟨h1, h2⟩ => h1.elim (fun ⟨_, v, h3, h4⟩ => ⟨v, h3, h4, h2⟩) fun ⟨hn, _⟩ => absurd hp hn
theorem over_fails {f : FuncId} {args : Array Value} {w : World} {p : Prop} {A : Value → Ending → Prop} {B : Value → World → Prop} {D : Ending → Prop} {C : World → Prop} (h : Calls Tryd.prog f args w fun e w' => ((p ∧ ∃ v, A v e ∧ B v w') ∨ (¬ p ∧ D e)) ∧ C w') (hp : ¬ p) : Calls Tryd.prog f args w fun e w' => D e ∧ C w' :=
  h.mono fun _ _ ⟨h1, h2⟩ => h1.elim (fun ⟨h3, _⟩ => absurd h3 hp) fun ⟨_, h3⟩ => ⟨h3, h2⟩
theorem es_zerosM (n : Nat) (w : World) : (pfEs FM (List.replicate n (none, 0, 0))).P w := fun e he => by
  rw [List.eq_of_mem_replicate he]
  exact rin_none w
theorem fM_zero : fM (none, 0, 0) = (Value.agg #[.bool false, .slice none 0 0]).cells.toList := by
  show [Value.bool (neg 0), Value.slice none (dl 0) 0] = _
  rw [neg_zero, dl_zero]; rfl
theorem over_rb {A B : Option Addr} {c d : Nat} {x y : Int} {w : World} (hx : RIn w A c x) (hy : RIn w B d y) (hn : dl x ≤ 50000) (hm : dl y ≤ 50000) (hy0 : y ≠ 0) :
    Calls Tryd.prog 122 #[.agg #[.bool (neg x), .slice A (dl x) c], .agg #[.bool (neg y), .slice B (dl y) d]] w fun e w' => ∃ v, e = .returned (.tuple #[v, .bool (decide (x % y = 0))]) ∧ RAt w' v (ovr x y) ∧ Below w.heap.size w w' := by
  by_cases h : x % y = 0
  · rw [decide_eq_true h, show ovr x y = x / y from if_pos h]
    exact over_r hx hy hn hm hy0 h
  · rw [decide_eq_false h, show ovr x y = 0 from if_neg h]
    refine (over_r_no hx hy hn hm hy0 h).mono fun e w' ⟨he, hb⟩ => ⟨_, he, ⟨none, 0, ?_, rin_none _⟩, hb⟩
    rw [neg_zero, dl_zero]
set_option maxRecDepth 100000 in
set_option maxHeartbeats 2000000 in
theorem row_over {A0 : Option Addr} {n0 c0 : Nat} {es0 : List NE} {xs : List Int} {M : Option Addr} {d : Nat} {m : Int} {w0 : World} (h0 : (pfRow fN FN 2 A0 n0 c0 es0).P w0) (hz0 : es0.map zz = xs) (hM : ZIn w0 M d m) (hm : zl m ≤ 100000) (hm0 : m ≠ 0) (hk : Zk 100000 xs) (hn : n0 ≤ 100000000) :
    Calls Tryd.prog 77 #[.slice A0 n0 c0, .agg #[.bool (neg m), .slice M (zl m) d]] w0 fun e w' => ((divs m xs ∧ ∃ v, e = .returned (.tuple #[v, .int .i64 0]) ∧ ZRow w0.heap.size w' v n0 (xs.map (· / m))) ∨ (¬ divs m xs ∧ e = .returned (.tuple #[.slice none 0 0, .int .i64 20]))) ∧ Below w0.heap.size w0 w' := by
  have hzb := hk.es hz0
  refine enter Tryd.func77 rfl Tryd.ntmps77 rfl ?_
  intro a henv hst
  replace hst := hst.addZ hM trivial
  have hlen0 := h0.2.1
  have hbig0 := Nat.le_trans h0.1.cap h0.1.big
  unfold maxLen at hbig0
  replace hst := hst.argRow h0
  clear h0
  refine wp_seq ?_
  refine region_seq ?_
  refine seq_step rfl (op_box (c := #[.bool (neg m), .slice M (zl m) d]) henv hst rfl rfl rfl ?_)
  clear henv hst a; intro a w52 g51 henv hst
  revert a
  refine aA rfl rfl ?_
  refine aA rfl rfl ?_
  intro a henv
  refine wpList_nil ?_
  refine th_n ?_
  refine wp_seq ?_
  refine wp_seq ?_
  refine region_seq ?_
  refine sv (v := .agg #[.bool (neg m), .slice M (zl m) d]) henv rfl (rn_load0 henv ty_anvil_integer_Int rfl (hst.oat (k := 0) rfl) rfl) ?_
  clear henv a; intro a henv
  refine seq_step rfl (op_call henv rfl Tryd.call31 rfl (sign_z (z := m)) ?_)
  rintro e w53 ⟨rfl, hb⟩
  refine ⟨_, rfl, ?_⟩
  clear henv a; intro a henv
  replace hst := hst.call hb
  clear hb
  refine sv (v := .bool (m.sign == (0 : Int))) henv rfl (rn_bin henv rfl rfl rfl) ?_
  clear henv a; intro a henv
  rw [show (m.sign == (0 : Int)) = false from (sign_ne0 hm0)] at henv
  refine wpList_nil ?_
  refine th_n ?_
  refine if_f henv rfl (rfl) ?_
  refine wp_skip ?_
  refine th_n ?_
  refine wp_seq ?_
  refine region_seq ?_
  refine sv (v := .slice none 0 0) henv rfl (rn_assign henv rfl) ?_
  clear henv a; intro a henv
  refine wpList_nil ?_
  refine th_n ?_
  refine wp_seq ?_
  refine wp_seq ?_
  refine region_seq ?_
  revert a
  refine mA rfl rfl ?_
  refine sA (v := .int .i64 (n0 : Nat)) rfl (fun _ henv => rn_len henv Tryd.underlying30 rfl) ?_
  refine mA rfl rfl ?_
  intro a henv
  refine wpList_nil ?_
  refine th_n ?_
  refine wp_block ?_
  replace hst := (hst.addRowS notU 36 2).nilEs FN
  replace hst : St w0 _ [rowS notU 36 2 none 0 0 (fl fN ([])), bk g51 #[.bool (neg m), .slice M (zl m) d] 36] [pfEs FN ([]), pfRow fN FN 2 A0 n0 c0 es0, pfZ M d m] := hst
  refine wp_loop_ghost (fun mz a w => ∃ j : Nat, ∃ B : Option Addr, ∃ e : Nat, ∃ os : List NE, n0 - j = mz ∧ Env 37 a [(3, .pointer (some ⟨g51, 0, none⟩)), (6, .slice B j e), (15, .slice A0 n0 c0), (16, .int .i64 (n0 : Nat)), (17, .int .i64 (j : Nat))] ∧ St w0 w [rowS notU 36 2 B j e (fl fN os), bk g51 #[.bool (neg m), .slice M (zl m) d] 36] [pfEs FN os, pfRow fN FN 2 A0 n0 c0 es0, pfZ M d m] ∧ j ≤ n0 ∧ os.map zz = (xs.map (· / m)).take j ∧ divs m (xs.take j)) _ ⟨0, none, 0, [], rfl, henv.sub ⟨rfl, rfl, rfl, rfl, rfl, trivial⟩, hst.pick [0, 1] [0, 1, 2] (by decide), (Nat.zero_le _), rfl, (fun _ h => by cases h)⟩ ?_
  clear henv hst a
  rintro mz a w54 ⟨j, B, e, os, rfl, henv, hst, hj, ho, hd⟩
  refine wp_seq ?_
  refine region_seq ?_
  refine sv (v := .bool (decide (((j : Nat) : Int) < ((n0 : Nat) : Int)))) henv rfl (rn_bin henv rfl rfl rfl) ?_
  clear henv a; intro a henv
  refine wpList_nil ?_
  refine th_n ?_
  refine wp_seq ?_
  refine if_split henv rfl (fun hc55 => ?_) (fun hc55 => ?_)
  · have hlt : j < n0 := by have := of_decide_eq_true hc55; omega
    obtain ⟨⟨A, c, z⟩, he0⟩ : ∃ e, es0[j]? = some e := ⟨_, List.getElem?_eq_getElem (by omega)⟩
    replace hst := hst.elem (k := 1) rfl he0
    replace hst : St w0 _ [rowS notU 36 2 B j e (fl fN os), bk g51 #[.bool (neg m), .slice M (zl m) d] 36] [pfZ A c z, pfEs FN os, pfRow fN FN 2 A0 n0 c0 es0, pfZ M d m] := hst
    have hzs := hzb.at he0
    refine wp_skip ?_
    refine th_n ?_
    refine wp_seq ?_
    refine wp_block ?_
    refine wp_seq ?_
    refine region_seq ?_
    revert a
    refine sA (v := .pointer (some ⟨ab A0, ao A0 + j * 2, none⟩)) rfl (fun _ henv => rn_idxR (i := j) henv Tryd.underlying30 (ty_anvil_integer_Int.size) rfl rfl (by omega) rfl (show (pfRow fN FN 2 A0 n0 c0 es0).P _ from (hst.pat (k := 2) rfl)).1) ?_
    refine sA (v := .agg #[.bool (neg z), .slice A (zl z) c]) rfl (fun _ henv => rn_loadE (i := j) (e := (A, c, z)) henv ty_anvil_integer_Int rfl rfl fN_len (show (pfRow fN FN 2 A0 n0 c0 es0).P _ from (hst.pat (k := 2) rfl)).1 (by omega) he0 rfl) ?_
    intro a henv
    refine seq_step rfl (op_alloc (c := #[.bool (neg 0), .slice none (zl 0) 0]) henv hst rfl zero_anvil_integer_Int zcells ?_)
    clear henv hst a; intro a w57 g56 henv hst
    refine seq_step rfl (op_store (k := 0) (c' := #[.bool (neg z), .slice A (zl z) c]) henv hst (ty_anvil_integer_Int.size) rfl rfl rfl rfl (by simp) rfl rfl ?_)
    clear henv hst a; intro a w58 henv hst
    refine wpList_nil ?_
    refine th_n ?_
    refine wp_seq ?_
    refine region_seq ?_
    revert a
    refine sA (v := .agg #[.bool (neg z), .slice A (zl z) c]) rfl (fun _ henv => rn_load0 henv ty_anvil_integer_Int rfl (hst.oat (k := 0) rfl) rfl) ?_
    refine sA (v := .agg #[.bool (neg m), .slice M (zl m) d]) rfl (fun _ henv => rn_load0 henv ty_anvil_integer_Int rfl (hst.oat (k := 2) rfl) rfl) ?_
    intro a henv
    have hs59 := zl_ediv z m
    refine seq_step rfl (op_call henv rfl Tryd.call117 rfl (divmod_z (x := z) (y := m) (show ZIn _ A c z from hst.pat (k := 0) rfl) (show ZIn _ M d m from hst.pat (k := 3) rfl) (by omega) (by omega) hm0) ?_)
    rintro e w66 ⟨_, _, rfl, ⟨A60, c61, rfl, hz62⟩, ⟨A63, c64, rfl, hz65⟩, hb⟩
    refine ⟨_, rfl, ?_⟩
    clear henv a; intro a henv
    replace hst := ((hst.call hb).addZ hz62 ⟨nou_bk rfl, nou_rowS, nou_bk rfl, trivial⟩).addZ hz65 ⟨nou_bk rfl, nou_rowS, nou_bk rfl, trivial⟩
    clear hz62 hz65
    clear hb
    revert a
    refine mA rfl rfl ?_
    refine sA (v := .agg #[.bool (neg (z / m)), .slice A60 (zl (z / m)) c61]) rfl (fun _ henv => rn_extract henv rfl rfl) ?_
    refine sA (v := .agg #[.bool (neg (z % m)), .slice A63 (zl (z % m)) c64]) rfl (fun _ henv => rn_extract henv rfl rfl) ?_
    refine sA (v := .int .i64 0) rfl (fun _ henv => rn_extract henv rfl rfl) ?_
    intro a henv
    refine seq_step rfl (op_alloc (c := #[.bool (neg 0), .slice none (zl 0) 0]) henv hst rfl zero_anvil_integer_Int zcells ?_)
    clear henv hst a; intro a w68 g67 henv hst
    refine seq_step rfl (op_alloc (c := #[.bool (neg 0), .slice none (zl 0) 0]) henv hst rfl zero_anvil_integer_Int zcells ?_)
    clear henv hst a; intro a w70 g69 henv hst
    refine seq_step rfl (op_store (k := 1) (c' := #[.bool (neg (z / m)), .slice A60 (zl (z / m)) c61]) henv hst (ty_anvil_integer_Int.size) rfl rfl rfl rfl (by simp) rfl rfl ?_)
    clear henv hst a; intro a w71 henv hst
    refine seq_step rfl (op_store (k := 0) (c' := #[.bool (neg (z % m)), .slice A63 (zl (z % m)) c64]) henv hst (ty_anvil_integer_Int.size) rfl rfl rfl rfl (by simp) rfl rfl ?_)
    clear henv hst a; intro a w72 henv hst
    refine sv (v := .int .i64 0) henv rfl (rn_assign henv rfl) ?_
    clear henv a; intro a henv
    refine wpList_nil ?_
    refine th_n ?_
    refine wp_seq ?_
    refine wp_seq ?_
    refine region_seq ?_
    refine sv (v := .agg #[.bool (neg (z % m)), .slice A63 (zl (z % m)) c64]) henv rfl (rn_load0 henv ty_anvil_integer_Int rfl (hst.oat (k := 0) rfl) rfl) ?_
    clear henv a; intro a henv
    refine seq_step rfl (op_call henv rfl Tryd.call31 rfl (sign_z (z := z % m)) ?_)
    rintro e w73 ⟨rfl, hb⟩
    refine ⟨_, rfl, ?_⟩
    clear henv a; intro a henv
    replace hst := hst.call hb
    clear hb
    refine sv (v := .bool ((z % m).sign != (0 : Int))) henv rfl (rn_bin henv rfl rfl rfl) ?_
    clear henv a; intro a henv
    refine wpList_nil ?_
    refine th_n ?_
    refine if_split henv rfl (fun hc74 => ?_) (fun hc74 => ?_)
    · have hne : z % m ≠ 0 := sign_ne hc74
      refine wp_seq ?_
      refine region_seq ?_
      revert a
      refine aA rfl rfl ?_
      refine aA rfl rfl ?_
      intro a henv
      refine wpList_nil ?_
      refine th_n ?_
      refine wp_ret ?_
      refine th_r (bl_r (th_r (th_r (bl_r (th_r ?_)))))
      refine leave henv (res2 Tryd.results77 (RV.tmp henv rfl) (RV.tmp henv rfl)) ?_
      exact ⟨.inr ⟨divs_no hz0 he0 hne, rfl⟩, hst.below⟩
    · have hze : z % m = 0 := sign_eq0 hc74
      refine wp_skip ?_
      refine th_n ?_
      refine region_seq ?_
      revert a
      refine mA rfl rfl ?_
      refine sA (v := .agg #[.bool (neg (z / m)), .slice A60 (zl (z / m)) c61]) rfl (fun _ henv => rn_load0 henv ty_anvil_integer_Int rfl (hst.oat (k := 1) rfl) rfl) ?_
      intro a henv
      refine seq_step rfl (op_buildSlice (z := 2) (pv := #[(0, .agg #[.bool (neg (z / m)), .slice A60 (zl (z / m)) c61])]) (c := #[.bool (neg (z / m)), .slice A60 (zl (z / m)) c61]) henv hst rfl Tryd.underlying30 (ty_anvil_integer_Int.size) zero_anvil_integer_Int (by decide) (by decide) rfl (by kernel_rfl) ?_)
      clear henv hst a; intro a w76 g75 henv hst
      refine seq_step rfl (op_appendS (k := 4) (j := 0) henv hst rfl Tryd.underlying30 inf_anvil_integer_Int rfl rfl rfl rfl rfl rfl rfl rfl rfl rfl rfl (by unfold maxLen; omega) (by omega) ?_)
      clear henv hst a; intro a w79 g77 c78 henv hst
      rw [show fl fN os ++ (#[.bool (neg (z / m)), .slice A60 (zl (z / m)) c61] : Array Value).toList = fl fN (os ++ [(A60, c61, (z / m))]) from fl_snoc (f := fN) os (A60, c61, (z / m))] at hst
      replace hst := hst.snocEs (e := (A60, c61, (z / m))) (i := 3) (j := 1) rfl rfl
      refine sv (v := .slice (some ⟨g77, 0, none⟩) (j + 1) c78) henv rfl (rn_assign henv rfl) ?_
      clear henv a; intro a henv
      refine wpList_nil ?_
      refine bl_n (th_n ?_)
      refine region_seq ?_
      revert a
      refine sA (v := .int .i64 (j + 1 : Nat)) rfl (fun _ henv => rn_add henv rfl rfl (by rw [IntWalk.i64_in _ (by omega)]; omega)) ?_
      refine mA rfl rfl ?_
      intro a henv
      refine wpList_nil ?_
      exact th_n ⟨_, (by omega), ⟨j + 1, (some ⟨g77, 0, none⟩), c78, (os ++ [(A60, c61, (z / m))]), rfl, henv.sub ⟨rfl, rfl, rfl, rfl, rfl, trivial⟩, hst.pick [4, 5] [0, 5, 6] (by decide), (by omega), (step_div hz0 ho he0), (divs_step hz0 hd he0 hze)⟩⟩
  · have hjn : j = n0 := by have := of_decide_eq_false hc55; omega
    refine wp_exit ?_
    refine th_x (th_x (bl_x (th_n ?_)))
    refine wp_seq ?_
    refine region_seq ?_
    revert a
    refine mA rfl rfl ?_
    refine aA rfl rfl ?_
    refine aA rfl rfl ?_
    intro a henv
    refine wpList_nil ?_
    refine th_n ?_
    refine wp_ret ?_
    refine leave henv (res2 Tryd.results77 (RV.tmp henv rfl) (RV.tmp henv rfl)) ?_
    have hfl : n0 = xs.length := by rw [← hz0, List.length_map]; exact hlen0.symm
    rw [hjn, hfl, List.take_length] at hd
    rw [hjn, take_map_full hfl] at ho
    exact ⟨.inl ⟨hd, _, rfl, ⟨_, _, os, congrArg (fun k => Value.slice _ k _) hjn, (hjn ▸ hst.newRow (k := 0) (j := 0) rfl rfl), map_len ho (by rw [List.length_map]; exact hfl.symm), ho⟩⟩, hst.below⟩
set_option maxRecDepth 100000 in
set_option maxHeartbeats 2000000 in
theorem row_over_z {A0 M : Option Addr} {n0 c0 d : Nat} {m : Int} {w0 : World} (hM : ZIn w0 M d m) (hm0 : m = 0) :
    Calls Tryd.prog 77 #[.slice A0 n0 c0, .agg #[.bool (neg m), .slice M (zl m) d]] w0 fun e w' => e = .returned (.tuple #[.slice none 0 0, .int .i64 2]) ∧ Below w0.heap.size w0 w' := by
  refine enter Tryd.func77 rfl Tryd.ntmps77 rfl ?_
  intro a henv hst
  replace hst := hst.addZ hM trivial
  refine wp_seq ?_
  refine region_seq ?_
  refine seq_step rfl (op_box (c := #[.bool (neg m), .slice M (zl m) d]) henv hst rfl rfl rfl ?_)
  clear henv hst a; intro a w52 g51 henv hst
  revert a
  refine aA rfl rfl ?_
  refine aA rfl rfl ?_
  intro a henv
  refine wpList_nil ?_
  refine th_n ?_
  refine wp_seq ?_
  refine wp_seq ?_
  refine region_seq ?_
  refine sv (v := .agg #[.bool (neg m), .slice M (zl m) d]) henv rfl (rn_load0 henv ty_anvil_integer_Int rfl (hst.oat (k := 0) rfl) rfl) ?_
  clear henv a; intro a henv
  refine seq_step rfl (op_call henv rfl Tryd.call31 rfl (sign_z (z := m)) ?_)
  rintro e w53 ⟨rfl, hb⟩
  refine ⟨_, rfl, ?_⟩
  clear henv a; intro a henv
  replace hst := hst.call hb
  clear hb
  refine sv (v := .bool (m.sign == (0 : Int))) henv rfl (rn_bin henv rfl rfl rfl) ?_
  clear henv a; intro a henv
  rw [show (m.sign == (0 : Int)) = true from (by rw [hm0]; rfl)] at henv
  refine wpList_nil ?_
  refine th_n ?_
  refine if_t henv rfl (rfl) ?_
  refine wp_seq ?_
  refine region_seq ?_
  revert a
  refine aA rfl rfl ?_
  refine aA rfl rfl ?_
  intro a henv
  refine wpList_nil ?_
  refine th_n ?_
  refine wp_ret ?_
  refine th_r ?_
  refine leave henv (res2 Tryd.results77 (RV.tmp henv rfl) (RV.tmp henv rfl)) ?_
  exact ⟨rfl, hst.below⟩
set_option maxRecDepth 100000 in
set_option maxHeartbeats 2000000 in
theorem row_content {A0 : Option Addr} {n0 c0 : Nat} {es0 : List NE} {xs : List Int} {w0 : World} (h0 : (pfRow fN FN 2 A0 n0 c0 es0).P w0) (hz0 : es0.map zz = xs) (hk : Zk 100000 xs) :
    Calls Tryd.prog 81 #[.slice A0 n0 c0] w0 fun e w' => ∃ v, e = .returned v ∧ ZAt w' v (gcdL xs) ∧ Below w0.heap.size w0 w' := by
  have hzb := hk.es hz0
  refine enter Tryd.func81 rfl Tryd.ntmps81 rfl ?_
  intro a henv hst
  have hlen0 := h0.2.1
  have hbig0 := Nat.le_trans h0.1.cap h0.1.big
  unfold maxLen at hbig0
  replace hst := hst.argRow h0
  clear h0
  refine wp_seq ?_
  refine region_seq ?_
  refine seq_step rfl (op_alloc (c := #[.bool (neg 0), .slice none (zl 0) 0]) henv hst rfl zero_anvil_integer_Int zcells ?_)
  clear henv hst a; intro a w52 g51 henv hst
  refine wpList_nil ?_
  refine th_n ?_
  refine wp_scope_straight ?_
  refine wp_seq ?_
  refine region_seq ?_
  refine seq_step rfl (op_alloc (c := #[.bool (neg 0), .slice none (zl 0) 0]) henv hst rfl zero_anvil_integer_Int zcells ?_)
  clear henv hst a; intro a w54 g53 henv hst
  refine wpList_nil ?_
  refine th_n ?_
  refine wp_seq ?_
  refine wp_label ?_
  refine th_n ?_
  refine wp_seq ?_
  refine wp_seq ?_
  refine region_seq ?_
  revert a
  refine mA rfl rfl ?_
  refine sA (v := .int .i64 (n0 : Nat)) rfl (fun _ henv => rn_len henv Tryd.underlying30 rfl) ?_
  refine mA rfl rfl ?_
  intro a henv
  refine wpList_nil ?_
  refine th_n ?_
  refine wp_block ?_
  replace hst := hst.addZ (zin_none _) ⟨nou_bk rfl, nou_bk rfl, trivial⟩
  refine wp_loop_ghost (fun mz a w => ∃ j : Nat, ∃ m : Int, ∃ B : Option Addr, ∃ d : Nat, n0 - j = mz ∧ Env 21 a [(2, .pointer (some ⟨g51, 0, none⟩)), (3, .pointer (some ⟨g53, 0, none⟩)), (6, .slice A0 n0 c0), (7, .int .i64 (n0 : Nat)), (8, .int .i64 (j : Nat))] ∧ St w0 w [bk g53 #[.bool (neg m), .slice B (zl m) d] 36, bk g51 #[.bool (neg 0), .slice none (zl 0) 0] 36] [pfZ B d m, pfRow fN FN 2 A0 n0 c0 es0] ∧ j ≤ n0 ∧ m = gcdL (xs.take j)) _ ⟨0, 0, none, 0, rfl, henv.sub ⟨rfl, rfl, rfl, rfl, rfl, trivial⟩, hst.pick [0, 1] [0, 1] (by decide), (Nat.zero_le _), rfl⟩ ?_
  clear henv hst a
  rintro mz a w55 ⟨j, m, B, d, rfl, henv, hst, hj, hm⟩
  have hms : zl m ≤ 100000 := by rw [hm]; exact zl_gcdL (hk.take j)
  refine wp_seq ?_
  refine region_seq ?_
  refine sv (v := .bool (decide (((j : Nat) : Int) < ((n0 : Nat) : Int)))) henv rfl (rn_bin henv rfl rfl rfl) ?_
  clear henv a; intro a henv
  refine wpList_nil ?_
  refine th_n ?_
  refine wp_seq ?_
  refine if_split henv rfl (fun hc56 => ?_) (fun hc56 => ?_)
  · have hlt : j < n0 := by have := of_decide_eq_true hc56; omega
    obtain ⟨⟨A, c, z⟩, he0⟩ : ∃ e, es0[j]? = some e := ⟨_, List.getElem?_eq_getElem (by omega)⟩
    replace hst := hst.elem (k := 1) rfl he0
    replace hst : St w0 _ [bk g53 #[.bool (neg m), .slice B (zl m) d] 36, bk g51 #[.bool (neg 0), .slice none (zl 0) 0] 36] [pfZ A c z, pfZ B d m, pfRow fN FN 2 A0 n0 c0 es0] := hst
    have hzs := hzb.at he0
    refine wp_skip ?_
    refine th_n ?_
    refine wp_seq ?_
    refine wp_block ?_
    refine wp_seq ?_
    refine region_seq ?_
    revert a
    refine sA (v := .pointer (some ⟨ab A0, ao A0 + j * 2, none⟩)) rfl (fun _ henv => rn_idxR (i := j) henv Tryd.underlying30 (ty_anvil_integer_Int.size) rfl rfl (by omega) rfl (show (pfRow fN FN 2 A0 n0 c0 es0).P _ from (hst.pat (k := 2) rfl)).1) ?_
    refine sA (v := .agg #[.bool (neg z), .slice A (zl z) c]) rfl (fun _ henv => rn_loadE (i := j) (e := (A, c, z)) henv ty_anvil_integer_Int rfl rfl fN_len (show (pfRow fN FN 2 A0 n0 c0 es0).P _ from (hst.pat (k := 2) rfl)).1 (by omega) he0 rfl) ?_
    intro a henv
    refine seq_step rfl (op_alloc (c := #[.bool (neg 0), .slice none (zl 0) 0]) henv hst rfl zero_anvil_integer_Int zcells ?_)
    clear henv hst a; intro a w58 g57 henv hst
    refine seq_step rfl (op_store (k := 0) (c' := #[.bool (neg z), .slice A (zl z) c]) henv hst (ty_anvil_integer_Int.size) rfl rfl rfl rfl (by simp) rfl rfl ?_)
    clear henv hst a; intro a w59 henv hst
    refine wpList_nil ?_
    refine th_n ?_
    refine wp_seq ?_
    refine region_seq ?_
    revert a
    refine sA (v := .agg #[.bool (neg m), .slice B (zl m) d]) rfl (fun _ henv => rn_load0 henv ty_anvil_integer_Int rfl (hst.oat (k := 1) rfl) rfl) ?_
    refine sA (v := .agg #[.bool (neg z), .slice A (zl z) c]) rfl (fun _ henv => rn_load0 henv ty_anvil_integer_Int rfl (hst.oat (k := 0) rfl) rfl) ?_
    intro a henv
    have hs60 := gcd_zq m z
    refine seq_step rfl (op_call henv rfl Tryd.call93 rfl (gcd_z (x := m) (y := z) (show ZIn _ B d m from hst.pat (k := 1) rfl) (show ZIn _ A c z from hst.pat (k := 0) rfl) (by omega) (by omega)) ?_)
    rintro e w64 ⟨_, rfl, ⟨A61, c62, rfl, hz63⟩, hb⟩
    refine ⟨_, rfl, ?_⟩
    clear henv a; intro a henv
    replace hst := (hst.call hb).addZ hz63 ⟨nou_bk rfl, nou_bk rfl, nou_bk rfl, trivial⟩
    clear hz63
    clear hb
    refine seq_step rfl (op_store (k := 1) (c' := #[.bool (neg ((Int.gcd m z : Nat) : Int)), .slice A61 (zl ((Int.gcd m z : Nat) : Int)) c62]) henv hst (ty_anvil_integer_Int.size) rfl rfl rfl rfl (by simp) rfl rfl ?_)
    clear henv hst a; intro a w65 henv hst
    refine wpList_nil ?_
    refine th_n ?_
    refine wp_seq ?_
    refine region_any (n := 4) (Sk [bk g57 #[.bool (neg z), .slice A (zl z) c] 36, bk g53 #[.bool (neg ((Int.gcd m z : Nat) : Int)), .slice A61 (zl ((Int.gcd m z : Nat) : Int)) c62] 36, bk g51 #[.bool (neg 0), .slice none (zl 0) 0] 36] [pfZ A61 c62 ((Int.gcd m z : Nat) : Int), pfZ A c z, pfZ B d m, pfRow fN FN 2 A0 n0 c0 es0] [] []) mixed rfl henv hst ?_
    clear henv hst; intro w66 henv hst
    refine tL (i := 0) 1 1 [2, 3] rfl (by kernel_rfl) (fun _ _ _ h => h) henv rfl ty_anvil_integer_Int rfl hst rfl rfl rfl ?_
    clear henv a; intro a henv
    refine sAny_one (i := 1) (by kernel_rfl) rfl rfl (op_call henv rfl Tryd.call43 rfl (of_z (n := (1 : Int)) (by decide) (by decide)) ?_)
    rintro e w70 ⟨_, rfl, ⟨A67, c68, rfl, hz69⟩, hb⟩
    refine ⟨_, rfl, ?_⟩
    clear henv a; intro a henv
    replace hst := (hst.call hb).addZ hz69 ⟨nou_bk rfl, nou_bk rfl, nou_bk rfl, trivial⟩
    clear hz69
    clear hb
    refine ⟨.inr ⟨hst.kn.pick [0, 1, 2] (rg 1 4), .inr (hst.kn.pick [] [])⟩, ?_⟩
    refine sAny_one (i := 2) (by kernel_rfl) rfl rfl (op_call henv rfl Tryd.call42 rfl (cmp_z (x := ((Int.gcd m z : Nat) : Int)) (y := 1) (show ZIn _ A61 c62 ((Int.gcd m z : Nat) : Int) from hst.pat (k := 1) rfl) (show ZIn _ A67 c68 1 from hst.pat (k := 0) rfl)) ?_)
    rintro e w71 ⟨rfl, hb⟩
    refine ⟨_, rfl, ?_⟩
    clear henv a; intro a henv
    replace hst := hst.call hb
    clear hb
    refine ⟨.inr ⟨hst.kn.pick [0, 1, 2] (rg 1 4), .inr (hst.kn.pick [] [])⟩, ?_⟩
    refine tA (i := 3) [] (v := .bool ((((Int.gcd m z : Nat) : Int) - 1).sign == (0 : Int))) rfl (by kernel_rfl) (fun _ _ _ h => h) henv rfl (fun _ => rn_bin henv rfl rfl rfl) ?_
    clear henv a; intro a henv
    refine sAny_done (by kernel_rfl) ?_ _
    refine th_n ?_
    refine if_split henv rfl (fun hc72 => ?_) (fun hc72 => ?_)
    · have hone : ((Int.gcd m z : Nat) : Int) = 1 := sign_one hc72
      refine wp_exit ?_
      refine bl_o rfl (th_x (th_x (bl_x (th_n ?_))))
      refine wp_seq ?_
      refine region_seq ?_
      refine sv (v := .agg #[.bool (neg ((Int.gcd m z : Nat) : Int)), .slice A61 (zl ((Int.gcd m z : Nat) : Int)) c62]) henv rfl (rn_load0 henv ty_anvil_integer_Int rfl (hst.oat (k := 1) rfl) rfl) ?_
      clear henv a; intro a henv
      refine seq_step rfl (op_store (k := 2) (c' := #[.bool (neg ((Int.gcd m z : Nat) : Int)), .slice A61 (zl ((Int.gcd m z : Nat) : Int)) c62]) henv hst (ty_anvil_integer_Int.size) rfl rfl rfl rfl (by simp) rfl rfl ?_)
      clear henv hst a; intro a w73 henv hst
      refine wpList_nil ?_
      refine th_n ?_
      refine wp_ret ?_
      refine sc_r ?_
      refine leave henv (res1 Tryd.results81 (RV.cell henv ty_anvil_integer_Int rfl (hst.oat (k := 2) rfl) rfl)) ?_
      have hfin : ((Int.gcd m z : Nat) : Int) = gcdL xs := gcd_break hz0 hm he0 hone
      exact ⟨_, rfl, (by rw [← hfin]; exact ⟨_, _, rfl, hst.pat (k := 1) rfl⟩), hst.below⟩
    · refine wp_skip ?_
      refine bl_n (th_n ?_)
      refine region_seq ?_
      revert a
      refine sA (v := .int .i64 (j + 1 : Nat)) rfl (fun _ henv => rn_add henv rfl rfl (by rw [IntWalk.i64_in _ (by omega)]; omega)) ?_
      refine mA rfl rfl ?_
      intro a henv
      refine wpList_nil ?_
      exact th_n ⟨_, (by omega), ⟨j + 1, ((Int.gcd m z : Nat) : Int), A61, c62, rfl, henv.sub ⟨rfl, rfl, rfl, rfl, rfl, trivial⟩, hst.pick [1, 2] [1, 4] (by decide), (by omega), (zgcd_step hz0 hm he0)⟩⟩
  · obtain rfl : j = n0 := by have := of_decide_eq_false hc56; omega
    refine wp_exit ?_
    refine th_x (th_x (bl_x (th_n ?_)))
    refine wp_seq ?_
    refine region_seq ?_
    refine sv (v := .agg #[.bool (neg m), .slice B (zl m) d]) henv rfl (rn_load0 henv ty_anvil_integer_Int rfl (hst.oat (k := 0) rfl) rfl) ?_
    clear henv a; intro a henv
    refine seq_step rfl (op_store (k := 1) (c' := #[.bool (neg m), .slice B (zl m) d]) henv hst (ty_anvil_integer_Int.size) rfl rfl rfl rfl (by simp) rfl rfl ?_)
    clear henv hst a; intro a w74 henv hst
    refine wpList_nil ?_
    refine th_n ?_
    refine wp_ret ?_
    refine sc_r ?_
    refine leave henv (res1 Tryd.results81 (RV.cell henv ty_anvil_integer_Int rfl (hst.oat (k := 1) rfl) rfl)) ?_
    have hfin : m = gcdL xs := by rw [hm, List.take_of_length_le (by rw [← hz0, List.length_map]; omega)]
    exact ⟨_, rfl, (by rw [← hfin]; exact ⟨_, _, rfl, hst.pat (k := 0) rfl⟩), hst.below⟩
set_option maxRecDepth 100000 in
set_option maxHeartbeats 2000000 in
theorem row_prim1 {A : Option Addr} {c : Nat} {z : Int} {w0 : World} (hx : ZIn w0 A c z) :
    Calls Tryd.prog 130 #[.agg #[.bool (neg z), .slice A (zl z) c]] w0 fun e w' => ∃ v, e = .returned v ∧ ZAt w' v z ∧ Below w0.heap.size w0 w' := by
  refine enter Tryd.func130 rfl Tryd.ntmps130 rfl ?_
  intro a henv hst
  replace hst := hst.addZ hx trivial
  refine wp_seq ?_
  refine region_seq ?_
  refine seq_step rfl (op_box (c := #[.bool (neg z), .slice A (zl z) c]) henv hst rfl rfl rfl ?_)
  clear henv hst a; intro a w52 g51 henv hst
  refine seq_step rfl (op_alloc (c := #[.bool (neg 0), .slice none (zl 0) 0]) henv hst rfl zero_anvil_integer_Int zcells ?_)
  clear henv hst a; intro a w54 g53 henv hst
  refine wpList_nil ?_
  refine th_n ?_
  refine wp_seq ?_
  refine region_seq ?_
  refine sv (v := .agg #[.bool (neg z), .slice A (zl z) c]) henv rfl (rn_load0 henv ty_anvil_integer_Int rfl (hst.oat (k := 1) rfl) rfl) ?_
  clear henv a; intro a henv
  refine seq_step rfl (op_store (k := 0) (c' := #[.bool (neg z), .slice A (zl z) c]) henv hst (ty_anvil_integer_Int.size) rfl rfl rfl rfl (by simp) rfl rfl ?_)
  clear henv hst a; intro a w55 henv hst
  refine wpList_nil ?_
  refine th_n ?_
  refine wp_ret ?_
  refine leave henv (res1 Tryd.results130 (RV.cell henv ty_anvil_integer_Int rfl (hst.oat (k := 0) rfl) rfl)) ?_
  exact ⟨_, rfl, ⟨_, _, rfl, hst.pat (k := 0) rfl⟩, hst.below⟩
set_option maxRecDepth 100000 in
set_option maxHeartbeats 8000000 in
theorem row_primitive {A0 : Option Addr} {n0 c0 : Nat} {es0 : List NE} {xs : List Int} {w0 : World} (h0 : (pfRow fN FN 2 A0 n0 c0 es0).P w0) (hz0 : es0.map zz = xs) (hk : Zk 100000 xs) (hn : n0 ≤ 100000000) :
    Calls Tryd.prog 80 #[.slice A0 n0 c0] w0 fun e w' => ∃ v u, e = .returned (.tuple #[v, u]) ∧ ZRow w0.heap.size w' v n0 (prim xs) ∧ ZAt w' u (primN xs) ∧ Below w0.heap.size w0 w' := by
  refine enter Tryd.func80 rfl Tryd.ntmps80 rfl ?_
  intro a henv hst
  have hlen0 := h0.2.1
  have hbig0 := Nat.le_trans h0.1.cap h0.1.big
  unfold maxLen at hbig0
  replace hst := hst.argRow h0
  clear h0
  refine wp_seq ?_
  refine region_seq ?_
  refine sv (v := .slice none 0 0) henv rfl (rn_assign henv rfl) ?_
  clear henv a; intro a henv
  refine seq_step rfl (op_alloc (c := #[.bool (neg 0), .slice none (zl 0) 0]) henv hst rfl zero_anvil_integer_Int zcells ?_)
  clear henv hst a; intro a w52 g51 henv hst
  refine wpList_nil ?_
  refine th_n ?_
  refine wp_seq ?_
  refine region_seq ?_
  refine sv (v := .slice A0 n0 c0) henv rfl (rn_move henv rfl) ?_
  clear henv a; intro a henv
  refine seq_step rfl (op_call henv rfl Tryd.call81 rfl (row_content (hst.pat (k := 0) rfl) hz0 hk) ?_)
  rintro e w56 ⟨_, rfl, ⟨A53, c54, rfl, hz55⟩, hb⟩
  refine ⟨_, rfl, ?_⟩
  clear henv a; intro a henv
  replace hst := (hst.call hb).addZ hz55 ⟨nou_bk rfl, trivial⟩
  clear hz55
  clear hb
  refine seq_step rfl (op_alloc (c := #[.bool (neg 0), .slice none (zl 0) 0]) henv hst rfl zero_anvil_integer_Int zcells ?_)
  clear henv hst a; intro a w58 g57 henv hst
  refine seq_step rfl (op_store (k := 0) (c' := #[.bool (neg (gcdL xs)), .slice A53 (zl (gcdL xs)) c54]) henv hst (ty_anvil_integer_Int.size) rfl rfl rfl rfl (by simp) rfl rfl ?_)
  clear henv hst a; intro a w59 henv hst
  refine wpList_nil ?_
  refine th_n ?_
  refine wp_seq ?_
  refine wp_seq ?_
  refine region_seq ?_
  revert a
  refine mA rfl rfl ?_
  refine sA (v := .int .i64 (n0 : Nat)) rfl (fun _ henv => rn_len henv Tryd.underlying30 rfl) ?_
  refine mA rfl rfl ?_
  intro a henv
  refine wpList_nil ?_
  refine th_n ?_
  refine wp_block ?_
  refine wp_loop_ghost (fun mz a w => ∃ j : Nat, n0 - j = mz ∧ Env 37 a [(0, .slice A0 n0 c0), (3, .pointer (some ⟨g51, 0, none⟩)), (4, .pointer (some ⟨g57, 0, none⟩)), (11, .slice A0 n0 c0), (12, .int .i64 (n0 : Nat)), (13, .int .i64 (j : Nat))] ∧ St w0 w [bk g57 #[.bool (neg (gcdL xs)), .slice A53 (zl (gcdL xs)) c54] 36, bk g51 #[.bool (neg 0), .slice none (zl 0) 0] 36] [pfZ A53 c54 (gcdL xs), pfRow fN FN 2 A0 n0 c0 es0] ∧ j ≤ n0 ∧ ∀ x ∈ xs.take j, x = 0) _ ⟨0, rfl, henv.sub ⟨rfl, rfl, rfl, rfl, rfl, rfl, trivial⟩, hst.pick [0, 1] [0, 1] (by decide), (Nat.zero_le _), (fun _ h => by cases h)⟩ ?_
  clear henv hst a
  rintro mz a w60 ⟨j, rfl, henv, hst, hj, hall⟩
  refine wp_seq ?_
  refine region_seq ?_
  refine sv (v := .bool (decide (((j : Nat) : Int) < ((n0 : Nat) : Int)))) henv rfl (rn_bin henv rfl rfl rfl) ?_
  clear henv a; intro a henv
  refine wpList_nil ?_
  refine th_n ?_
  refine wp_seq ?_
  refine if_split henv rfl (fun hc61 => ?_) (fun hc61 => ?_)
  · have hlt : j < n0 := by have := of_decide_eq_true hc61; omega
    obtain ⟨⟨A, c, z⟩, he0⟩ : ∃ e, es0[j]? = some e := ⟨_, List.getElem?_eq_getElem (by omega)⟩
    replace hst := hst.elem (k := 1) rfl he0
    replace hst : St w0 _ [bk g57 #[.bool (neg (gcdL xs)), .slice A53 (zl (gcdL xs)) c54] 36, bk g51 #[.bool (neg 0), .slice none (zl 0) 0] 36] [pfZ A c z, pfZ A53 c54 (gcdL xs), pfRow fN FN 2 A0 n0 c0 es0] := hst
    refine wp_skip ?_
    refine th_n ?_
    refine wp_seq ?_
    refine wp_block ?_
    refine wp_seq ?_
    refine region_seq ?_
    revert a
    refine sA (v := .pointer (some ⟨ab A0, ao A0 + j * 2, none⟩)) rfl (fun _ henv => rn_idxR (i := j) henv Tryd.underlying30 (ty_anvil_integer_Int.size) rfl rfl (by omega) rfl (show (pfRow fN FN 2 A0 n0 c0 es0).P _ from (hst.pat (k := 2) rfl)).1) ?_
    refine sA (v := .agg #[.bool (neg z), .slice A (zl z) c]) rfl (fun _ henv => rn_loadE (i := j) (e := (A, c, z)) henv ty_anvil_integer_Int rfl rfl fN_len (show (pfRow fN FN 2 A0 n0 c0 es0).P _ from (hst.pat (k := 2) rfl)).1 (by omega) he0 rfl) ?_
    intro a henv
    refine seq_step rfl (op_alloc (c := #[.bool (neg 0), .slice none (zl 0) 0]) henv hst rfl zero_anvil_integer_Int zcells ?_)
    clear henv hst a; intro a w63 g62 henv hst
    refine seq_step rfl (op_store (k := 0) (c' := #[.bool (neg z), .slice A (zl z) c]) henv hst (ty_anvil_integer_Int.size) rfl rfl rfl rfl (by simp) rfl rfl ?_)
    clear henv hst a; intro a w64 henv hst
    refine wpList_nil ?_
    refine th_n ?_
    refine wp_seq ?_
    refine wp_seq ?_
    refine region_seq ?_
    refine sv (v := .agg #[.bool (neg z), .slice A (zl z) c]) henv rfl (rn_load0 henv ty_anvil_integer_Int rfl (hst.oat (k := 0) rfl) rfl) ?_
    clear henv a; intro a henv
    refine seq_step rfl (op_call henv rfl Tryd.call31 rfl (sign_z (z := z)) ?_)
    rintro e w65 ⟨rfl, hb⟩
    refine ⟨_, rfl, ?_⟩
    clear henv a; intro a henv
    replace hst := hst.call hb
    clear hb
    refine sv (v := .bool (z.sign == (0 : Int))) henv rfl (rn_bin henv rfl rfl rfl) ?_
    clear henv a; intro a henv
    refine wpList_nil ?_
    refine th_n ?_
    refine if_split henv rfl (fun hc66 => ?_) (fun hc66 => ?_)
    · have hzz : z = 0 := sign_eq1 hc66
      refine wp_exit ?_
      refine th_x (bl_x (th_n ?_))
      refine region_seq ?_
      revert a
      refine sA (v := .int .i64 (j + 1 : Nat)) rfl (fun _ henv => rn_add henv rfl rfl (by rw [IntWalk.i64_in _ (by omega)]; omega)) ?_
      refine mA rfl rfl ?_
      intro a henv
      refine wpList_nil ?_
      exact th_n ⟨_, (by omega), ⟨j + 1, rfl, henv.sub ⟨rfl, rfl, rfl, rfl, rfl, rfl, trivial⟩, hst.pick [1, 2] [1, 2] (by decide), (by omega), (zero_step hz0 hall he0 hzz)⟩⟩
    · have hnz : z ≠ 0 := sign_ne1 hc66
      have hlead := lead_at hall (at_zs hz0 he0) hnz
      refine wp_skip ?_
      refine th_n ?_
      refine wp_seq ?_
      refine wp_seq ?_
      refine region_seq ?_
      refine sv (v := .agg #[.bool (neg z), .slice A (zl z) c]) henv rfl (rn_load0 henv ty_anvil_integer_Int rfl (hst.oat (k := 0) rfl) rfl) ?_
      clear henv a; intro a henv
      refine seq_step rfl (op_call henv rfl Tryd.call31 rfl (sign_z (z := z)) ?_)
      rintro e w67 ⟨rfl, hb⟩
      refine ⟨_, rfl, ?_⟩
      clear henv a; intro a henv
      replace hst := hst.call hb
      clear hb
      refine sv (v := .bool (decide (z.sign < (0 : Int)))) henv rfl (rn_bin henv rfl rfl rfl) ?_
      clear henv a; intro a henv
      refine wpList_nil ?_
      refine th_n ?_
      refine if_split henv rfl (fun hc68 => ?_) (fun hc68 => ?_)
      · have hp : -gcdL xs = primN xs := prim_neg hlead (of_decide_eq_true hc68)
        have hp0 := lead_ne ⟨z, mem_zs hz0 he0, hnz⟩
        refine region_seq ?_
        refine sv (v := .agg #[.bool (neg (gcdL xs)), .slice A53 (zl (gcdL xs)) c54]) henv rfl (rn_load0 henv ty_anvil_integer_Int rfl (hst.oat (k := 1) rfl) rfl) ?_
        clear henv a; intro a henv
        have hs69 := zl_neg (gcdL xs)
        refine seq_step rfl (op_call henv rfl Tryd.call103 rfl (neg_z (z := (gcdL xs)) (show ZIn _ A53 c54 (gcdL xs) from hst.pat (k := 1) rfl)) ?_)
        rintro e w73 ⟨_, rfl, ⟨A70, c71, rfl, hz72⟩, hb⟩
        refine ⟨_, rfl, ?_⟩
        clear henv a; intro a henv
        replace hst := (hst.call hb).addZ hz72 ⟨nou_bk rfl, nou_bk rfl, nou_bk rfl, trivial⟩
        clear hz72
        clear hb
        refine seq_step rfl (op_store (k := 1) (c' := #[.bool (neg (-(gcdL xs))), .slice A70 (zl (-(gcdL xs))) c71]) henv hst (ty_anvil_integer_Int.size) rfl rfl rfl rfl (by simp) rfl rfl ?_)
        clear henv hst a; intro a w74 henv hst
        refine wpList_nil ?_
        refine th_n ?_
        refine wp_seq ?_
        refine region_seq ?_
        revert a
        refine mA rfl rfl ?_
        refine sA (v := .agg #[.bool (neg (-(gcdL xs))), .slice A70 (zl (-(gcdL xs))) c71]) rfl (fun _ henv => rn_load0 henv ty_anvil_integer_Int rfl (hst.oat (k := 1) rfl) rfl) ?_
        intro a henv
        refine seq_step rfl (op_call henv rfl Tryd.call77 rfl (over_known (row_over (m := -(gcdL xs)) (hst.pat (k := 3) rfl) hz0 (show ZIn _ A70 c71 (-(gcdL xs)) from hst.pat (k := 0) rfl) (by have := zl_gcdL hk; (try rw [zl_neg]); omega) (by omega) hk (by omega)) (by rw [hp]; exact divs_prim xs)) ?_)
        rintro e w81 ⟨_, rfl, ⟨A75, c76, es77, rfl, hr, hl78, hz79⟩, hb⟩
        refine ⟨_, rfl, ?_⟩
        clear henv a; intro a henv
        replace hst := hst.freshRow hb hr (ap_N hr.2.1 ⟨nou_rowS, ⟨nou_bk rfl, nou_bk rfl, nou_bk rfl, trivial⟩⟩)
        clear hr
        clear hb
        revert a
        refine mA rfl rfl ?_
        refine sA (v := .slice A75 n0 c76) rfl (fun _ henv => rn_extract henv rfl rfl) ?_
        refine sA (v := .int .i64 0) rfl (fun _ henv => rn_extract henv rfl rfl) ?_
        refine aA rfl rfl ?_
        refine aA rfl rfl ?_
        intro a henv
        refine wpList_nil ?_
        refine th_n ?_
        refine wp_seq ?_
        refine region_any (n := 4) (Sk [rowS notU 36 2 A75 n0 c76 (fl fN es77), bk g62 #[.bool (neg z), .slice A (zl z) c] 36, bk g57 #[.bool (neg (-(gcdL xs))), .slice A70 (zl (-(gcdL xs))) c71] 36] [pfEs FN es77, pfZ A70 c71 (-(gcdL xs)), pfZ A c z, pfZ A53 c54 (gcdL xs), pfRow fN FN 2 A0 n0 c0 es0] [3] []) mixed rfl henv hst ?_
        clear henv hst; intro w82 henv hst
        refine tM (i := 0) [2, 3] rfl (by kernel_rfl) (fun _ _ _ h => h) henv rfl rfl ?_
        clear henv a; intro a henv
        refine tL (i := 1) 2 2 [3] rfl (by kernel_rfl) (fun _ _ _ h => h) henv rfl ty_anvil_integer_Int rfl hst rfl rfl rfl ?_
        clear henv a; intro a henv
        refine tA (i := 2) [3] (v := .slice A75 n0 c76) rfl (by kernel_rfl) (fun _ _ _ h => h) henv rfl (fun _ => rn_assign henv rfl) ?_
        clear henv a; intro a henv
        refine sAny_one (i := 3) (by kernel_rfl) rfl rfl (op_store (k := 3) (c' := #[.bool (neg (-(gcdL xs))), .slice A70 (zl (-(gcdL xs))) c71]) henv hst (ty_anvil_integer_Int.size) rfl rfl rfl rfl (by simp) rfl rfl ?_)
        clear henv hst a; intro a w83 henv hst
        refine ⟨.inr ⟨hst.kn.pick [0, 1, 2] (rg 0 5), .inl rfl⟩, ?_⟩
        refine sAny_done (by kernel_rfl) ?_ _
        refine th_n ?_
        refine wp_ret ?_
        refine bl_r (th_r (th_r (bl_r (th_r ?_))))
        refine leave henv (res2 Tryd.results80 (RV.tmp henv rfl) (RV.cell henv ty_anvil_integer_Int rfl (hst.oat (k := 3) rfl) rfl)) ?_
        exact ⟨_, _, rfl, ⟨_, _, _, rfl, hst.newRow (k := 0) (j := 0) rfl rfl, hl78, (hz79.trans (by unfold prim; rw [← hp]))⟩, (by rw [← hp]; exact ⟨_, _, rfl, hst.pat (k := 1) rfl⟩), hst.below⟩
      · have hp : gcdL xs = primN xs := prim_pos hlead (of_decide_eq_false hc68)
        have hp0 := lead_ne ⟨z, mem_zs hz0 he0, hnz⟩
        refine wp_skip ?_
        refine th_n ?_
        refine wp_seq ?_
        refine region_seq ?_
        revert a
        refine mA rfl rfl ?_
        refine sA (v := .agg #[.bool (neg (gcdL xs)), .slice A53 (zl (gcdL xs)) c54]) rfl (fun _ henv => rn_load0 henv ty_anvil_integer_Int rfl (hst.oat (k := 1) rfl) rfl) ?_
        intro a henv
        refine seq_step rfl (op_call henv rfl Tryd.call77 rfl (over_known (row_over (m := (gcdL xs)) (hst.pat (k := 2) rfl) hz0 (show ZIn _ A53 c54 (gcdL xs) from hst.pat (k := 1) rfl) (by have := zl_gcdL hk; (try rw [zl_neg]); omega) (by omega) hk (by omega)) (by rw [hp]; exact divs_prim xs)) ?_)
        rintro e w90 ⟨_, rfl, ⟨A84, c85, es86, rfl, hr, hl87, hz88⟩, hb⟩
        refine ⟨_, rfl, ?_⟩
        clear henv a; intro a henv
        replace hst := hst.freshRow hb hr (ap_N hr.2.1 ⟨nou_rowS, ⟨nou_bk rfl, nou_bk rfl, nou_bk rfl, trivial⟩⟩)
        clear hr
        clear hb
        revert a
        refine mA rfl rfl ?_
        refine sA (v := .slice A84 n0 c85) rfl (fun _ henv => rn_extract henv rfl rfl) ?_
        refine sA (v := .int .i64 0) rfl (fun _ henv => rn_extract henv rfl rfl) ?_
        refine aA rfl rfl ?_
        refine aA rfl rfl ?_
        intro a henv
        refine wpList_nil ?_
        refine th_n ?_
        refine wp_seq ?_
        refine region_any (n := 4) (Sk [rowS notU 36 2 A84 n0 c85 (fl fN es86), bk g62 #[.bool (neg z), .slice A (zl z) c] 36, bk g57 #[.bool (neg (gcdL xs)), .slice A53 (zl (gcdL xs)) c54] 36] [pfEs FN es86, pfZ A c z, pfZ A53 c54 (gcdL xs), pfRow fN FN 2 A0 n0 c0 es0] [3] []) mixed rfl henv hst ?_
        clear henv hst; intro w91 henv hst
        refine tM (i := 0) [2, 3] rfl (by kernel_rfl) (fun _ _ _ h => h) henv rfl rfl ?_
        clear henv a; intro a henv
        refine tL (i := 1) 2 2 [3] rfl (by kernel_rfl) (fun _ _ _ h => h) henv rfl ty_anvil_integer_Int rfl hst rfl rfl rfl ?_
        clear henv a; intro a henv
        refine tA (i := 2) [3] (v := .slice A84 n0 c85) rfl (by kernel_rfl) (fun _ _ _ h => h) henv rfl (fun _ => rn_assign henv rfl) ?_
        clear henv a; intro a henv
        refine sAny_one (i := 3) (by kernel_rfl) rfl rfl (op_store (k := 3) (c' := #[.bool (neg (gcdL xs)), .slice A53 (zl (gcdL xs)) c54]) henv hst (ty_anvil_integer_Int.size) rfl rfl rfl rfl (by simp) rfl rfl ?_)
        clear henv hst a; intro a w92 henv hst
        refine ⟨.inr ⟨hst.kn.pick [0, 1, 2] (rg 0 4), .inl rfl⟩, ?_⟩
        refine sAny_done (by kernel_rfl) ?_ _
        refine th_n ?_
        refine wp_ret ?_
        refine bl_r (th_r (th_r (bl_r (th_r ?_))))
        refine leave henv (res2 Tryd.results80 (RV.tmp henv rfl) (RV.cell henv ty_anvil_integer_Int rfl (hst.oat (k := 3) rfl) rfl)) ?_
        exact ⟨_, _, rfl, ⟨_, _, _, rfl, hst.newRow (k := 0) (j := 0) rfl rfl, hl87, (hz88.trans (by unfold prim; rw [← hp]))⟩, (by rw [← hp]; exact ⟨_, _, rfl, hst.pat (k := 2) rfl⟩), hst.below⟩
  · have hjn : j = n0 := by have := of_decide_eq_false hc61; omega
    have hfl : n0 = xs.length := by rw [← hz0, List.length_map]; exact hlen0.symm
    rw [hjn, hfl, List.take_length] at hall
    have hg0 : gcdL xs = primN xs := by rw [gcdL_zero hall, primN_zero hall]
    refine wp_exit ?_
    refine th_x (th_x (bl_x (th_n ?_)))
    refine wp_seq ?_
    refine region_any (n := 5) (Sk [bk g57 #[.bool (neg (gcdL xs)), .slice A53 (zl (gcdL xs)) c54] 36] [pfZ A53 c54 (gcdL xs), pfRow fN FN 2 A0 n0 c0 es0] [4] []) mixed rfl henv hst ?_
    clear henv hst; intro w93 henv hst
    refine tM (i := 0) [1, 3, 4] rfl (by kernel_rfl) (fun _ _ _ h => h) henv rfl rfl ?_
    clear henv a; intro a henv
    refine tL (i := 2) 0 0 [4] rfl (by kernel_rfl) (fun _ _ _ h => h) henv rfl ty_anvil_integer_Int rfl hst rfl rfl rfl ?_
    clear henv a; intro a henv
    refine sAny_one (i := 1) (by kernel_rfl) rfl rfl (op_call henv rfl Tryd.call102 rfl (row_each (E := pfT0) (g := (fun x => x)) (first := #[]) (caps := #[]) (hst.pat (k := 1) rfl) trivial Tryd.call130 (fun _ _ _ _ _ _ _ hx => calls_app (by simp) (row_prim1 hx)) hn) ?_)
    rintro e w100 ⟨_, rfl, ⟨A94, c95, es96, rfl, hr, hl97, hz98⟩, hb⟩
    refine ⟨_, rfl, ?_⟩
    clear henv a; intro a henv
    replace hst := hst.freshRow hb hr (ap_N hr.2.1 ⟨nou_rowS, ⟨nou_bk rfl, nou_bk rfl, trivial⟩⟩)
    clear hr
    clear hb
    refine ⟨.inr ⟨hst.kn.pick [1] [1, 2], .inr (hst.kn.pick [] [])⟩, ?_⟩
    refine tA (i := 3) [4] (v := .slice A94 n0 c95) rfl (by kernel_rfl) (fun _ _ _ h => h) henv rfl (fun _ => rn_assign henv rfl) ?_
    clear henv a; intro a henv
    refine sAny_one (i := 4) (by kernel_rfl) rfl rfl (op_store (k := 2) (c' := #[.bool (neg (gcdL xs)), .slice A53 (zl (gcdL xs)) c54]) henv hst (ty_anvil_integer_Int.size) rfl rfl rfl rfl (by simp) rfl rfl ?_)
    clear henv hst a; intro a w101 henv hst
    refine ⟨.inr ⟨hst.kn.pick [1] [1, 2], .inl rfl⟩, ?_⟩
    refine sAny_done (by kernel_rfl) ?_ _
    refine th_n ?_
    refine wp_ret ?_
    refine leave henv (res2 Tryd.results80 (RV.tmp henv rfl) (RV.cell henv ty_anvil_integer_Int rfl (hst.oat (k := 2) rfl) rfl)) ?_
    exact ⟨_, _, rfl, ⟨_, _, _, rfl, hst.newRow (k := 0) (j := 0) rfl rfl, hl97, (hz98.trans (by rw [List.map_id', hz0, prim_zero hall]))⟩, (by rw [← hg0]; exact ⟨_, _, rfl, hst.pat (k := 1) rfl⟩), hst.below⟩
set_option maxRecDepth 100000 in
set_option maxHeartbeats 2000000 in
theorem ref_over {A0 : Option Addr} {n0 c0 : Nat} {es0 : List NE} {xs : List Int} {M : Option Addr} {d : Nat} {m : Int} {w0 : World} (h0 : (pfRow fM FM 2 A0 n0 c0 es0).P w0) (hz0 : es0.map zz = xs) (hM : RIn w0 M d m) (hm : zl m ≤ 20000) (hm0 : m ≠ 0) (hk : Zk 20000 xs) (hn : n0 ≤ 100000000) :
    Calls Tryd.prog 83 #[.slice A0 n0 c0, .agg #[.bool (neg m), .slice M (dl m) d]] w0 fun e w' => ((divs m xs ∧ ∃ v, e = .returned (.tuple #[v, .bool true]) ∧ MRow w0.heap.size w' v n0 (xs.map (· / m))) ∨ (¬ divs m xs ∧ e = .returned (.tuple #[.slice none 0 0, .bool false]))) ∧ Below w0.heap.size w0 w' := by
  have hzb := hk.es hz0
  have dm := dl_zl m
  refine enter Tryd.func83 rfl Tryd.ntmps83 rfl ?_
  intro a henv hst
  replace hst := hst.addR hM trivial
  have hlen0 := h0.2.1
  have hbig0 := Nat.le_trans h0.1.cap h0.1.big
  unfold maxLen at hbig0
  replace hst := hst.argRow h0
  clear h0
  refine wp_seq ?_
  refine region_seq ?_
  refine seq_step rfl (op_box (c := #[.bool (neg m), .slice M (dl m) d]) henv hst rfl rfl rfl ?_)
  clear henv hst a; intro a w52 g51 henv hst
  revert a
  refine aA rfl rfl ?_
  refine aA rfl rfl ?_
  intro a henv
  refine wpList_nil ?_
  refine th_n ?_
  refine wp_seq ?_
  refine region_seq ?_
  refine sv (v := .slice none 0 0) henv rfl (rn_assign henv rfl) ?_
  clear henv a; intro a henv
  refine wpList_nil ?_
  refine th_n ?_
  refine wp_seq ?_
  refine wp_seq ?_
  refine region_seq ?_
  refine sv (v := .int .i64 0) henv rfl (rn_assign henv rfl) ?_
  clear henv a; intro a henv
  refine wpList_nil ?_
  refine th_n ?_
  refine wp_block ?_
  replace hst := (hst.addRowS notU 39 2).nilEs FM
  replace hst : St w0 _ [rowS notU 39 2 none 0 0 (fl fM ([])), bk g51 #[.bool (neg m), .slice M (dl m) d] 39] [pfEs FM ([]), pfRow fM FM 2 A0 n0 c0 es0, pfR M d m] := hst
  refine wp_loop_ghost (fun mz a w => ∃ j : Nat, ∃ B : Option Addr, ∃ e : Nat, ∃ os : List NE, n0 - j = mz ∧ Env 32 a [(0, .slice A0 n0 c0), (3, .pointer (some ⟨g51, 0, none⟩)), (6, .slice B j e), (7, .int .i64 (j : Nat))] ∧ St w0 w [rowS notU 39 2 B j e (fl fM os), bk g51 #[.bool (neg m), .slice M (dl m) d] 39] [pfEs FM os, pfRow fM FM 2 A0 n0 c0 es0, pfR M d m] ∧ j ≤ n0 ∧ os.map zz = (xs.map (· / m)).take j ∧ divs m (xs.take j)) _ ⟨0, none, 0, [], rfl, henv.sub ⟨rfl, rfl, rfl, rfl, trivial⟩, hst.pick [0, 1] [0, 1, 2] (by decide), (Nat.zero_le _), rfl, (fun _ h => by cases h)⟩ ?_
  clear henv hst a
  rintro mz a w53 ⟨j, B, e, os, rfl, henv, hst, hj, ho, hd⟩
  refine wp_seq ?_
  refine wp_seq ?_
  refine region_seq ?_
  revert a
  refine mA rfl rfl ?_
  refine mA rfl rfl ?_
  refine sA (v := .int .i64 (n0 : Nat)) rfl (fun _ henv => rn_len henv Tryd.underlying32 rfl) ?_
  refine sA (v := .bool (decide (((j : Nat) : Int) < ((n0 : Nat) : Int)))) rfl (fun _ henv => rn_bin henv rfl rfl rfl) ?_
  intro a henv
  refine wpList_nil ?_
  refine th_n ?_
  refine if_split henv rfl (fun hc54 => ?_) (fun hc54 => ?_)
  · have hlt : j < n0 := by have := of_decide_eq_true hc54; omega
    obtain ⟨⟨A, c, z⟩, he0⟩ : ∃ e, es0[j]? = some e := ⟨_, List.getElem?_eq_getElem (by omega)⟩
    replace hst := hst.elem (k := 1) rfl he0
    replace hst : St w0 _ [rowS notU 39 2 B j e (fl fM os), bk g51 #[.bool (neg m), .slice M (dl m) d] 39] [pfR A c z, pfEs FM os, pfRow fM FM 2 A0 n0 c0 es0, pfR M d m] := hst
    have hzs := hzb.at he0
    have dz := dl_zl z
    refine wp_skip ?_
    refine th_n ?_
    refine wp_seq ?_
    refine wp_block ?_
    refine wp_seq ?_
    refine cut (fun a w => ∃ A56 : Option Addr, ∃ c57 : Nat, ∃ g60 : Nat, Env 32 a [(0, .slice A0 n0 c0), (3, .pointer (some ⟨g51, 0, none⟩)), (6, .slice B j e), (7, .int .i64 (j : Nat)), (10, .int .i64 (j : Nat)), (11, .slice A0 n0 c0), (12, .int .i64 (n0 : Nat)), (13, .bool (decide (((j : Nat) : Int) < ((n0 : Nat) : Int)))), (8, .pointer (some ⟨g60, 0, none⟩)), (9, .bool (decide (z % m = 0)))] ∧ St w0 w [bk g60 #[.bool (neg (ovr z m)), .slice A56 (dl (ovr z m)) c57] 39, rowS notU 39 2 B j e (fl fM os), bk g51 #[.bool (neg m), .slice M (dl m) d] 39] [pfR A56 c57 (ovr z m), pfR A c z, pfEs FM os, pfRow fM FM 2 A0 n0 c0 es0, pfR M d m]) ?_ ?_
    · refine region_any (n := 12) (Sk [rowS notU 39 2 B j e (fl fM os), bk g51 #[.bool (neg m), .slice M (dl m) d] 39] [pfR A c z, pfEs FM os, pfRow fM FM 2 A0 n0 c0 es0, pfR M d m] [10] []) mixed rfl henv hst ?_
      clear henv hst; intro w55 henv hst
      refine tM (i := 0) [2, 3, 5, 6, 7, 8, 10, 11] rfl (by kernel_rfl) (fun _ _ _ h => h) henv rfl rfl ?_
      clear henv a; intro a henv
      refine tM (i := 1) [2, 3, 5, 6, 7, 8, 10, 11] rfl (by kernel_rfl) (fun _ _ _ h => h) henv rfl rfl ?_
      clear henv a; intro a henv
      refine sAny_take (i := 2) [3, 5, 6, 7, 8, 10, 11] (fun w' => (pfRow fM FM 2 A0 n0 c0 es0).P w') (v := .pointer (some ⟨ab A0, ao A0 + j * 2, none⟩)) rfl (by kernel_rfl) (fun _ _ _ h => h) (fun _ _ _ hS => hS.1.pat (k := 2) rfl) henv rfl (hst.pat (k := 2) rfl) (fun w' hg => rn_idxR (i := j) henv Tryd.underlying32 (ty_anvil_anvilref02_Int.size) rfl rfl (by omega) rfl (show (pfRow fM FM 2 A0 n0 c0 es0).P _ from hg).1) ?_
      clear henv a; intro a henv
      refine sAny_take (i := 3) [5, 6, 7, 8, 10, 11] (fun w' => (pfRow fM FM 2 A0 n0 c0 es0).P w') (v := .agg #[.bool (neg z), .slice A (dl z) c]) rfl (by kernel_rfl) (fun _ _ _ h => h) (fun _ _ _ hS => hS.1.pat (k := 2) rfl) henv rfl (hst.pat (k := 2) rfl) (fun w' hg => rn_loadE (i := j) (e := (A, c, z)) henv ty_anvil_anvilref02_Int rfl rfl fM_len (show (pfRow fM FM 2 A0 n0 c0 es0).P _ from hg).1 (by omega) he0 rfl) ?_
      clear henv a; intro a henv
      refine tL (i := 4) 1 1 [5, 6, 7, 8, 10, 11] rfl (by kernel_rfl) (fun _ _ _ h => h) henv rfl ty_anvil_anvilref02_Int rfl hst rfl rfl rfl ?_
      clear henv a; intro a henv
      refine sAny_all (rs := [5, 9]) (by kernel_rfl) (by simp) ?_
      simp only [List.forall_mem_cons, List.not_mem_nil, false_implies, implies_true, and_true]
      refine ⟨?_, ?_⟩
      · refine ⟨_, rfl, rfl, op_call henv rfl Tryd.call122 rfl (over_rb (x := z) (y := m) (show RIn _ A c z from hst.pat (k := 0) rfl) (show RIn _ M d m from hst.pat (k := 3) rfl) (by omega) (by omega) hm0) ?_⟩
        rintro e w59 ⟨_, rfl, ⟨A56, c57, rfl, hz58⟩, hb⟩
        refine ⟨_, rfl, ?_⟩
        clear henv a; intro a henv
        replace hst := (hst.call hb).addR hz58 ⟨nou_rowS, nou_bk rfl, trivial⟩
        clear hz58
        clear hb
        refine ⟨.inr ⟨hst.kn.pick [0, 1] (rg 1 4), .inr (hst.kn.pick [] [])⟩, ?_⟩
        refine tM (i := 6) [7, 8, 10, 11] rfl (by kernel_rfl) (fun _ _ _ h => h) henv rfl rfl ?_
        clear henv a; intro a henv
        refine tA (i := 7) [10, 11] (v := .agg #[.bool (neg (ovr z m)), .slice A56 (dl (ovr z m)) c57]) rfl (by kernel_rfl) (fun _ _ _ h => h) henv rfl (fun _ => rn_extract henv rfl rfl) ?_
        clear henv a; intro a henv
        refine tA (i := 8) [11] (v := .bool (decide (z % m = 0))) rfl (by kernel_rfl) (fun _ _ _ h => h) henv rfl (fun _ => rn_extract henv rfl rfl) ?_
        clear henv a; intro a henv
        refine sAny_one (i := 9) (by kernel_rfl) rfl rfl (op_alloc (c := #[.bool (neg 0), .slice none (dl 0) 0]) henv hst rfl zero_anvil_anvilref02_Int rcells ?_)
        clear henv hst a; intro a w61 g60 henv hst
        refine ⟨.inr ⟨hst.kn.pick [1, 2] (rg 1 4), .inr (hst.kn.pick [] [])⟩, ?_⟩
        refine sAny_one (i := 10) (by kernel_rfl) rfl rfl (op_store (k := 0) (c' := #[.bool (neg (ovr z m)), .slice A56 (dl (ovr z m)) c57]) henv hst (ty_anvil_anvilref02_Int.size) rfl rfl rfl rfl (by simp) rfl rfl ?_)
        clear henv hst a; intro a w62 henv hst
        refine ⟨.inr ⟨hst.kn.pick [1, 2] (rg 1 4), .inl rfl⟩, ?_⟩
        refine tA (i := 11) [] (v := .bool (decide (z % m = 0))) rfl (by kernel_rfl) (fun _ _ _ h => h) henv rfl (fun _ => rn_assign henv rfl) ?_
        clear henv a; intro a henv
        refine sAny_done (by kernel_rfl) ?_ _
        exact th_n ⟨A56, c57, g60, henv.sub ⟨rfl, rfl, rfl, rfl, rfl, rfl, rfl, rfl, rfl, rfl, trivial⟩, hst.pick [0, 1, 2] [0, 1, 2, 3, 4] (by decide)⟩
      · refine ⟨_, rfl, rfl, op_alloc (c := #[.bool (neg 0), .slice none (dl 0) 0]) henv hst rfl zero_anvil_anvilref02_Int rcells ?_⟩
        clear henv hst a; intro a w64 g63 henv hst
        refine ⟨.inr ⟨hst.kn.pick [1, 2] (rg 0 4), .inr (hst.kn.pick [] [])⟩, ?_⟩
        refine sAny_one (i := 5) (by kernel_rfl) rfl rfl (op_call henv rfl Tryd.call122 rfl (over_rb (x := z) (y := m) (show RIn _ A c z from hst.pat (k := 0) rfl) (show RIn _ M d m from hst.pat (k := 3) rfl) (by omega) (by omega) hm0) ?_)
        rintro e w68 ⟨_, rfl, ⟨A65, c66, rfl, hz67⟩, hb⟩
        refine ⟨_, rfl, ?_⟩
        clear henv a; intro a henv
        replace hst := (hst.call hb).addR hz67 ⟨nou_bk rfl, nou_rowS, nou_bk rfl, trivial⟩
        clear hz67
        clear hb
        refine ⟨.inr ⟨hst.kn.pick [1, 2] (rg 1 4), .inr (hst.kn.pick [] [])⟩, ?_⟩
        refine tM (i := 6) [7, 8, 10, 11] rfl (by kernel_rfl) (fun _ _ _ h => h) henv rfl rfl ?_
        clear henv a; intro a henv
        refine tA (i := 7) [10, 11] (v := .agg #[.bool (neg (ovr z m)), .slice A65 (dl (ovr z m)) c66]) rfl (by kernel_rfl) (fun _ _ _ h => h) henv rfl (fun _ => rn_extract henv rfl rfl) ?_
        clear henv a; intro a henv
        refine tA (i := 8) [11] (v := .bool (decide (z % m = 0))) rfl (by kernel_rfl) (fun _ _ _ h => h) henv rfl (fun _ => rn_extract henv rfl rfl) ?_
        clear henv a; intro a henv
        refine sAny_one (i := 10) (by kernel_rfl) rfl rfl (op_store (k := 0) (c' := #[.bool (neg (ovr z m)), .slice A65 (dl (ovr z m)) c66]) henv hst (ty_anvil_anvilref02_Int.size) rfl rfl rfl rfl (by simp) rfl rfl ?_)
        clear henv hst a; intro a w69 henv hst
        refine ⟨.inr ⟨hst.kn.pick [1, 2] (rg 1 4), .inl rfl⟩, ?_⟩
        refine tA (i := 11) [] (v := .bool (decide (z % m = 0))) rfl (by kernel_rfl) (fun _ _ _ h => h) henv rfl (fun _ => rn_assign henv rfl) ?_
        clear henv a; intro a henv
        refine sAny_done (by kernel_rfl) ?_ _
        exact th_n ⟨A65, c66, g63, henv.sub ⟨rfl, rfl, rfl, rfl, rfl, rfl, rfl, rfl, rfl, rfl, trivial⟩, hst.pick [0, 1, 2] [0, 1, 2, 3, 4] (by decide)⟩
    clear henv hst a
    rintro a w70 ⟨A56, c57, g60, henv, hst⟩
    refine wp_seq ?_
    refine wp_seq ?_
    refine region_seq ?_
    revert a
    refine mA rfl rfl ?_
    refine sA (v := .bool (!(decide (z % m = 0)))) rfl (fun _ henv => rn_un henv rfl rfl) ?_
    intro a henv
    refine wpList_nil ?_
    refine th_n ?_
    refine if_split henv rfl (fun hc71 => ?_) (fun hc71 => ?_)
    · have hne : z % m ≠ 0 := not_dec_true hc71
      refine wp_seq ?_
      refine region_seq ?_
      revert a
      refine aA rfl rfl ?_
      refine aA rfl rfl ?_
      intro a henv
      refine wpList_nil ?_
      refine th_n ?_
      refine wp_ret ?_
      refine th_r (bl_r (th_r (th_r (bl_r (th_r ?_)))))
      refine leave henv (res2 Tryd.results83 (RV.tmp henv rfl) (RV.tmp henv rfl)) ?_
      exact ⟨.inr ⟨divs_no hz0 he0 hne, rfl⟩, hst.below⟩
    · have hze : z % m = 0 := not_dec_false hc71
      refine wp_skip ?_
      refine th_n ?_
      refine region_seq ?_
      revert a
      refine mA rfl rfl ?_
      refine sA (v := .agg #[.bool (neg (ovr z m)), .slice A56 (dl (ovr z m)) c57]) rfl (fun _ henv => rn_load0 henv ty_anvil_anvilref02_Int rfl (hst.oat (k := 0) rfl) rfl) ?_
      intro a henv
      refine seq_step rfl (op_buildSlice (z := 2) (pv := #[(0, .agg #[.bool (neg (ovr z m)), .slice A56 (dl (ovr z m)) c57])]) (c := #[.bool (neg (ovr z m)), .slice A56 (dl (ovr z m)) c57]) henv hst rfl Tryd.underlying32 (ty_anvil_anvilref02_Int.size) zero_anvil_anvilref02_Int (by decide) (by decide) rfl (by kernel_rfl) ?_)
      clear henv hst a; intro a w73 g72 henv hst
      refine seq_step rfl (op_appendS (k := 2) (j := 0) henv hst rfl Tryd.underlying32 inf_anvil_anvilref02_Int rfl rfl rfl rfl rfl rfl rfl rfl rfl rfl rfl (by unfold maxLen; omega) (by omega) ?_)
      clear henv hst a; intro a w76 g74 c75 henv hst
      rw [show fl fM os ++ (#[.bool (neg (ovr z m)), .slice A56 (dl (ovr z m)) c57] : Array Value).toList = fl fM (os ++ [(A56, c57, (ovr z m))]) from fl_snoc (f := fM) os (A56, c57, (ovr z m))] at hst
      replace hst := hst.snocEs (e := (A56, c57, (ovr z m))) (i := 2) (j := 0) rfl rfl
      refine sv (v := .slice (some ⟨g74, 0, none⟩) (j + 1) c75) henv rfl (rn_assign henv rfl) ?_
      clear henv a; intro a henv
      refine wpList_nil ?_
      refine bl_n (th_n ?_)
      refine region_seq ?_
      revert a
      refine mA rfl rfl ?_
      refine sA (v := .int .i64 (j + 1 : Nat)) rfl (fun _ henv => rn_add henv rfl rfl (by rw [IntWalk.i64_in _ (by omega)]; omega)) ?_
      refine aA rfl rfl ?_
      intro a henv
      refine wpList_nil ?_
      exact th_n ⟨_, (by omega), ⟨j + 1, (some ⟨g74, 0, none⟩), c75, (os ++ [(A56, c57, (ovr z m))]), rfl, henv.sub ⟨rfl, rfl, rfl, rfl, trivial⟩, hst.pick [2, 3] [0, 4, 5] (by decide), (by omega), (step_ovr hz0 ho he0 hze), (divs_step hz0 hd he0 hze)⟩⟩
  · have hjn : j = n0 := by have := of_decide_eq_false hc54; omega
    refine wp_exit ?_
    refine th_x (th_x (bl_x (th_n ?_)))
    refine wp_seq ?_
    refine region_seq ?_
    revert a
    refine mA rfl rfl ?_
    refine aA rfl rfl ?_
    refine aA rfl rfl ?_
    intro a henv
    refine wpList_nil ?_
    refine th_n ?_
    refine wp_ret ?_
    refine leave henv (res2 Tryd.results83 (RV.tmp henv rfl) (RV.tmp henv rfl)) ?_
    have hfl : n0 = xs.length := by rw [← hz0, List.length_map]; exact hlen0.symm
    rw [hjn, hfl, List.take_length] at hd
    rw [hjn, take_map_full hfl] at ho
    exact ⟨.inl ⟨hd, _, rfl, ⟨_, _, os, congrArg (fun k => Value.slice _ k _) hjn, (hjn ▸ hst.newRow (k := 0) (j := 0) rfl rfl), map_len ho (by rw [List.length_map]; exact hfl.symm), ho⟩⟩, hst.below⟩
set_option maxRecDepth 100000 in
set_option maxHeartbeats 2000000 in
theorem ref_content {A0 : Option Addr} {n0 c0 : Nat} {es0 : List NE} {xs : List Int} {w0 : World} (h0 : (pfRow fM FM 2 A0 n0 c0 es0).P w0) (hz0 : es0.map zz = xs) (hk : Zk 20000 xs) :
    Calls Tryd.prog 78 #[.slice A0 n0 c0] w0 fun e w' => ∃ v, e = .returned v ∧ RAt w' v (gcdL xs) ∧ Below w0.heap.size w0 w' := by
  have hzb := hk.es hz0
  refine enter Tryd.func78 rfl Tryd.ntmps78 rfl ?_
  intro a henv hst
  have hlen0 := h0.2.1
  have hbig0 := Nat.le_trans h0.1.cap h0.1.big
  unfold maxLen at hbig0
  replace hst := hst.argRow h0
  clear h0
  refine wp_seq ?_
  refine region_seq ?_
  refine seq_step rfl (op_alloc (c := #[.bool (neg 0), .slice none (dl 0) 0]) henv hst rfl zero_anvil_anvilref02_Int rcells ?_)
  clear henv hst a; intro a w52 g51 henv hst
  refine wpList_nil ?_
  refine th_n ?_
  refine wp_seq ?_
  refine region_seq ?_
  refine sv (v := .agg #[.bool (neg 0), .slice none (dl 0) 0]) henv rfl (rn_zref) ?_
  clear henv a; intro a henv
  refine seq_step rfl (op_alloc (c := #[.bool (neg 0), .slice none (dl 0) 0]) henv hst rfl zero_anvil_anvilref02_Int rcells ?_)
  clear henv hst a; intro a w54 g53 henv hst
  refine seq_step rfl (op_store (k := 0) (c' := #[.bool (neg 0), .slice none (dl 0) 0]) henv hst (ty_anvil_anvilref02_Int.size) rfl rfl rfl rfl (by simp) rfl rfl ?_)
  clear henv hst a; intro a w55 henv hst
  refine wpList_nil ?_
  refine th_n ?_
  refine wp_seq ?_
  refine wp_seq ?_
  refine region_seq ?_
  refine sv (v := .int .i64 0) henv rfl (rn_assign henv rfl) ?_
  clear henv a; intro a henv
  refine wpList_nil ?_
  refine th_n ?_
  refine wp_block ?_
  replace hst := hst.addR (rin_none _) ⟨nou_bk rfl, nou_bk rfl, trivial⟩
  refine wp_loop_ghost (fun mz a w => ∃ j : Nat, ∃ m : Int, ∃ B : Option Addr, ∃ d : Nat, n0 - j = mz ∧ Env 19 a [(0, .slice A0 n0 c0), (2, .pointer (some ⟨g51, 0, none⟩)), (3, .pointer (some ⟨g53, 0, none⟩)), (4, .int .i64 (j : Nat))] ∧ St w0 w [bk g53 #[.bool (neg m), .slice B (dl m) d] 39, bk g51 #[.bool (neg 0), .slice none (dl 0) 0] 39] [pfR B d m, pfRow fM FM 2 A0 n0 c0 es0] ∧ j ≤ n0 ∧ m = gcdL (xs.take j)) _ ⟨0, 0, none, 0, rfl, henv.sub ⟨rfl, rfl, rfl, rfl, trivial⟩, hst.pick [0, 1] [0, 1] (by decide), (Nat.zero_le _), rfl⟩ ?_
  clear henv hst a
  rintro mz a w56 ⟨j, m, B, d, rfl, henv, hst, hj, hm⟩
  have hms : zl m ≤ 20000 := by rw [hm]; exact zl_gcdL (hk.take j)
  have dm := dl_zl m
  refine wp_seq ?_
  refine wp_seq ?_
  refine region_seq ?_
  revert a
  refine mA rfl rfl ?_
  refine mA rfl rfl ?_
  refine sA (v := .int .i64 (n0 : Nat)) rfl (fun _ henv => rn_len henv Tryd.underlying32 rfl) ?_
  refine sA (v := .bool (decide (((j : Nat) : Int) < ((n0 : Nat) : Int)))) rfl (fun _ henv => rn_bin henv rfl rfl rfl) ?_
  intro a henv
  refine wpList_nil ?_
  refine th_n ?_
  refine if_split henv rfl (fun hc57 => ?_) (fun hc57 => ?_)
  · have hlt : j < n0 := by have := of_decide_eq_true hc57; omega
    obtain ⟨⟨A, c, z⟩, he0⟩ : ∃ e, es0[j]? = some e := ⟨_, List.getElem?_eq_getElem (by omega)⟩
    replace hst := hst.elem (k := 1) rfl he0
    replace hst : St w0 _ [bk g53 #[.bool (neg m), .slice B (dl m) d] 39, bk g51 #[.bool (neg 0), .slice none (dl 0) 0] 39] [pfR A c z, pfR B d m, pfRow fM FM 2 A0 n0 c0 es0] := hst
    have hzs := hzb.at he0
    have dz := dl_zl z
    refine wp_skip ?_
    refine th_n ?_
    refine wp_seq ?_
    refine wp_block ?_
    refine region_any (n := 7) (Sk [bk g51 #[.bool (neg 0), .slice none (dl 0) 0] 39] [pfR A c z, pfR B d m, pfRow fM FM 2 A0 n0 c0 es0] [6] [bk g53 #[.bool (neg m), .slice B (dl m) d] 39]) mixed rfl henv hst ?_
    clear henv hst; intro w58 henv hst
    refine sAny_take (i := 0) [5, 6] (fun w' => w'.heap[g53]? = some (.cells #[.bool (neg m), .slice B (dl m) d] 39 (0, 0))) (v := .agg #[.bool (neg m), .slice B (dl m) d]) rfl (by kernel_rfl) (fun _ _ _ h => h) (fun _ _ hj hS => (hS.two rfl hj).oat (k := 0) rfl) henv rfl (hst.oat (k := 0) rfl) (fun w' hg => rn_load0 henv ty_anvil_anvilref02_Int rfl hg rfl) ?_
    clear henv a; intro a henv
    refine tM (i := 1) (rg 3 4) rfl (by kernel_rfl) (fun _ _ _ h => h) henv rfl rfl ?_
    clear henv a; intro a henv
    refine tM (i := 2) (rg 3 4) rfl (by kernel_rfl) (fun _ _ _ h => h) henv rfl rfl ?_
    clear henv a; intro a henv
    refine sAny_take (i := 3) [4, 5, 6] (fun w' => (pfRow fM FM 2 A0 n0 c0 es0).P w') (v := .pointer (some ⟨ab A0, ao A0 + j * 2, none⟩)) rfl (by kernel_rfl) (fun _ _ _ h => h) (fun _ _ _ hS => hS.1.pat (k := 2) rfl) henv rfl (hst.pat (k := 2) rfl) (fun w' hg => rn_idxR (i := j) henv Tryd.underlying32 (ty_anvil_anvilref02_Int.size) rfl rfl (by omega) rfl (show (pfRow fM FM 2 A0 n0 c0 es0).P _ from hg).1) ?_
    clear henv a; intro a henv
    refine sAny_take (i := 4) [5, 6] (fun w' => (pfRow fM FM 2 A0 n0 c0 es0).P w') (v := .agg #[.bool (neg z), .slice A (dl z) c]) rfl (by kernel_rfl) (fun _ _ _ h => h) (fun _ _ _ hS => hS.1.pat (k := 2) rfl) henv rfl (hst.pat (k := 2) rfl) (fun w' hg => rn_loadE (i := j) (e := (A, c, z)) henv ty_anvil_anvilref02_Int rfl rfl fM_len (show (pfRow fM FM 2 A0 n0 c0 es0).P _ from hg).1 (by omega) he0 rfl) ?_
    clear henv a; intro a henv
    refine sAny_one (i := 5) (by kernel_rfl) rfl rfl (op_call henv rfl Tryd.call123 rfl (gcd_r (x := m) (y := z) (show RIn _ B d m from hst.pat (k := 1) rfl) (show RIn _ A c z from hst.pat (k := 0) rfl) (by omega) (by omega)) ?_)
    rintro e w62 ⟨_, rfl, ⟨A59, c60, rfl, hz61⟩, hb⟩
    refine ⟨_, rfl, ?_⟩
    clear henv a; intro a henv
    replace hst := (hst.call hb).addR hz61 ⟨nou_bk rfl, nou_bk rfl, trivial⟩
    clear hz61
    clear hb
    refine ⟨.inr ⟨hst.kn.pick [1] [1, 2, 3], .inr (hst.kn.pick [0] [])⟩, ?_⟩
    refine sAny_one (i := 6) (by kernel_rfl) rfl rfl (op_store (k := 0) (c' := #[.bool (neg ((Int.gcd m z : Nat) : Int)), .slice A59 (dl ((Int.gcd m z : Nat) : Int)) c60]) henv hst (ty_anvil_anvilref02_Int.size) rfl rfl rfl rfl (by simp) rfl rfl ?_)
    clear henv hst a; intro a w63 henv hst
    refine ⟨.inr ⟨hst.kn.pick [1] [1, 2, 3], .inl rfl⟩, ?_⟩
    refine sAny_done (by kernel_rfl) ?_ _
    refine bl_n (th_n ?_)
    refine region_seq ?_
    revert a
    refine mA rfl rfl ?_
    refine sA (v := .int .i64 (j + 1 : Nat)) rfl (fun _ henv => rn_add henv rfl rfl (by rw [IntWalk.i64_in _ (by omega)]; omega)) ?_
    refine aA rfl rfl ?_
    intro a henv
    refine wpList_nil ?_
    exact th_n ⟨_, (by omega), ⟨j + 1, ((Int.gcd m z : Nat) : Int), A59, c60, rfl, henv.sub ⟨rfl, rfl, rfl, rfl, trivial⟩, hst.pick [0, 1] [0, 3] (by decide), (by omega), (zgcd_step hz0 hm he0)⟩⟩
  · obtain rfl : j = n0 := by have := of_decide_eq_false hc57; omega
    refine wp_exit ?_
    refine th_x (th_x (bl_x (th_n ?_)))
    refine wp_seq ?_
    refine region_seq ?_
    refine sv (v := .agg #[.bool (neg m), .slice B (dl m) d]) henv rfl (rn_load0 henv ty_anvil_anvilref02_Int rfl (hst.oat (k := 0) rfl) rfl) ?_
    clear henv a; intro a henv
    refine seq_step rfl (op_store (k := 1) (c' := #[.bool (neg m), .slice B (dl m) d]) henv hst (ty_anvil_anvilref02_Int.size) rfl rfl rfl rfl (by simp) rfl rfl ?_)
    clear henv hst a; intro a w64 henv hst
    refine wpList_nil ?_
    refine th_n ?_
    refine wp_ret ?_
    refine leave henv (res1 Tryd.results78 (RV.cell henv ty_anvil_anvilref02_Int rfl (hst.oat (k := 1) rfl) rfl)) ?_
    have hfin : m = gcdL xs := by rw [hm, List.take_of_length_le (by rw [← hz0, List.length_map]; omega)]
    exact ⟨_, rfl, (by rw [← hfin]; exact ⟨_, _, rfl, hst.pat (k := 0) rfl⟩), hst.below⟩
set_option maxRecDepth 100000 in
set_option maxHeartbeats 2000000 in
theorem ref_zero {n : Nat} {w0 : World} (h : n ≤ 1000000) :
    Calls Tryd.prog 129 #[.int .i64 (n : Nat)] w0 fun e w' => ∃ v, e = .returned v ∧ MRow w0.heap.size w' v n (List.replicate n 0) ∧ Below w0.heap.size w0 w' := by
  refine enter Tryd.func129 rfl Tryd.ntmps129 rfl ?_
  intro a henv hst
  refine wp_seq ?_
  refine region_seq ?_
  refine sv (v := .slice none 0 0) henv rfl (rn_assign henv rfl) ?_
  clear henv a; intro a henv
  refine wpList_nil ?_
  refine th_n ?_
  refine wp_seq ?_
  refine region_seq ?_
  refine sv (v := .int .i64 (n : Nat)) henv rfl (rn_move henv rfl) ?_
  clear henv a; intro a henv
  refine seq_step rfl (op_makeS (f := fM) (e0 := (none, 0, 0)) (q := notU) (n := n) henv hst rfl Tryd.underlying32 inf_anvil_anvilref02_Int rfl rfl fM_zero rfl rfl rfl (by omega) (by unfold maxLen; omega) ?_)
  clear henv hst a; intro a w52 g51 henv hst
  replace hst := hst.addMs (es_zerosM n _) ⟨nou_rowS, trivial⟩
  refine sv (v := .slice (some ⟨g51, 0, none⟩) n n) henv rfl (rn_assign henv rfl) ?_
  clear henv a; intro a henv
  refine wpList_nil ?_
  refine th_n ?_
  refine wp_ret ?_
  refine leave henv (res1 Tryd.results129 (RV.tmp henv rfl)) ?_
  exact ⟨_, rfl, ⟨_, _, _, rfl, hst.newRow (k := 0) (j := 0) rfl rfl, List.length_replicate, List.map_replicate⟩, hst.below⟩
set_option maxRecDepth 100000 in
set_option maxHeartbeats 8000000 in
theorem ref_primitive {A0 : Option Addr} {n0 c0 : Nat} {es0 : List NE} {xs : List Int} {w0 : World} (h0 : (pfRow fM FM 2 A0 n0 c0 es0).P w0) (hz0 : es0.map zz = xs) (hk : Zk 20000 xs) (hn : n0 ≤ 1000000) :
    Calls Tryd.prog 79 #[.slice A0 n0 c0] w0 fun e w' => ∃ v u, e = .returned (.tuple #[v, u]) ∧ MRow w0.heap.size w' v n0 (prim xs) ∧ RAt w' u (primN xs) ∧ Below w0.heap.size w0 w' := by
  refine enter Tryd.func79 rfl Tryd.ntmps79 rfl ?_
  intro a henv hst
  have hlen0 := h0.2.1
  have hbig0 := Nat.le_trans h0.1.cap h0.1.big
  unfold maxLen at hbig0
  replace hst := hst.argRow h0
  clear h0
  refine wp_seq ?_
  refine region_seq ?_
  refine sv (v := .slice none 0 0) henv rfl (rn_assign henv rfl) ?_
  clear henv a; intro a henv
  refine seq_step rfl (op_alloc (c := #[.bool (neg 0), .slice none (dl 0) 0]) henv hst rfl zero_anvil_anvilref02_Int rcells ?_)
  clear henv hst a; intro a w52 g51 henv hst
  refine wpList_nil ?_
  refine th_n ?_
  refine wp_seq ?_
  refine region_seq ?_
  refine sv (v := .slice A0 n0 c0) henv rfl (rn_move henv rfl) ?_
  clear henv a; intro a henv
  refine seq_step rfl (op_call henv rfl Tryd.call78 rfl (ref_content (hst.pat (k := 0) rfl) hz0 hk) ?_)
  rintro e w56 ⟨_, rfl, ⟨A53, c54, rfl, hz55⟩, hb⟩
  refine ⟨_, rfl, ?_⟩
  clear henv a; intro a henv
  replace hst := (hst.call hb).addR hz55 ⟨nou_bk rfl, trivial⟩
  clear hz55
  clear hb
  refine seq_step rfl (op_alloc (c := #[.bool (neg 0), .slice none (dl 0) 0]) henv hst rfl zero_anvil_anvilref02_Int rcells ?_)
  clear henv hst a; intro a w58 g57 henv hst
  refine seq_step rfl (op_store (k := 0) (c' := #[.bool (neg (gcdL xs)), .slice A53 (dl (gcdL xs)) c54]) henv hst (ty_anvil_anvilref02_Int.size) rfl rfl rfl rfl (by simp) rfl rfl ?_)
  clear henv hst a; intro a w59 henv hst
  refine wpList_nil ?_
  refine th_n ?_
  refine wp_seq ?_
  refine wp_seq ?_
  refine region_seq ?_
  refine sv (v := .int .i64 0) henv rfl (rn_assign henv rfl) ?_
  clear henv a; intro a henv
  refine wpList_nil ?_
  refine th_n ?_
  refine wp_block ?_
  refine wp_loop_ghost (fun mz a w => ∃ j : Nat, n0 - j = mz ∧ Env 42 a [(0, .slice A0 n0 c0), (3, .pointer (some ⟨g51, 0, none⟩)), (4, .pointer (some ⟨g57, 0, none⟩)), (5, .int .i64 (j : Nat))] ∧ St w0 w [bk g57 #[.bool (neg (gcdL xs)), .slice A53 (dl (gcdL xs)) c54] 39, bk g51 #[.bool (neg 0), .slice none (dl 0) 0] 39] [pfR A53 c54 (gcdL xs), pfRow fM FM 2 A0 n0 c0 es0] ∧ j ≤ n0 ∧ ∀ x ∈ xs.take j, x = 0) _ ⟨0, rfl, henv.sub ⟨rfl, rfl, rfl, rfl, trivial⟩, hst.pick [0, 1] [0, 1] (by decide), (Nat.zero_le _), (fun _ h => by cases h)⟩ ?_
  clear henv hst a
  rintro mz a w60 ⟨j, rfl, henv, hst, hj, hall⟩
  refine wp_seq ?_
  refine wp_seq ?_
  refine region_seq ?_
  revert a
  refine mA rfl rfl ?_
  refine mA rfl rfl ?_
  refine sA (v := .int .i64 (n0 : Nat)) rfl (fun _ henv => rn_len henv Tryd.underlying32 rfl) ?_
  refine sA (v := .bool (decide (((j : Nat) : Int) < ((n0 : Nat) : Int)))) rfl (fun _ henv => rn_bin henv rfl rfl rfl) ?_
  intro a henv
  refine wpList_nil ?_
  refine th_n ?_
  refine if_split henv rfl (fun hc61 => ?_) (fun hc61 => ?_)
  · have hlt : j < n0 := by have := of_decide_eq_true hc61; omega
    obtain ⟨⟨A, c, z⟩, he0⟩ : ∃ e, es0[j]? = some e := ⟨_, List.getElem?_eq_getElem (by omega)⟩
    replace hst := hst.elem (k := 1) rfl he0
    replace hst : St w0 _ [bk g57 #[.bool (neg (gcdL xs)), .slice A53 (dl (gcdL xs)) c54] 39, bk g51 #[.bool (neg 0), .slice none (dl 0) 0] 39] [pfR A c z, pfR A53 c54 (gcdL xs), pfRow fM FM 2 A0 n0 c0 es0] := hst
    refine wp_skip ?_
    refine th_n ?_
    refine wp_seq ?_
    refine wp_block ?_
    refine wp_seq ?_
    refine region_seq ?_
    revert a
    refine mA rfl rfl ?_
    refine mA rfl rfl ?_
    refine sA (v := .pointer (some ⟨ab A0, ao A0 + j * 2, none⟩)) rfl (fun _ henv => rn_idxR (i := j) henv Tryd.underlying32 (ty_anvil_anvilref02_Int.size) rfl rfl (by omega) rfl (show (pfRow fM FM 2 A0 n0 c0 es0).P _ from (hst.pat (k := 2) rfl)).1) ?_
    refine sA (v := .agg #[.bool (neg z), .slice A (dl z) c]) rfl (fun _ henv => rn_loadE (i := j) (e := (A, c, z)) henv ty_anvil_anvilref02_Int rfl rfl fM_len (show (pfRow fM FM 2 A0 n0 c0 es0).P _ from (hst.pat (k := 2) rfl)).1 (by omega) he0 rfl) ?_
    intro a henv
    refine seq_step rfl (op_call henv rfl Tryd.call82 rfl (sign_r (z := z)) ?_)
    rintro e w62 ⟨rfl, hb⟩
    refine ⟨_, rfl, ?_⟩
    clear henv a; intro a henv
    replace hst := hst.call hb
    clear hb
    refine sv (v := .bool (z.sign != (0 : Int))) henv rfl (rn_bin henv rfl rfl rfl) ?_
    clear henv a; intro a henv
    refine wpList_nil ?_
    refine th_n ?_
    refine if_split henv rfl (fun hc63 => ?_) (fun hc63 => ?_)
    · have hnz : z ≠ 0 := sign_ne hc63
      have hlead := lead_at hall (at_zs hz0 he0) hnz
      refine wp_seq ?_
      refine wp_seq ?_
      refine region_seq ?_
      revert a
      refine mA rfl rfl ?_
      refine mA rfl rfl ?_
      refine sA (v := .pointer (some ⟨ab A0, ao A0 + j * 2, none⟩)) rfl (fun _ henv => rn_idxR (i := j) henv Tryd.underlying32 (ty_anvil_anvilref02_Int.size) rfl rfl (by omega) rfl (show (pfRow fM FM 2 A0 n0 c0 es0).P _ from (hst.pat (k := 2) rfl)).1) ?_
      refine sA (v := .agg #[.bool (neg z), .slice A (dl z) c]) rfl (fun _ henv => rn_loadE (i := j) (e := (A, c, z)) henv ty_anvil_anvilref02_Int rfl rfl fM_len (show (pfRow fM FM 2 A0 n0 c0 es0).P _ from (hst.pat (k := 2) rfl)).1 (by omega) he0 rfl) ?_
      intro a henv
      refine seq_step rfl (op_call henv rfl Tryd.call82 rfl (sign_r (z := z)) ?_)
      rintro e w64 ⟨rfl, hb⟩
      refine ⟨_, rfl, ?_⟩
      clear henv a; intro a henv
      replace hst := hst.call hb
      clear hb
      refine sv (v := .bool (decide (z.sign < (0 : Int)))) henv rfl (rn_bin henv rfl rfl rfl) ?_
      clear henv a; intro a henv
      refine wpList_nil ?_
      refine th_n ?_
      refine if_split henv rfl (fun hc65 => ?_) (fun hc65 => ?_)
      · have hp : -gcdL xs = primN xs := prim_neg hlead (of_decide_eq_true hc65)
        have hp0 := lead_ne ⟨z, mem_zs hz0 he0, hnz⟩
        refine region_seq ?_
        refine sv (v := .agg #[.bool (neg (gcdL xs)), .slice A53 (dl (gcdL xs)) c54]) henv rfl (rn_load0 henv ty_anvil_anvilref02_Int rfl (hst.oat (k := 0) rfl) rfl) ?_
        clear henv a; intro a henv
        have hs66 := dl_neg (gcdL xs)
        refine seq_step rfl (op_call henv rfl Tryd.call128 rfl (neg_r (z := (gcdL xs)) (show RIn _ A53 c54 (gcdL xs) from hst.pat (k := 1) rfl)) ?_)
        rintro e w70 ⟨_, rfl, ⟨A67, c68, rfl, hz69⟩, hb⟩
        refine ⟨_, rfl, ?_⟩
        clear henv a; intro a henv
        replace hst := (hst.call hb).addR hz69 ⟨nou_bk rfl, nou_bk rfl, trivial⟩
        clear hz69
        clear hb
        refine seq_step rfl (op_store (k := 0) (c' := #[.bool (neg (-(gcdL xs))), .slice A67 (dl (-(gcdL xs))) c68]) henv hst (ty_anvil_anvilref02_Int.size) rfl rfl rfl rfl (by simp) rfl rfl ?_)
        clear henv hst a; intro a w71 henv hst
        refine wpList_nil ?_
        refine th_n ?_
        refine wp_seq ?_
        refine region_seq ?_
        revert a
        refine mA rfl rfl ?_
        refine sA (v := .agg #[.bool (neg (-(gcdL xs))), .slice A67 (dl (-(gcdL xs))) c68]) rfl (fun _ henv => rn_load0 henv ty_anvil_anvilref02_Int rfl (hst.oat (k := 0) rfl) rfl) ?_
        intro a henv
        refine seq_step rfl (op_call henv rfl Tryd.call83 rfl (over_known (ref_over (m := -(gcdL xs)) (hst.pat (k := 3) rfl) hz0 (show RIn _ A67 c68 (-(gcdL xs)) from hst.pat (k := 0) rfl) (by have := zl_gcdL hk; (try rw [zl_neg]); omega) (by omega) hk (by omega)) (by rw [hp]; exact divs_prim xs)) ?_)
        rintro e w78 ⟨_, rfl, ⟨A72, c73, es74, rfl, hr, hl75, hz76⟩, hb⟩
        refine ⟨_, rfl, ?_⟩
        clear henv a; intro a henv
        replace hst := hst.freshRow hb hr (ap_M hr.2.1 ⟨nou_rowS, ⟨nou_bk rfl, nou_bk rfl, trivial⟩⟩)
        clear hr
        clear hb
        revert a
        refine mA rfl rfl ?_
        refine sA (v := .slice A72 n0 c73) rfl (fun _ henv => rn_extract henv rfl rfl) ?_
        refine sA (v := .bool true) rfl (fun _ henv => rn_extract henv rfl rfl) ?_
        refine aA rfl rfl ?_
        refine aA rfl rfl ?_
        intro a henv
        refine wpList_nil ?_
        refine th_n ?_
        refine wp_seq ?_
        refine region_any (n := 4) (Sk [rowS notU 39 2 A72 n0 c73 (fl fM es74), bk g57 #[.bool (neg (-(gcdL xs))), .slice A67 (dl (-(gcdL xs))) c68] 39] [pfEs FM es74, pfR A67 c68 (-(gcdL xs)), pfR A c z, pfR A53 c54 (gcdL xs), pfRow fM FM 2 A0 n0 c0 es0] [3] []) mixed rfl henv hst ?_
        clear henv hst; intro w79 henv hst
        refine tM (i := 0) [2, 3] rfl (by kernel_rfl) (fun _ _ _ h => h) henv rfl rfl ?_
        clear henv a; intro a henv
        refine tL (i := 1) 1 1 [3] rfl (by kernel_rfl) (fun _ _ _ h => h) henv rfl ty_anvil_anvilref02_Int rfl hst rfl rfl rfl ?_
        clear henv a; intro a henv
        refine tA (i := 2) [3] (v := .slice A72 n0 c73) rfl (by kernel_rfl) (fun _ _ _ h => h) henv rfl (fun _ => rn_assign henv rfl) ?_
        clear henv a; intro a henv
        refine sAny_one (i := 3) (by kernel_rfl) rfl rfl (op_store (k := 2) (c' := #[.bool (neg (-(gcdL xs))), .slice A67 (dl (-(gcdL xs))) c68]) henv hst (ty_anvil_anvilref02_Int.size) rfl rfl rfl rfl (by simp) rfl rfl ?_)
        clear henv hst a; intro a w80 henv hst
        refine ⟨.inr ⟨hst.kn.pick [0, 1] (rg 0 5), .inl rfl⟩, ?_⟩
        refine sAny_done (by kernel_rfl) ?_ _
        refine th_n ?_
        refine wp_ret ?_
        refine bl_r (th_r (th_r (bl_r (th_r ?_))))
        refine leave henv (res2 Tryd.results79 (RV.tmp henv rfl) (RV.cell henv ty_anvil_anvilref02_Int rfl (hst.oat (k := 2) rfl) rfl)) ?_
        exact ⟨_, _, rfl, ⟨_, _, _, rfl, hst.newRow (k := 0) (j := 0) rfl rfl, hl75, (hz76.trans (by unfold prim; rw [← hp]))⟩, (by rw [← hp]; exact ⟨_, _, rfl, hst.pat (k := 1) rfl⟩), hst.below⟩
      · have hp : gcdL xs = primN xs := prim_pos hlead (of_decide_eq_false hc65)
        have hp0 := lead_ne ⟨z, mem_zs hz0 he0, hnz⟩
        refine wp_skip ?_
        refine th_n ?_
        refine wp_seq ?_
        refine region_seq ?_
        revert a
        refine mA rfl rfl ?_
        refine sA (v := .agg #[.bool (neg (gcdL xs)), .slice A53 (dl (gcdL xs)) c54]) rfl (fun _ henv => rn_load0 henv ty_anvil_anvilref02_Int rfl (hst.oat (k := 0) rfl) rfl) ?_
        intro a henv
        refine seq_step rfl (op_call henv rfl Tryd.call83 rfl (over_known (ref_over (m := (gcdL xs)) (hst.pat (k := 2) rfl) hz0 (show RIn _ A53 c54 (gcdL xs) from hst.pat (k := 1) rfl) (by have := zl_gcdL hk; (try rw [zl_neg]); omega) (by omega) hk (by omega)) (by rw [hp]; exact divs_prim xs)) ?_)
        rintro e w87 ⟨_, rfl, ⟨A81, c82, es83, rfl, hr, hl84, hz85⟩, hb⟩
        refine ⟨_, rfl, ?_⟩
        clear henv a; intro a henv
        replace hst := hst.freshRow hb hr (ap_M hr.2.1 ⟨nou_rowS, ⟨nou_bk rfl, nou_bk rfl, trivial⟩⟩)
        clear hr
        clear hb
        revert a
        refine mA rfl rfl ?_
        refine sA (v := .slice A81 n0 c82) rfl (fun _ henv => rn_extract henv rfl rfl) ?_
        refine sA (v := .bool true) rfl (fun _ henv => rn_extract henv rfl rfl) ?_
        refine aA rfl rfl ?_
        refine aA rfl rfl ?_
        intro a henv
        refine wpList_nil ?_
        refine th_n ?_
        refine wp_seq ?_
        refine region_any (n := 4) (Sk [rowS notU 39 2 A81 n0 c82 (fl fM es83), bk g57 #[.bool (neg (gcdL xs)), .slice A53 (dl (gcdL xs)) c54] 39] [pfEs FM es83, pfR A c z, pfR A53 c54 (gcdL xs), pfRow fM FM 2 A0 n0 c0 es0] [3] []) mixed rfl henv hst ?_
        clear henv hst; intro w88 henv hst
        refine tM (i := 0) [2, 3] rfl (by kernel_rfl) (fun _ _ _ h => h) henv rfl rfl ?_
        clear henv a; intro a henv
        refine tL (i := 1) 1 1 [3] rfl (by kernel_rfl) (fun _ _ _ h => h) henv rfl ty_anvil_anvilref02_Int rfl hst rfl rfl rfl ?_
        clear henv a; intro a henv
        refine tA (i := 2) [3] (v := .slice A81 n0 c82) rfl (by kernel_rfl) (fun _ _ _ h => h) henv rfl (fun _ => rn_assign henv rfl) ?_
        clear henv a; intro a henv
        refine sAny_one (i := 3) (by kernel_rfl) rfl rfl (op_store (k := 2) (c' := #[.bool (neg (gcdL xs)), .slice A53 (dl (gcdL xs)) c54]) henv hst (ty_anvil_anvilref02_Int.size) rfl rfl rfl rfl (by simp) rfl rfl ?_)
        clear henv hst a; intro a w89 henv hst
        refine ⟨.inr ⟨hst.kn.pick [0, 1] (rg 0 4), .inl rfl⟩, ?_⟩
        refine sAny_done (by kernel_rfl) ?_ _
        refine th_n ?_
        refine wp_ret ?_
        refine bl_r (th_r (th_r (bl_r (th_r ?_))))
        refine leave henv (res2 Tryd.results79 (RV.tmp henv rfl) (RV.cell henv ty_anvil_anvilref02_Int rfl (hst.oat (k := 2) rfl) rfl)) ?_
        exact ⟨_, _, rfl, ⟨_, _, _, rfl, hst.newRow (k := 0) (j := 0) rfl rfl, hl84, (hz85.trans (by unfold prim; rw [← hp]))⟩, (by rw [← hp]; exact ⟨_, _, rfl, hst.pat (k := 2) rfl⟩), hst.below⟩
    · have hzz : z = 0 := sign_eq0 hc63
      refine wp_skip ?_
      refine bl_n (th_n ?_)
      refine region_seq ?_
      revert a
      refine mA rfl rfl ?_
      refine sA (v := .int .i64 (j + 1 : Nat)) rfl (fun _ henv => rn_add henv rfl rfl (by rw [IntWalk.i64_in _ (by omega)]; omega)) ?_
      refine aA rfl rfl ?_
      intro a henv
      refine wpList_nil ?_
      exact th_n ⟨_, (by omega), ⟨j + 1, rfl, henv.sub ⟨rfl, rfl, rfl, rfl, trivial⟩, hst.pick [0, 1] [1, 2] (by decide), (by omega), (zero_step hz0 hall he0 hzz)⟩⟩
  · have hjn : j = n0 := by have := of_decide_eq_false hc61; omega
    have hfl : n0 = xs.length := by rw [← hz0, List.length_map]; exact hlen0.symm
    rw [hjn, hfl, List.take_length] at hall
    have hg0 : gcdL xs = primN xs := by rw [gcdL_zero hall, primN_zero hall]
    refine wp_exit ?_
    refine th_x (th_x (bl_x (th_n ?_)))
    refine wp_seq ?_
    refine region_any (n := 6) (Sk [bk g57 #[.bool (neg (gcdL xs)), .slice A53 (dl (gcdL xs)) c54] 39] [pfR A53 c54 (gcdL xs), pfRow fM FM 2 A0 n0 c0 es0] [5] []) mixed rfl henv hst ?_
    clear henv hst; intro w90 henv hst
    refine tM (i := 0) [1, 2, 4, 5] rfl (by kernel_rfl) (fun _ _ _ h => h) henv rfl rfl ?_
    clear henv a; intro a henv
    refine tA (i := 1) [2, 4, 5] (v := .int .i64 (n0 : Nat)) rfl (by kernel_rfl) (fun _ _ _ h => h) henv rfl (fun _ => rn_len henv Tryd.underlying32 rfl) ?_
    clear henv a; intro a henv
    refine tL (i := 3) 0 0 [5] rfl (by kernel_rfl) (fun _ _ _ h => h) henv rfl ty_anvil_anvilref02_Int rfl hst rfl rfl rfl ?_
    clear henv a; intro a henv
    refine sAny_one (i := 2) (by kernel_rfl) rfl rfl (op_call henv rfl Tryd.call129 rfl (ref_zero (by omega)) ?_)
    rintro e w97 ⟨_, rfl, ⟨A91, c92, es93, rfl, hr, hl94, hz95⟩, hb⟩
    refine ⟨_, rfl, ?_⟩
    clear henv a; intro a henv
    replace hst := hst.freshRow hb hr (ap_M hr.2.1 ⟨nou_rowS, ⟨nou_bk rfl, nou_bk rfl, trivial⟩⟩)
    clear hr
    clear hb
    refine ⟨.inr ⟨hst.kn.pick [1] [1, 2], .inr (hst.kn.pick [] [])⟩, ?_⟩
    refine tA (i := 4) [5] (v := .slice A91 n0 c92) rfl (by kernel_rfl) (fun _ _ _ h => h) henv rfl (fun _ => rn_assign henv rfl) ?_
    clear henv a; intro a henv
    refine sAny_one (i := 5) (by kernel_rfl) rfl rfl (op_store (k := 2) (c' := #[.bool (neg (gcdL xs)), .slice A53 (dl (gcdL xs)) c54]) henv hst (ty_anvil_anvilref02_Int.size) rfl rfl rfl rfl (by simp) rfl rfl ?_)
    clear henv hst a; intro a w98 henv hst
    refine ⟨.inr ⟨hst.kn.pick [1] [1, 2], .inl rfl⟩, ?_⟩
    refine sAny_done (by kernel_rfl) ?_ _
    refine th_n ?_
    refine wp_ret ?_
    refine leave henv (res2 Tryd.results79 (RV.tmp henv rfl) (RV.cell henv ty_anvil_anvilref02_Int rfl (hst.oat (k := 2) rfl) rfl)) ?_
    exact ⟨_, _, rfl, ⟨_, _, _, rfl, hst.newRow (k := 0) (j := 0) rfl rfl, hl94, (by rw [hz95, prim_rep hall, hfl])⟩, (by rw [← hg0]; exact ⟨_, _, rfl, hst.pat (k := 1) rfl⟩), hst.below⟩
end Go.Proofs.YtegglooojlheoaaDoor.W

/- RowSums: the law's walk. Printed by pv/gen_rowA.py. No condition. -/
namespace Go.Proofs.YtegglooojlheoaaDoor.W
open Go.RowKit Anv Go.Lib
end Go.Proofs.YtegglooojlheoaaDoor.W
