/- alone, three, same; RatioOrder, RatioField: the laws' walks. Printed by pv/gen_qlaw3.py. No condition. -/
import Derived.Test.YtegglooojlheoaaDoorM43
import Derived.Test.YtegglooojlheoaaDoorM13

namespace Go.Proofs.YtegglooojlheoaaDoor.W
open Go.RowKit Anv Go.Lib
section
variable {P : Program} {N : Nat} {dq : List Deferred} {a : Act} {l : List (Nat × Value)} {w : World} {d : Nat} {ty : TypeId} {pos : String} {af : Array Edge} {gd : Option (Nat × Bool)}
end
def IRd (s : List UInt8) (z p q : Int) : Prop := ∀ w0 : World,
    Calls Tryd.prog 113 #[.string ⟨s.toArray⟩] w0 fun e w' => ∃ v, e = .returned (.tuple #[v, .agg #[.int .i64 p, .int .i64 q]]) ∧ ZAt w' v z ∧ Below w0.heap.size w0 w'
theorem ird_any (t : List UInt8) (hmx : t.length ≤ maxLen) : ∃ z p q : Int, IRd t z p q ∧ zl z ≤ 65537 ∧ (t.length ≤ 300 → zl z ≤ 400) := by
  have h00 : zl 0 ≤ 400 := by rw [zl_zero]; omega
  rcases Nat.lt_or_ge 65536 t.length with hl | hl
  · exact ⟨0, 3, 65536, fun w0 => (iread_long hl hmx).mono fun _ _ ⟨he, hB⟩ => ⟨_, he, zin_at _, hB⟩, by omega, fun _ => h00⟩
  rcases sign_cases t with h45 | ⟨d, rfl⟩
  · rcases read_cases 0 t with ⟨b, hfb⟩ | hfb
    · exact ⟨0, 6, (b : Nat), fun w0 => (iread_fb0 h45 (by omega) hfb).mono fun _ _ ⟨he, hB⟩ => ⟨_, he, zin_at _, hB⟩, by omega, fun _ => h00⟩
    · have hb := zl_num0 (digits_of hfb.ok)
      exact ⟨_, 0, 0, fun w0 => iread_ok0 h45 (by omega) hfb, by omega, fun h => by omega⟩
  · rw [List.length_cons] at hl
    rcases read_cases 1 d with ⟨b, hfb⟩ | hfb
    · exact ⟨0, 6, (b + 1 : Nat), fun w0 => (iread_fb1 (by omega) hfb).mono fun _ _ ⟨he, hB⟩ => ⟨_, he, zin_at _, hB⟩, by omega, fun _ => h00⟩
    · have hb := zl_num1 (digits_of hfb.ok)
      exact ⟨_, 0, 0, fun w0 => iread_ok1 (by omega) hfb, by omega, fun h => by rw [List.length_cons] at h; omega⟩
set_option maxRecDepth 100000 in
set_option maxHeartbeats 2000000 in
theorem alone_a1 {s t : List UInt8} {z y ps qs pt qt : Int} {w0 : World} (hs : IRd s z ps qs) (ht : IRd t y pt qt) (bz : zl z ≤ 65537) (by_ : zl y ≤ 65537) (u1 : ps ≠ 0) (hy0 : y = 0) :
    Calls Tryd.prog 87 #[.agg #[.string ⟨s.toArray⟩, .string ⟨t.toArray⟩]] w0 fun e w' => ∃ v, e = .returned (.tuple #[v, .bool false]) ∧ QAt w' v (0) ∧ Below w0.heap.size w0 w' := by
  refine enter Tryd.func87 rfl Tryd.ntmps87 rfl ?_
  intro a henv hst
  refine wp_seq ?_
  refine region_seq ?_
  refine seq_step rfl (op_box (c := #[.string ⟨s.toArray⟩, .string ⟨t.toArray⟩]) henv hst rfl rfl rfl ?_)
  clear henv hst a; intro a w2 g1 henv hst
  refine seq_step rfl (op_alloc (c := #[.bool (neg (qn 0)), .slice none (zl (qn 0)) 0, .bool (neg (ql 0)), .slice none (zl (ql 0)) 0]) henv hst rfl zero_anvil_ratio_Rat qcells ?_)
  clear henv hst a; intro a w4 g3 henv hst
  refine sv (v := .bool false) henv rfl (rn_assign henv rfl) ?_
  clear henv a; intro a henv
  refine wpList_nil ?_
  refine th_n ?_
  refine wp_seq ?_
  refine region_seq ?_
  revert a
  refine sA (v := .pointer (some ⟨g1, 0, none⟩)) rfl (fun _ henv => rn_fieldAddr henv fd_anvil_anvillaw03_Frac_0 (ty_string.size) (by decide) rfl) ?_
  refine sA (v := .string ⟨s.toArray⟩) rfl (fun _ henv => rn_load1 henv ty_string rfl (hst.oat (k := 1) rfl) rfl) ?_
  intro a henv
  refine seq_step rfl (op_call henv rfl Tryd.call113 rfl (hs _) ?_)
  rintro e w8 ⟨_, rfl, ⟨A5, c6, rfl, hz7⟩, hb⟩
  refine ⟨_, rfl, ?_⟩
  clear henv a; intro a henv
  replace hst := (hst.call hb).addZ hz7 ⟨nou_bk rfl, nou_bk rfl, trivial⟩
  clear hz7
  clear hb
  revert a
  refine mA rfl rfl ?_
  refine sA (v := .agg #[.bool (neg z), .slice A5 (zl z) c6]) rfl (fun _ henv => rn_extract henv rfl rfl) ?_
  refine sA (v := .agg #[.int .i64 ps, .int .i64 qs]) rfl (fun _ henv => rn_extract henv rfl rfl) ?_
  intro a henv
  refine seq_step rfl (op_alloc (c := #[.bool (neg 0), .slice none (zl 0) 0]) henv hst rfl zero_anvil_integer_Int zcells ?_)
  clear henv hst a; intro a w10 g9 henv hst
  refine seq_step rfl (op_alloc (c := #[.int .i64 0, .int .i64 0]) henv hst rfl zero_anvil_api_Spot rfl ?_)
  clear henv hst a; intro a w12 g11 henv hst
  refine seq_step rfl (op_store (k := 1) (c' := #[.bool (neg z), .slice A5 (zl z) c6]) henv hst (ty_anvil_integer_Int.size) rfl rfl rfl rfl (by simp) rfl rfl ?_)
  clear henv hst a; intro a w13 henv hst
  refine seq_step rfl (op_store (k := 0) (c' := #[.int .i64 ps, .int .i64 qs]) henv hst (ty_anvil_api_Spot.size) rfl rfl rfl rfl (by simp) rfl rfl ?_)
  clear henv hst a; intro a w14 henv hst
  refine wpList_nil ?_
  refine th_n ?_
  refine wp_seq ?_
  refine region_seq ?_
  revert a
  refine sA (v := .pointer (some ⟨g1, 1, none⟩)) rfl (fun _ henv => rn_fieldAddr henv fd_anvil_anvillaw03_Frac_1 (ty_string.size) (by decide) rfl) ?_
  refine sA (v := .string ⟨t.toArray⟩) rfl (fun _ henv => rn_load1 henv ty_string rfl (hst.oat (k := 3) rfl) rfl) ?_
  intro a henv
  refine seq_step rfl (op_call henv rfl Tryd.call113 rfl (ht _) ?_)
  rintro e w18 ⟨_, rfl, ⟨A15, c16, rfl, hz17⟩, hb⟩
  refine ⟨_, rfl, ?_⟩
  clear henv a; intro a henv
  replace hst := (hst.call hb).addZ hz17 ⟨nou_bk rfl, nou_bk rfl, nou_bk rfl, nou_bk rfl, trivial⟩
  clear hz17
  clear hb
  revert a
  refine mA rfl rfl ?_
  refine sA (v := .agg #[.bool (neg y), .slice A15 (zl y) c16]) rfl (fun _ henv => rn_extract henv rfl rfl) ?_
  refine sA (v := .agg #[.int .i64 pt, .int .i64 qt]) rfl (fun _ henv => rn_extract henv rfl rfl) ?_
  intro a henv
  refine seq_step rfl (op_alloc (c := #[.bool (neg 0), .slice none (zl 0) 0]) henv hst rfl zero_anvil_integer_Int zcells ?_)
  clear henv hst a; intro a w20 g19 henv hst
  refine seq_step rfl (op_alloc (c := #[.int .i64 0, .int .i64 0]) henv hst rfl zero_anvil_api_Spot rfl ?_)
  clear henv hst a; intro a w22 g21 henv hst
  refine seq_step rfl (op_store (k := 1) (c' := #[.bool (neg y), .slice A15 (zl y) c16]) henv hst (ty_anvil_integer_Int.size) rfl rfl rfl rfl (by simp) rfl rfl ?_)
  clear henv hst a; intro a w23 henv hst
  refine seq_step rfl (op_store (k := 0) (c' := #[.int .i64 pt, .int .i64 qt]) henv hst (ty_anvil_api_Spot.size) rfl rfl rfl rfl (by simp) rfl rfl ?_)
  clear henv hst a; intro a w24 henv hst
  refine wpList_nil ?_
  refine th_n ?_
  refine wp_seq ?_
  refine region_seq ?_
  revert a
  refine sA (v := .agg #[.bool (neg z), .slice A5 (zl z) c6]) rfl (fun _ henv => rn_load0 henv ty_anvil_integer_Int rfl (hst.oat (k := 3) rfl) rfl) ?_
  refine sA (v := .agg #[.bool (neg y), .slice A15 (zl y) c16]) rfl (fun _ henv => rn_load0 henv ty_anvil_integer_Int rfl (hst.oat (k := 1) rfl) rfl) ?_
  intro a henv
  refine seq_step rfl (op_call henv rfl Tryd.call90 rfl (make_z0 (p := z) (q := y) (show ZIn _ A5 c6 z from hst.pat (k := 1) rfl) (show ZIn _ A15 c16 y from hst.pat (k := 0) rfl) hy0) ?_)
  rintro e w25 ⟨rfl, hb⟩
  refine ⟨_, rfl, ?_⟩
  clear henv a; intro a henv
  replace hst := hst.call hb
  replace hst := (hst.addZ (show ZIn _ none 0 (qn 0) from zin_none _) ⟨nou_bk rfl, nou_bk rfl, nou_bk rfl, nou_bk rfl, nou_bk rfl, nou_bk rfl, trivial⟩).addZ (show ZIn _ none 0 (ql 0) from zin_none _) ⟨nou_bk rfl, nou_bk rfl, nou_bk rfl, nou_bk rfl, nou_bk rfl, nou_bk rfl, trivial⟩
  clear hb
  revert a
  refine mA rfl rfl ?_
  refine sA (v := .agg #[.bool (neg (qn 0)), .slice none (zl (qn 0)) 0, .bool (neg (ql 0)), .slice none (zl (ql 0)) 0]) rfl (fun _ henv => rn_extract henv rfl rfl) ?_
  refine sA (v := .int .i64 2) rfl (fun _ henv => rn_extract henv rfl rfl) ?_
  intro a henv
  refine seq_step rfl (op_alloc (c := #[.bool (neg (qn 0)), .slice none (zl (qn 0)) 0, .bool (neg (ql 0)), .slice none (zl (ql 0)) 0]) henv hst rfl zero_anvil_ratio_Rat qcells ?_)
  clear henv hst a; intro a w27 g26 henv hst
  refine seq_step rfl (op_store (k := 0) (c' := #[.bool (neg (qn 0)), .slice none (zl (qn 0)) 0, .bool (neg (ql 0)), .slice none (zl (ql 0)) 0]) henv hst (ty_anvil_ratio_Rat.size) rfl rfl rfl rfl (by simp) rfl rfl ?_)
  clear henv hst a; intro a w28 henv hst
  refine sv (v := .int .i64 2) henv rfl (rn_assign henv rfl) ?_
  clear henv a; intro a henv
  refine wpList_nil ?_
  refine th_n ?_
  refine wp_seq ?_
  refine region_seq ?_
  revert a
  refine sA (v := .agg #[.bool (neg (qn 0)), .slice none (zl (qn 0)) 0, .bool (neg (ql 0)), .slice none (zl (ql 0)) 0]) rfl (fun _ henv => rn_load0 henv ty_anvil_ratio_Rat rfl (hst.oat (k := 0) rfl) rfl) ?_
  refine sA (v := .pointer (some ⟨g11, 0, none⟩)) rfl (fun _ henv => rn_fieldAddr henv fd_anvil_api_Spot_0 (ty_anvil_api_Errno.size) (by decide) rfl) ?_
  refine sA (v := .int .i64 ps) rfl (fun _ henv => rn_load1 henv ty_anvil_api_Errno rfl (hst.oat (k := 3) rfl) rfl) ?_
  refine sA (v := .bool (ps == (0 : Int))) rfl (fun _ henv => rn_bin henv rfl rfl rfl) ?_
  intro a henv
  rw [show (ps == (0 : Int)) = false from (beq_eq_false_iff_ne.2 u1)] at henv
  revert a
  refine mA rfl rfl ?_
  refine kA rfl rfl rfl rfl rfl ?_
  refine kA rfl rfl rfl rfl rfl ?_
  refine kA rfl rfl rfl rfl rfl ?_
  refine sA (v := .bool false) rfl (fun _ henv => rn_pick henv rfl rfl) ?_
  refine mA rfl rfl ?_
  refine kA rfl rfl rfl rfl rfl ?_
  refine kA rfl rfl rfl rfl rfl ?_
  refine sA (v := .bool false) rfl (fun _ henv => rn_pick henv rfl rfl) ?_
  intro a henv
  refine seq_step rfl (op_store (k := 5) (c' := #[.bool (neg (qn 0)), .slice none (zl (qn 0)) 0, .bool (neg (ql 0)), .slice none (zl (ql 0)) 0]) henv hst (ty_anvil_ratio_Rat.size) rfl rfl rfl rfl (by simp) rfl rfl ?_)
  clear henv hst a; intro a w29 henv hst
  refine sv (v := .bool false) henv rfl (rn_assign henv rfl) ?_
  clear henv a; intro a henv
  refine wpList_nil ?_
  refine th_n ?_
  refine wp_ret ?_
  refine leave henv (res2 Tryd.results87 (RV.cell henv ty_anvil_ratio_Rat rfl (hst.oat (k := 5) rfl) rfl) (RV.tmp henv rfl)) ?_
  exact ⟨_, rfl, q_at rfl rfl (hst.pat (k := 1) rfl) (hst.pat (k := 0) rfl), hst.below⟩
set_option maxRecDepth 100000 in
set_option maxHeartbeats 2000000 in
theorem alone_a0 {s t : List UInt8} {z y ps qs pt qt : Int} {w0 : World} (hs : IRd s z ps qs) (ht : IRd t y pt qt) (bz : zl z ≤ 65537) (by_ : zl y ≤ 65537) (u1 : ps ≠ 0) (hy0 : y ≠ 0) :
    Calls Tryd.prog 87 #[.agg #[.string ⟨s.toArray⟩, .string ⟨t.toArray⟩]] w0 fun e w' => ∃ v, e = .returned (.tuple #[v, .bool false]) ∧ QAt w' v (Rat.divInt z y) ∧ Below w0.heap.size w0 w' := by
  refine enter Tryd.func87 rfl Tryd.ntmps87 rfl ?_
  intro a henv hst
  refine wp_seq ?_
  refine region_seq ?_
  refine seq_step rfl (op_box (c := #[.string ⟨s.toArray⟩, .string ⟨t.toArray⟩]) henv hst rfl rfl rfl ?_)
  clear henv hst a; intro a w2 g1 henv hst
  refine seq_step rfl (op_alloc (c := #[.bool (neg (qn 0)), .slice none (zl (qn 0)) 0, .bool (neg (ql 0)), .slice none (zl (ql 0)) 0]) henv hst rfl zero_anvil_ratio_Rat qcells ?_)
  clear henv hst a; intro a w4 g3 henv hst
  refine sv (v := .bool false) henv rfl (rn_assign henv rfl) ?_
  clear henv a; intro a henv
  refine wpList_nil ?_
  refine th_n ?_
  refine wp_seq ?_
  refine region_seq ?_
  revert a
  refine sA (v := .pointer (some ⟨g1, 0, none⟩)) rfl (fun _ henv => rn_fieldAddr henv fd_anvil_anvillaw03_Frac_0 (ty_string.size) (by decide) rfl) ?_
  refine sA (v := .string ⟨s.toArray⟩) rfl (fun _ henv => rn_load1 henv ty_string rfl (hst.oat (k := 1) rfl) rfl) ?_
  intro a henv
  refine seq_step rfl (op_call henv rfl Tryd.call113 rfl (hs _) ?_)
  rintro e w8 ⟨_, rfl, ⟨A5, c6, rfl, hz7⟩, hb⟩
  refine ⟨_, rfl, ?_⟩
  clear henv a; intro a henv
  replace hst := (hst.call hb).addZ hz7 ⟨nou_bk rfl, nou_bk rfl, trivial⟩
  clear hz7
  clear hb
  revert a
  refine mA rfl rfl ?_
  refine sA (v := .agg #[.bool (neg z), .slice A5 (zl z) c6]) rfl (fun _ henv => rn_extract henv rfl rfl) ?_
  refine sA (v := .agg #[.int .i64 ps, .int .i64 qs]) rfl (fun _ henv => rn_extract henv rfl rfl) ?_
  intro a henv
  refine seq_step rfl (op_alloc (c := #[.bool (neg 0), .slice none (zl 0) 0]) henv hst rfl zero_anvil_integer_Int zcells ?_)
  clear henv hst a; intro a w10 g9 henv hst
  refine seq_step rfl (op_alloc (c := #[.int .i64 0, .int .i64 0]) henv hst rfl zero_anvil_api_Spot rfl ?_)
  clear henv hst a; intro a w12 g11 henv hst
  refine seq_step rfl (op_store (k := 1) (c' := #[.bool (neg z), .slice A5 (zl z) c6]) henv hst (ty_anvil_integer_Int.size) rfl rfl rfl rfl (by simp) rfl rfl ?_)
  clear henv hst a; intro a w13 henv hst
  refine seq_step rfl (op_store (k := 0) (c' := #[.int .i64 ps, .int .i64 qs]) henv hst (ty_anvil_api_Spot.size) rfl rfl rfl rfl (by simp) rfl rfl ?_)
  clear henv hst a; intro a w14 henv hst
  refine wpList_nil ?_
  refine th_n ?_
  refine wp_seq ?_
  refine region_seq ?_
  revert a
  refine sA (v := .pointer (some ⟨g1, 1, none⟩)) rfl (fun _ henv => rn_fieldAddr henv fd_anvil_anvillaw03_Frac_1 (ty_string.size) (by decide) rfl) ?_
  refine sA (v := .string ⟨t.toArray⟩) rfl (fun _ henv => rn_load1 henv ty_string rfl (hst.oat (k := 3) rfl) rfl) ?_
  intro a henv
  refine seq_step rfl (op_call henv rfl Tryd.call113 rfl (ht _) ?_)
  rintro e w18 ⟨_, rfl, ⟨A15, c16, rfl, hz17⟩, hb⟩
  refine ⟨_, rfl, ?_⟩
  clear henv a; intro a henv
  replace hst := (hst.call hb).addZ hz17 ⟨nou_bk rfl, nou_bk rfl, nou_bk rfl, nou_bk rfl, trivial⟩
  clear hz17
  clear hb
  revert a
  refine mA rfl rfl ?_
  refine sA (v := .agg #[.bool (neg y), .slice A15 (zl y) c16]) rfl (fun _ henv => rn_extract henv rfl rfl) ?_
  refine sA (v := .agg #[.int .i64 pt, .int .i64 qt]) rfl (fun _ henv => rn_extract henv rfl rfl) ?_
  intro a henv
  refine seq_step rfl (op_alloc (c := #[.bool (neg 0), .slice none (zl 0) 0]) henv hst rfl zero_anvil_integer_Int zcells ?_)
  clear henv hst a; intro a w20 g19 henv hst
  refine seq_step rfl (op_alloc (c := #[.int .i64 0, .int .i64 0]) henv hst rfl zero_anvil_api_Spot rfl ?_)
  clear henv hst a; intro a w22 g21 henv hst
  refine seq_step rfl (op_store (k := 1) (c' := #[.bool (neg y), .slice A15 (zl y) c16]) henv hst (ty_anvil_integer_Int.size) rfl rfl rfl rfl (by simp) rfl rfl ?_)
  clear henv hst a; intro a w23 henv hst
  refine seq_step rfl (op_store (k := 0) (c' := #[.int .i64 pt, .int .i64 qt]) henv hst (ty_anvil_api_Spot.size) rfl rfl rfl rfl (by simp) rfl rfl ?_)
  clear henv hst a; intro a w24 henv hst
  refine wpList_nil ?_
  refine th_n ?_
  refine wp_seq ?_
  refine region_seq ?_
  revert a
  refine sA (v := .agg #[.bool (neg z), .slice A5 (zl z) c6]) rfl (fun _ henv => rn_load0 henv ty_anvil_integer_Int rfl (hst.oat (k := 3) rfl) rfl) ?_
  refine sA (v := .agg #[.bool (neg y), .slice A15 (zl y) c16]) rfl (fun _ henv => rn_load0 henv ty_anvil_integer_Int rfl (hst.oat (k := 1) rfl) rfl) ?_
  intro a henv
  refine seq_step rfl (op_call henv rfl Tryd.call90 rfl (make_qr (p := z) (q := y) (r := Rat.divInt z y) (show ZIn _ A5 c6 z from hst.pat (k := 1) rfl) (show ZIn _ A15 c16 y from hst.pat (k := 0) rfl) (by omega) (by omega) hy0 rfl) ?_)
  rintro e w31 ⟨_, rfl, ⟨A25, c26, B27, d28, rfl, hz29, hz30⟩, hb⟩
  refine ⟨_, rfl, ?_⟩
  clear henv a; intro a henv
  replace hst := ((hst.call hb).addZ hz29 ⟨nou_bk rfl, nou_bk rfl, nou_bk rfl, nou_bk rfl, nou_bk rfl, nou_bk rfl, trivial⟩).addZ hz30 ⟨nou_bk rfl, nou_bk rfl, nou_bk rfl, nou_bk rfl, nou_bk rfl, nou_bk rfl, trivial⟩
  clear hz29 hz30
  clear hb
  revert a
  refine mA rfl rfl ?_
  refine sA (v := .agg #[.bool (neg (qn (Rat.divInt z y))), .slice A25 (zl (qn (Rat.divInt z y))) c26, .bool (neg (ql (Rat.divInt z y))), .slice B27 (zl (ql (Rat.divInt z y))) d28]) rfl (fun _ henv => rn_extract henv rfl rfl) ?_
  refine sA (v := .int .i64 0) rfl (fun _ henv => rn_extract henv rfl rfl) ?_
  intro a henv
  refine seq_step rfl (op_alloc (c := #[.bool (neg (qn 0)), .slice none (zl (qn 0)) 0, .bool (neg (ql 0)), .slice none (zl (ql 0)) 0]) henv hst rfl zero_anvil_ratio_Rat qcells ?_)
  clear henv hst a; intro a w33 g32 henv hst
  refine seq_step rfl (op_store (k := 0) (c' := #[.bool (neg (qn (Rat.divInt z y))), .slice A25 (zl (qn (Rat.divInt z y))) c26, .bool (neg (ql (Rat.divInt z y))), .slice B27 (zl (ql (Rat.divInt z y))) d28]) henv hst (ty_anvil_ratio_Rat.size) rfl rfl rfl rfl (by simp) rfl rfl ?_)
  clear henv hst a; intro a w34 henv hst
  refine sv (v := .int .i64 0) henv rfl (rn_assign henv rfl) ?_
  clear henv a; intro a henv
  refine wpList_nil ?_
  refine th_n ?_
  refine wp_seq ?_
  refine region_seq ?_
  revert a
  refine sA (v := .agg #[.bool (neg (qn (Rat.divInt z y))), .slice A25 (zl (qn (Rat.divInt z y))) c26, .bool (neg (ql (Rat.divInt z y))), .slice B27 (zl (ql (Rat.divInt z y))) d28]) rfl (fun _ henv => rn_load0 henv ty_anvil_ratio_Rat rfl (hst.oat (k := 0) rfl) rfl) ?_
  refine sA (v := .pointer (some ⟨g11, 0, none⟩)) rfl (fun _ henv => rn_fieldAddr henv fd_anvil_api_Spot_0 (ty_anvil_api_Errno.size) (by decide) rfl) ?_
  refine sA (v := .int .i64 ps) rfl (fun _ henv => rn_load1 henv ty_anvil_api_Errno rfl (hst.oat (k := 3) rfl) rfl) ?_
  refine sA (v := .bool (ps == (0 : Int))) rfl (fun _ henv => rn_bin henv rfl rfl rfl) ?_
  intro a henv
  rw [show (ps == (0 : Int)) = false from (beq_eq_false_iff_ne.2 u1)] at henv
  revert a
  refine mA rfl rfl ?_
  refine kA rfl rfl rfl rfl rfl ?_
  refine kA rfl rfl rfl rfl rfl ?_
  refine kA rfl rfl rfl rfl rfl ?_
  refine sA (v := .bool false) rfl (fun _ henv => rn_pick henv rfl rfl) ?_
  refine mA rfl rfl ?_
  refine kA rfl rfl rfl rfl rfl ?_
  refine kA rfl rfl rfl rfl rfl ?_
  refine sA (v := .bool false) rfl (fun _ henv => rn_pick henv rfl rfl) ?_
  intro a henv
  refine seq_step rfl (op_store (k := 5) (c' := #[.bool (neg (qn (Rat.divInt z y))), .slice A25 (zl (qn (Rat.divInt z y))) c26, .bool (neg (ql (Rat.divInt z y))), .slice B27 (zl (ql (Rat.divInt z y))) d28]) henv hst (ty_anvil_ratio_Rat.size) rfl rfl rfl rfl (by simp) rfl rfl ?_)
  clear henv hst a; intro a w35 henv hst
  refine sv (v := .bool false) henv rfl (rn_assign henv rfl) ?_
  clear henv a; intro a henv
  refine wpList_nil ?_
  refine th_n ?_
  refine wp_ret ?_
  refine leave henv (res2 Tryd.results87 (RV.cell henv ty_anvil_ratio_Rat rfl (hst.oat (k := 5) rfl) rfl) (RV.tmp henv rfl)) ?_
  exact ⟨_, rfl, q_at rfl rfl (hst.pat (k := 1) rfl) (hst.pat (k := 0) rfl), hst.below⟩
set_option maxRecDepth 100000 in
set_option maxHeartbeats 2000000 in
theorem alone_b1 {s t : List UInt8} {z y ps qs pt qt : Int} {w0 : World} (hs : IRd s z ps qs) (ht : IRd t y pt qt) (bz : zl z ≤ 65537) (by_ : zl y ≤ 65537) (u1 : ps = 0) (u2 : pt ≠ 0) (hy0 : y = 0) :
    Calls Tryd.prog 87 #[.agg #[.string ⟨s.toArray⟩, .string ⟨t.toArray⟩]] w0 fun e w' => ∃ v, e = .returned (.tuple #[v, .bool false]) ∧ QAt w' v (0) ∧ Below w0.heap.size w0 w' := by
  refine enter Tryd.func87 rfl Tryd.ntmps87 rfl ?_
  intro a henv hst
  refine wp_seq ?_
  refine region_seq ?_
  refine seq_step rfl (op_box (c := #[.string ⟨s.toArray⟩, .string ⟨t.toArray⟩]) henv hst rfl rfl rfl ?_)
  clear henv hst a; intro a w2 g1 henv hst
  refine seq_step rfl (op_alloc (c := #[.bool (neg (qn 0)), .slice none (zl (qn 0)) 0, .bool (neg (ql 0)), .slice none (zl (ql 0)) 0]) henv hst rfl zero_anvil_ratio_Rat qcells ?_)
  clear henv hst a; intro a w4 g3 henv hst
  refine sv (v := .bool false) henv rfl (rn_assign henv rfl) ?_
  clear henv a; intro a henv
  refine wpList_nil ?_
  refine th_n ?_
  refine wp_seq ?_
  refine region_seq ?_
  revert a
  refine sA (v := .pointer (some ⟨g1, 0, none⟩)) rfl (fun _ henv => rn_fieldAddr henv fd_anvil_anvillaw03_Frac_0 (ty_string.size) (by decide) rfl) ?_
  refine sA (v := .string ⟨s.toArray⟩) rfl (fun _ henv => rn_load1 henv ty_string rfl (hst.oat (k := 1) rfl) rfl) ?_
  intro a henv
  refine seq_step rfl (op_call henv rfl Tryd.call113 rfl (hs _) ?_)
  rintro e w8 ⟨_, rfl, ⟨A5, c6, rfl, hz7⟩, hb⟩
  refine ⟨_, rfl, ?_⟩
  clear henv a; intro a henv
  replace hst := (hst.call hb).addZ hz7 ⟨nou_bk rfl, nou_bk rfl, trivial⟩
  clear hz7
  clear hb
  revert a
  refine mA rfl rfl ?_
  refine sA (v := .agg #[.bool (neg z), .slice A5 (zl z) c6]) rfl (fun _ henv => rn_extract henv rfl rfl) ?_
  refine sA (v := .agg #[.int .i64 ps, .int .i64 qs]) rfl (fun _ henv => rn_extract henv rfl rfl) ?_
  intro a henv
  refine seq_step rfl (op_alloc (c := #[.bool (neg 0), .slice none (zl 0) 0]) henv hst rfl zero_anvil_integer_Int zcells ?_)
  clear henv hst a; intro a w10 g9 henv hst
  refine seq_step rfl (op_alloc (c := #[.int .i64 0, .int .i64 0]) henv hst rfl zero_anvil_api_Spot rfl ?_)
  clear henv hst a; intro a w12 g11 henv hst
  refine seq_step rfl (op_store (k := 1) (c' := #[.bool (neg z), .slice A5 (zl z) c6]) henv hst (ty_anvil_integer_Int.size) rfl rfl rfl rfl (by simp) rfl rfl ?_)
  clear henv hst a; intro a w13 henv hst
  refine seq_step rfl (op_store (k := 0) (c' := #[.int .i64 ps, .int .i64 qs]) henv hst (ty_anvil_api_Spot.size) rfl rfl rfl rfl (by simp) rfl rfl ?_)
  clear henv hst a; intro a w14 henv hst
  refine wpList_nil ?_
  refine th_n ?_
  refine wp_seq ?_
  refine region_seq ?_
  revert a
  refine sA (v := .pointer (some ⟨g1, 1, none⟩)) rfl (fun _ henv => rn_fieldAddr henv fd_anvil_anvillaw03_Frac_1 (ty_string.size) (by decide) rfl) ?_
  refine sA (v := .string ⟨t.toArray⟩) rfl (fun _ henv => rn_load1 henv ty_string rfl (hst.oat (k := 3) rfl) rfl) ?_
  intro a henv
  refine seq_step rfl (op_call henv rfl Tryd.call113 rfl (ht _) ?_)
  rintro e w18 ⟨_, rfl, ⟨A15, c16, rfl, hz17⟩, hb⟩
  refine ⟨_, rfl, ?_⟩
  clear henv a; intro a henv
  replace hst := (hst.call hb).addZ hz17 ⟨nou_bk rfl, nou_bk rfl, nou_bk rfl, nou_bk rfl, trivial⟩
  clear hz17
  clear hb
  revert a
  refine mA rfl rfl ?_
  refine sA (v := .agg #[.bool (neg y), .slice A15 (zl y) c16]) rfl (fun _ henv => rn_extract henv rfl rfl) ?_
  refine sA (v := .agg #[.int .i64 pt, .int .i64 qt]) rfl (fun _ henv => rn_extract henv rfl rfl) ?_
  intro a henv
  refine seq_step rfl (op_alloc (c := #[.bool (neg 0), .slice none (zl 0) 0]) henv hst rfl zero_anvil_integer_Int zcells ?_)
  clear henv hst a; intro a w20 g19 henv hst
  refine seq_step rfl (op_alloc (c := #[.int .i64 0, .int .i64 0]) henv hst rfl zero_anvil_api_Spot rfl ?_)
  clear henv hst a; intro a w22 g21 henv hst
  refine seq_step rfl (op_store (k := 1) (c' := #[.bool (neg y), .slice A15 (zl y) c16]) henv hst (ty_anvil_integer_Int.size) rfl rfl rfl rfl (by simp) rfl rfl ?_)
  clear henv hst a; intro a w23 henv hst
  refine seq_step rfl (op_store (k := 0) (c' := #[.int .i64 pt, .int .i64 qt]) henv hst (ty_anvil_api_Spot.size) rfl rfl rfl rfl (by simp) rfl rfl ?_)
  clear henv hst a; intro a w24 henv hst
  refine wpList_nil ?_
  refine th_n ?_
  refine wp_seq ?_
  refine region_seq ?_
  revert a
  refine sA (v := .agg #[.bool (neg z), .slice A5 (zl z) c6]) rfl (fun _ henv => rn_load0 henv ty_anvil_integer_Int rfl (hst.oat (k := 3) rfl) rfl) ?_
  refine sA (v := .agg #[.bool (neg y), .slice A15 (zl y) c16]) rfl (fun _ henv => rn_load0 henv ty_anvil_integer_Int rfl (hst.oat (k := 1) rfl) rfl) ?_
  intro a henv
  refine seq_step rfl (op_call henv rfl Tryd.call90 rfl (make_z0 (p := z) (q := y) (show ZIn _ A5 c6 z from hst.pat (k := 1) rfl) (show ZIn _ A15 c16 y from hst.pat (k := 0) rfl) hy0) ?_)
  rintro e w25 ⟨rfl, hb⟩
  refine ⟨_, rfl, ?_⟩
  clear henv a; intro a henv
  replace hst := hst.call hb
  replace hst := (hst.addZ (show ZIn _ none 0 (qn 0) from zin_none _) ⟨nou_bk rfl, nou_bk rfl, nou_bk rfl, nou_bk rfl, nou_bk rfl, nou_bk rfl, trivial⟩).addZ (show ZIn _ none 0 (ql 0) from zin_none _) ⟨nou_bk rfl, nou_bk rfl, nou_bk rfl, nou_bk rfl, nou_bk rfl, nou_bk rfl, trivial⟩
  clear hb
  revert a
  refine mA rfl rfl ?_
  refine sA (v := .agg #[.bool (neg (qn 0)), .slice none (zl (qn 0)) 0, .bool (neg (ql 0)), .slice none (zl (ql 0)) 0]) rfl (fun _ henv => rn_extract henv rfl rfl) ?_
  refine sA (v := .int .i64 2) rfl (fun _ henv => rn_extract henv rfl rfl) ?_
  intro a henv
  refine seq_step rfl (op_alloc (c := #[.bool (neg (qn 0)), .slice none (zl (qn 0)) 0, .bool (neg (ql 0)), .slice none (zl (ql 0)) 0]) henv hst rfl zero_anvil_ratio_Rat qcells ?_)
  clear henv hst a; intro a w27 g26 henv hst
  refine seq_step rfl (op_store (k := 0) (c' := #[.bool (neg (qn 0)), .slice none (zl (qn 0)) 0, .bool (neg (ql 0)), .slice none (zl (ql 0)) 0]) henv hst (ty_anvil_ratio_Rat.size) rfl rfl rfl rfl (by simp) rfl rfl ?_)
  clear henv hst a; intro a w28 henv hst
  refine sv (v := .int .i64 2) henv rfl (rn_assign henv rfl) ?_
  clear henv a; intro a henv
  refine wpList_nil ?_
  refine th_n ?_
  refine wp_seq ?_
  refine region_seq ?_
  revert a
  refine sA (v := .agg #[.bool (neg (qn 0)), .slice none (zl (qn 0)) 0, .bool (neg (ql 0)), .slice none (zl (ql 0)) 0]) rfl (fun _ henv => rn_load0 henv ty_anvil_ratio_Rat rfl (hst.oat (k := 0) rfl) rfl) ?_
  refine sA (v := .pointer (some ⟨g11, 0, none⟩)) rfl (fun _ henv => rn_fieldAddr henv fd_anvil_api_Spot_0 (ty_anvil_api_Errno.size) (by decide) rfl) ?_
  refine sA (v := .int .i64 ps) rfl (fun _ henv => rn_load1 henv ty_anvil_api_Errno rfl (hst.oat (k := 3) rfl) rfl) ?_
  refine sA (v := .bool (ps == (0 : Int))) rfl (fun _ henv => rn_bin henv rfl rfl rfl) ?_
  intro a henv
  rw [show (ps == (0 : Int)) = true from (beq_iff_eq.2 u1)] at henv
  revert a
  refine mA rfl rfl ?_
  refine gA (v := .pointer (some ⟨g21, 0, none⟩)) rfl rfl rfl rfl (fun _ henv => rn_fieldAddr henv fd_anvil_api_Spot_0 (ty_anvil_api_Errno.size) (by decide) rfl) ?_
  refine gA (v := .int .i64 pt) rfl rfl rfl rfl (fun _ henv => rn_load1 henv ty_anvil_api_Errno rfl (hst.oat (k := 1) rfl) rfl) ?_
  refine gA (v := .bool (pt == (0 : Int))) rfl rfl rfl rfl (fun _ henv => rn_bin henv rfl rfl rfl) ?_
  intro a henv
  rw [show (pt == (0 : Int)) = false from (beq_eq_false_iff_ne.2 u2)] at henv
  revert a
  refine sA (v := .bool false) rfl (fun _ henv => rn_pick henv rfl rfl) ?_
  refine mA rfl rfl ?_
  refine kA rfl rfl rfl rfl rfl ?_
  refine kA rfl rfl rfl rfl rfl ?_
  refine sA (v := .bool false) rfl (fun _ henv => rn_pick henv rfl rfl) ?_
  intro a henv
  refine seq_step rfl (op_store (k := 5) (c' := #[.bool (neg (qn 0)), .slice none (zl (qn 0)) 0, .bool (neg (ql 0)), .slice none (zl (ql 0)) 0]) henv hst (ty_anvil_ratio_Rat.size) rfl rfl rfl rfl (by simp) rfl rfl ?_)
  clear henv hst a; intro a w29 henv hst
  refine sv (v := .bool false) henv rfl (rn_assign henv rfl) ?_
  clear henv a; intro a henv
  refine wpList_nil ?_
  refine th_n ?_
  refine wp_ret ?_
  refine leave henv (res2 Tryd.results87 (RV.cell henv ty_anvil_ratio_Rat rfl (hst.oat (k := 5) rfl) rfl) (RV.tmp henv rfl)) ?_
  exact ⟨_, rfl, q_at rfl rfl (hst.pat (k := 1) rfl) (hst.pat (k := 0) rfl), hst.below⟩
set_option maxRecDepth 100000 in
set_option maxHeartbeats 2000000 in
theorem alone_b0 {s t : List UInt8} {z y ps qs pt qt : Int} {w0 : World} (hs : IRd s z ps qs) (ht : IRd t y pt qt) (bz : zl z ≤ 65537) (by_ : zl y ≤ 65537) (u1 : ps = 0) (u2 : pt ≠ 0) (hy0 : y ≠ 0) :
    Calls Tryd.prog 87 #[.agg #[.string ⟨s.toArray⟩, .string ⟨t.toArray⟩]] w0 fun e w' => ∃ v, e = .returned (.tuple #[v, .bool false]) ∧ QAt w' v (Rat.divInt z y) ∧ Below w0.heap.size w0 w' := by
  refine enter Tryd.func87 rfl Tryd.ntmps87 rfl ?_
  intro a henv hst
  refine wp_seq ?_
  refine region_seq ?_
  refine seq_step rfl (op_box (c := #[.string ⟨s.toArray⟩, .string ⟨t.toArray⟩]) henv hst rfl rfl rfl ?_)
  clear henv hst a; intro a w2 g1 henv hst
  refine seq_step rfl (op_alloc (c := #[.bool (neg (qn 0)), .slice none (zl (qn 0)) 0, .bool (neg (ql 0)), .slice none (zl (ql 0)) 0]) henv hst rfl zero_anvil_ratio_Rat qcells ?_)
  clear henv hst a; intro a w4 g3 henv hst
  refine sv (v := .bool false) henv rfl (rn_assign henv rfl) ?_
  clear henv a; intro a henv
  refine wpList_nil ?_
  refine th_n ?_
  refine wp_seq ?_
  refine region_seq ?_
  revert a
  refine sA (v := .pointer (some ⟨g1, 0, none⟩)) rfl (fun _ henv => rn_fieldAddr henv fd_anvil_anvillaw03_Frac_0 (ty_string.size) (by decide) rfl) ?_
  refine sA (v := .string ⟨s.toArray⟩) rfl (fun _ henv => rn_load1 henv ty_string rfl (hst.oat (k := 1) rfl) rfl) ?_
  intro a henv
  refine seq_step rfl (op_call henv rfl Tryd.call113 rfl (hs _) ?_)
  rintro e w8 ⟨_, rfl, ⟨A5, c6, rfl, hz7⟩, hb⟩
  refine ⟨_, rfl, ?_⟩
  clear henv a; intro a henv
  replace hst := (hst.call hb).addZ hz7 ⟨nou_bk rfl, nou_bk rfl, trivial⟩
  clear hz7
  clear hb
  revert a
  refine mA rfl rfl ?_
  refine sA (v := .agg #[.bool (neg z), .slice A5 (zl z) c6]) rfl (fun _ henv => rn_extract henv rfl rfl) ?_
  refine sA (v := .agg #[.int .i64 ps, .int .i64 qs]) rfl (fun _ henv => rn_extract henv rfl rfl) ?_
  intro a henv
  refine seq_step rfl (op_alloc (c := #[.bool (neg 0), .slice none (zl 0) 0]) henv hst rfl zero_anvil_integer_Int zcells ?_)
  clear henv hst a; intro a w10 g9 henv hst
  refine seq_step rfl (op_alloc (c := #[.int .i64 0, .int .i64 0]) henv hst rfl zero_anvil_api_Spot rfl ?_)
  clear henv hst a; intro a w12 g11 henv hst
  refine seq_step rfl (op_store (k := 1) (c' := #[.bool (neg z), .slice A5 (zl z) c6]) henv hst (ty_anvil_integer_Int.size) rfl rfl rfl rfl (by simp) rfl rfl ?_)
  clear henv hst a; intro a w13 henv hst
  refine seq_step rfl (op_store (k := 0) (c' := #[.int .i64 ps, .int .i64 qs]) henv hst (ty_anvil_api_Spot.size) rfl rfl rfl rfl (by simp) rfl rfl ?_)
  clear henv hst a; intro a w14 henv hst
  refine wpList_nil ?_
  refine th_n ?_
  refine wp_seq ?_
  refine region_seq ?_
  revert a
  refine sA (v := .pointer (some ⟨g1, 1, none⟩)) rfl (fun _ henv => rn_fieldAddr henv fd_anvil_anvillaw03_Frac_1 (ty_string.size) (by decide) rfl) ?_
  refine sA (v := .string ⟨t.toArray⟩) rfl (fun _ henv => rn_load1 henv ty_string rfl (hst.oat (k := 3) rfl) rfl) ?_
  intro a henv
  refine seq_step rfl (op_call henv rfl Tryd.call113 rfl (ht _) ?_)
  rintro e w18 ⟨_, rfl, ⟨A15, c16, rfl, hz17⟩, hb⟩
  refine ⟨_, rfl, ?_⟩
  clear henv a; intro a henv
  replace hst := (hst.call hb).addZ hz17 ⟨nou_bk rfl, nou_bk rfl, nou_bk rfl, nou_bk rfl, trivial⟩
  clear hz17
  clear hb
  revert a
  refine mA rfl rfl ?_
  refine sA (v := .agg #[.bool (neg y), .slice A15 (zl y) c16]) rfl (fun _ henv => rn_extract henv rfl rfl) ?_
  refine sA (v := .agg #[.int .i64 pt, .int .i64 qt]) rfl (fun _ henv => rn_extract henv rfl rfl) ?_
  intro a henv
  refine seq_step rfl (op_alloc (c := #[.bool (neg 0), .slice none (zl 0) 0]) henv hst rfl zero_anvil_integer_Int zcells ?_)
  clear henv hst a; intro a w20 g19 henv hst
  refine seq_step rfl (op_alloc (c := #[.int .i64 0, .int .i64 0]) henv hst rfl zero_anvil_api_Spot rfl ?_)
  clear henv hst a; intro a w22 g21 henv hst
  refine seq_step rfl (op_store (k := 1) (c' := #[.bool (neg y), .slice A15 (zl y) c16]) henv hst (ty_anvil_integer_Int.size) rfl rfl rfl rfl (by simp) rfl rfl ?_)
  clear henv hst a; intro a w23 henv hst
  refine seq_step rfl (op_store (k := 0) (c' := #[.int .i64 pt, .int .i64 qt]) henv hst (ty_anvil_api_Spot.size) rfl rfl rfl rfl (by simp) rfl rfl ?_)
  clear henv hst a; intro a w24 henv hst
  refine wpList_nil ?_
  refine th_n ?_
  refine wp_seq ?_
  refine region_seq ?_
  revert a
  refine sA (v := .agg #[.bool (neg z), .slice A5 (zl z) c6]) rfl (fun _ henv => rn_load0 henv ty_anvil_integer_Int rfl (hst.oat (k := 3) rfl) rfl) ?_
  refine sA (v := .agg #[.bool (neg y), .slice A15 (zl y) c16]) rfl (fun _ henv => rn_load0 henv ty_anvil_integer_Int rfl (hst.oat (k := 1) rfl) rfl) ?_
  intro a henv
  refine seq_step rfl (op_call henv rfl Tryd.call90 rfl (make_qr (p := z) (q := y) (r := Rat.divInt z y) (show ZIn _ A5 c6 z from hst.pat (k := 1) rfl) (show ZIn _ A15 c16 y from hst.pat (k := 0) rfl) (by omega) (by omega) hy0 rfl) ?_)
  rintro e w31 ⟨_, rfl, ⟨A25, c26, B27, d28, rfl, hz29, hz30⟩, hb⟩
  refine ⟨_, rfl, ?_⟩
  clear henv a; intro a henv
  replace hst := ((hst.call hb).addZ hz29 ⟨nou_bk rfl, nou_bk rfl, nou_bk rfl, nou_bk rfl, nou_bk rfl, nou_bk rfl, trivial⟩).addZ hz30 ⟨nou_bk rfl, nou_bk rfl, nou_bk rfl, nou_bk rfl, nou_bk rfl, nou_bk rfl, trivial⟩
  clear hz29 hz30
  clear hb
  revert a
  refine mA rfl rfl ?_
  refine sA (v := .agg #[.bool (neg (qn (Rat.divInt z y))), .slice A25 (zl (qn (Rat.divInt z y))) c26, .bool (neg (ql (Rat.divInt z y))), .slice B27 (zl (ql (Rat.divInt z y))) d28]) rfl (fun _ henv => rn_extract henv rfl rfl) ?_
  refine sA (v := .int .i64 0) rfl (fun _ henv => rn_extract henv rfl rfl) ?_
  intro a henv
  refine seq_step rfl (op_alloc (c := #[.bool (neg (qn 0)), .slice none (zl (qn 0)) 0, .bool (neg (ql 0)), .slice none (zl (ql 0)) 0]) henv hst rfl zero_anvil_ratio_Rat qcells ?_)
  clear henv hst a; intro a w33 g32 henv hst
  refine seq_step rfl (op_store (k := 0) (c' := #[.bool (neg (qn (Rat.divInt z y))), .slice A25 (zl (qn (Rat.divInt z y))) c26, .bool (neg (ql (Rat.divInt z y))), .slice B27 (zl (ql (Rat.divInt z y))) d28]) henv hst (ty_anvil_ratio_Rat.size) rfl rfl rfl rfl (by simp) rfl rfl ?_)
  clear henv hst a; intro a w34 henv hst
  refine sv (v := .int .i64 0) henv rfl (rn_assign henv rfl) ?_
  clear henv a; intro a henv
  refine wpList_nil ?_
  refine th_n ?_
  refine wp_seq ?_
  refine region_seq ?_
  revert a
  refine sA (v := .agg #[.bool (neg (qn (Rat.divInt z y))), .slice A25 (zl (qn (Rat.divInt z y))) c26, .bool (neg (ql (Rat.divInt z y))), .slice B27 (zl (ql (Rat.divInt z y))) d28]) rfl (fun _ henv => rn_load0 henv ty_anvil_ratio_Rat rfl (hst.oat (k := 0) rfl) rfl) ?_
  refine sA (v := .pointer (some ⟨g11, 0, none⟩)) rfl (fun _ henv => rn_fieldAddr henv fd_anvil_api_Spot_0 (ty_anvil_api_Errno.size) (by decide) rfl) ?_
  refine sA (v := .int .i64 ps) rfl (fun _ henv => rn_load1 henv ty_anvil_api_Errno rfl (hst.oat (k := 3) rfl) rfl) ?_
  refine sA (v := .bool (ps == (0 : Int))) rfl (fun _ henv => rn_bin henv rfl rfl rfl) ?_
  intro a henv
  rw [show (ps == (0 : Int)) = true from (beq_iff_eq.2 u1)] at henv
  revert a
  refine mA rfl rfl ?_
  refine gA (v := .pointer (some ⟨g21, 0, none⟩)) rfl rfl rfl rfl (fun _ henv => rn_fieldAddr henv fd_anvil_api_Spot_0 (ty_anvil_api_Errno.size) (by decide) rfl) ?_
  refine gA (v := .int .i64 pt) rfl rfl rfl rfl (fun _ henv => rn_load1 henv ty_anvil_api_Errno rfl (hst.oat (k := 1) rfl) rfl) ?_
  refine gA (v := .bool (pt == (0 : Int))) rfl rfl rfl rfl (fun _ henv => rn_bin henv rfl rfl rfl) ?_
  intro a henv
  rw [show (pt == (0 : Int)) = false from (beq_eq_false_iff_ne.2 u2)] at henv
  revert a
  refine sA (v := .bool false) rfl (fun _ henv => rn_pick henv rfl rfl) ?_
  refine mA rfl rfl ?_
  refine kA rfl rfl rfl rfl rfl ?_
  refine kA rfl rfl rfl rfl rfl ?_
  refine sA (v := .bool false) rfl (fun _ henv => rn_pick henv rfl rfl) ?_
  intro a henv
  refine seq_step rfl (op_store (k := 5) (c' := #[.bool (neg (qn (Rat.divInt z y))), .slice A25 (zl (qn (Rat.divInt z y))) c26, .bool (neg (ql (Rat.divInt z y))), .slice B27 (zl (ql (Rat.divInt z y))) d28]) henv hst (ty_anvil_ratio_Rat.size) rfl rfl rfl rfl (by simp) rfl rfl ?_)
  clear henv hst a; intro a w35 henv hst
  refine sv (v := .bool false) henv rfl (rn_assign henv rfl) ?_
  clear henv a; intro a henv
  refine wpList_nil ?_
  refine th_n ?_
  refine wp_ret ?_
  refine leave henv (res2 Tryd.results87 (RV.cell henv ty_anvil_ratio_Rat rfl (hst.oat (k := 5) rfl) rfl) (RV.tmp henv rfl)) ?_
  exact ⟨_, rfl, q_at rfl rfl (hst.pat (k := 1) rfl) (hst.pat (k := 0) rfl), hst.below⟩
set_option maxRecDepth 100000 in
set_option maxHeartbeats 2000000 in
theorem alone_z1 {s t : List UInt8} {z y ps qs pt qt : Int} {w0 : World} (hs : IRd s z ps qs) (ht : IRd t y pt qt) (bz : zl z ≤ 65537) (by_ : zl y ≤ 65537) (u1 : ps = 0) (u2 : pt = 0) (hy0 : y = 0) :
    Calls Tryd.prog 87 #[.agg #[.string ⟨s.toArray⟩, .string ⟨t.toArray⟩]] w0 fun e w' => ∃ v, e = .returned (.tuple #[v, .bool false]) ∧ QAt w' v (0) ∧ Below w0.heap.size w0 w' := by
  refine enter Tryd.func87 rfl Tryd.ntmps87 rfl ?_
  intro a henv hst
  refine wp_seq ?_
  refine region_seq ?_
  refine seq_step rfl (op_box (c := #[.string ⟨s.toArray⟩, .string ⟨t.toArray⟩]) henv hst rfl rfl rfl ?_)
  clear henv hst a; intro a w2 g1 henv hst
  refine seq_step rfl (op_alloc (c := #[.bool (neg (qn 0)), .slice none (zl (qn 0)) 0, .bool (neg (ql 0)), .slice none (zl (ql 0)) 0]) henv hst rfl zero_anvil_ratio_Rat qcells ?_)
  clear henv hst a; intro a w4 g3 henv hst
  refine sv (v := .bool false) henv rfl (rn_assign henv rfl) ?_
  clear henv a; intro a henv
  refine wpList_nil ?_
  refine th_n ?_
  refine wp_seq ?_
  refine region_seq ?_
  revert a
  refine sA (v := .pointer (some ⟨g1, 0, none⟩)) rfl (fun _ henv => rn_fieldAddr henv fd_anvil_anvillaw03_Frac_0 (ty_string.size) (by decide) rfl) ?_
  refine sA (v := .string ⟨s.toArray⟩) rfl (fun _ henv => rn_load1 henv ty_string rfl (hst.oat (k := 1) rfl) rfl) ?_
  intro a henv
  refine seq_step rfl (op_call henv rfl Tryd.call113 rfl (hs _) ?_)
  rintro e w8 ⟨_, rfl, ⟨A5, c6, rfl, hz7⟩, hb⟩
  refine ⟨_, rfl, ?_⟩
  clear henv a; intro a henv
  replace hst := (hst.call hb).addZ hz7 ⟨nou_bk rfl, nou_bk rfl, trivial⟩
  clear hz7
  clear hb
  revert a
  refine mA rfl rfl ?_
  refine sA (v := .agg #[.bool (neg z), .slice A5 (zl z) c6]) rfl (fun _ henv => rn_extract henv rfl rfl) ?_
  refine sA (v := .agg #[.int .i64 ps, .int .i64 qs]) rfl (fun _ henv => rn_extract henv rfl rfl) ?_
  intro a henv
  refine seq_step rfl (op_alloc (c := #[.bool (neg 0), .slice none (zl 0) 0]) henv hst rfl zero_anvil_integer_Int zcells ?_)
  clear henv hst a; intro a w10 g9 henv hst
  refine seq_step rfl (op_alloc (c := #[.int .i64 0, .int .i64 0]) henv hst rfl zero_anvil_api_Spot rfl ?_)
  clear henv hst a; intro a w12 g11 henv hst
  refine seq_step rfl (op_store (k := 1) (c' := #[.bool (neg z), .slice A5 (zl z) c6]) henv hst (ty_anvil_integer_Int.size) rfl rfl rfl rfl (by simp) rfl rfl ?_)
  clear henv hst a; intro a w13 henv hst
  refine seq_step rfl (op_store (k := 0) (c' := #[.int .i64 ps, .int .i64 qs]) henv hst (ty_anvil_api_Spot.size) rfl rfl rfl rfl (by simp) rfl rfl ?_)
  clear henv hst a; intro a w14 henv hst
  refine wpList_nil ?_
  refine th_n ?_
  refine wp_seq ?_
  refine region_seq ?_
  revert a
  refine sA (v := .pointer (some ⟨g1, 1, none⟩)) rfl (fun _ henv => rn_fieldAddr henv fd_anvil_anvillaw03_Frac_1 (ty_string.size) (by decide) rfl) ?_
  refine sA (v := .string ⟨t.toArray⟩) rfl (fun _ henv => rn_load1 henv ty_string rfl (hst.oat (k := 3) rfl) rfl) ?_
  intro a henv
  refine seq_step rfl (op_call henv rfl Tryd.call113 rfl (ht _) ?_)
  rintro e w18 ⟨_, rfl, ⟨A15, c16, rfl, hz17⟩, hb⟩
  refine ⟨_, rfl, ?_⟩
  clear henv a; intro a henv
  replace hst := (hst.call hb).addZ hz17 ⟨nou_bk rfl, nou_bk rfl, nou_bk rfl, nou_bk rfl, trivial⟩
  clear hz17
  clear hb
  revert a
  refine mA rfl rfl ?_
  refine sA (v := .agg #[.bool (neg y), .slice A15 (zl y) c16]) rfl (fun _ henv => rn_extract henv rfl rfl) ?_
  refine sA (v := .agg #[.int .i64 pt, .int .i64 qt]) rfl (fun _ henv => rn_extract henv rfl rfl) ?_
  intro a henv
  refine seq_step rfl (op_alloc (c := #[.bool (neg 0), .slice none (zl 0) 0]) henv hst rfl zero_anvil_integer_Int zcells ?_)
  clear henv hst a; intro a w20 g19 henv hst
  refine seq_step rfl (op_alloc (c := #[.int .i64 0, .int .i64 0]) henv hst rfl zero_anvil_api_Spot rfl ?_)
  clear henv hst a; intro a w22 g21 henv hst
  refine seq_step rfl (op_store (k := 1) (c' := #[.bool (neg y), .slice A15 (zl y) c16]) henv hst (ty_anvil_integer_Int.size) rfl rfl rfl rfl (by simp) rfl rfl ?_)
  clear henv hst a; intro a w23 henv hst
  refine seq_step rfl (op_store (k := 0) (c' := #[.int .i64 pt, .int .i64 qt]) henv hst (ty_anvil_api_Spot.size) rfl rfl rfl rfl (by simp) rfl rfl ?_)
  clear henv hst a; intro a w24 henv hst
  refine wpList_nil ?_
  refine th_n ?_
  refine wp_seq ?_
  refine region_seq ?_
  revert a
  refine sA (v := .agg #[.bool (neg z), .slice A5 (zl z) c6]) rfl (fun _ henv => rn_load0 henv ty_anvil_integer_Int rfl (hst.oat (k := 3) rfl) rfl) ?_
  refine sA (v := .agg #[.bool (neg y), .slice A15 (zl y) c16]) rfl (fun _ henv => rn_load0 henv ty_anvil_integer_Int rfl (hst.oat (k := 1) rfl) rfl) ?_
  intro a henv
  refine seq_step rfl (op_call henv rfl Tryd.call90 rfl (make_z0 (p := z) (q := y) (show ZIn _ A5 c6 z from hst.pat (k := 1) rfl) (show ZIn _ A15 c16 y from hst.pat (k := 0) rfl) hy0) ?_)
  rintro e w25 ⟨rfl, hb⟩
  refine ⟨_, rfl, ?_⟩
  clear henv a; intro a henv
  replace hst := hst.call hb
  replace hst := (hst.addZ (show ZIn _ none 0 (qn 0) from zin_none _) ⟨nou_bk rfl, nou_bk rfl, nou_bk rfl, nou_bk rfl, nou_bk rfl, nou_bk rfl, trivial⟩).addZ (show ZIn _ none 0 (ql 0) from zin_none _) ⟨nou_bk rfl, nou_bk rfl, nou_bk rfl, nou_bk rfl, nou_bk rfl, nou_bk rfl, trivial⟩
  clear hb
  revert a
  refine mA rfl rfl ?_
  refine sA (v := .agg #[.bool (neg (qn 0)), .slice none (zl (qn 0)) 0, .bool (neg (ql 0)), .slice none (zl (ql 0)) 0]) rfl (fun _ henv => rn_extract henv rfl rfl) ?_
  refine sA (v := .int .i64 2) rfl (fun _ henv => rn_extract henv rfl rfl) ?_
  intro a henv
  refine seq_step rfl (op_alloc (c := #[.bool (neg (qn 0)), .slice none (zl (qn 0)) 0, .bool (neg (ql 0)), .slice none (zl (ql 0)) 0]) henv hst rfl zero_anvil_ratio_Rat qcells ?_)
  clear henv hst a; intro a w27 g26 henv hst
  refine seq_step rfl (op_store (k := 0) (c' := #[.bool (neg (qn 0)), .slice none (zl (qn 0)) 0, .bool (neg (ql 0)), .slice none (zl (ql 0)) 0]) henv hst (ty_anvil_ratio_Rat.size) rfl rfl rfl rfl (by simp) rfl rfl ?_)
  clear henv hst a; intro a w28 henv hst
  refine sv (v := .int .i64 2) henv rfl (rn_assign henv rfl) ?_
  clear henv a; intro a henv
  refine wpList_nil ?_
  refine th_n ?_
  refine wp_seq ?_
  refine region_seq ?_
  revert a
  refine sA (v := .agg #[.bool (neg (qn 0)), .slice none (zl (qn 0)) 0, .bool (neg (ql 0)), .slice none (zl (ql 0)) 0]) rfl (fun _ henv => rn_load0 henv ty_anvil_ratio_Rat rfl (hst.oat (k := 0) rfl) rfl) ?_
  refine sA (v := .pointer (some ⟨g11, 0, none⟩)) rfl (fun _ henv => rn_fieldAddr henv fd_anvil_api_Spot_0 (ty_anvil_api_Errno.size) (by decide) rfl) ?_
  refine sA (v := .int .i64 ps) rfl (fun _ henv => rn_load1 henv ty_anvil_api_Errno rfl (hst.oat (k := 3) rfl) rfl) ?_
  refine sA (v := .bool (ps == (0 : Int))) rfl (fun _ henv => rn_bin henv rfl rfl rfl) ?_
  intro a henv
  rw [show (ps == (0 : Int)) = true from (beq_iff_eq.2 u1)] at henv
  revert a
  refine mA rfl rfl ?_
  refine gA (v := .pointer (some ⟨g21, 0, none⟩)) rfl rfl rfl rfl (fun _ henv => rn_fieldAddr henv fd_anvil_api_Spot_0 (ty_anvil_api_Errno.size) (by decide) rfl) ?_
  refine gA (v := .int .i64 pt) rfl rfl rfl rfl (fun _ henv => rn_load1 henv ty_anvil_api_Errno rfl (hst.oat (k := 1) rfl) rfl) ?_
  refine gA (v := .bool (pt == (0 : Int))) rfl rfl rfl rfl (fun _ henv => rn_bin henv rfl rfl rfl) ?_
  intro a henv
  rw [show (pt == (0 : Int)) = true from (beq_iff_eq.2 u2)] at henv
  revert a
  refine sA (v := .bool true) rfl (fun _ henv => rn_pick henv rfl rfl) ?_
  refine mA rfl rfl ?_
  refine gA (v := .int .i64 2) rfl rfl rfl rfl (fun _ henv => rn_move henv rfl) ?_
  refine gA (v := .bool false) rfl rfl rfl rfl (fun _ henv => rn_bin henv rfl rfl rfl) ?_
  refine sA (v := .bool false) rfl (fun _ henv => rn_pick henv rfl rfl) ?_
  intro a henv
  refine seq_step rfl (op_store (k := 5) (c' := #[.bool (neg (qn 0)), .slice none (zl (qn 0)) 0, .bool (neg (ql 0)), .slice none (zl (ql 0)) 0]) henv hst (ty_anvil_ratio_Rat.size) rfl rfl rfl rfl (by simp) rfl rfl ?_)
  clear henv hst a; intro a w29 henv hst
  refine sv (v := .bool false) henv rfl (rn_assign henv rfl) ?_
  clear henv a; intro a henv
  refine wpList_nil ?_
  refine th_n ?_
  refine wp_ret ?_
  refine leave henv (res2 Tryd.results87 (RV.cell henv ty_anvil_ratio_Rat rfl (hst.oat (k := 5) rfl) rfl) (RV.tmp henv rfl)) ?_
  exact ⟨_, rfl, q_at rfl rfl (hst.pat (k := 1) rfl) (hst.pat (k := 0) rfl), hst.below⟩
set_option maxRecDepth 100000 in
set_option maxHeartbeats 2000000 in
theorem alone_ok0 {s t : List UInt8} {z y ps qs pt qt : Int} {w0 : World} (hs : IRd s z ps qs) (ht : IRd t y pt qt) (bz : zl z ≤ 65537) (by_ : zl y ≤ 65537) (u1 : ps = 0) (u2 : pt = 0) (hy0 : y ≠ 0) :
    Calls Tryd.prog 87 #[.agg #[.string ⟨s.toArray⟩, .string ⟨t.toArray⟩]] w0 fun e w' => ∃ v, e = .returned (.tuple #[v, .bool true]) ∧ QAt w' v (Rat.divInt z y) ∧ Below w0.heap.size w0 w' := by
  refine enter Tryd.func87 rfl Tryd.ntmps87 rfl ?_
  intro a henv hst
  refine wp_seq ?_
  refine region_seq ?_
  refine seq_step rfl (op_box (c := #[.string ⟨s.toArray⟩, .string ⟨t.toArray⟩]) henv hst rfl rfl rfl ?_)
  clear henv hst a; intro a w2 g1 henv hst
  refine seq_step rfl (op_alloc (c := #[.bool (neg (qn 0)), .slice none (zl (qn 0)) 0, .bool (neg (ql 0)), .slice none (zl (ql 0)) 0]) henv hst rfl zero_anvil_ratio_Rat qcells ?_)
  clear henv hst a; intro a w4 g3 henv hst
  refine sv (v := .bool false) henv rfl (rn_assign henv rfl) ?_
  clear henv a; intro a henv
  refine wpList_nil ?_
  refine th_n ?_
  refine wp_seq ?_
  refine region_seq ?_
  revert a
  refine sA (v := .pointer (some ⟨g1, 0, none⟩)) rfl (fun _ henv => rn_fieldAddr henv fd_anvil_anvillaw03_Frac_0 (ty_string.size) (by decide) rfl) ?_
  refine sA (v := .string ⟨s.toArray⟩) rfl (fun _ henv => rn_load1 henv ty_string rfl (hst.oat (k := 1) rfl) rfl) ?_
  intro a henv
  refine seq_step rfl (op_call henv rfl Tryd.call113 rfl (hs _) ?_)
  rintro e w8 ⟨_, rfl, ⟨A5, c6, rfl, hz7⟩, hb⟩
  refine ⟨_, rfl, ?_⟩
  clear henv a; intro a henv
  replace hst := (hst.call hb).addZ hz7 ⟨nou_bk rfl, nou_bk rfl, trivial⟩
  clear hz7
  clear hb
  revert a
  refine mA rfl rfl ?_
  refine sA (v := .agg #[.bool (neg z), .slice A5 (zl z) c6]) rfl (fun _ henv => rn_extract henv rfl rfl) ?_
  refine sA (v := .agg #[.int .i64 ps, .int .i64 qs]) rfl (fun _ henv => rn_extract henv rfl rfl) ?_
  intro a henv
  refine seq_step rfl (op_alloc (c := #[.bool (neg 0), .slice none (zl 0) 0]) henv hst rfl zero_anvil_integer_Int zcells ?_)
  clear henv hst a; intro a w10 g9 henv hst
  refine seq_step rfl (op_alloc (c := #[.int .i64 0, .int .i64 0]) henv hst rfl zero_anvil_api_Spot rfl ?_)
  clear henv hst a; intro a w12 g11 henv hst
  refine seq_step rfl (op_store (k := 1) (c' := #[.bool (neg z), .slice A5 (zl z) c6]) henv hst (ty_anvil_integer_Int.size) rfl rfl rfl rfl (by simp) rfl rfl ?_)
  clear henv hst a; intro a w13 henv hst
  refine seq_step rfl (op_store (k := 0) (c' := #[.int .i64 ps, .int .i64 qs]) henv hst (ty_anvil_api_Spot.size) rfl rfl rfl rfl (by simp) rfl rfl ?_)
  clear henv hst a; intro a w14 henv hst
  refine wpList_nil ?_
  refine th_n ?_
  refine wp_seq ?_
  refine region_seq ?_
  revert a
  refine sA (v := .pointer (some ⟨g1, 1, none⟩)) rfl (fun _ henv => rn_fieldAddr henv fd_anvil_anvillaw03_Frac_1 (ty_string.size) (by decide) rfl) ?_
  refine sA (v := .string ⟨t.toArray⟩) rfl (fun _ henv => rn_load1 henv ty_string rfl (hst.oat (k := 3) rfl) rfl) ?_
  intro a henv
  refine seq_step rfl (op_call henv rfl Tryd.call113 rfl (ht _) ?_)
  rintro e w18 ⟨_, rfl, ⟨A15, c16, rfl, hz17⟩, hb⟩
  refine ⟨_, rfl, ?_⟩
  clear henv a; intro a henv
  replace hst := (hst.call hb).addZ hz17 ⟨nou_bk rfl, nou_bk rfl, nou_bk rfl, nou_bk rfl, trivial⟩
  clear hz17
  clear hb
  revert a
  refine mA rfl rfl ?_
  refine sA (v := .agg #[.bool (neg y), .slice A15 (zl y) c16]) rfl (fun _ henv => rn_extract henv rfl rfl) ?_
  refine sA (v := .agg #[.int .i64 pt, .int .i64 qt]) rfl (fun _ henv => rn_extract henv rfl rfl) ?_
  intro a henv
  refine seq_step rfl (op_alloc (c := #[.bool (neg 0), .slice none (zl 0) 0]) henv hst rfl zero_anvil_integer_Int zcells ?_)
  clear henv hst a; intro a w20 g19 henv hst
  refine seq_step rfl (op_alloc (c := #[.int .i64 0, .int .i64 0]) henv hst rfl zero_anvil_api_Spot rfl ?_)
  clear henv hst a; intro a w22 g21 henv hst
  refine seq_step rfl (op_store (k := 1) (c' := #[.bool (neg y), .slice A15 (zl y) c16]) henv hst (ty_anvil_integer_Int.size) rfl rfl rfl rfl (by simp) rfl rfl ?_)
  clear henv hst a; intro a w23 henv hst
  refine seq_step rfl (op_store (k := 0) (c' := #[.int .i64 pt, .int .i64 qt]) henv hst (ty_anvil_api_Spot.size) rfl rfl rfl rfl (by simp) rfl rfl ?_)
  clear henv hst a; intro a w24 henv hst
  refine wpList_nil ?_
  refine th_n ?_
  refine wp_seq ?_
  refine region_seq ?_
  revert a
  refine sA (v := .agg #[.bool (neg z), .slice A5 (zl z) c6]) rfl (fun _ henv => rn_load0 henv ty_anvil_integer_Int rfl (hst.oat (k := 3) rfl) rfl) ?_
  refine sA (v := .agg #[.bool (neg y), .slice A15 (zl y) c16]) rfl (fun _ henv => rn_load0 henv ty_anvil_integer_Int rfl (hst.oat (k := 1) rfl) rfl) ?_
  intro a henv
  refine seq_step rfl (op_call henv rfl Tryd.call90 rfl (make_qr (p := z) (q := y) (r := Rat.divInt z y) (show ZIn _ A5 c6 z from hst.pat (k := 1) rfl) (show ZIn _ A15 c16 y from hst.pat (k := 0) rfl) (by omega) (by omega) hy0 rfl) ?_)
  rintro e w31 ⟨_, rfl, ⟨A25, c26, B27, d28, rfl, hz29, hz30⟩, hb⟩
  refine ⟨_, rfl, ?_⟩
  clear henv a; intro a henv
  replace hst := ((hst.call hb).addZ hz29 ⟨nou_bk rfl, nou_bk rfl, nou_bk rfl, nou_bk rfl, nou_bk rfl, nou_bk rfl, trivial⟩).addZ hz30 ⟨nou_bk rfl, nou_bk rfl, nou_bk rfl, nou_bk rfl, nou_bk rfl, nou_bk rfl, trivial⟩
  clear hz29 hz30
  clear hb
  revert a
  refine mA rfl rfl ?_
  refine sA (v := .agg #[.bool (neg (qn (Rat.divInt z y))), .slice A25 (zl (qn (Rat.divInt z y))) c26, .bool (neg (ql (Rat.divInt z y))), .slice B27 (zl (ql (Rat.divInt z y))) d28]) rfl (fun _ henv => rn_extract henv rfl rfl) ?_
  refine sA (v := .int .i64 0) rfl (fun _ henv => rn_extract henv rfl rfl) ?_
  intro a henv
  refine seq_step rfl (op_alloc (c := #[.bool (neg (qn 0)), .slice none (zl (qn 0)) 0, .bool (neg (ql 0)), .slice none (zl (ql 0)) 0]) henv hst rfl zero_anvil_ratio_Rat qcells ?_)
  clear henv hst a; intro a w33 g32 henv hst
  refine seq_step rfl (op_store (k := 0) (c' := #[.bool (neg (qn (Rat.divInt z y))), .slice A25 (zl (qn (Rat.divInt z y))) c26, .bool (neg (ql (Rat.divInt z y))), .slice B27 (zl (ql (Rat.divInt z y))) d28]) henv hst (ty_anvil_ratio_Rat.size) rfl rfl rfl rfl (by simp) rfl rfl ?_)
  clear henv hst a; intro a w34 henv hst
  refine sv (v := .int .i64 0) henv rfl (rn_assign henv rfl) ?_
  clear henv a; intro a henv
  refine wpList_nil ?_
  refine th_n ?_
  refine wp_seq ?_
  refine region_seq ?_
  revert a
  refine sA (v := .agg #[.bool (neg (qn (Rat.divInt z y))), .slice A25 (zl (qn (Rat.divInt z y))) c26, .bool (neg (ql (Rat.divInt z y))), .slice B27 (zl (ql (Rat.divInt z y))) d28]) rfl (fun _ henv => rn_load0 henv ty_anvil_ratio_Rat rfl (hst.oat (k := 0) rfl) rfl) ?_
  refine sA (v := .pointer (some ⟨g11, 0, none⟩)) rfl (fun _ henv => rn_fieldAddr henv fd_anvil_api_Spot_0 (ty_anvil_api_Errno.size) (by decide) rfl) ?_
  refine sA (v := .int .i64 ps) rfl (fun _ henv => rn_load1 henv ty_anvil_api_Errno rfl (hst.oat (k := 3) rfl) rfl) ?_
  refine sA (v := .bool (ps == (0 : Int))) rfl (fun _ henv => rn_bin henv rfl rfl rfl) ?_
  intro a henv
  rw [show (ps == (0 : Int)) = true from (beq_iff_eq.2 u1)] at henv
  revert a
  refine mA rfl rfl ?_
  refine gA (v := .pointer (some ⟨g21, 0, none⟩)) rfl rfl rfl rfl (fun _ henv => rn_fieldAddr henv fd_anvil_api_Spot_0 (ty_anvil_api_Errno.size) (by decide) rfl) ?_
  refine gA (v := .int .i64 pt) rfl rfl rfl rfl (fun _ henv => rn_load1 henv ty_anvil_api_Errno rfl (hst.oat (k := 1) rfl) rfl) ?_
  refine gA (v := .bool (pt == (0 : Int))) rfl rfl rfl rfl (fun _ henv => rn_bin henv rfl rfl rfl) ?_
  intro a henv
  rw [show (pt == (0 : Int)) = true from (beq_iff_eq.2 u2)] at henv
  revert a
  refine sA (v := .bool true) rfl (fun _ henv => rn_pick henv rfl rfl) ?_
  refine mA rfl rfl ?_
  refine gA (v := .int .i64 0) rfl rfl rfl rfl (fun _ henv => rn_move henv rfl) ?_
  refine gA (v := .bool true) rfl rfl rfl rfl (fun _ henv => rn_bin henv rfl rfl rfl) ?_
  refine sA (v := .bool true) rfl (fun _ henv => rn_pick henv rfl rfl) ?_
  intro a henv
  refine seq_step rfl (op_store (k := 5) (c' := #[.bool (neg (qn (Rat.divInt z y))), .slice A25 (zl (qn (Rat.divInt z y))) c26, .bool (neg (ql (Rat.divInt z y))), .slice B27 (zl (ql (Rat.divInt z y))) d28]) henv hst (ty_anvil_ratio_Rat.size) rfl rfl rfl rfl (by simp) rfl rfl ?_)
  clear henv hst a; intro a w35 henv hst
  refine sv (v := .bool true) henv rfl (rn_assign henv rfl) ?_
  clear henv a; intro a henv
  refine wpList_nil ?_
  refine th_n ?_
  refine wp_ret ?_
  refine leave henv (res2 Tryd.results87 (RV.cell henv ty_anvil_ratio_Rat rfl (hst.oat (k := 5) rfl) rfl) (RV.tmp henv rfl)) ?_
  exact ⟨_, rfl, q_at rfl rfl (hst.pat (k := 1) rfl) (hst.pat (k := 0) rfl), hst.below⟩
def AlAs (s t : List UInt8) (x : Rat) (o : Bool) : Prop := ∀ w0 : World,
    Calls Tryd.prog 87 #[.agg #[.string ⟨s.toArray⟩, .string ⟨t.toArray⟩]] w0 fun e w' => ∃ v, e = .returned (.tuple #[v, .bool o]) ∧ QAt w' v x ∧ Below w0.heap.size w0 w'
theorem alone_any {s t : List UInt8} (h1 : s.length ≤ maxLen) (h2 : t.length ≤ maxLen) : ∃ x o, AlAs s t x o ∧ (¬ Lg (s, t) → Qs 400 x) := by
  obtain ⟨z, ps, qs, hs, bz, bz2⟩ := ird_any s h1
  obtain ⟨y, pt, qt, ht, by_, by2⟩ := ird_any t h2
  by_cases hy0 : y = 0
  · by_cases u1 : ps = 0
    · by_cases u2 : pt = 0
      · exact ⟨_, _, fun w0 => alone_z1 hs ht bz by_ u1 u2 hy0, fun _ => Qs.mono qs_zero (by decide)⟩
      · exact ⟨_, _, fun w0 => alone_b1 hs ht bz by_ u1 u2 hy0, fun _ => Qs.mono qs_zero (by decide)⟩
    · exact ⟨_, _, fun w0 => alone_a1 hs ht bz by_ u1 hy0, fun _ => Qs.mono qs_zero (by decide)⟩
  · have hq : ¬ Lg (s, t) → Qs 400 (Rat.divInt z y) := fun hl => qs_make (bz2 (Nat.not_lt.1 fun h => hl (.inl h))) (by2 (Nat.not_lt.1 fun h => hl (.inr h))) hy0
    by_cases u1 : ps = 0
    · by_cases u2 : pt = 0
      · exact ⟨_, _, fun w0 => alone_ok0 hs ht bz by_ u1 u2 hy0, hq⟩
      · exact ⟨_, _, fun w0 => alone_b0 hs ht bz by_ u1 u2 hy0, hq⟩
    · exact ⟨_, _, fun w0 => alone_a0 hs ht bz by_ u1 hy0, hq⟩
set_option maxRecDepth 100000 in
set_option maxHeartbeats 4000000 in
theorem three_f1 {s1 t1 s2 t2 s3 t3 : List UInt8} {x y z : Rat} {o2 o3 : Bool} {w0 : World} (f1 : AlAs s1 t1 x false) (f2 : AlAs s2 t2 y o2) (f3 : AlAs s3 t3 z o3) :
    Calls Tryd.prog 56 #[.agg #[.string ⟨s1.toArray⟩, .string ⟨t1.toArray⟩], .agg #[.string ⟨s2.toArray⟩, .string ⟨t2.toArray⟩], .agg #[.string ⟨s3.toArray⟩, .string ⟨t3.toArray⟩]] w0 fun e w' => ∃ v1 v2 v3, e = .returned (.tuple #[v1, v2, v3, .bool false]) ∧ QAt w' v1 x ∧ QAt w' v2 y ∧ QAt w' v3 z ∧ Below w0.heap.size w0 w' := by
  refine enter Tryd.func56 rfl Tryd.ntmps56 rfl ?_
  intro a henv hst
  refine wp_seq ?_
  refine region_seq ?_
  refine seq_step rfl (op_box (c := #[.string ⟨s1.toArray⟩, .string ⟨t1.toArray⟩]) henv hst rfl rfl rfl ?_)
  clear henv hst a; intro a w2 g1 henv hst
  refine seq_step rfl (op_box (c := #[.string ⟨s2.toArray⟩, .string ⟨t2.toArray⟩]) henv hst rfl rfl rfl ?_)
  clear henv hst a; intro a w4 g3 henv hst
  refine seq_step rfl (op_box (c := #[.string ⟨s3.toArray⟩, .string ⟨t3.toArray⟩]) henv hst rfl rfl rfl ?_)
  clear henv hst a; intro a w6 g5 henv hst
  refine seq_step rfl (op_alloc (c := #[.bool (neg (qn 0)), .slice none (zl (qn 0)) 0, .bool (neg (ql 0)), .slice none (zl (ql 0)) 0]) henv hst rfl zero_anvil_ratio_Rat qcells ?_)
  clear henv hst a; intro a w8 g7 henv hst
  refine seq_step rfl (op_alloc (c := #[.bool (neg (qn 0)), .slice none (zl (qn 0)) 0, .bool (neg (ql 0)), .slice none (zl (ql 0)) 0]) henv hst rfl zero_anvil_ratio_Rat qcells ?_)
  clear henv hst a; intro a w10 g9 henv hst
  refine seq_step rfl (op_alloc (c := #[.bool (neg (qn 0)), .slice none (zl (qn 0)) 0, .bool (neg (ql 0)), .slice none (zl (ql 0)) 0]) henv hst rfl zero_anvil_ratio_Rat qcells ?_)
  clear henv hst a; intro a w12 g11 henv hst
  refine sv (v := .bool false) henv rfl (rn_assign henv rfl) ?_
  clear henv a; intro a henv
  refine wpList_nil ?_
  refine th_n ?_
  refine wp_seq ?_
  refine region_seq ?_
  refine sv (v := .agg #[.string ⟨s1.toArray⟩, .string ⟨t1.toArray⟩]) henv rfl (rn_load0 henv ty_anvil_anvillaw03_Frac rfl (hst.oat (k := 5) rfl) rfl) ?_
  clear henv a; intro a henv
  refine seq_step rfl (op_call henv rfl Tryd.call87 rfl (f1 _) ?_)
  rintro e w19 ⟨_, rfl, ⟨A13, c14, B15, d16, rfl, hz17, hz18⟩, hb⟩
  refine ⟨_, rfl, ?_⟩
  clear henv a; intro a henv
  replace hst := ((hst.call hb).addZ hz17 ⟨nou_bk rfl, nou_bk rfl, nou_bk rfl, nou_bk rfl, nou_bk rfl, nou_bk rfl, trivial⟩).addZ hz18 ⟨nou_bk rfl, nou_bk rfl, nou_bk rfl, nou_bk rfl, nou_bk rfl, nou_bk rfl, trivial⟩
  clear hz17 hz18
  clear hb
  revert a
  refine mA rfl rfl ?_
  refine sA (v := .agg #[.bool (neg (qn x)), .slice A13 (zl (qn x)) c14, .bool (neg (ql x)), .slice B15 (zl (ql x)) d16]) rfl (fun _ henv => rn_extract henv rfl rfl) ?_
  refine sA (v := .bool false) rfl (fun _ henv => rn_extract henv rfl rfl) ?_
  intro a henv
  refine seq_step rfl (op_alloc (c := #[.bool (neg (qn 0)), .slice none (zl (qn 0)) 0, .bool (neg (ql 0)), .slice none (zl (ql 0)) 0]) henv hst rfl zero_anvil_ratio_Rat qcells ?_)
  clear henv hst a; intro a w21 g20 henv hst
  refine seq_step rfl (op_store (k := 0) (c' := #[.bool (neg (qn x)), .slice A13 (zl (qn x)) c14, .bool (neg (ql x)), .slice B15 (zl (ql x)) d16]) henv hst (ty_anvil_ratio_Rat.size) rfl rfl rfl rfl (by simp) rfl rfl ?_)
  clear henv hst a; intro a w22 henv hst
  refine sv (v := .bool false) henv rfl (rn_assign henv rfl) ?_
  clear henv a; intro a henv
  refine wpList_nil ?_
  refine th_n ?_
  refine wp_seq ?_
  refine region_seq ?_
  refine sv (v := .agg #[.string ⟨s2.toArray⟩, .string ⟨t2.toArray⟩]) henv rfl (rn_load0 henv ty_anvil_anvillaw03_Frac rfl (hst.oat (k := 5) rfl) rfl) ?_
  clear henv a; intro a henv
  refine seq_step rfl (op_call henv rfl Tryd.call87 rfl (f2 _) ?_)
  rintro e w29 ⟨_, rfl, ⟨A23, c24, B25, d26, rfl, hz27, hz28⟩, hb⟩
  refine ⟨_, rfl, ?_⟩
  clear henv a; intro a henv
  replace hst := ((hst.call hb).addZ hz27 ⟨nou_bk rfl, nou_bk rfl, nou_bk rfl, nou_bk rfl, nou_bk rfl, nou_bk rfl, nou_bk rfl, trivial⟩).addZ hz28 ⟨nou_bk rfl, nou_bk rfl, nou_bk rfl, nou_bk rfl, nou_bk rfl, nou_bk rfl, nou_bk rfl, trivial⟩
  clear hz27 hz28
  clear hb
  revert a
  refine mA rfl rfl ?_
  refine sA (v := .agg #[.bool (neg (qn y)), .slice A23 (zl (qn y)) c24, .bool (neg (ql y)), .slice B25 (zl (ql y)) d26]) rfl (fun _ henv => rn_extract henv rfl rfl) ?_
  refine sA (v := .bool o2) rfl (fun _ henv => rn_extract henv rfl rfl) ?_
  intro a henv
  refine seq_step rfl (op_alloc (c := #[.bool (neg (qn 0)), .slice none (zl (qn 0)) 0, .bool (neg (ql 0)), .slice none (zl (ql 0)) 0]) henv hst rfl zero_anvil_ratio_Rat qcells ?_)
  clear henv hst a; intro a w31 g30 henv hst
  refine seq_step rfl (op_store (k := 0) (c' := #[.bool (neg (qn y)), .slice A23 (zl (qn y)) c24, .bool (neg (ql y)), .slice B25 (zl (ql y)) d26]) henv hst (ty_anvil_ratio_Rat.size) rfl rfl rfl rfl (by simp) rfl rfl ?_)
  clear henv hst a; intro a w32 henv hst
  refine sv (v := .bool o2) henv rfl (rn_assign henv rfl) ?_
  clear henv a; intro a henv
  refine wpList_nil ?_
  refine th_n ?_
  refine wp_seq ?_
  refine region_seq ?_
  refine sv (v := .agg #[.string ⟨s3.toArray⟩, .string ⟨t3.toArray⟩]) henv rfl (rn_load0 henv ty_anvil_anvillaw03_Frac rfl (hst.oat (k := 5) rfl) rfl) ?_
  clear henv a; intro a henv
  refine seq_step rfl (op_call henv rfl Tryd.call87 rfl (f3 _) ?_)
  rintro e w39 ⟨_, rfl, ⟨A33, c34, B35, d36, rfl, hz37, hz38⟩, hb⟩
  refine ⟨_, rfl, ?_⟩
  clear henv a; intro a henv
  replace hst := ((hst.call hb).addZ hz37 ⟨nou_bk rfl, nou_bk rfl, nou_bk rfl, nou_bk rfl, nou_bk rfl, nou_bk rfl, nou_bk rfl, nou_bk rfl, trivial⟩).addZ hz38 ⟨nou_bk rfl, nou_bk rfl, nou_bk rfl, nou_bk rfl, nou_bk rfl, nou_bk rfl, nou_bk rfl, nou_bk rfl, trivial⟩
  clear hz37 hz38
  clear hb
  revert a
  refine mA rfl rfl ?_
  refine sA (v := .agg #[.bool (neg (qn z)), .slice A33 (zl (qn z)) c34, .bool (neg (ql z)), .slice B35 (zl (ql z)) d36]) rfl (fun _ henv => rn_extract henv rfl rfl) ?_
  refine sA (v := .bool o3) rfl (fun _ henv => rn_extract henv rfl rfl) ?_
  intro a henv
  refine seq_step rfl (op_alloc (c := #[.bool (neg (qn 0)), .slice none (zl (qn 0)) 0, .bool (neg (ql 0)), .slice none (zl (ql 0)) 0]) henv hst rfl zero_anvil_ratio_Rat qcells ?_)
  clear henv hst a; intro a w41 g40 henv hst
  refine seq_step rfl (op_store (k := 0) (c' := #[.bool (neg (qn z)), .slice A33 (zl (qn z)) c34, .bool (neg (ql z)), .slice B35 (zl (ql z)) d36]) henv hst (ty_anvil_ratio_Rat.size) rfl rfl rfl rfl (by simp) rfl rfl ?_)
  clear henv hst a; intro a w42 henv hst
  refine sv (v := .bool o3) henv rfl (rn_assign henv rfl) ?_
  clear henv a; intro a henv
  refine wpList_nil ?_
  refine th_n ?_
  refine wp_seq ?_
  refine region_any (n := 22) (Sk [bk g40 #[.bool (neg (qn z)), .slice A33 (zl (qn z)) c34, .bool (neg (ql z)), .slice B35 (zl (ql z)) d36] 91, bk g30 #[.bool (neg (qn y)), .slice A23 (zl (qn y)) c24, .bool (neg (ql y)), .slice B25 (zl (ql y)) d26] 91, bk g20 #[.bool (neg (qn x)), .slice A13 (zl (qn x)) c14, .bool (neg (ql x)), .slice B15 (zl (ql x)) d16] 91, bk g5 #[.string ⟨s3.toArray⟩, .string ⟨t3.toArray⟩] 89, bk g3 #[.string ⟨s2.toArray⟩, .string ⟨t2.toArray⟩] 89, bk g1 #[.string ⟨s1.toArray⟩, .string ⟨t1.toArray⟩] 89] [pfZ B35 d36 (ql z), pfZ A33 c34 (qn z), pfZ B25 d26 (ql y), pfZ A23 c24 (qn y), pfZ B15 d16 (ql x), pfZ A13 c14 (qn x)] [18, 19, 20] []) mixed rfl henv hst ?_
  clear henv hst; intro w43 henv hst
  refine tL (i := 0) 2 2 (rg 18 4) rfl (by kernel_rfl) (fun _ _ _ h => h) henv rfl ty_anvil_ratio_Rat rfl hst rfl rfl rfl ?_
  clear henv a; intro a henv
  refine tL (i := 1) 1 1 [19, 20, 21] rfl (by kernel_rfl) (fun _ _ _ h => h) henv rfl ty_anvil_ratio_Rat rfl hst rfl rfl rfl ?_
  clear henv a; intro a henv
  refine tL (i := 2) 0 0 [20, 21] rfl (by kernel_rfl) (fun _ _ _ h => h) henv rfl ty_anvil_ratio_Rat rfl hst rfl rfl rfl ?_
  clear henv a; intro a henv
  refine tM (i := 3) (rg 4 18) rfl (by kernel_rfl) (fun _ _ _ h => h) henv rfl rfl ?_
  clear henv a; intro a henv
  refine tM (i := 4) (rg 5 17) rfl (by kernel_rfl) (fun _ _ _ h => h) henv rfl rfl ?_
  clear henv a; intro a henv
  refine sAny_skipg (i := 5) [6, 7, 8, 9, 10, 11, 12, 13, 14, 15, 16, 17, 18, 19, 20, 21] rfl (by kernel_rfl) (fun _ _ _ h => h) henv rfl rfl rfl rfl rfl ?_
  clear henv a; intro a henv
  refine tA (i := 6) (rg 7 15) (v := .bool false) rfl (by kernel_rfl) (fun _ _ _ h => h) henv rfl (fun _ => rn_pick henv rfl rfl) ?_
  clear henv a; intro a henv
  refine tM (i := 7) (rg 8 14) rfl (by kernel_rfl) (fun _ _ _ h => h) henv rfl rfl ?_
  clear henv a; intro a henv
  refine sAny_skipg (i := 8) [9, 10, 11, 12, 13, 14, 15, 16, 17, 18, 19, 20, 21] rfl (by kernel_rfl) (fun _ _ _ h => h) henv rfl rfl rfl rfl rfl ?_
  clear henv a; intro a henv
  refine tA (i := 9) (rg 10 12) (v := .bool false) rfl (by kernel_rfl) (fun _ _ _ h => h) henv rfl (fun _ => rn_pick henv rfl rfl) ?_
  clear henv a; intro a henv
  refine tM (i := 10) (rg 11 11) rfl (by kernel_rfl) (fun _ _ _ h => h) henv rfl rfl ?_
  clear henv a; intro a henv
  refine sAny_skipg (i := 11) [14, 15, 16, 17, 18, 19, 20, 21] rfl (by kernel_rfl) (fun _ _ _ h => h) henv rfl rfl rfl rfl rfl ?_
  clear henv a; intro a henv
  refine sAny_skipg (i := 12) [14, 15, 16, 17, 18, 19, 20, 21] rfl (by kernel_rfl) (fun _ _ _ h => h) henv rfl rfl rfl rfl rfl ?_
  clear henv a; intro a henv
  refine sAny_skipg (i := 13) [14, 15, 16, 17, 18, 19, 20, 21] rfl (by kernel_rfl) (fun _ _ _ h => h) henv rfl rfl rfl rfl rfl ?_
  clear henv a; intro a henv
  refine sAny_skipg (i := 14) [15, 16, 17, 18, 19, 20, 21] rfl (by kernel_rfl) (fun _ _ _ h => h) henv rfl rfl rfl rfl rfl ?_
  clear henv a; intro a henv
  refine sAny_skipg (i := 15) [16, 17, 18, 19, 20, 21] rfl (by kernel_rfl) (fun _ _ _ h => h) henv rfl rfl rfl rfl rfl ?_
  clear henv a; intro a henv
  refine sAny_skipg (i := 16) [17, 21] rfl (by kernel_rfl) (fun _ _ _ h => h) henv rfl rfl rfl rfl rfl ?_
  clear henv a; intro a henv
  refine tA (i := 17) [21] (v := .bool false) rfl (by kernel_rfl) (fun _ _ _ h => h) henv rfl (fun _ => rn_pick henv rfl rfl) ?_
  clear henv a; intro a henv
  refine sAny_one (i := 18) (by kernel_rfl) rfl rfl (op_store (k := 5) (c' := #[.bool (neg (qn x)), .slice A13 (zl (qn x)) c14, .bool (neg (ql x)), .slice B15 (zl (ql x)) d16]) henv hst (ty_anvil_ratio_Rat.size) rfl rfl rfl rfl (by simp) rfl rfl ?_)
  clear henv hst a; intro a w44 henv hst
  refine ⟨.inr ⟨hst.kn.pick [0, 1, 2, 6, 7, 8] (rg 0 6), .inl rfl⟩, ?_⟩
  refine sAny_one (i := 19) (by kernel_rfl) rfl rfl (op_store (k := 4) (c' := #[.bool (neg (qn y)), .slice A23 (zl (qn y)) c24, .bool (neg (ql y)), .slice B25 (zl (ql y)) d26]) henv hst (ty_anvil_ratio_Rat.size) rfl rfl rfl rfl (by simp) rfl rfl ?_)
  clear henv hst a; intro a w45 henv hst
  refine ⟨.inr ⟨hst.kn.pick [0, 1, 2, 6, 7, 8] (rg 0 6), .inl rfl⟩, ?_⟩
  refine sAny_one (i := 20) (by kernel_rfl) rfl rfl (op_store (k := 3) (c' := #[.bool (neg (qn z)), .slice A33 (zl (qn z)) c34, .bool (neg (ql z)), .slice B35 (zl (ql z)) d36]) henv hst (ty_anvil_ratio_Rat.size) rfl rfl rfl rfl (by simp) rfl rfl ?_)
  clear henv hst a; intro a w46 henv hst
  refine ⟨.inr ⟨hst.kn.pick [0, 1, 2, 6, 7, 8] (rg 0 6), .inl rfl⟩, ?_⟩
  refine tA (i := 21) [] (v := .bool false) rfl (by kernel_rfl) (fun _ _ _ h => h) henv rfl (fun _ => rn_assign henv rfl) ?_
  clear henv a; intro a henv
  refine sAny_done (by kernel_rfl) ?_ _
  refine th_n ?_
  refine wp_ret ?_
  refine leave henv (res4 Tryd.results56 (RV.cell henv ty_anvil_ratio_Rat rfl (hst.oat (k := 5) rfl) rfl) (RV.cell henv ty_anvil_ratio_Rat rfl (hst.oat (k := 4) rfl) rfl) (RV.cell henv ty_anvil_ratio_Rat rfl (hst.oat (k := 3) rfl) rfl) (RV.tmp henv rfl)) ?_
  exact ⟨_, _, _, rfl, q_at rfl rfl (hst.pat (k := 5) rfl) (hst.pat (k := 4) rfl), q_at rfl rfl (hst.pat (k := 3) rfl) (hst.pat (k := 2) rfl), q_at rfl rfl (hst.pat (k := 1) rfl) (hst.pat (k := 0) rfl), hst.below⟩
set_option maxRecDepth 100000 in
set_option maxHeartbeats 4000000 in
theorem three_f2 {s1 t1 s2 t2 s3 t3 : List UInt8} {x y z : Rat} {o3 : Bool} {w0 : World} (f1 : AlAs s1 t1 x true) (f2 : AlAs s2 t2 y false) (f3 : AlAs s3 t3 z o3) :
    Calls Tryd.prog 56 #[.agg #[.string ⟨s1.toArray⟩, .string ⟨t1.toArray⟩], .agg #[.string ⟨s2.toArray⟩, .string ⟨t2.toArray⟩], .agg #[.string ⟨s3.toArray⟩, .string ⟨t3.toArray⟩]] w0 fun e w' => ∃ v1 v2 v3, e = .returned (.tuple #[v1, v2, v3, .bool false]) ∧ QAt w' v1 x ∧ QAt w' v2 y ∧ QAt w' v3 z ∧ Below w0.heap.size w0 w' := by
  refine enter Tryd.func56 rfl Tryd.ntmps56 rfl ?_
  intro a henv hst
  refine wp_seq ?_
  refine region_seq ?_
  refine seq_step rfl (op_box (c := #[.string ⟨s1.toArray⟩, .string ⟨t1.toArray⟩]) henv hst rfl rfl rfl ?_)
  clear henv hst a; intro a w2 g1 henv hst
  refine seq_step rfl (op_box (c := #[.string ⟨s2.toArray⟩, .string ⟨t2.toArray⟩]) henv hst rfl rfl rfl ?_)
  clear henv hst a; intro a w4 g3 henv hst
  refine seq_step rfl (op_box (c := #[.string ⟨s3.toArray⟩, .string ⟨t3.toArray⟩]) henv hst rfl rfl rfl ?_)
  clear henv hst a; intro a w6 g5 henv hst
  refine seq_step rfl (op_alloc (c := #[.bool (neg (qn 0)), .slice none (zl (qn 0)) 0, .bool (neg (ql 0)), .slice none (zl (ql 0)) 0]) henv hst rfl zero_anvil_ratio_Rat qcells ?_)
  clear henv hst a; intro a w8 g7 henv hst
  refine seq_step rfl (op_alloc (c := #[.bool (neg (qn 0)), .slice none (zl (qn 0)) 0, .bool (neg (ql 0)), .slice none (zl (ql 0)) 0]) henv hst rfl zero_anvil_ratio_Rat qcells ?_)
  clear henv hst a; intro a w10 g9 henv hst
  refine seq_step rfl (op_alloc (c := #[.bool (neg (qn 0)), .slice none (zl (qn 0)) 0, .bool (neg (ql 0)), .slice none (zl (ql 0)) 0]) henv hst rfl zero_anvil_ratio_Rat qcells ?_)
  clear henv hst a; intro a w12 g11 henv hst
  refine sv (v := .bool false) henv rfl (rn_assign henv rfl) ?_
  clear henv a; intro a henv
  refine wpList_nil ?_
  refine th_n ?_
  refine wp_seq ?_
  refine region_seq ?_
  refine sv (v := .agg #[.string ⟨s1.toArray⟩, .string ⟨t1.toArray⟩]) henv rfl (rn_load0 henv ty_anvil_anvillaw03_Frac rfl (hst.oat (k := 5) rfl) rfl) ?_
  clear henv a; intro a henv
  refine seq_step rfl (op_call henv rfl Tryd.call87 rfl (f1 _) ?_)
  rintro e w19 ⟨_, rfl, ⟨A13, c14, B15, d16, rfl, hz17, hz18⟩, hb⟩
  refine ⟨_, rfl, ?_⟩
  clear henv a; intro a henv
  replace hst := ((hst.call hb).addZ hz17 ⟨nou_bk rfl, nou_bk rfl, nou_bk rfl, nou_bk rfl, nou_bk rfl, nou_bk rfl, trivial⟩).addZ hz18 ⟨nou_bk rfl, nou_bk rfl, nou_bk rfl, nou_bk rfl, nou_bk rfl, nou_bk rfl, trivial⟩
  clear hz17 hz18
  clear hb
  revert a
  refine mA rfl rfl ?_
  refine sA (v := .agg #[.bool (neg (qn x)), .slice A13 (zl (qn x)) c14, .bool (neg (ql x)), .slice B15 (zl (ql x)) d16]) rfl (fun _ henv => rn_extract henv rfl rfl) ?_
  refine sA (v := .bool true) rfl (fun _ henv => rn_extract henv rfl rfl) ?_
  intro a henv
  refine seq_step rfl (op_alloc (c := #[.bool (neg (qn 0)), .slice none (zl (qn 0)) 0, .bool (neg (ql 0)), .slice none (zl (ql 0)) 0]) henv hst rfl zero_anvil_ratio_Rat qcells ?_)
  clear henv hst a; intro a w21 g20 henv hst
  refine seq_step rfl (op_store (k := 0) (c' := #[.bool (neg (qn x)), .slice A13 (zl (qn x)) c14, .bool (neg (ql x)), .slice B15 (zl (ql x)) d16]) henv hst (ty_anvil_ratio_Rat.size) rfl rfl rfl rfl (by simp) rfl rfl ?_)
  clear henv hst a; intro a w22 henv hst
  refine sv (v := .bool true) henv rfl (rn_assign henv rfl) ?_
  clear henv a; intro a henv
  refine wpList_nil ?_
  refine th_n ?_
  refine wp_seq ?_
  refine region_seq ?_
  refine sv (v := .agg #[.string ⟨s2.toArray⟩, .string ⟨t2.toArray⟩]) henv rfl (rn_load0 henv ty_anvil_anvillaw03_Frac rfl (hst.oat (k := 5) rfl) rfl) ?_
  clear henv a; intro a henv
  refine seq_step rfl (op_call henv rfl Tryd.call87 rfl (f2 _) ?_)
  rintro e w29 ⟨_, rfl, ⟨A23, c24, B25, d26, rfl, hz27, hz28⟩, hb⟩
  refine ⟨_, rfl, ?_⟩
  clear henv a; intro a henv
  replace hst := ((hst.call hb).addZ hz27 ⟨nou_bk rfl, nou_bk rfl, nou_bk rfl, nou_bk rfl, nou_bk rfl, nou_bk rfl, nou_bk rfl, trivial⟩).addZ hz28 ⟨nou_bk rfl, nou_bk rfl, nou_bk rfl, nou_bk rfl, nou_bk rfl, nou_bk rfl, nou_bk rfl, trivial⟩
  clear hz27 hz28
  clear hb
  revert a
  refine mA rfl rfl ?_
  refine sA (v := .agg #[.bool (neg (qn y)), .slice A23 (zl (qn y)) c24, .bool (neg (ql y)), .slice B25 (zl (ql y)) d26]) rfl (fun _ henv => rn_extract henv rfl rfl) ?_
  refine sA (v := .bool false) rfl (fun _ henv => rn_extract henv rfl rfl) ?_
  intro a henv
  refine seq_step rfl (op_alloc (c := #[.bool (neg (qn 0)), .slice none (zl (qn 0)) 0, .bool (neg (ql 0)), .slice none (zl (ql 0)) 0]) henv hst rfl zero_anvil_ratio_Rat qcells ?_)
  clear henv hst a; intro a w31 g30 henv hst
  refine seq_step rfl (op_store (k := 0) (c' := #[.bool (neg (qn y)), .slice A23 (zl (qn y)) c24, .bool (neg (ql y)), .slice B25 (zl (ql y)) d26]) henv hst (ty_anvil_ratio_Rat.size) rfl rfl rfl rfl (by simp) rfl rfl ?_)
  clear henv hst a; intro a w32 henv hst
  refine sv (v := .bool false) henv rfl (rn_assign henv rfl) ?_
  clear henv a; intro a henv
  refine wpList_nil ?_
  refine th_n ?_
  refine wp_seq ?_
  refine region_seq ?_
  refine sv (v := .agg #[.string ⟨s3.toArray⟩, .string ⟨t3.toArray⟩]) henv rfl (rn_load0 henv ty_anvil_anvillaw03_Frac rfl (hst.oat (k := 5) rfl) rfl) ?_
  clear henv a; intro a henv
  refine seq_step rfl (op_call henv rfl Tryd.call87 rfl (f3 _) ?_)
  rintro e w39 ⟨_, rfl, ⟨A33, c34, B35, d36, rfl, hz37, hz38⟩, hb⟩
  refine ⟨_, rfl, ?_⟩
  clear henv a; intro a henv
  replace hst := ((hst.call hb).addZ hz37 ⟨nou_bk rfl, nou_bk rfl, nou_bk rfl, nou_bk rfl, nou_bk rfl, nou_bk rfl, nou_bk rfl, nou_bk rfl, trivial⟩).addZ hz38 ⟨nou_bk rfl, nou_bk rfl, nou_bk rfl, nou_bk rfl, nou_bk rfl, nou_bk rfl, nou_bk rfl, nou_bk rfl, trivial⟩
  clear hz37 hz38
  clear hb
  revert a
  refine mA rfl rfl ?_
  refine sA (v := .agg #[.bool (neg (qn z)), .slice A33 (zl (qn z)) c34, .bool (neg (ql z)), .slice B35 (zl (ql z)) d36]) rfl (fun _ henv => rn_extract henv rfl rfl) ?_
  refine sA (v := .bool o3) rfl (fun _ henv => rn_extract henv rfl rfl) ?_
  intro a henv
  refine seq_step rfl (op_alloc (c := #[.bool (neg (qn 0)), .slice none (zl (qn 0)) 0, .bool (neg (ql 0)), .slice none (zl (ql 0)) 0]) henv hst rfl zero_anvil_ratio_Rat qcells ?_)
  clear henv hst a; intro a w41 g40 henv hst
  refine seq_step rfl (op_store (k := 0) (c' := #[.bool (neg (qn z)), .slice A33 (zl (qn z)) c34, .bool (neg (ql z)), .slice B35 (zl (ql z)) d36]) henv hst (ty_anvil_ratio_Rat.size) rfl rfl rfl rfl (by simp) rfl rfl ?_)
  clear henv hst a; intro a w42 henv hst
  refine sv (v := .bool o3) henv rfl (rn_assign henv rfl) ?_
  clear henv a; intro a henv
  refine wpList_nil ?_
  refine th_n ?_
  refine wp_seq ?_
  refine region_any (n := 22) (Sk [bk g40 #[.bool (neg (qn z)), .slice A33 (zl (qn z)) c34, .bool (neg (ql z)), .slice B35 (zl (ql z)) d36] 91, bk g30 #[.bool (neg (qn y)), .slice A23 (zl (qn y)) c24, .bool (neg (ql y)), .slice B25 (zl (ql y)) d26] 91, bk g20 #[.bool (neg (qn x)), .slice A13 (zl (qn x)) c14, .bool (neg (ql x)), .slice B15 (zl (ql x)) d16] 91, bk g5 #[.string ⟨s3.toArray⟩, .string ⟨t3.toArray⟩] 89, bk g3 #[.string ⟨s2.toArray⟩, .string ⟨t2.toArray⟩] 89, bk g1 #[.string ⟨s1.toArray⟩, .string ⟨t1.toArray⟩] 89] [pfZ B35 d36 (ql z), pfZ A33 c34 (qn z), pfZ B25 d26 (ql y), pfZ A23 c24 (qn y), pfZ B15 d16 (ql x), pfZ A13 c14 (qn x)] [18, 19, 20] []) mixed rfl henv hst ?_
  clear henv hst; intro w43 henv hst
  refine tL (i := 0) 2 2 (rg 18 4) rfl (by kernel_rfl) (fun _ _ _ h => h) henv rfl ty_anvil_ratio_Rat rfl hst rfl rfl rfl ?_
  clear henv a; intro a henv
  refine tL (i := 1) 1 1 [19, 20, 21] rfl (by kernel_rfl) (fun _ _ _ h => h) henv rfl ty_anvil_ratio_Rat rfl hst rfl rfl rfl ?_
  clear henv a; intro a henv
  refine tL (i := 2) 0 0 [20, 21] rfl (by kernel_rfl) (fun _ _ _ h => h) henv rfl ty_anvil_ratio_Rat rfl hst rfl rfl rfl ?_
  clear henv a; intro a henv
  refine tM (i := 3) (rg 4 18) rfl (by kernel_rfl) (fun _ _ _ h => h) henv rfl rfl ?_
  clear henv a; intro a henv
  refine tM (i := 4) (rg 5 17) rfl (by kernel_rfl) (fun _ _ _ h => h) henv rfl rfl ?_
  clear henv a; intro a henv
  refine tAg (i := 5) (rg 6 16) (v := .bool false) rfl (by kernel_rfl) (fun _ _ _ h => h) henv rfl rfl rfl rfl (fun _ => rn_move henv rfl) ?_
  clear henv a; intro a henv
  refine tA (i := 6) (rg 7 15) (v := .bool false) rfl (by kernel_rfl) (fun _ _ _ h => h) henv rfl (fun _ => rn_pick henv rfl rfl) ?_
  clear henv a; intro a henv
  refine tM (i := 7) (rg 8 14) rfl (by kernel_rfl) (fun _ _ _ h => h) henv rfl rfl ?_
  clear henv a; intro a henv
  refine sAny_skipg (i := 8) [9, 10, 11, 12, 13, 14, 15, 16, 17, 18, 19, 20, 21] rfl (by kernel_rfl) (fun _ _ _ h => h) henv rfl rfl rfl rfl rfl ?_
  clear henv a; intro a henv
  refine tA (i := 9) (rg 10 12) (v := .bool false) rfl (by kernel_rfl) (fun _ _ _ h => h) henv rfl (fun _ => rn_pick henv rfl rfl) ?_
  clear henv a; intro a henv
  refine tM (i := 10) (rg 11 11) rfl (by kernel_rfl) (fun _ _ _ h => h) henv rfl rfl ?_
  clear henv a; intro a henv
  refine sAny_skipg (i := 11) [14, 15, 16, 17, 18, 19, 20, 21] rfl (by kernel_rfl) (fun _ _ _ h => h) henv rfl rfl rfl rfl rfl ?_
  clear henv a; intro a henv
  refine sAny_skipg (i := 12) [14, 15, 16, 17, 18, 19, 20, 21] rfl (by kernel_rfl) (fun _ _ _ h => h) henv rfl rfl rfl rfl rfl ?_
  clear henv a; intro a henv
  refine sAny_skipg (i := 13) [14, 15, 16, 17, 18, 19, 20, 21] rfl (by kernel_rfl) (fun _ _ _ h => h) henv rfl rfl rfl rfl rfl ?_
  clear henv a; intro a henv
  refine sAny_skipg (i := 14) [15, 16, 17, 18, 19, 20, 21] rfl (by kernel_rfl) (fun _ _ _ h => h) henv rfl rfl rfl rfl rfl ?_
  clear henv a; intro a henv
  refine sAny_skipg (i := 15) [16, 17, 18, 19, 20, 21] rfl (by kernel_rfl) (fun _ _ _ h => h) henv rfl rfl rfl rfl rfl ?_
  clear henv a; intro a henv
  refine sAny_skipg (i := 16) [17, 21] rfl (by kernel_rfl) (fun _ _ _ h => h) henv rfl rfl rfl rfl rfl ?_
  clear henv a; intro a henv
  refine tA (i := 17) [21] (v := .bool false) rfl (by kernel_rfl) (fun _ _ _ h => h) henv rfl (fun _ => rn_pick henv rfl rfl) ?_
  clear henv a; intro a henv
  refine sAny_one (i := 18) (by kernel_rfl) rfl rfl (op_store (k := 5) (c' := #[.bool (neg (qn x)), .slice A13 (zl (qn x)) c14, .bool (neg (ql x)), .slice B15 (zl (ql x)) d16]) henv hst (ty_anvil_ratio_Rat.size) rfl rfl rfl rfl (by simp) rfl rfl ?_)
  clear henv hst a; intro a w44 henv hst
  refine ⟨.inr ⟨hst.kn.pick [0, 1, 2, 6, 7, 8] (rg 0 6), .inl rfl⟩, ?_⟩
  refine sAny_one (i := 19) (by kernel_rfl) rfl rfl (op_store (k := 4) (c' := #[.bool (neg (qn y)), .slice A23 (zl (qn y)) c24, .bool (neg (ql y)), .slice B25 (zl (ql y)) d26]) henv hst (ty_anvil_ratio_Rat.size) rfl rfl rfl rfl (by simp) rfl rfl ?_)
  clear henv hst a; intro a w45 henv hst
  refine ⟨.inr ⟨hst.kn.pick [0, 1, 2, 6, 7, 8] (rg 0 6), .inl rfl⟩, ?_⟩
  refine sAny_one (i := 20) (by kernel_rfl) rfl rfl (op_store (k := 3) (c' := #[.bool (neg (qn z)), .slice A33 (zl (qn z)) c34, .bool (neg (ql z)), .slice B35 (zl (ql z)) d36]) henv hst (ty_anvil_ratio_Rat.size) rfl rfl rfl rfl (by simp) rfl rfl ?_)
  clear henv hst a; intro a w46 henv hst
  refine ⟨.inr ⟨hst.kn.pick [0, 1, 2, 6, 7, 8] (rg 0 6), .inl rfl⟩, ?_⟩
  refine tA (i := 21) [] (v := .bool false) rfl (by kernel_rfl) (fun _ _ _ h => h) henv rfl (fun _ => rn_assign henv rfl) ?_
  clear henv a; intro a henv
  refine sAny_done (by kernel_rfl) ?_ _
  refine th_n ?_
  refine wp_ret ?_
  refine leave henv (res4 Tryd.results56 (RV.cell henv ty_anvil_ratio_Rat rfl (hst.oat (k := 5) rfl) rfl) (RV.cell henv ty_anvil_ratio_Rat rfl (hst.oat (k := 4) rfl) rfl) (RV.cell henv ty_anvil_ratio_Rat rfl (hst.oat (k := 3) rfl) rfl) (RV.tmp henv rfl)) ?_
  exact ⟨_, _, _, rfl, q_at rfl rfl (hst.pat (k := 5) rfl) (hst.pat (k := 4) rfl), q_at rfl rfl (hst.pat (k := 3) rfl) (hst.pat (k := 2) rfl), q_at rfl rfl (hst.pat (k := 1) rfl) (hst.pat (k := 0) rfl), hst.below⟩
set_option maxRecDepth 100000 in
set_option maxHeartbeats 4000000 in
theorem three_f3 {s1 t1 s2 t2 s3 t3 : List UInt8} {x y z : Rat} {w0 : World} (f1 : AlAs s1 t1 x true) (f2 : AlAs s2 t2 y true) (f3 : AlAs s3 t3 z false) :
    Calls Tryd.prog 56 #[.agg #[.string ⟨s1.toArray⟩, .string ⟨t1.toArray⟩], .agg #[.string ⟨s2.toArray⟩, .string ⟨t2.toArray⟩], .agg #[.string ⟨s3.toArray⟩, .string ⟨t3.toArray⟩]] w0 fun e w' => ∃ v1 v2 v3, e = .returned (.tuple #[v1, v2, v3, .bool false]) ∧ QAt w' v1 x ∧ QAt w' v2 y ∧ QAt w' v3 z ∧ Below w0.heap.size w0 w' := by
  refine enter Tryd.func56 rfl Tryd.ntmps56 rfl ?_
  intro a henv hst
  refine wp_seq ?_
  refine region_seq ?_
  refine seq_step rfl (op_box (c := #[.string ⟨s1.toArray⟩, .string ⟨t1.toArray⟩]) henv hst rfl rfl rfl ?_)
  clear henv hst a; intro a w2 g1 henv hst
  refine seq_step rfl (op_box (c := #[.string ⟨s2.toArray⟩, .string ⟨t2.toArray⟩]) henv hst rfl rfl rfl ?_)
  clear henv hst a; intro a w4 g3 henv hst
  refine seq_step rfl (op_box (c := #[.string ⟨s3.toArray⟩, .string ⟨t3.toArray⟩]) henv hst rfl rfl rfl ?_)
  clear henv hst a; intro a w6 g5 henv hst
  refine seq_step rfl (op_alloc (c := #[.bool (neg (qn 0)), .slice none (zl (qn 0)) 0, .bool (neg (ql 0)), .slice none (zl (ql 0)) 0]) henv hst rfl zero_anvil_ratio_Rat qcells ?_)
  clear henv hst a; intro a w8 g7 henv hst
  refine seq_step rfl (op_alloc (c := #[.bool (neg (qn 0)), .slice none (zl (qn 0)) 0, .bool (neg (ql 0)), .slice none (zl (ql 0)) 0]) henv hst rfl zero_anvil_ratio_Rat qcells ?_)
  clear henv hst a; intro a w10 g9 henv hst
  refine seq_step rfl (op_alloc (c := #[.bool (neg (qn 0)), .slice none (zl (qn 0)) 0, .bool (neg (ql 0)), .slice none (zl (ql 0)) 0]) henv hst rfl zero_anvil_ratio_Rat qcells ?_)
  clear henv hst a; intro a w12 g11 henv hst
  refine sv (v := .bool false) henv rfl (rn_assign henv rfl) ?_
  clear henv a; intro a henv
  refine wpList_nil ?_
  refine th_n ?_
  refine wp_seq ?_
  refine region_seq ?_
  refine sv (v := .agg #[.string ⟨s1.toArray⟩, .string ⟨t1.toArray⟩]) henv rfl (rn_load0 henv ty_anvil_anvillaw03_Frac rfl (hst.oat (k := 5) rfl) rfl) ?_
  clear henv a; intro a henv
  refine seq_step rfl (op_call henv rfl Tryd.call87 rfl (f1 _) ?_)
  rintro e w19 ⟨_, rfl, ⟨A13, c14, B15, d16, rfl, hz17, hz18⟩, hb⟩
  refine ⟨_, rfl, ?_⟩
  clear henv a; intro a henv
  replace hst := ((hst.call hb).addZ hz17 ⟨nou_bk rfl, nou_bk rfl, nou_bk rfl, nou_bk rfl, nou_bk rfl, nou_bk rfl, trivial⟩).addZ hz18 ⟨nou_bk rfl, nou_bk rfl, nou_bk rfl, nou_bk rfl, nou_bk rfl, nou_bk rfl, trivial⟩
  clear hz17 hz18
  clear hb
  revert a
  refine mA rfl rfl ?_
  refine sA (v := .agg #[.bool (neg (qn x)), .slice A13 (zl (qn x)) c14, .bool (neg (ql x)), .slice B15 (zl (ql x)) d16]) rfl (fun _ henv => rn_extract henv rfl rfl) ?_
  refine sA (v := .bool true) rfl (fun _ henv => rn_extract henv rfl rfl) ?_
  intro a henv
  refine seq_step rfl (op_alloc (c := #[.bool (neg (qn 0)), .slice none (zl (qn 0)) 0, .bool (neg (ql 0)), .slice none (zl (ql 0)) 0]) henv hst rfl zero_anvil_ratio_Rat qcells ?_)
  clear henv hst a; intro a w21 g20 henv hst
  refine seq_step rfl (op_store (k := 0) (c' := #[.bool (neg (qn x)), .slice A13 (zl (qn x)) c14, .bool (neg (ql x)), .slice B15 (zl (ql x)) d16]) henv hst (ty_anvil_ratio_Rat.size) rfl rfl rfl rfl (by simp) rfl rfl ?_)
  clear henv hst a; intro a w22 henv hst
  refine sv (v := .bool true) henv rfl (rn_assign henv rfl) ?_
  clear henv a; intro a henv
  refine wpList_nil ?_
  refine th_n ?_
  refine wp_seq ?_
  refine region_seq ?_
  refine sv (v := .agg #[.string ⟨s2.toArray⟩, .string ⟨t2.toArray⟩]) henv rfl (rn_load0 henv ty_anvil_anvillaw03_Frac rfl (hst.oat (k := 5) rfl) rfl) ?_
  clear henv a; intro a henv
  refine seq_step rfl (op_call henv rfl Tryd.call87 rfl (f2 _) ?_)
  rintro e w29 ⟨_, rfl, ⟨A23, c24, B25, d26, rfl, hz27, hz28⟩, hb⟩
  refine ⟨_, rfl, ?_⟩
  clear henv a; intro a henv
  replace hst := ((hst.call hb).addZ hz27 ⟨nou_bk rfl, nou_bk rfl, nou_bk rfl, nou_bk rfl, nou_bk rfl, nou_bk rfl, nou_bk rfl, trivial⟩).addZ hz28 ⟨nou_bk rfl, nou_bk rfl, nou_bk rfl, nou_bk rfl, nou_bk rfl, nou_bk rfl, nou_bk rfl, trivial⟩
  clear hz27 hz28
  clear hb
  revert a
  refine mA rfl rfl ?_
  refine sA (v := .agg #[.bool (neg (qn y)), .slice A23 (zl (qn y)) c24, .bool (neg (ql y)), .slice B25 (zl (ql y)) d26]) rfl (fun _ henv => rn_extract henv rfl rfl) ?_
  refine sA (v := .bool true) rfl (fun _ henv => rn_extract henv rfl rfl) ?_
  intro a henv
  refine seq_step rfl (op_alloc (c := #[.bool (neg (qn 0)), .slice none (zl (qn 0)) 0, .bool (neg (ql 0)), .slice none (zl (ql 0)) 0]) henv hst rfl zero_anvil_ratio_Rat qcells ?_)
  clear henv hst a; intro a w31 g30 henv hst
  refine seq_step rfl (op_store (k := 0) (c' := #[.bool (neg (qn y)), .slice A23 (zl (qn y)) c24, .bool (neg (ql y)), .slice B25 (zl (ql y)) d26]) henv hst (ty_anvil_ratio_Rat.size) rfl rfl rfl rfl (by simp) rfl rfl ?_)
  clear henv hst a; intro a w32 henv hst
  refine sv (v := .bool true) henv rfl (rn_assign henv rfl) ?_
  clear henv a; intro a henv
  refine wpList_nil ?_
  refine th_n ?_
  refine wp_seq ?_
  refine region_seq ?_
  refine sv (v := .agg #[.string ⟨s3.toArray⟩, .string ⟨t3.toArray⟩]) henv rfl (rn_load0 henv ty_anvil_anvillaw03_Frac rfl (hst.oat (k := 5) rfl) rfl) ?_
  clear henv a; intro a henv
  refine seq_step rfl (op_call henv rfl Tryd.call87 rfl (f3 _) ?_)
  rintro e w39 ⟨_, rfl, ⟨A33, c34, B35, d36, rfl, hz37, hz38⟩, hb⟩
  refine ⟨_, rfl, ?_⟩
  clear henv a; intro a henv
  replace hst := ((hst.call hb).addZ hz37 ⟨nou_bk rfl, nou_bk rfl, nou_bk rfl, nou_bk rfl, nou_bk rfl, nou_bk rfl, nou_bk rfl, nou_bk rfl, trivial⟩).addZ hz38 ⟨nou_bk rfl, nou_bk rfl, nou_bk rfl, nou_bk rfl, nou_bk rfl, nou_bk rfl, nou_bk rfl, nou_bk rfl, trivial⟩
  clear hz37 hz38
  clear hb
  revert a
  refine mA rfl rfl ?_
  refine sA (v := .agg #[.bool (neg (qn z)), .slice A33 (zl (qn z)) c34, .bool (neg (ql z)), .slice B35 (zl (ql z)) d36]) rfl (fun _ henv => rn_extract henv rfl rfl) ?_
  refine sA (v := .bool false) rfl (fun _ henv => rn_extract henv rfl rfl) ?_
  intro a henv
  refine seq_step rfl (op_alloc (c := #[.bool (neg (qn 0)), .slice none (zl (qn 0)) 0, .bool (neg (ql 0)), .slice none (zl (ql 0)) 0]) henv hst rfl zero_anvil_ratio_Rat qcells ?_)
  clear henv hst a; intro a w41 g40 henv hst
  refine seq_step rfl (op_store (k := 0) (c' := #[.bool (neg (qn z)), .slice A33 (zl (qn z)) c34, .bool (neg (ql z)), .slice B35 (zl (ql z)) d36]) henv hst (ty_anvil_ratio_Rat.size) rfl rfl rfl rfl (by simp) rfl rfl ?_)
  clear henv hst a; intro a w42 henv hst
  refine sv (v := .bool false) henv rfl (rn_assign henv rfl) ?_
  clear henv a; intro a henv
  refine wpList_nil ?_
  refine th_n ?_
  refine wp_seq ?_
  refine region_any (n := 22) (Sk [bk g40 #[.bool (neg (qn z)), .slice A33 (zl (qn z)) c34, .bool (neg (ql z)), .slice B35 (zl (ql z)) d36] 91, bk g30 #[.bool (neg (qn y)), .slice A23 (zl (qn y)) c24, .bool (neg (ql y)), .slice B25 (zl (ql y)) d26] 91, bk g20 #[.bool (neg (qn x)), .slice A13 (zl (qn x)) c14, .bool (neg (ql x)), .slice B15 (zl (ql x)) d16] 91, bk g5 #[.string ⟨s3.toArray⟩, .string ⟨t3.toArray⟩] 89, bk g3 #[.string ⟨s2.toArray⟩, .string ⟨t2.toArray⟩] 89, bk g1 #[.string ⟨s1.toArray⟩, .string ⟨t1.toArray⟩] 89] [pfZ B35 d36 (ql z), pfZ A33 c34 (qn z), pfZ B25 d26 (ql y), pfZ A23 c24 (qn y), pfZ B15 d16 (ql x), pfZ A13 c14 (qn x)] [18, 19, 20] []) mixed rfl henv hst ?_
  clear henv hst; intro w43 henv hst
  refine tL (i := 0) 2 2 (rg 18 4) rfl (by kernel_rfl) (fun _ _ _ h => h) henv rfl ty_anvil_ratio_Rat rfl hst rfl rfl rfl ?_
  clear henv a; intro a henv
  refine tL (i := 1) 1 1 [19, 20, 21] rfl (by kernel_rfl) (fun _ _ _ h => h) henv rfl ty_anvil_ratio_Rat rfl hst rfl rfl rfl ?_
  clear henv a; intro a henv
  refine tL (i := 2) 0 0 [20, 21] rfl (by kernel_rfl) (fun _ _ _ h => h) henv rfl ty_anvil_ratio_Rat rfl hst rfl rfl rfl ?_
  clear henv a; intro a henv
  refine tM (i := 3) (rg 4 18) rfl (by kernel_rfl) (fun _ _ _ h => h) henv rfl rfl ?_
  clear henv a; intro a henv
  refine tM (i := 4) (rg 5 17) rfl (by kernel_rfl) (fun _ _ _ h => h) henv rfl rfl ?_
  clear henv a; intro a henv
  refine tAg (i := 5) (rg 6 16) (v := .bool true) rfl (by kernel_rfl) (fun _ _ _ h => h) henv rfl rfl rfl rfl (fun _ => rn_move henv rfl) ?_
  clear henv a; intro a henv
  refine tA (i := 6) (rg 7 15) (v := .bool true) rfl (by kernel_rfl) (fun _ _ _ h => h) henv rfl (fun _ => rn_pick henv rfl rfl) ?_
  clear henv a; intro a henv
  refine tM (i := 7) (rg 8 14) rfl (by kernel_rfl) (fun _ _ _ h => h) henv rfl rfl ?_
  clear henv a; intro a henv
  refine tAg (i := 8) (rg 9 13) (v := .bool false) rfl (by kernel_rfl) (fun _ _ _ h => h) henv rfl rfl rfl rfl (fun _ => rn_move henv rfl) ?_
  clear henv a; intro a henv
  refine tA (i := 9) (rg 10 12) (v := .bool false) rfl (by kernel_rfl) (fun _ _ _ h => h) henv rfl (fun _ => rn_pick henv rfl rfl) ?_
  clear henv a; intro a henv
  refine tM (i := 10) (rg 11 11) rfl (by kernel_rfl) (fun _ _ _ h => h) henv rfl rfl ?_
  clear henv a; intro a henv
  refine sAny_skipg (i := 11) [14, 15, 16, 17, 18, 19, 20, 21] rfl (by kernel_rfl) (fun _ _ _ h => h) henv rfl rfl rfl rfl rfl ?_
  clear henv a; intro a henv
  refine sAny_skipg (i := 12) [14, 15, 16, 17, 18, 19, 20, 21] rfl (by kernel_rfl) (fun _ _ _ h => h) henv rfl rfl rfl rfl rfl ?_
  clear henv a; intro a henv
  refine sAny_skipg (i := 13) [14, 15, 16, 17, 18, 19, 20, 21] rfl (by kernel_rfl) (fun _ _ _ h => h) henv rfl rfl rfl rfl rfl ?_
  clear henv a; intro a henv
  refine sAny_skipg (i := 14) [15, 16, 17, 18, 19, 20, 21] rfl (by kernel_rfl) (fun _ _ _ h => h) henv rfl rfl rfl rfl rfl ?_
  clear henv a; intro a henv
  refine sAny_skipg (i := 15) [16, 17, 18, 19, 20, 21] rfl (by kernel_rfl) (fun _ _ _ h => h) henv rfl rfl rfl rfl rfl ?_
  clear henv a; intro a henv
  refine sAny_skipg (i := 16) [17, 21] rfl (by kernel_rfl) (fun _ _ _ h => h) henv rfl rfl rfl rfl rfl ?_
  clear henv a; intro a henv
  refine tA (i := 17) [21] (v := .bool false) rfl (by kernel_rfl) (fun _ _ _ h => h) henv rfl (fun _ => rn_pick henv rfl rfl) ?_
  clear henv a; intro a henv
  refine sAny_one (i := 18) (by kernel_rfl) rfl rfl (op_store (k := 5) (c' := #[.bool (neg (qn x)), .slice A13 (zl (qn x)) c14, .bool (neg (ql x)), .slice B15 (zl (ql x)) d16]) henv hst (ty_anvil_ratio_Rat.size) rfl rfl rfl rfl (by simp) rfl rfl ?_)
  clear henv hst a; intro a w44 henv hst
  refine ⟨.inr ⟨hst.kn.pick [0, 1, 2, 6, 7, 8] (rg 0 6), .inl rfl⟩, ?_⟩
  refine sAny_one (i := 19) (by kernel_rfl) rfl rfl (op_store (k := 4) (c' := #[.bool (neg (qn y)), .slice A23 (zl (qn y)) c24, .bool (neg (ql y)), .slice B25 (zl (ql y)) d26]) henv hst (ty_anvil_ratio_Rat.size) rfl rfl rfl rfl (by simp) rfl rfl ?_)
  clear henv hst a; intro a w45 henv hst
  refine ⟨.inr ⟨hst.kn.pick [0, 1, 2, 6, 7, 8] (rg 0 6), .inl rfl⟩, ?_⟩
  refine sAny_one (i := 20) (by kernel_rfl) rfl rfl (op_store (k := 3) (c' := #[.bool (neg (qn z)), .slice A33 (zl (qn z)) c34, .bool (neg (ql z)), .slice B35 (zl (ql z)) d36]) henv hst (ty_anvil_ratio_Rat.size) rfl rfl rfl rfl (by simp) rfl rfl ?_)
  clear henv hst a; intro a w46 henv hst
  refine ⟨.inr ⟨hst.kn.pick [0, 1, 2, 6, 7, 8] (rg 0 6), .inl rfl⟩, ?_⟩
  refine tA (i := 21) [] (v := .bool false) rfl (by kernel_rfl) (fun _ _ _ h => h) henv rfl (fun _ => rn_assign henv rfl) ?_
  clear henv a; intro a henv
  refine sAny_done (by kernel_rfl) ?_ _
  refine th_n ?_
  refine wp_ret ?_
  refine leave henv (res4 Tryd.results56 (RV.cell henv ty_anvil_ratio_Rat rfl (hst.oat (k := 5) rfl) rfl) (RV.cell henv ty_anvil_ratio_Rat rfl (hst.oat (k := 4) rfl) rfl) (RV.cell henv ty_anvil_ratio_Rat rfl (hst.oat (k := 3) rfl) rfl) (RV.tmp henv rfl)) ?_
  exact ⟨_, _, _, rfl, q_at rfl rfl (hst.pat (k := 5) rfl) (hst.pat (k := 4) rfl), q_at rfl rfl (hst.pat (k := 3) rfl) (hst.pat (k := 2) rfl), q_at rfl rfl (hst.pat (k := 1) rfl) (hst.pat (k := 0) rfl), hst.below⟩
set_option maxRecDepth 100000 in
set_option maxHeartbeats 4000000 in
theorem three_lg {s1 t1 s2 t2 s3 t3 : List UInt8} {x y z : Rat} {w0 : World} (f1 : AlAs s1 t1 x true) (f2 : AlAs s2 t2 y true) (f3 : AlAs s3 t3 z true) (hl : Lg (s1, t1) ∨ Lg (s2, t2) ∨ Lg (s3, t3)) :
    Calls Tryd.prog 56 #[.agg #[.string ⟨s1.toArray⟩, .string ⟨t1.toArray⟩], .agg #[.string ⟨s2.toArray⟩, .string ⟨t2.toArray⟩], .agg #[.string ⟨s3.toArray⟩, .string ⟨t3.toArray⟩]] w0 fun e w' => ∃ v1 v2 v3, e = .returned (.tuple #[v1, v2, v3, .bool false]) ∧ QAt w' v1 x ∧ QAt w' v2 y ∧ QAt w' v3 z ∧ Below w0.heap.size w0 w' := by
  refine enter Tryd.func56 rfl Tryd.ntmps56 rfl ?_
  intro a henv hst
  refine wp_seq ?_
  refine region_seq ?_
  refine seq_step rfl (op_box (c := #[.string ⟨s1.toArray⟩, .string ⟨t1.toArray⟩]) henv hst rfl rfl rfl ?_)
  clear henv hst a; intro a w2 g1 henv hst
  refine seq_step rfl (op_box (c := #[.string ⟨s2.toArray⟩, .string ⟨t2.toArray⟩]) henv hst rfl rfl rfl ?_)
  clear henv hst a; intro a w4 g3 henv hst
  refine seq_step rfl (op_box (c := #[.string ⟨s3.toArray⟩, .string ⟨t3.toArray⟩]) henv hst rfl rfl rfl ?_)
  clear henv hst a; intro a w6 g5 henv hst
  refine seq_step rfl (op_alloc (c := #[.bool (neg (qn 0)), .slice none (zl (qn 0)) 0, .bool (neg (ql 0)), .slice none (zl (ql 0)) 0]) henv hst rfl zero_anvil_ratio_Rat qcells ?_)
  clear henv hst a; intro a w8 g7 henv hst
  refine seq_step rfl (op_alloc (c := #[.bool (neg (qn 0)), .slice none (zl (qn 0)) 0, .bool (neg (ql 0)), .slice none (zl (ql 0)) 0]) henv hst rfl zero_anvil_ratio_Rat qcells ?_)
  clear henv hst a; intro a w10 g9 henv hst
  refine seq_step rfl (op_alloc (c := #[.bool (neg (qn 0)), .slice none (zl (qn 0)) 0, .bool (neg (ql 0)), .slice none (zl (ql 0)) 0]) henv hst rfl zero_anvil_ratio_Rat qcells ?_)
  clear henv hst a; intro a w12 g11 henv hst
  refine sv (v := .bool false) henv rfl (rn_assign henv rfl) ?_
  clear henv a; intro a henv
  refine wpList_nil ?_
  refine th_n ?_
  refine wp_seq ?_
  refine region_seq ?_
  refine sv (v := .agg #[.string ⟨s1.toArray⟩, .string ⟨t1.toArray⟩]) henv rfl (rn_load0 henv ty_anvil_anvillaw03_Frac rfl (hst.oat (k := 5) rfl) rfl) ?_
  clear henv a; intro a henv
  refine seq_step rfl (op_call henv rfl Tryd.call87 rfl (f1 _) ?_)
  rintro e w19 ⟨_, rfl, ⟨A13, c14, B15, d16, rfl, hz17, hz18⟩, hb⟩
  refine ⟨_, rfl, ?_⟩
  clear henv a; intro a henv
  replace hst := ((hst.call hb).addZ hz17 ⟨nou_bk rfl, nou_bk rfl, nou_bk rfl, nou_bk rfl, nou_bk rfl, nou_bk rfl, trivial⟩).addZ hz18 ⟨nou_bk rfl, nou_bk rfl, nou_bk rfl, nou_bk rfl, nou_bk rfl, nou_bk rfl, trivial⟩
  clear hz17 hz18
  clear hb
  revert a
  refine mA rfl rfl ?_
  refine sA (v := .agg #[.bool (neg (qn x)), .slice A13 (zl (qn x)) c14, .bool (neg (ql x)), .slice B15 (zl (ql x)) d16]) rfl (fun _ henv => rn_extract henv rfl rfl) ?_
  refine sA (v := .bool true) rfl (fun _ henv => rn_extract henv rfl rfl) ?_
  intro a henv
  refine seq_step rfl (op_alloc (c := #[.bool (neg (qn 0)), .slice none (zl (qn 0)) 0, .bool (neg (ql 0)), .slice none (zl (ql 0)) 0]) henv hst rfl zero_anvil_ratio_Rat qcells ?_)
  clear henv hst a; intro a w21 g20 henv hst
  refine seq_step rfl (op_store (k := 0) (c' := #[.bool (neg (qn x)), .slice A13 (zl (qn x)) c14, .bool (neg (ql x)), .slice B15 (zl (ql x)) d16]) henv hst (ty_anvil_ratio_Rat.size) rfl rfl rfl rfl (by simp) rfl rfl ?_)
  clear henv hst a; intro a w22 henv hst
  refine sv (v := .bool true) henv rfl (rn_assign henv rfl) ?_
  clear henv a; intro a henv
  refine wpList_nil ?_
  refine th_n ?_
  refine wp_seq ?_
  refine region_seq ?_
  refine sv (v := .agg #[.string ⟨s2.toArray⟩, .string ⟨t2.toArray⟩]) henv rfl (rn_load0 henv ty_anvil_anvillaw03_Frac rfl (hst.oat (k := 5) rfl) rfl) ?_
  clear henv a; intro a henv
  refine seq_step rfl (op_call henv rfl Tryd.call87 rfl (f2 _) ?_)
  rintro e w29 ⟨_, rfl, ⟨A23, c24, B25, d26, rfl, hz27, hz28⟩, hb⟩
  refine ⟨_, rfl, ?_⟩
  clear henv a; intro a henv
  replace hst := ((hst.call hb).addZ hz27 ⟨nou_bk rfl, nou_bk rfl, nou_bk rfl, nou_bk rfl, nou_bk rfl, nou_bk rfl, nou_bk rfl, trivial⟩).addZ hz28 ⟨nou_bk rfl, nou_bk rfl, nou_bk rfl, nou_bk rfl, nou_bk rfl, nou_bk rfl, nou_bk rfl, trivial⟩
  clear hz27 hz28
  clear hb
  revert a
  refine mA rfl rfl ?_
  refine sA (v := .agg #[.bool (neg (qn y)), .slice A23 (zl (qn y)) c24, .bool (neg (ql y)), .slice B25 (zl (ql y)) d26]) rfl (fun _ henv => rn_extract henv rfl rfl) ?_
  refine sA (v := .bool true) rfl (fun _ henv => rn_extract henv rfl rfl) ?_
  intro a henv
  refine seq_step rfl (op_alloc (c := #[.bool (neg (qn 0)), .slice none (zl (qn 0)) 0, .bool (neg (ql 0)), .slice none (zl (ql 0)) 0]) henv hst rfl zero_anvil_ratio_Rat qcells ?_)
  clear henv hst a; intro a w31 g30 henv hst
  refine seq_step rfl (op_store (k := 0) (c' := #[.bool (neg (qn y)), .slice A23 (zl (qn y)) c24, .bool (neg (ql y)), .slice B25 (zl (ql y)) d26]) henv hst (ty_anvil_ratio_Rat.size) rfl rfl rfl rfl (by simp) rfl rfl ?_)
  clear henv hst a; intro a w32 henv hst
  refine sv (v := .bool true) henv rfl (rn_assign henv rfl) ?_
  clear henv a; intro a henv
  refine wpList_nil ?_
  refine th_n ?_
  refine wp_seq ?_
  refine region_seq ?_
  refine sv (v := .agg #[.string ⟨s3.toArray⟩, .string ⟨t3.toArray⟩]) henv rfl (rn_load0 henv ty_anvil_anvillaw03_Frac rfl (hst.oat (k := 5) rfl) rfl) ?_
  clear henv a; intro a henv
  refine seq_step rfl (op_call henv rfl Tryd.call87 rfl (f3 _) ?_)
  rintro e w39 ⟨_, rfl, ⟨A33, c34, B35, d36, rfl, hz37, hz38⟩, hb⟩
  refine ⟨_, rfl, ?_⟩
  clear henv a; intro a henv
  replace hst := ((hst.call hb).addZ hz37 ⟨nou_bk rfl, nou_bk rfl, nou_bk rfl, nou_bk rfl, nou_bk rfl, nou_bk rfl, nou_bk rfl, nou_bk rfl, trivial⟩).addZ hz38 ⟨nou_bk rfl, nou_bk rfl, nou_bk rfl, nou_bk rfl, nou_bk rfl, nou_bk rfl, nou_bk rfl, nou_bk rfl, trivial⟩
  clear hz37 hz38
  clear hb
  revert a
  refine mA rfl rfl ?_
  refine sA (v := .agg #[.bool (neg (qn z)), .slice A33 (zl (qn z)) c34, .bool (neg (ql z)), .slice B35 (zl (ql z)) d36]) rfl (fun _ henv => rn_extract henv rfl rfl) ?_
  refine sA (v := .bool true) rfl (fun _ henv => rn_extract henv rfl rfl) ?_
  intro a henv
  refine seq_step rfl (op_alloc (c := #[.bool (neg (qn 0)), .slice none (zl (qn 0)) 0, .bool (neg (ql 0)), .slice none (zl (ql 0)) 0]) henv hst rfl zero_anvil_ratio_Rat qcells ?_)
  clear henv hst a; intro a w41 g40 henv hst
  refine seq_step rfl (op_store (k := 0) (c' := #[.bool (neg (qn z)), .slice A33 (zl (qn z)) c34, .bool (neg (ql z)), .slice B35 (zl (ql z)) d36]) henv hst (ty_anvil_ratio_Rat.size) rfl rfl rfl rfl (by simp) rfl rfl ?_)
  clear henv hst a; intro a w42 henv hst
  refine sv (v := .bool true) henv rfl (rn_assign henv rfl) ?_
  clear henv a; intro a henv
  refine wpList_nil ?_
  refine th_n ?_
  refine wp_seq ?_
  refine region_any (n := 22) (Sk [bk g40 #[.bool (neg (qn z)), .slice A33 (zl (qn z)) c34, .bool (neg (ql z)), .slice B35 (zl (ql z)) d36] 91, bk g30 #[.bool (neg (qn y)), .slice A23 (zl (qn y)) c24, .bool (neg (ql y)), .slice B25 (zl (ql y)) d26] 91, bk g20 #[.bool (neg (qn x)), .slice A13 (zl (qn x)) c14, .bool (neg (ql x)), .slice B15 (zl (ql x)) d16] 91, bk g5 #[.string ⟨s3.toArray⟩, .string ⟨t3.toArray⟩] 89, bk g3 #[.string ⟨s2.toArray⟩, .string ⟨t2.toArray⟩] 89, bk g1 #[.string ⟨s1.toArray⟩, .string ⟨t1.toArray⟩] 89] [pfZ B35 d36 (ql z), pfZ A33 c34 (qn z), pfZ B25 d26 (ql y), pfZ A23 c24 (qn y), pfZ B15 d16 (ql x), pfZ A13 c14 (qn x)] [18, 19, 20] []) mixed rfl henv hst ?_
  clear henv hst; intro w43 henv hst
  refine tL (i := 0) 2 2 (rg 18 4) rfl (by kernel_rfl) (fun _ _ _ h => h) henv rfl ty_anvil_ratio_Rat rfl hst rfl rfl rfl ?_
  clear henv a; intro a henv
  refine tL (i := 1) 1 1 [19, 20, 21] rfl (by kernel_rfl) (fun _ _ _ h => h) henv rfl ty_anvil_ratio_Rat rfl hst rfl rfl rfl ?_
  clear henv a; intro a henv
  refine tL (i := 2) 0 0 [20, 21] rfl (by kernel_rfl) (fun _ _ _ h => h) henv rfl ty_anvil_ratio_Rat rfl hst rfl rfl rfl ?_
  clear henv a; intro a henv
  refine tM (i := 3) (rg 4 18) rfl (by kernel_rfl) (fun _ _ _ h => h) henv rfl rfl ?_
  clear henv a; intro a henv
  refine tM (i := 4) (rg 5 17) rfl (by kernel_rfl) (fun _ _ _ h => h) henv rfl rfl ?_
  clear henv a; intro a henv
  refine tAg (i := 5) (rg 6 16) (v := .bool true) rfl (by kernel_rfl) (fun _ _ _ h => h) henv rfl rfl rfl rfl (fun _ => rn_move henv rfl) ?_
  clear henv a; intro a henv
  refine tA (i := 6) (rg 7 15) (v := .bool true) rfl (by kernel_rfl) (fun _ _ _ h => h) henv rfl (fun _ => rn_pick henv rfl rfl) ?_
  clear henv a; intro a henv
  refine tM (i := 7) (rg 8 14) rfl (by kernel_rfl) (fun _ _ _ h => h) henv rfl rfl ?_
  clear henv a; intro a henv
  refine tAg (i := 8) (rg 9 13) (v := .bool true) rfl (by kernel_rfl) (fun _ _ _ h => h) henv rfl rfl rfl rfl (fun _ => rn_move henv rfl) ?_
  clear henv a; intro a henv
  refine tA (i := 9) (rg 10 12) (v := .bool true) rfl (by kernel_rfl) (fun _ _ _ h => h) henv rfl (fun _ => rn_pick henv rfl rfl) ?_
  clear henv a; intro a henv
  refine tM (i := 10) (rg 11 11) rfl (by kernel_rfl) (fun _ _ _ h => h) henv rfl rfl ?_
  clear henv a; intro a henv
  refine tLg (i := 11) 5 8 (rg 14 8) rfl (by kernel_rfl) (fun _ _ _ h => h) henv rfl rfl rfl rfl ty_anvil_anvillaw03_Frac rfl hst rfl rfl rfl ?_
  clear henv a; intro a henv
  refine tLg (i := 12) 4 7 (rg 14 8) rfl (by kernel_rfl) (fun _ _ _ h => h) henv rfl rfl rfl rfl ty_anvil_anvillaw03_Frac rfl hst rfl rfl rfl ?_
  clear henv a; intro a henv
  refine tLg (i := 13) 3 6 (rg 14 8) rfl (by kernel_rfl) (fun _ _ _ h => h) henv rfl rfl rfl rfl ty_anvil_anvillaw03_Frac rfl hst rfl rfl rfl ?_
  clear henv a; intro a henv
  refine sAny_oneg (i := 14) (by kernel_rfl) rfl rfl henv rfl rfl rfl (op_buildSlice (z := 2) (pv := #[(0, .agg #[.string ⟨s1.toArray⟩, .string ⟨t1.toArray⟩]), (1, .agg #[.string ⟨s2.toArray⟩, .string ⟨t2.toArray⟩]), (2, .agg #[.string ⟨s3.toArray⟩, .string ⟨t3.toArray⟩])]) (c := #[.string ⟨s1.toArray⟩, .string ⟨t1.toArray⟩, .string ⟨s2.toArray⟩, .string ⟨t2.toArray⟩, .string ⟨s3.toArray⟩, .string ⟨t3.toArray⟩]) henv hst rfl Tryd.underlying103 (ty_anvil_anvillaw03_Frac.size) zero_anvil_anvillaw03_Frac (by decide) (by decide) rfl (by kernel_rfl) ?_)
  clear henv hst a; intro a w45 g44 henv hst
  refine ⟨.inr ⟨hst.kn.pick [1, 2, 3, 7, 8, 9] (rg 0 6), .inr (hst.kn.pick [] [])⟩, ?_⟩
  replace hst := hst.giveBk (f := fF) (F := FF) (k := 0) (n := 3) (es := [(s1, t1), (s2, t2), (s3, t3)]) rfl rfl fF_len rfl (by decide) (esT_P (fun _ => rfl) _ _) (fun _ _ _ _ => esT_foot (fun _ => rfl))
  refine sAny_oneg (i := 15) (by kernel_rfl) rfl rfl henv rfl rfl rfl (op_call henv rfl Tryd.call68 rfl (qlong_yes (hst.pat (k := 0) rfl) (by rcases hl with hl | hl | hl; exact ⟨_, List.mem_cons_self .., hl⟩; exact ⟨_, List.mem_cons_of_mem _ (List.mem_cons_self ..), hl⟩; exact ⟨_, List.mem_cons_of_mem _ (List.mem_cons_of_mem _ (List.mem_cons_self ..)), hl⟩)) ?_)
  rintro e w46 ⟨rfl, hb⟩
  refine ⟨_, rfl, ?_⟩
  clear henv a; intro a henv
  replace hst := hst.call hb
  clear hb
  refine ⟨.inr ⟨hst.kn.pick [0, 1, 2, 6, 7, 8] (rg 2 6), .inr (hst.kn.pick [] [])⟩, ?_⟩
  refine tAg (i := 16) [17, 21] (v := .bool false) rfl (by kernel_rfl) (fun _ _ _ h => h) henv rfl rfl rfl rfl (fun _ => rn_un henv rfl rfl) ?_
  clear henv a; intro a henv
  refine tA (i := 17) [21] (v := .bool false) rfl (by kernel_rfl) (fun _ _ _ h => h) henv rfl (fun _ => rn_pick henv rfl rfl) ?_
  clear henv a; intro a henv
  refine sAny_one (i := 18) (by kernel_rfl) rfl rfl (op_store (k := 5) (c' := #[.bool (neg (qn x)), .slice A13 (zl (qn x)) c14, .bool (neg (ql x)), .slice B15 (zl (ql x)) d16]) henv hst (ty_anvil_ratio_Rat.size) rfl rfl rfl rfl (by simp) rfl rfl ?_)
  clear henv hst a; intro a w47 henv hst
  refine ⟨.inr ⟨hst.kn.pick [0, 1, 2, 6, 7, 8] (rg 2 6), .inl rfl⟩, ?_⟩
  refine sAny_one (i := 19) (by kernel_rfl) rfl rfl (op_store (k := 4) (c' := #[.bool (neg (qn y)), .slice A23 (zl (qn y)) c24, .bool (neg (ql y)), .slice B25 (zl (ql y)) d26]) henv hst (ty_anvil_ratio_Rat.size) rfl rfl rfl rfl (by simp) rfl rfl ?_)
  clear henv hst a; intro a w48 henv hst
  refine ⟨.inr ⟨hst.kn.pick [0, 1, 2, 6, 7, 8] (rg 2 6), .inl rfl⟩, ?_⟩
  refine sAny_one (i := 20) (by kernel_rfl) rfl rfl (op_store (k := 3) (c' := #[.bool (neg (qn z)), .slice A33 (zl (qn z)) c34, .bool (neg (ql z)), .slice B35 (zl (ql z)) d36]) henv hst (ty_anvil_ratio_Rat.size) rfl rfl rfl rfl (by simp) rfl rfl ?_)
  clear henv hst a; intro a w49 henv hst
  refine ⟨.inr ⟨hst.kn.pick [0, 1, 2, 6, 7, 8] (rg 2 6), .inl rfl⟩, ?_⟩
  refine tA (i := 21) [] (v := .bool false) rfl (by kernel_rfl) (fun _ _ _ h => h) henv rfl (fun _ => rn_assign henv rfl) ?_
  clear henv a; intro a henv
  refine sAny_done (by kernel_rfl) ?_ _
  refine th_n ?_
  refine wp_ret ?_
  refine leave henv (res4 Tryd.results56 (RV.cell henv ty_anvil_ratio_Rat rfl (hst.oat (k := 5) rfl) rfl) (RV.cell henv ty_anvil_ratio_Rat rfl (hst.oat (k := 4) rfl) rfl) (RV.cell henv ty_anvil_ratio_Rat rfl (hst.oat (k := 3) rfl) rfl) (RV.tmp henv rfl)) ?_
  exact ⟨_, _, _, rfl, q_at rfl rfl (hst.pat (k := 7) rfl) (hst.pat (k := 6) rfl), q_at rfl rfl (hst.pat (k := 5) rfl) (hst.pat (k := 4) rfl), q_at rfl rfl (hst.pat (k := 3) rfl) (hst.pat (k := 2) rfl), hst.below⟩
set_option maxRecDepth 100000 in
set_option maxHeartbeats 4000000 in
theorem three_ok {s1 t1 s2 t2 s3 t3 : List UInt8} {x y z : Rat} {w0 : World} (f1 : AlAs s1 t1 x true) (f2 : AlAs s2 t2 y true) (f3 : AlAs s3 t3 z true) (l1 : ¬ Lg (s1, t1)) (l2 : ¬ Lg (s2, t2)) (l3 : ¬ Lg (s3, t3)) :
    Calls Tryd.prog 56 #[.agg #[.string ⟨s1.toArray⟩, .string ⟨t1.toArray⟩], .agg #[.string ⟨s2.toArray⟩, .string ⟨t2.toArray⟩], .agg #[.string ⟨s3.toArray⟩, .string ⟨t3.toArray⟩]] w0 fun e w' => ∃ v1 v2 v3, e = .returned (.tuple #[v1, v2, v3, .bool true]) ∧ QAt w' v1 x ∧ QAt w' v2 y ∧ QAt w' v3 z ∧ Below w0.heap.size w0 w' := by
  refine enter Tryd.func56 rfl Tryd.ntmps56 rfl ?_
  intro a henv hst
  refine wp_seq ?_
  refine region_seq ?_
  refine seq_step rfl (op_box (c := #[.string ⟨s1.toArray⟩, .string ⟨t1.toArray⟩]) henv hst rfl rfl rfl ?_)
  clear henv hst a; intro a w2 g1 henv hst
  refine seq_step rfl (op_box (c := #[.string ⟨s2.toArray⟩, .string ⟨t2.toArray⟩]) henv hst rfl rfl rfl ?_)
  clear henv hst a; intro a w4 g3 henv hst
  refine seq_step rfl (op_box (c := #[.string ⟨s3.toArray⟩, .string ⟨t3.toArray⟩]) henv hst rfl rfl rfl ?_)
  clear henv hst a; intro a w6 g5 henv hst
  refine seq_step rfl (op_alloc (c := #[.bool (neg (qn 0)), .slice none (zl (qn 0)) 0, .bool (neg (ql 0)), .slice none (zl (ql 0)) 0]) henv hst rfl zero_anvil_ratio_Rat qcells ?_)
  clear henv hst a; intro a w8 g7 henv hst
  refine seq_step rfl (op_alloc (c := #[.bool (neg (qn 0)), .slice none (zl (qn 0)) 0, .bool (neg (ql 0)), .slice none (zl (ql 0)) 0]) henv hst rfl zero_anvil_ratio_Rat qcells ?_)
  clear henv hst a; intro a w10 g9 henv hst
  refine seq_step rfl (op_alloc (c := #[.bool (neg (qn 0)), .slice none (zl (qn 0)) 0, .bool (neg (ql 0)), .slice none (zl (ql 0)) 0]) henv hst rfl zero_anvil_ratio_Rat qcells ?_)
  clear henv hst a; intro a w12 g11 henv hst
  refine sv (v := .bool false) henv rfl (rn_assign henv rfl) ?_
  clear henv a; intro a henv
  refine wpList_nil ?_
  refine th_n ?_
  refine wp_seq ?_
  refine region_seq ?_
  refine sv (v := .agg #[.string ⟨s1.toArray⟩, .string ⟨t1.toArray⟩]) henv rfl (rn_load0 henv ty_anvil_anvillaw03_Frac rfl (hst.oat (k := 5) rfl) rfl) ?_
  clear henv a; intro a henv
  refine seq_step rfl (op_call henv rfl Tryd.call87 rfl (f1 _) ?_)
  rintro e w19 ⟨_, rfl, ⟨A13, c14, B15, d16, rfl, hz17, hz18⟩, hb⟩
  refine ⟨_, rfl, ?_⟩
  clear henv a; intro a henv
  replace hst := ((hst.call hb).addZ hz17 ⟨nou_bk rfl, nou_bk rfl, nou_bk rfl, nou_bk rfl, nou_bk rfl, nou_bk rfl, trivial⟩).addZ hz18 ⟨nou_bk rfl, nou_bk rfl, nou_bk rfl, nou_bk rfl, nou_bk rfl, nou_bk rfl, trivial⟩
  clear hz17 hz18
  clear hb
  revert a
  refine mA rfl rfl ?_
  refine sA (v := .agg #[.bool (neg (qn x)), .slice A13 (zl (qn x)) c14, .bool (neg (ql x)), .slice B15 (zl (ql x)) d16]) rfl (fun _ henv => rn_extract henv rfl rfl) ?_
  refine sA (v := .bool true) rfl (fun _ henv => rn_extract henv rfl rfl) ?_
  intro a henv
  refine seq_step rfl (op_alloc (c := #[.bool (neg (qn 0)), .slice none (zl (qn 0)) 0, .bool (neg (ql 0)), .slice none (zl (ql 0)) 0]) henv hst rfl zero_anvil_ratio_Rat qcells ?_)
  clear henv hst a; intro a w21 g20 henv hst
  refine seq_step rfl (op_store (k := 0) (c' := #[.bool (neg (qn x)), .slice A13 (zl (qn x)) c14, .bool (neg (ql x)), .slice B15 (zl (ql x)) d16]) henv hst (ty_anvil_ratio_Rat.size) rfl rfl rfl rfl (by simp) rfl rfl ?_)
  clear henv hst a; intro a w22 henv hst
  refine sv (v := .bool true) henv rfl (rn_assign henv rfl) ?_
  clear henv a; intro a henv
  refine wpList_nil ?_
  refine th_n ?_
  refine wp_seq ?_
  refine region_seq ?_
  refine sv (v := .agg #[.string ⟨s2.toArray⟩, .string ⟨t2.toArray⟩]) henv rfl (rn_load0 henv ty_anvil_anvillaw03_Frac rfl (hst.oat (k := 5) rfl) rfl) ?_
  clear henv a; intro a henv
  refine seq_step rfl (op_call henv rfl Tryd.call87 rfl (f2 _) ?_)
  rintro e w29 ⟨_, rfl, ⟨A23, c24, B25, d26, rfl, hz27, hz28⟩, hb⟩
  refine ⟨_, rfl, ?_⟩
  clear henv a; intro a henv
  replace hst := ((hst.call hb).addZ hz27 ⟨nou_bk rfl, nou_bk rfl, nou_bk rfl, nou_bk rfl, nou_bk rfl, nou_bk rfl, nou_bk rfl, trivial⟩).addZ hz28 ⟨nou_bk rfl, nou_bk rfl, nou_bk rfl, nou_bk rfl, nou_bk rfl, nou_bk rfl, nou_bk rfl, trivial⟩
  clear hz27 hz28
  clear hb
  revert a
  refine mA rfl rfl ?_
  refine sA (v := .agg #[.bool (neg (qn y)), .slice A23 (zl (qn y)) c24, .bool (neg (ql y)), .slice B25 (zl (ql y)) d26]) rfl (fun _ henv => rn_extract henv rfl rfl) ?_
  refine sA (v := .bool true) rfl (fun _ henv => rn_extract henv rfl rfl) ?_
  intro a henv
  refine seq_step rfl (op_alloc (c := #[.bool (neg (qn 0)), .slice none (zl (qn 0)) 0, .bool (neg (ql 0)), .slice none (zl (ql 0)) 0]) henv hst rfl zero_anvil_ratio_Rat qcells ?_)
  clear henv hst a; intro a w31 g30 henv hst
  refine seq_step rfl (op_store (k := 0) (c' := #[.bool (neg (qn y)), .slice A23 (zl (qn y)) c24, .bool (neg (ql y)), .slice B25 (zl (ql y)) d26]) henv hst (ty_anvil_ratio_Rat.size) rfl rfl rfl rfl (by simp) rfl rfl ?_)
  clear henv hst a; intro a w32 henv hst
  refine sv (v := .bool true) henv rfl (rn_assign henv rfl) ?_
  clear henv a; intro a henv
  refine wpList_nil ?_
  refine th_n ?_
  refine wp_seq ?_
  refine region_seq ?_
  refine sv (v := .agg #[.string ⟨s3.toArray⟩, .string ⟨t3.toArray⟩]) henv rfl (rn_load0 henv ty_anvil_anvillaw03_Frac rfl (hst.oat (k := 5) rfl) rfl) ?_
  clear henv a; intro a henv
  refine seq_step rfl (op_call henv rfl Tryd.call87 rfl (f3 _) ?_)
  rintro e w39 ⟨_, rfl, ⟨A33, c34, B35, d36, rfl, hz37, hz38⟩, hb⟩
  refine ⟨_, rfl, ?_⟩
  clear henv a; intro a henv
  replace hst := ((hst.call hb).addZ hz37 ⟨nou_bk rfl, nou_bk rfl, nou_bk rfl, nou_bk rfl, nou_bk rfl, nou_bk rfl, nou_bk rfl, nou_bk rfl, trivial⟩).addZ hz38 ⟨nou_bk rfl, nou_bk rfl, nou_bk rfl, nou_bk rfl, nou_bk rfl, nou_bk rfl, nou_bk rfl, nou_bk rfl, trivial⟩
  clear hz37 hz38
  clear hb
  revert a
  refine mA rfl rfl ?_
  refine sA (v := .agg #[.bool (neg (qn z)), .slice A33 (zl (qn z)) c34, .bool (neg (ql z)), .slice B35 (zl (ql z)) d36]) rfl (fun _ henv => rn_extract henv rfl rfl) ?_
  refine sA (v := .bool true) rfl (fun _ henv => rn_extract henv rfl rfl) ?_
  intro a henv
  refine seq_step rfl (op_alloc (c := #[.bool (neg (qn 0)), .slice none (zl (qn 0)) 0, .bool (neg (ql 0)), .slice none (zl (ql 0)) 0]) henv hst rfl zero_anvil_ratio_Rat qcells ?_)
  clear henv hst a; intro a w41 g40 henv hst
  refine seq_step rfl (op_store (k := 0) (c' := #[.bool (neg (qn z)), .slice A33 (zl (qn z)) c34, .bool (neg (ql z)), .slice B35 (zl (ql z)) d36]) henv hst (ty_anvil_ratio_Rat.size) rfl rfl rfl rfl (by simp) rfl rfl ?_)
  clear henv hst a; intro a w42 henv hst
  refine sv (v := .bool true) henv rfl (rn_assign henv rfl) ?_
  clear henv a; intro a henv
  refine wpList_nil ?_
  refine th_n ?_
  refine wp_seq ?_
  refine region_any (n := 22) (Sk [bk g40 #[.bool (neg (qn z)), .slice A33 (zl (qn z)) c34, .bool (neg (ql z)), .slice B35 (zl (ql z)) d36] 91, bk g30 #[.bool (neg (qn y)), .slice A23 (zl (qn y)) c24, .bool (neg (ql y)), .slice B25 (zl (ql y)) d26] 91, bk g20 #[.bool (neg (qn x)), .slice A13 (zl (qn x)) c14, .bool (neg (ql x)), .slice B15 (zl (ql x)) d16] 91, bk g5 #[.string ⟨s3.toArray⟩, .string ⟨t3.toArray⟩] 89, bk g3 #[.string ⟨s2.toArray⟩, .string ⟨t2.toArray⟩] 89, bk g1 #[.string ⟨s1.toArray⟩, .string ⟨t1.toArray⟩] 89] [pfZ B35 d36 (ql z), pfZ A33 c34 (qn z), pfZ B25 d26 (ql y), pfZ A23 c24 (qn y), pfZ B15 d16 (ql x), pfZ A13 c14 (qn x)] [18, 19, 20] []) mixed rfl henv hst ?_
  clear henv hst; intro w43 henv hst
  refine tL (i := 0) 2 2 (rg 18 4) rfl (by kernel_rfl) (fun _ _ _ h => h) henv rfl ty_anvil_ratio_Rat rfl hst rfl rfl rfl ?_
  clear henv a; intro a henv
  refine tL (i := 1) 1 1 [19, 20, 21] rfl (by kernel_rfl) (fun _ _ _ h => h) henv rfl ty_anvil_ratio_Rat rfl hst rfl rfl rfl ?_
  clear henv a; intro a henv
  refine tL (i := 2) 0 0 [20, 21] rfl (by kernel_rfl) (fun _ _ _ h => h) henv rfl ty_anvil_ratio_Rat rfl hst rfl rfl rfl ?_
  clear henv a; intro a henv
  refine tM (i := 3) (rg 4 18) rfl (by kernel_rfl) (fun _ _ _ h => h) henv rfl rfl ?_
  clear henv a; intro a henv
  refine tM (i := 4) (rg 5 17) rfl (by kernel_rfl) (fun _ _ _ h => h) henv rfl rfl ?_
  clear henv a; intro a henv
  refine tAg (i := 5) (rg 6 16) (v := .bool true) rfl (by kernel_rfl) (fun _ _ _ h => h) henv rfl rfl rfl rfl (fun _ => rn_move henv rfl) ?_
  clear henv a; intro a henv
  refine tA (i := 6) (rg 7 15) (v := .bool true) rfl (by kernel_rfl) (fun _ _ _ h => h) henv rfl (fun _ => rn_pick henv rfl rfl) ?_
  clear henv a; intro a henv
  refine tM (i := 7) (rg 8 14) rfl (by kernel_rfl) (fun _ _ _ h => h) henv rfl rfl ?_
  clear henv a; intro a henv
  refine tAg (i := 8) (rg 9 13) (v := .bool true) rfl (by kernel_rfl) (fun _ _ _ h => h) henv rfl rfl rfl rfl (fun _ => rn_move henv rfl) ?_
  clear henv a; intro a henv
  refine tA (i := 9) (rg 10 12) (v := .bool true) rfl (by kernel_rfl) (fun _ _ _ h => h) henv rfl (fun _ => rn_pick henv rfl rfl) ?_
  clear henv a; intro a henv
  refine tM (i := 10) (rg 11 11) rfl (by kernel_rfl) (fun _ _ _ h => h) henv rfl rfl ?_
  clear henv a; intro a henv
  refine tLg (i := 11) 5 8 (rg 14 8) rfl (by kernel_rfl) (fun _ _ _ h => h) henv rfl rfl rfl rfl ty_anvil_anvillaw03_Frac rfl hst rfl rfl rfl ?_
  clear henv a; intro a henv
  refine tLg (i := 12) 4 7 (rg 14 8) rfl (by kernel_rfl) (fun _ _ _ h => h) henv rfl rfl rfl rfl ty_anvil_anvillaw03_Frac rfl hst rfl rfl rfl ?_
  clear henv a; intro a henv
  refine tLg (i := 13) 3 6 (rg 14 8) rfl (by kernel_rfl) (fun _ _ _ h => h) henv rfl rfl rfl rfl ty_anvil_anvillaw03_Frac rfl hst rfl rfl rfl ?_
  clear henv a; intro a henv
  refine sAny_oneg (i := 14) (by kernel_rfl) rfl rfl henv rfl rfl rfl (op_buildSlice (z := 2) (pv := #[(0, .agg #[.string ⟨s1.toArray⟩, .string ⟨t1.toArray⟩]), (1, .agg #[.string ⟨s2.toArray⟩, .string ⟨t2.toArray⟩]), (2, .agg #[.string ⟨s3.toArray⟩, .string ⟨t3.toArray⟩])]) (c := #[.string ⟨s1.toArray⟩, .string ⟨t1.toArray⟩, .string ⟨s2.toArray⟩, .string ⟨t2.toArray⟩, .string ⟨s3.toArray⟩, .string ⟨t3.toArray⟩]) henv hst rfl Tryd.underlying103 (ty_anvil_anvillaw03_Frac.size) zero_anvil_anvillaw03_Frac (by decide) (by decide) rfl (by kernel_rfl) ?_)
  clear henv hst a; intro a w45 g44 henv hst
  refine ⟨.inr ⟨hst.kn.pick [1, 2, 3, 7, 8, 9] (rg 0 6), .inr (hst.kn.pick [] [])⟩, ?_⟩
  replace hst := hst.giveBk (f := fF) (F := FF) (k := 0) (n := 3) (es := [(s1, t1), (s2, t2), (s3, t3)]) rfl rfl fF_len rfl (by decide) (esT_P (fun _ => rfl) _ _) (fun _ _ _ _ => esT_foot (fun _ => rfl))
  refine sAny_oneg (i := 15) (by kernel_rfl) rfl rfl henv rfl rfl rfl (op_call henv rfl Tryd.call68 rfl (qlong_no (hst.pat (k := 0) rfl) (by decide) (by intro e he; simp at he; rcases he with rfl | rfl | rfl; exact l1; exact l2; exact l3)) ?_)
  rintro e w46 ⟨rfl, hb⟩
  refine ⟨_, rfl, ?_⟩
  clear henv a; intro a henv
  replace hst := hst.call hb
  clear hb
  refine ⟨.inr ⟨hst.kn.pick [0, 1, 2, 6, 7, 8] (rg 2 6), .inr (hst.kn.pick [] [])⟩, ?_⟩
  refine tAg (i := 16) [17, 21] (v := .bool true) rfl (by kernel_rfl) (fun _ _ _ h => h) henv rfl rfl rfl rfl (fun _ => rn_un henv rfl rfl) ?_
  clear henv a; intro a henv
  refine tA (i := 17) [21] (v := .bool true) rfl (by kernel_rfl) (fun _ _ _ h => h) henv rfl (fun _ => rn_pick henv rfl rfl) ?_
  clear henv a; intro a henv
  refine sAny_one (i := 18) (by kernel_rfl) rfl rfl (op_store (k := 5) (c' := #[.bool (neg (qn x)), .slice A13 (zl (qn x)) c14, .bool (neg (ql x)), .slice B15 (zl (ql x)) d16]) henv hst (ty_anvil_ratio_Rat.size) rfl rfl rfl rfl (by simp) rfl rfl ?_)
  clear henv hst a; intro a w47 henv hst
  refine ⟨.inr ⟨hst.kn.pick [0, 1, 2, 6, 7, 8] (rg 2 6), .inl rfl⟩, ?_⟩
  refine sAny_one (i := 19) (by kernel_rfl) rfl rfl (op_store (k := 4) (c' := #[.bool (neg (qn y)), .slice A23 (zl (qn y)) c24, .bool (neg (ql y)), .slice B25 (zl (ql y)) d26]) henv hst (ty_anvil_ratio_Rat.size) rfl rfl rfl rfl (by simp) rfl rfl ?_)
  clear henv hst a; intro a w48 henv hst
  refine ⟨.inr ⟨hst.kn.pick [0, 1, 2, 6, 7, 8] (rg 2 6), .inl rfl⟩, ?_⟩
  refine sAny_one (i := 20) (by kernel_rfl) rfl rfl (op_store (k := 3) (c' := #[.bool (neg (qn z)), .slice A33 (zl (qn z)) c34, .bool (neg (ql z)), .slice B35 (zl (ql z)) d36]) henv hst (ty_anvil_ratio_Rat.size) rfl rfl rfl rfl (by simp) rfl rfl ?_)
  clear henv hst a; intro a w49 henv hst
  refine ⟨.inr ⟨hst.kn.pick [0, 1, 2, 6, 7, 8] (rg 2 6), .inl rfl⟩, ?_⟩
  refine tA (i := 21) [] (v := .bool true) rfl (by kernel_rfl) (fun _ _ _ h => h) henv rfl (fun _ => rn_assign henv rfl) ?_
  clear henv a; intro a henv
  refine sAny_done (by kernel_rfl) ?_ _
  refine th_n ?_
  refine wp_ret ?_
  refine leave henv (res4 Tryd.results56 (RV.cell henv ty_anvil_ratio_Rat rfl (hst.oat (k := 5) rfl) rfl) (RV.cell henv ty_anvil_ratio_Rat rfl (hst.oat (k := 4) rfl) rfl) (RV.cell henv ty_anvil_ratio_Rat rfl (hst.oat (k := 3) rfl) rfl) (RV.tmp henv rfl)) ?_
  exact ⟨_, _, _, rfl, q_at rfl rfl (hst.pat (k := 7) rfl) (hst.pat (k := 6) rfl), q_at rfl rfl (hst.pat (k := 5) rfl) (hst.pat (k := 4) rfl), q_at rfl rfl (hst.pat (k := 3) rfl) (hst.pat (k := 2) rfl), hst.below⟩
def ThAs (s1 t1 s2 t2 s3 t3 : List UInt8) (x y z : Rat) (o : Bool) : Prop := ∀ w0 : World,
    Calls Tryd.prog 56 #[.agg #[.string ⟨s1.toArray⟩, .string ⟨t1.toArray⟩], .agg #[.string ⟨s2.toArray⟩, .string ⟨t2.toArray⟩], .agg #[.string ⟨s3.toArray⟩, .string ⟨t3.toArray⟩]] w0 fun e w' => ∃ v1 v2 v3, e = .returned (.tuple #[v1, v2, v3, .bool o]) ∧ QAt w' v1 x ∧ QAt w' v2 y ∧ QAt w' v3 z ∧ Below w0.heap.size w0 w'
theorem three_any {s1 t1 s2 t2 s3 t3 : List UInt8} (a1 : s1.length ≤ maxLen) (b1 : t1.length ≤ maxLen) (a2 : s2.length ≤ maxLen) (b2 : t2.length ≤ maxLen) (a3 : s3.length ≤ maxLen) (b3 : t3.length ≤ maxLen) : ∃ x y z o, ThAs s1 t1 s2 t2 s3 t3 x y z o ∧ (o = true → Qs 400 x ∧ Qs 400 y ∧ Qs 400 z) := by
  obtain ⟨x, o1, f1, q1⟩ := alone_any a1 b1
  obtain ⟨y, o2, f2, q2⟩ := alone_any a2 b2
  obtain ⟨z, o3, f3, q3⟩ := alone_any a3 b3
  cases o1 with
  | false => exact ⟨x, y, z, false, fun w0 => three_f1 f1 f2 f3, fun h => by cases h⟩
  | true => cases o2 with
    | false => exact ⟨x, y, z, false, fun w0 => three_f2 f1 f2 f3, fun h => by cases h⟩
    | true => cases o3 with
      | false => exact ⟨x, y, z, false, fun w0 => three_f3 f1 f2 f3, fun h => by cases h⟩
      | true =>
        by_cases l1 : Lg (s1, t1)
        · exact ⟨x, y, z, false, fun w0 => three_lg f1 f2 f3 (.inl l1), fun h => by cases h⟩
        by_cases l2 : Lg (s2, t2)
        · exact ⟨x, y, z, false, fun w0 => three_lg f1 f2 f3 (.inr (.inl l2)), fun h => by cases h⟩
        by_cases l3 : Lg (s3, t3)
        · exact ⟨x, y, z, false, fun w0 => three_lg f1 f2 f3 (.inr (.inr l3)), fun h => by cases h⟩
        exact ⟨x, y, z, true, fun w0 => three_ok f1 f2 f3 l1 l2 l3, fun _ => ⟨q1 l1, q2 l2, q3 l3⟩⟩
set_option maxRecDepth 100000 in
set_option maxHeartbeats 1000000 in
theorem same_qn {A0 B0 : Option Addr} {c0 d0 : Nat} {A1 B1 : Option Addr} {c1 d1 : Nat} {x y : Rat} {w0 : World} (h0 : ZIn w0 A0 c0 (qn x)) (k0 : ZIn w0 B0 d0 (ql x)) (h1 : ZIn w0 A1 c1 (qn y)) (k1 : ZIn w0 B1 d1 (ql y)) {a b : Nat} (sx : Qs a x) (sy : Qs b y) (hab : a + b ≤ 40000) (hn : qn x ≠ qn y) :
    Calls Tryd.prog 57 #[.agg #[.bool (neg (qn x)), .slice A0 (zl (qn x)) c0, .bool (neg (ql x)), .slice B0 (zl (ql x)) d0], .agg #[.bool (neg (qn y)), .slice A1 (zl (qn y)) c1, .bool (neg (ql y)), .slice B1 (zl (ql y)) d1]] w0 fun e w' => e = .returned (.bool false) ∧ Below w0.heap.size w0 w' := by
  refine enter Tryd.func57 rfl Tryd.ntmps57 rfl ?_
  intro a henv hst
  replace hst := hst.addZ h0 trivial
  replace hst := hst.addZ k0 trivial
  replace hst := hst.addZ h1 trivial
  replace hst := hst.addZ k1 trivial
  refine wp_seq ?_
  refine region_seq ?_
  refine seq_step rfl (op_box (c := #[.bool (neg (qn x)), .slice A0 (zl (qn x)) c0, .bool (neg (ql x)), .slice B0 (zl (ql x)) d0]) henv hst rfl rfl rfl ?_)
  clear henv hst a; intro a w2 g1 henv hst
  refine seq_step rfl (op_box (c := #[.bool (neg (qn y)), .slice A1 (zl (qn y)) c1, .bool (neg (ql y)), .slice B1 (zl (ql y)) d1]) henv hst rfl rfl rfl ?_)
  clear henv hst a; intro a w4 g3 henv hst
  refine sv (v := .bool false) henv rfl (rn_assign henv rfl) ?_
  clear henv a; intro a henv
  refine wpList_nil ?_
  refine th_n ?_
  refine wp_seq ?_
  refine region_any (n := 15) (Sk [bk g3 #[.bool (neg (qn y)), .slice A1 (zl (qn y)) c1, .bool (neg (ql y)), .slice B1 (zl (ql y)) d1] 91, bk g1 #[.bool (neg (qn x)), .slice A0 (zl (qn x)) c0, .bool (neg (ql x)), .slice B0 (zl (ql x)) d0] 91] [pfZ B1 d1 (ql y), pfZ A1 c1 (qn y), pfZ B0 d0 (ql x), pfZ A0 c0 (qn x)] [] []) mixed rfl henv hst ?_
  clear henv hst; intro w5 henv hst
  refine tL (i := 0) 1 1 [1, 3, 4, 5, 6, 7, 8, 9, 10, 11, 12, 13, 14] rfl (by kernel_rfl) (fun _ _ _ h => h) henv rfl ty_anvil_ratio_Rat rfl hst rfl rfl rfl ?_
  clear henv a; intro a henv
  refine tL (i := 2) 0 0 (rg 3 12) rfl (by kernel_rfl) (fun _ _ _ h => h) henv rfl ty_anvil_ratio_Rat rfl hst rfl rfl rfl ?_
  clear henv a; intro a henv
  have hs9 := sx.n
  refine sAny_one (i := 1) (by kernel_rfl) rfl rfl (op_call henv rfl Tryd.call88 rfl (num_q (x := x) (show ZIn _ A0 c0 (qn x) from hst.pat (k := 3) rfl) (show ZIn _ B0 d0 (ql x) from hst.pat (k := 2) rfl)) ?_)
  rintro e w10 ⟨_, rfl, ⟨A6, c7, rfl, hz8⟩, hb⟩
  refine ⟨_, rfl, ?_⟩
  clear henv a; intro a henv
  replace hst := (hst.call hb).addZ hz8 ⟨nou_bk rfl, nou_bk rfl, trivial⟩
  clear hz8
  clear hb
  refine ⟨.inr ⟨hst.kn.pick [0, 1] (rg 1 4), .inr (hst.kn.pick [] [])⟩, ?_⟩
  have hs14 := sy.n
  refine sAny_one (i := 3) (by kernel_rfl) rfl rfl (op_call henv rfl Tryd.call88 rfl (num_q (x := y) (show ZIn _ A1 c1 (qn y) from hst.pat (k := 2) rfl) (show ZIn _ B1 d1 (ql y) from hst.pat (k := 1) rfl)) ?_)
  rintro e w15 ⟨_, rfl, ⟨A11, c12, rfl, hz13⟩, hb⟩
  refine ⟨_, rfl, ?_⟩
  clear henv a; intro a henv
  replace hst := (hst.call hb).addZ hz13 ⟨nou_bk rfl, nou_bk rfl, trivial⟩
  clear hz13
  clear hb
  refine ⟨.inr ⟨hst.kn.pick [0, 1] (rg 2 4), .inr (hst.kn.pick [] [])⟩, ?_⟩
  refine sAny_one (i := 4) (by kernel_rfl) rfl rfl (op_call henv rfl Tryd.call42 rfl (cmp_z (x := (qn x)) (y := (qn y)) (show ZIn _ A6 c7 (qn x) from hst.pat (k := 1) rfl) (show ZIn _ A11 c12 (qn y) from hst.pat (k := 0) rfl)) ?_)
  rintro e w16 ⟨rfl, hb⟩
  refine ⟨_, rfl, ?_⟩
  clear henv a; intro a henv
  replace hst := hst.call hb
  clear hb
  refine ⟨.inr ⟨hst.kn.pick [0, 1] (rg 2 4), .inr (hst.kn.pick [] [])⟩, ?_⟩
  refine tA (i := 5) (rg 6 9) (v := .bool (((qn x) - (qn y)).sign == (0 : Int))) rfl (by kernel_rfl) (fun _ _ _ h => h) henv rfl (fun _ => rn_bin henv rfl rfl rfl) ?_
  clear henv a; intro a henv
  rw [show (((qn x) - (qn y)).sign == (0 : Int)) = false from (beq_eq_false_iff_ne.2 fun e => hn (by have := Int.sign_eq_zero_iff_zero.1 e; omega))] at henv
  refine tM (i := 6) (rg 7 8) rfl (by kernel_rfl) (fun _ _ _ h => h) henv rfl rfl ?_
  clear henv a; intro a henv
  refine sAny_skipg (i := 7) [8, 10, 11, 12, 13, 14] rfl (by kernel_rfl) (fun _ _ _ h => h) henv rfl rfl rfl rfl rfl ?_
  clear henv a; intro a henv
  refine sAny_skipg (i := 9) [10, 11, 12, 13, 14] rfl (by kernel_rfl) (fun _ _ _ h => h) henv rfl rfl rfl rfl rfl ?_
  clear henv a; intro a henv
  refine sAny_skipg (i := 8) [10, 11, 12, 13, 14] rfl (by kernel_rfl) (fun _ _ _ h => h) henv rfl rfl rfl rfl rfl ?_
  clear henv a; intro a henv
  refine sAny_skipg (i := 10) [11, 12, 13, 14] rfl (by kernel_rfl) (fun _ _ _ h => h) henv rfl rfl rfl rfl rfl ?_
  clear henv a; intro a henv
  refine sAny_skipg (i := 11) [12, 13, 14] rfl (by kernel_rfl) (fun _ _ _ h => h) henv rfl rfl rfl rfl rfl ?_
  clear henv a; intro a henv
  refine sAny_skipg (i := 12) [13, 14] rfl (by kernel_rfl) (fun _ _ _ h => h) henv rfl rfl rfl rfl rfl ?_
  clear henv a; intro a henv
  refine tA (i := 13) [14] (v := .bool false) rfl (by kernel_rfl) (fun _ _ _ h => h) henv rfl (fun _ => rn_pick henv rfl rfl) ?_
  clear henv a; intro a henv
  refine tA (i := 14) [] (v := .bool false) rfl (by kernel_rfl) (fun _ _ _ h => h) henv rfl (fun _ => rn_assign henv rfl) ?_
  clear henv a; intro a henv
  refine sAny_done (by kernel_rfl) ?_ _
  refine th_n ?_
  refine wp_ret ?_
  refine leave henv (res1 Tryd.results57 (RV.tmp henv rfl)) ?_
  exact ⟨rfl, hst.below⟩
set_option maxRecDepth 100000 in
set_option maxHeartbeats 1000000 in
theorem same_qd {A0 B0 : Option Addr} {c0 d0 : Nat} {A1 B1 : Option Addr} {c1 d1 : Nat} {x y : Rat} {w0 : World} (h0 : ZIn w0 A0 c0 (qn x)) (k0 : ZIn w0 B0 d0 (ql x)) (h1 : ZIn w0 A1 c1 (qn y)) (k1 : ZIn w0 B1 d1 (ql y)) {a b : Nat} (sx : Qs a x) (sy : Qs b y) (hab : a + b ≤ 40000) (hn : qn x = qn y) (hd : qd x ≠ qd y) :
    Calls Tryd.prog 57 #[.agg #[.bool (neg (qn x)), .slice A0 (zl (qn x)) c0, .bool (neg (ql x)), .slice B0 (zl (ql x)) d0], .agg #[.bool (neg (qn y)), .slice A1 (zl (qn y)) c1, .bool (neg (ql y)), .slice B1 (zl (ql y)) d1]] w0 fun e w' => e = .returned (.bool false) ∧ Below w0.heap.size w0 w' := by
  refine enter Tryd.func57 rfl Tryd.ntmps57 rfl ?_
  intro a henv hst
  replace hst := hst.addZ h0 trivial
  replace hst := hst.addZ k0 trivial
  replace hst := hst.addZ h1 trivial
  replace hst := hst.addZ k1 trivial
  refine wp_seq ?_
  refine region_seq ?_
  refine seq_step rfl (op_box (c := #[.bool (neg (qn x)), .slice A0 (zl (qn x)) c0, .bool (neg (ql x)), .slice B0 (zl (ql x)) d0]) henv hst rfl rfl rfl ?_)
  clear henv hst a; intro a w2 g1 henv hst
  refine seq_step rfl (op_box (c := #[.bool (neg (qn y)), .slice A1 (zl (qn y)) c1, .bool (neg (ql y)), .slice B1 (zl (ql y)) d1]) henv hst rfl rfl rfl ?_)
  clear henv hst a; intro a w4 g3 henv hst
  refine sv (v := .bool false) henv rfl (rn_assign henv rfl) ?_
  clear henv a; intro a henv
  refine wpList_nil ?_
  refine th_n ?_
  refine wp_seq ?_
  refine region_any (n := 15) (Sk [bk g3 #[.bool (neg (qn y)), .slice A1 (zl (qn y)) c1, .bool (neg (ql y)), .slice B1 (zl (ql y)) d1] 91, bk g1 #[.bool (neg (qn x)), .slice A0 (zl (qn x)) c0, .bool (neg (ql x)), .slice B0 (zl (ql x)) d0] 91] [pfZ B1 d1 (ql y), pfZ A1 c1 (qn y), pfZ B0 d0 (ql x), pfZ A0 c0 (qn x)] [] []) mixed rfl henv hst ?_
  clear henv hst; intro w5 henv hst
  refine tL (i := 0) 1 1 [1, 3, 4, 5, 6, 7, 8, 9, 10, 11, 12, 13, 14] rfl (by kernel_rfl) (fun _ _ _ h => h) henv rfl ty_anvil_ratio_Rat rfl hst rfl rfl rfl ?_
  clear henv a; intro a henv
  refine tL (i := 2) 0 0 (rg 3 12) rfl (by kernel_rfl) (fun _ _ _ h => h) henv rfl ty_anvil_ratio_Rat rfl hst rfl rfl rfl ?_
  clear henv a; intro a henv
  have hs9 := sx.n
  refine sAny_one (i := 1) (by kernel_rfl) rfl rfl (op_call henv rfl Tryd.call88 rfl (num_q (x := x) (show ZIn _ A0 c0 (qn x) from hst.pat (k := 3) rfl) (show ZIn _ B0 d0 (ql x) from hst.pat (k := 2) rfl)) ?_)
  rintro e w10 ⟨_, rfl, ⟨A6, c7, rfl, hz8⟩, hb⟩
  refine ⟨_, rfl, ?_⟩
  clear henv a; intro a henv
  replace hst := (hst.call hb).addZ hz8 ⟨nou_bk rfl, nou_bk rfl, trivial⟩
  clear hz8
  clear hb
  refine ⟨.inr ⟨hst.kn.pick [0, 1] (rg 1 4), .inr (hst.kn.pick [] [])⟩, ?_⟩
  have hs14 := sy.n
  refine sAny_one (i := 3) (by kernel_rfl) rfl rfl (op_call henv rfl Tryd.call88 rfl (num_q (x := y) (show ZIn _ A1 c1 (qn y) from hst.pat (k := 2) rfl) (show ZIn _ B1 d1 (ql y) from hst.pat (k := 1) rfl)) ?_)
  rintro e w15 ⟨_, rfl, ⟨A11, c12, rfl, hz13⟩, hb⟩
  refine ⟨_, rfl, ?_⟩
  clear henv a; intro a henv
  replace hst := (hst.call hb).addZ hz13 ⟨nou_bk rfl, nou_bk rfl, trivial⟩
  clear hz13
  clear hb
  refine ⟨.inr ⟨hst.kn.pick [0, 1] (rg 2 4), .inr (hst.kn.pick [] [])⟩, ?_⟩
  refine sAny_one (i := 4) (by kernel_rfl) rfl rfl (op_call henv rfl Tryd.call42 rfl (cmp_z (x := (qn x)) (y := (qn y)) (show ZIn _ A6 c7 (qn x) from hst.pat (k := 1) rfl) (show ZIn _ A11 c12 (qn y) from hst.pat (k := 0) rfl)) ?_)
  rintro e w16 ⟨rfl, hb⟩
  refine ⟨_, rfl, ?_⟩
  clear henv a; intro a henv
  replace hst := hst.call hb
  clear hb
  refine ⟨.inr ⟨hst.kn.pick [0, 1] (rg 2 4), .inr (hst.kn.pick [] [])⟩, ?_⟩
  refine tA (i := 5) (rg 6 9) (v := .bool (((qn x) - (qn y)).sign == (0 : Int))) rfl (by kernel_rfl) (fun _ _ _ h => h) henv rfl (fun _ => rn_bin henv rfl rfl rfl) ?_
  clear henv a; intro a henv
  rw [show (((qn x) - (qn y)).sign == (0 : Int)) = true from (by rw [hn, Int.sub_self]; rfl)] at henv
  refine tM (i := 6) (rg 7 8) rfl (by kernel_rfl) (fun _ _ _ h => h) henv rfl rfl ?_
  clear henv a; intro a henv
  refine tLg (i := 7) 1 1 [8, 10, 11, 12, 13, 14] rfl (by kernel_rfl) (fun _ _ _ h => h) henv rfl rfl rfl rfl ty_anvil_ratio_Rat rfl hst rfl rfl rfl ?_
  clear henv a; intro a henv
  refine tLg (i := 9) 0 0 (rg 10 5) rfl (by kernel_rfl) (fun _ _ _ h => h) henv rfl rfl rfl rfl ty_anvil_ratio_Rat rfl hst rfl rfl rfl ?_
  clear henv a; intro a henv
  have hs20 := sx.d
  refine sAny_oneg (i := 8) (by kernel_rfl) rfl rfl henv rfl rfl rfl (op_call henv rfl Tryd.call89 rfl (den_q (x := x) (show ZIn _ A0 c0 (qn x) from hst.pat (k := 5) rfl) (show ZIn _ B0 d0 (ql x) from hst.pat (k := 4) rfl) sx (by omega)) ?_)
  rintro e w21 ⟨_, rfl, ⟨A17, c18, rfl, hz19⟩, hb⟩
  refine ⟨_, rfl, ?_⟩
  clear henv a; intro a henv
  replace hst := (hst.call hb).addZ hz19 ⟨nou_bk rfl, nou_bk rfl, trivial⟩
  clear hz19
  clear hb
  refine ⟨.inr ⟨hst.kn.pick [0, 1] (rg 3 4), .inr (hst.kn.pick [] [])⟩, ?_⟩
  have hs25 := sy.d
  refine sAny_oneg (i := 10) (by kernel_rfl) rfl rfl henv rfl rfl rfl (op_call henv rfl Tryd.call89 rfl (den_q (x := y) (show ZIn _ A1 c1 (qn y) from hst.pat (k := 4) rfl) (show ZIn _ B1 d1 (ql y) from hst.pat (k := 3) rfl) sy (by omega)) ?_)
  rintro e w26 ⟨_, rfl, ⟨A22, c23, rfl, hz24⟩, hb⟩
  refine ⟨_, rfl, ?_⟩
  clear henv a; intro a henv
  replace hst := (hst.call hb).addZ hz24 ⟨nou_bk rfl, nou_bk rfl, trivial⟩
  clear hz24
  clear hb
  refine ⟨.inr ⟨hst.kn.pick [0, 1] (rg 4 4), .inr (hst.kn.pick [] [])⟩, ?_⟩
  refine sAny_oneg (i := 11) (by kernel_rfl) rfl rfl henv rfl rfl rfl (op_call henv rfl Tryd.call42 rfl (cmp_z (x := (qd x)) (y := (qd y)) (show ZIn _ A17 c18 (qd x) from hst.pat (k := 1) rfl) (show ZIn _ A22 c23 (qd y) from hst.pat (k := 0) rfl)) ?_)
  rintro e w27 ⟨rfl, hb⟩
  refine ⟨_, rfl, ?_⟩
  clear henv a; intro a henv
  replace hst := hst.call hb
  clear hb
  refine ⟨.inr ⟨hst.kn.pick [0, 1] (rg 4 4), .inr (hst.kn.pick [] [])⟩, ?_⟩
  refine tAg (i := 12) [13, 14] (v := .bool (((qd x) - (qd y)).sign == (0 : Int))) rfl (by kernel_rfl) (fun _ _ _ h => h) henv rfl rfl rfl rfl (fun _ => rn_bin henv rfl rfl rfl) ?_
  clear henv a; intro a henv
  rw [show (((qd x) - (qd y)).sign == (0 : Int)) = false from (beq_eq_false_iff_ne.2 fun e => hd (by have := Int.sign_eq_zero_iff_zero.1 e; omega))] at henv
  refine tA (i := 13) [14] (v := .bool false) rfl (by kernel_rfl) (fun _ _ _ h => h) henv rfl (fun _ => rn_pick henv rfl rfl) ?_
  clear henv a; intro a henv
  refine tA (i := 14) [] (v := .bool false) rfl (by kernel_rfl) (fun _ _ _ h => h) henv rfl (fun _ => rn_assign henv rfl) ?_
  clear henv a; intro a henv
  refine sAny_done (by kernel_rfl) ?_ _
  refine th_n ?_
  refine wp_ret ?_
  refine leave henv (res1 Tryd.results57 (RV.tmp henv rfl)) ?_
  exact ⟨rfl, hst.below⟩
set_option maxRecDepth 100000 in
set_option maxHeartbeats 1000000 in
theorem same_qe {A0 B0 : Option Addr} {c0 d0 : Nat} {A1 B1 : Option Addr} {c1 d1 : Nat} {x y : Rat} {w0 : World} (h0 : ZIn w0 A0 c0 (qn x)) (k0 : ZIn w0 B0 d0 (ql x)) (h1 : ZIn w0 A1 c1 (qn y)) (k1 : ZIn w0 B1 d1 (ql y)) {a b : Nat} (sx : Qs a x) (sy : Qs b y) (hab : a + b ≤ 40000) (hn : qn x = qn y) (hd : qd x = qd y) :
    Calls Tryd.prog 57 #[.agg #[.bool (neg (qn x)), .slice A0 (zl (qn x)) c0, .bool (neg (ql x)), .slice B0 (zl (ql x)) d0], .agg #[.bool (neg (qn y)), .slice A1 (zl (qn y)) c1, .bool (neg (ql y)), .slice B1 (zl (ql y)) d1]] w0 fun e w' => e = .returned (.bool true) ∧ Below w0.heap.size w0 w' := by
  refine enter Tryd.func57 rfl Tryd.ntmps57 rfl ?_
  intro a henv hst
  replace hst := hst.addZ h0 trivial
  replace hst := hst.addZ k0 trivial
  replace hst := hst.addZ h1 trivial
  replace hst := hst.addZ k1 trivial
  refine wp_seq ?_
  refine region_seq ?_
  refine seq_step rfl (op_box (c := #[.bool (neg (qn x)), .slice A0 (zl (qn x)) c0, .bool (neg (ql x)), .slice B0 (zl (ql x)) d0]) henv hst rfl rfl rfl ?_)
  clear henv hst a; intro a w2 g1 henv hst
  refine seq_step rfl (op_box (c := #[.bool (neg (qn y)), .slice A1 (zl (qn y)) c1, .bool (neg (ql y)), .slice B1 (zl (ql y)) d1]) henv hst rfl rfl rfl ?_)
  clear henv hst a; intro a w4 g3 henv hst
  refine sv (v := .bool false) henv rfl (rn_assign henv rfl) ?_
  clear henv a; intro a henv
  refine wpList_nil ?_
  refine th_n ?_
  refine wp_seq ?_
  refine region_any (n := 15) (Sk [bk g3 #[.bool (neg (qn y)), .slice A1 (zl (qn y)) c1, .bool (neg (ql y)), .slice B1 (zl (ql y)) d1] 91, bk g1 #[.bool (neg (qn x)), .slice A0 (zl (qn x)) c0, .bool (neg (ql x)), .slice B0 (zl (ql x)) d0] 91] [pfZ B1 d1 (ql y), pfZ A1 c1 (qn y), pfZ B0 d0 (ql x), pfZ A0 c0 (qn x)] [] []) mixed rfl henv hst ?_
  clear henv hst; intro w5 henv hst
  refine tL (i := 0) 1 1 [1, 3, 4, 5, 6, 7, 8, 9, 10, 11, 12, 13, 14] rfl (by kernel_rfl) (fun _ _ _ h => h) henv rfl ty_anvil_ratio_Rat rfl hst rfl rfl rfl ?_
  clear henv a; intro a henv
  refine tL (i := 2) 0 0 (rg 3 12) rfl (by kernel_rfl) (fun _ _ _ h => h) henv rfl ty_anvil_ratio_Rat rfl hst rfl rfl rfl ?_
  clear henv a; intro a henv
  have hs9 := sx.n
  refine sAny_one (i := 1) (by kernel_rfl) rfl rfl (op_call henv rfl Tryd.call88 rfl (num_q (x := x) (show ZIn _ A0 c0 (qn x) from hst.pat (k := 3) rfl) (show ZIn _ B0 d0 (ql x) from hst.pat (k := 2) rfl)) ?_)
  rintro e w10 ⟨_, rfl, ⟨A6, c7, rfl, hz8⟩, hb⟩
  refine ⟨_, rfl, ?_⟩
  clear henv a; intro a henv
  replace hst := (hst.call hb).addZ hz8 ⟨nou_bk rfl, nou_bk rfl, trivial⟩
  clear hz8
  clear hb
  refine ⟨.inr ⟨hst.kn.pick [0, 1] (rg 1 4), .inr (hst.kn.pick [] [])⟩, ?_⟩
  have hs14 := sy.n
  refine sAny_one (i := 3) (by kernel_rfl) rfl rfl (op_call henv rfl Tryd.call88 rfl (num_q (x := y) (show ZIn _ A1 c1 (qn y) from hst.pat (k := 2) rfl) (show ZIn _ B1 d1 (ql y) from hst.pat (k := 1) rfl)) ?_)
  rintro e w15 ⟨_, rfl, ⟨A11, c12, rfl, hz13⟩, hb⟩
  refine ⟨_, rfl, ?_⟩
  clear henv a; intro a henv
  replace hst := (hst.call hb).addZ hz13 ⟨nou_bk rfl, nou_bk rfl, trivial⟩
  clear hz13
  clear hb
  refine ⟨.inr ⟨hst.kn.pick [0, 1] (rg 2 4), .inr (hst.kn.pick [] [])⟩, ?_⟩
  refine sAny_one (i := 4) (by kernel_rfl) rfl rfl (op_call henv rfl Tryd.call42 rfl (cmp_z (x := (qn x)) (y := (qn y)) (show ZIn _ A6 c7 (qn x) from hst.pat (k := 1) rfl) (show ZIn _ A11 c12 (qn y) from hst.pat (k := 0) rfl)) ?_)
  rintro e w16 ⟨rfl, hb⟩
  refine ⟨_, rfl, ?_⟩
  clear henv a; intro a henv
  replace hst := hst.call hb
  clear hb
  refine ⟨.inr ⟨hst.kn.pick [0, 1] (rg 2 4), .inr (hst.kn.pick [] [])⟩, ?_⟩
  refine tA (i := 5) (rg 6 9) (v := .bool (((qn x) - (qn y)).sign == (0 : Int))) rfl (by kernel_rfl) (fun _ _ _ h => h) henv rfl (fun _ => rn_bin henv rfl rfl rfl) ?_
  clear henv a; intro a henv
  rw [show (((qn x) - (qn y)).sign == (0 : Int)) = true from (by rw [hn, Int.sub_self]; rfl)] at henv
  refine tM (i := 6) (rg 7 8) rfl (by kernel_rfl) (fun _ _ _ h => h) henv rfl rfl ?_
  clear henv a; intro a henv
  refine tLg (i := 7) 1 1 [8, 10, 11, 12, 13, 14] rfl (by kernel_rfl) (fun _ _ _ h => h) henv rfl rfl rfl rfl ty_anvil_ratio_Rat rfl hst rfl rfl rfl ?_
  clear henv a; intro a henv
  refine tLg (i := 9) 0 0 (rg 10 5) rfl (by kernel_rfl) (fun _ _ _ h => h) henv rfl rfl rfl rfl ty_anvil_ratio_Rat rfl hst rfl rfl rfl ?_
  clear henv a; intro a henv
  have hs20 := sx.d
  refine sAny_oneg (i := 8) (by kernel_rfl) rfl rfl henv rfl rfl rfl (op_call henv rfl Tryd.call89 rfl (den_q (x := x) (show ZIn _ A0 c0 (qn x) from hst.pat (k := 5) rfl) (show ZIn _ B0 d0 (ql x) from hst.pat (k := 4) rfl) sx (by omega)) ?_)
  rintro e w21 ⟨_, rfl, ⟨A17, c18, rfl, hz19⟩, hb⟩
  refine ⟨_, rfl, ?_⟩
  clear henv a; intro a henv
  replace hst := (hst.call hb).addZ hz19 ⟨nou_bk rfl, nou_bk rfl, trivial⟩
  clear hz19
  clear hb
  refine ⟨.inr ⟨hst.kn.pick [0, 1] (rg 3 4), .inr (hst.kn.pick [] [])⟩, ?_⟩
  have hs25 := sy.d
  refine sAny_oneg (i := 10) (by kernel_rfl) rfl rfl henv rfl rfl rfl (op_call henv rfl Tryd.call89 rfl (den_q (x := y) (show ZIn _ A1 c1 (qn y) from hst.pat (k := 4) rfl) (show ZIn _ B1 d1 (ql y) from hst.pat (k := 3) rfl) sy (by omega)) ?_)
  rintro e w26 ⟨_, rfl, ⟨A22, c23, rfl, hz24⟩, hb⟩
  refine ⟨_, rfl, ?_⟩
  clear henv a; intro a henv
  replace hst := (hst.call hb).addZ hz24 ⟨nou_bk rfl, nou_bk rfl, trivial⟩
  clear hz24
  clear hb
  refine ⟨.inr ⟨hst.kn.pick [0, 1] (rg 4 4), .inr (hst.kn.pick [] [])⟩, ?_⟩
  refine sAny_oneg (i := 11) (by kernel_rfl) rfl rfl henv rfl rfl rfl (op_call henv rfl Tryd.call42 rfl (cmp_z (x := (qd x)) (y := (qd y)) (show ZIn _ A17 c18 (qd x) from hst.pat (k := 1) rfl) (show ZIn _ A22 c23 (qd y) from hst.pat (k := 0) rfl)) ?_)
  rintro e w27 ⟨rfl, hb⟩
  refine ⟨_, rfl, ?_⟩
  clear henv a; intro a henv
  replace hst := hst.call hb
  clear hb
  refine ⟨.inr ⟨hst.kn.pick [0, 1] (rg 4 4), .inr (hst.kn.pick [] [])⟩, ?_⟩
  refine tAg (i := 12) [13, 14] (v := .bool (((qd x) - (qd y)).sign == (0 : Int))) rfl (by kernel_rfl) (fun _ _ _ h => h) henv rfl rfl rfl rfl (fun _ => rn_bin henv rfl rfl rfl) ?_
  clear henv a; intro a henv
  rw [show (((qd x) - (qd y)).sign == (0 : Int)) = true from (by rw [hd, Int.sub_self]; rfl)] at henv
  refine tA (i := 13) [14] (v := .bool true) rfl (by kernel_rfl) (fun _ _ _ h => h) henv rfl (fun _ => rn_pick henv rfl rfl) ?_
  clear henv a; intro a henv
  refine tA (i := 14) [] (v := .bool true) rfl (by kernel_rfl) (fun _ _ _ h => h) henv rfl (fun _ => rn_assign henv rfl) ?_
  clear henv a; intro a henv
  refine sAny_done (by kernel_rfl) ?_ _
  refine th_n ?_
  refine wp_ret ?_
  refine leave henv (res1 Tryd.results57 (RV.tmp henv rfl)) ?_
  exact ⟨rfl, hst.below⟩
theorem same_q {A0 B0 : Option Addr} {c0 d0 : Nat} {A1 B1 : Option Addr} {c1 d1 : Nat} {x y : Rat} {w0 : World} (h0 : ZIn w0 A0 c0 (qn x)) (k0 : ZIn w0 B0 d0 (ql x)) (h1 : ZIn w0 A1 c1 (qn y)) (k1 : ZIn w0 B1 d1 (ql y)) {a b : Nat} (sx : Qs a x) (sy : Qs b y) (hab : a + b ≤ 40000) :
    Calls Tryd.prog 57 #[.agg #[.bool (neg (qn x)), .slice A0 (zl (qn x)) c0, .bool (neg (ql x)), .slice B0 (zl (ql x)) d0], .agg #[.bool (neg (qn y)), .slice A1 (zl (qn y)) c1, .bool (neg (ql y)), .slice B1 (zl (ql y)) d1]] w0 fun e w' => e = .returned (.bool (decide (x = y))) ∧ Below w0.heap.size w0 w' := by
  by_cases hn : qn x = qn y
  · by_cases hd : qd x = qd y
    · rw [decide_eq_true (q_ext hn hd)]
      exact same_qe h0 k0 h1 k1 sx sy hab hn hd
    · rw [decide_eq_false fun e => hd (by rw [e])]
      exact same_qd h0 k0 h1 k1 sx sy hab hn hd
  · rw [decide_eq_false fun e => hn (by rw [e])]
    exact same_qn h0 k0 h1 k1 sx sy hab hn
set_option maxRecDepth 100000 in
set_option maxHeartbeats 16000000 in
theorem qfield_no {s1 t1 s2 t2 s3 t3 : List UInt8} {x y z : Rat} {w0 : World} (f1 : ThAs s1 t1 s2 t2 s3 t3 x y z false) :
    Calls Tryd.prog 9 #[.agg #[.string ⟨s1.toArray⟩, .string ⟨t1.toArray⟩], .agg #[.string ⟨s2.toArray⟩, .string ⟨t2.toArray⟩], .agg #[.string ⟨s3.toArray⟩, .string ⟨t3.toArray⟩]] w0 fun e w' => e = .returned (.bool true) ∧ Below w0.heap.size w0 w' := by
  refine enter Tryd.func9 rfl Tryd.ntmps9 rfl ?_
  intro a henv hst
  refine wp_seq ?_
  refine region_seq ?_
  refine seq_step rfl (op_box (c := #[.string ⟨s1.toArray⟩, .string ⟨t1.toArray⟩]) henv hst rfl rfl rfl ?_)
  clear henv hst a; intro a w2 g1 henv hst
  refine seq_step rfl (op_box (c := #[.string ⟨s2.toArray⟩, .string ⟨t2.toArray⟩]) henv hst rfl rfl rfl ?_)
  clear henv hst a; intro a w4 g3 henv hst
  refine seq_step rfl (op_box (c := #[.string ⟨s3.toArray⟩, .string ⟨t3.toArray⟩]) henv hst rfl rfl rfl ?_)
  clear henv hst a; intro a w6 g5 henv hst
  refine sv (v := .bool false) henv rfl (rn_assign henv rfl) ?_
  clear henv a; intro a henv
  refine wpList_nil ?_
  refine th_n ?_
  refine wp_seq ?_
  refine wp_seq ?_
  refine region_seq ?_
  refine seq_step rfl (op_call henv rfl Tryd.call55 rfl (qworks) ?_)
  rintro e w7 ⟨rfl, hb⟩
  refine ⟨_, rfl, ?_⟩
  clear henv a; intro a henv
  replace hst := hst.call hb
  clear hb
  refine sv (v := .bool false) henv rfl (rn_un henv rfl rfl) ?_
  clear henv a; intro a henv
  refine wpList_nil ?_
  refine th_n ?_
  refine if_f henv rfl (rfl) ?_
  refine wp_skip ?_
  refine th_n ?_
  refine wp_seq ?_
  refine region_seq ?_
  revert a
  refine sA (v := .agg #[.string ⟨s1.toArray⟩, .string ⟨t1.toArray⟩]) rfl (fun _ henv => rn_load0 henv ty_anvil_anvillaw03_Frac rfl (hst.oat (k := 2) rfl) rfl) ?_
  refine sA (v := .agg #[.string ⟨s2.toArray⟩, .string ⟨t2.toArray⟩]) rfl (fun _ henv => rn_load0 henv ty_anvil_anvillaw03_Frac rfl (hst.oat (k := 1) rfl) rfl) ?_
  refine sA (v := .agg #[.string ⟨s3.toArray⟩, .string ⟨t3.toArray⟩]) rfl (fun _ henv => rn_load0 henv ty_anvil_anvillaw03_Frac rfl (hst.oat (k := 0) rfl) rfl) ?_
  intro a henv
  refine seq_step rfl (op_call henv rfl Tryd.call56 rfl (f1 _) ?_)
  rintro e w26 ⟨_, _, _, rfl, ⟨A8, c9, B10, d11, rfl, hz12, hz13⟩, ⟨A14, c15, B16, d17, rfl, hz18, hz19⟩, ⟨A20, c21, B22, d23, rfl, hz24, hz25⟩, hb⟩
  refine ⟨_, rfl, ?_⟩
  clear henv a; intro a henv
  replace hst := ((((((hst.call hb).addZ hz12 ⟨nou_bk rfl, nou_bk rfl, nou_bk rfl, trivial⟩).addZ hz13 ⟨nou_bk rfl, nou_bk rfl, nou_bk rfl, trivial⟩).addZ hz18 ⟨nou_bk rfl, nou_bk rfl, nou_bk rfl, trivial⟩).addZ hz19 ⟨nou_bk rfl, nou_bk rfl, nou_bk rfl, trivial⟩).addZ hz24 ⟨nou_bk rfl, nou_bk rfl, nou_bk rfl, trivial⟩).addZ hz25 ⟨nou_bk rfl, nou_bk rfl, nou_bk rfl, trivial⟩
  clear hz12 hz13 hz18 hz19 hz24 hz25
  clear hb
  revert a
  refine mA rfl rfl ?_
  refine sA (v := .agg #[.bool (neg (qn x)), .slice A8 (zl (qn x)) c9, .bool (neg (ql x)), .slice B10 (zl (ql x)) d11]) rfl (fun _ henv => rn_extract henv rfl rfl) ?_
  refine sA (v := .agg #[.bool (neg (qn y)), .slice A14 (zl (qn y)) c15, .bool (neg (ql y)), .slice B16 (zl (ql y)) d17]) rfl (fun _ henv => rn_extract henv rfl rfl) ?_
  refine sA (v := .agg #[.bool (neg (qn z)), .slice A20 (zl (qn z)) c21, .bool (neg (ql z)), .slice B22 (zl (ql z)) d23]) rfl (fun _ henv => rn_extract henv rfl rfl) ?_
  refine sA (v := .bool false) rfl (fun _ henv => rn_extract henv rfl rfl) ?_
  intro a henv
  refine seq_step rfl (op_alloc (c := #[.bool (neg (qn 0)), .slice none (zl (qn 0)) 0, .bool (neg (ql 0)), .slice none (zl (ql 0)) 0]) henv hst rfl zero_anvil_ratio_Rat qcells ?_)
  clear henv hst a; intro a w28 g27 henv hst
  refine seq_step rfl (op_alloc (c := #[.bool (neg (qn 0)), .slice none (zl (qn 0)) 0, .bool (neg (ql 0)), .slice none (zl (ql 0)) 0]) henv hst rfl zero_anvil_ratio_Rat qcells ?_)
  clear henv hst a; intro a w30 g29 henv hst
  refine seq_step rfl (op_alloc (c := #[.bool (neg (qn 0)), .slice none (zl (qn 0)) 0, .bool (neg (ql 0)), .slice none (zl (ql 0)) 0]) henv hst rfl zero_anvil_ratio_Rat qcells ?_)
  clear henv hst a; intro a w32 g31 henv hst
  refine seq_step rfl (op_store (k := 2) (c' := #[.bool (neg (qn x)), .slice A8 (zl (qn x)) c9, .bool (neg (ql x)), .slice B10 (zl (ql x)) d11]) henv hst (ty_anvil_ratio_Rat.size) rfl rfl rfl rfl (by simp) rfl rfl ?_)
  clear henv hst a; intro a w33 henv hst
  refine seq_step rfl (op_store (k := 1) (c' := #[.bool (neg (qn y)), .slice A14 (zl (qn y)) c15, .bool (neg (ql y)), .slice B16 (zl (ql y)) d17]) henv hst (ty_anvil_ratio_Rat.size) rfl rfl rfl rfl (by simp) rfl rfl ?_)
  clear henv hst a; intro a w34 henv hst
  refine seq_step rfl (op_store (k := 0) (c' := #[.bool (neg (qn z)), .slice A20 (zl (qn z)) c21, .bool (neg (ql z)), .slice B22 (zl (ql z)) d23]) henv hst (ty_anvil_ratio_Rat.size) rfl rfl rfl rfl (by simp) rfl rfl ?_)
  clear henv hst a; intro a w35 henv hst
  refine sv (v := .bool false) henv rfl (rn_assign henv rfl) ?_
  clear henv a; intro a henv
  refine wpList_nil ?_
  refine th_n ?_
  refine wp_seq ?_
  refine wp_seq ?_
  refine region_seq ?_
  revert a
  refine mA rfl rfl ?_
  refine sA (v := .bool true) rfl (fun _ henv => rn_un henv rfl rfl) ?_
  intro a henv
  refine wpList_nil ?_
  refine th_n ?_
  refine if_t henv rfl (rfl) ?_
  refine wp_seq ?_
  refine region_seq ?_
  refine sv (v := .bool true) henv rfl (rn_assign henv rfl) ?_
  clear henv a; intro a henv
  refine wpList_nil ?_
  refine th_n ?_
  refine wp_ret ?_
  refine th_r ?_
  refine leave henv (res1 Tryd.results9 (RV.tmp henv rfl)) ?_
  exact ⟨rfl, hst.below⟩
set_option maxRecDepth 100000 in
set_option maxHeartbeats 16000000 in
theorem qfield_zero {s1 t1 s2 t2 s3 t3 : List UInt8} {x y z : Rat} {w0 : World} (f1 : ThAs s1 t1 s2 t2 s3 t3 x y z true) (sx : Qs 400 x) (sy : Qs 400 y) (sz : Qs 400 z) (hy0 : y = 0) :
    Calls Tryd.prog 9 #[.agg #[.string ⟨s1.toArray⟩, .string ⟨t1.toArray⟩], .agg #[.string ⟨s2.toArray⟩, .string ⟨t2.toArray⟩], .agg #[.string ⟨s3.toArray⟩, .string ⟨t3.toArray⟩]] w0 fun e w' => e = .returned (.bool true) ∧ Below w0.heap.size w0 w' := by
  refine enter Tryd.func9 rfl Tryd.ntmps9 rfl ?_
  intro a henv hst
  refine wp_seq ?_
  refine region_seq ?_
  refine seq_step rfl (op_box (c := #[.string ⟨s1.toArray⟩, .string ⟨t1.toArray⟩]) henv hst rfl rfl rfl ?_)
  clear henv hst a; intro a w2 g1 henv hst
  refine seq_step rfl (op_box (c := #[.string ⟨s2.toArray⟩, .string ⟨t2.toArray⟩]) henv hst rfl rfl rfl ?_)
  clear henv hst a; intro a w4 g3 henv hst
  refine seq_step rfl (op_box (c := #[.string ⟨s3.toArray⟩, .string ⟨t3.toArray⟩]) henv hst rfl rfl rfl ?_)
  clear henv hst a; intro a w6 g5 henv hst
  refine sv (v := .bool false) henv rfl (rn_assign henv rfl) ?_
  clear henv a; intro a henv
  refine wpList_nil ?_
  refine th_n ?_
  refine wp_seq ?_
  refine wp_seq ?_
  refine region_seq ?_
  refine seq_step rfl (op_call henv rfl Tryd.call55 rfl (qworks) ?_)
  rintro e w7 ⟨rfl, hb⟩
  refine ⟨_, rfl, ?_⟩
  clear henv a; intro a henv
  replace hst := hst.call hb
  clear hb
  refine sv (v := .bool false) henv rfl (rn_un henv rfl rfl) ?_
  clear henv a; intro a henv
  refine wpList_nil ?_
  refine th_n ?_
  refine if_f henv rfl (rfl) ?_
  refine wp_skip ?_
  refine th_n ?_
  refine wp_seq ?_
  refine region_seq ?_
  revert a
  refine sA (v := .agg #[.string ⟨s1.toArray⟩, .string ⟨t1.toArray⟩]) rfl (fun _ henv => rn_load0 henv ty_anvil_anvillaw03_Frac rfl (hst.oat (k := 2) rfl) rfl) ?_
  refine sA (v := .agg #[.string ⟨s2.toArray⟩, .string ⟨t2.toArray⟩]) rfl (fun _ henv => rn_load0 henv ty_anvil_anvillaw03_Frac rfl (hst.oat (k := 1) rfl) rfl) ?_
  refine sA (v := .agg #[.string ⟨s3.toArray⟩, .string ⟨t3.toArray⟩]) rfl (fun _ henv => rn_load0 henv ty_anvil_anvillaw03_Frac rfl (hst.oat (k := 0) rfl) rfl) ?_
  intro a henv
  refine seq_step rfl (op_call henv rfl Tryd.call56 rfl (f1 _) ?_)
  rintro e w26 ⟨_, _, _, rfl, ⟨A8, c9, B10, d11, rfl, hz12, hz13⟩, ⟨A14, c15, B16, d17, rfl, hz18, hz19⟩, ⟨A20, c21, B22, d23, rfl, hz24, hz25⟩, hb⟩
  refine ⟨_, rfl, ?_⟩
  clear henv a; intro a henv
  replace hst := ((((((hst.call hb).addZ hz12 ⟨nou_bk rfl, nou_bk rfl, nou_bk rfl, trivial⟩).addZ hz13 ⟨nou_bk rfl, nou_bk rfl, nou_bk rfl, trivial⟩).addZ hz18 ⟨nou_bk rfl, nou_bk rfl, nou_bk rfl, trivial⟩).addZ hz19 ⟨nou_bk rfl, nou_bk rfl, nou_bk rfl, trivial⟩).addZ hz24 ⟨nou_bk rfl, nou_bk rfl, nou_bk rfl, trivial⟩).addZ hz25 ⟨nou_bk rfl, nou_bk rfl, nou_bk rfl, trivial⟩
  clear hz12 hz13 hz18 hz19 hz24 hz25
  clear hb
  revert a
  refine mA rfl rfl ?_
  refine sA (v := .agg #[.bool (neg (qn x)), .slice A8 (zl (qn x)) c9, .bool (neg (ql x)), .slice B10 (zl (ql x)) d11]) rfl (fun _ henv => rn_extract henv rfl rfl) ?_
  refine sA (v := .agg #[.bool (neg (qn y)), .slice A14 (zl (qn y)) c15, .bool (neg (ql y)), .slice B16 (zl (ql y)) d17]) rfl (fun _ henv => rn_extract henv rfl rfl) ?_
  refine sA (v := .agg #[.bool (neg (qn z)), .slice A20 (zl (qn z)) c21, .bool (neg (ql z)), .slice B22 (zl (ql z)) d23]) rfl (fun _ henv => rn_extract henv rfl rfl) ?_
  refine sA (v := .bool true) rfl (fun _ henv => rn_extract henv rfl rfl) ?_
  intro a henv
  refine seq_step rfl (op_alloc (c := #[.bool (neg (qn 0)), .slice none (zl (qn 0)) 0, .bool (neg (ql 0)), .slice none (zl (ql 0)) 0]) henv hst rfl zero_anvil_ratio_Rat qcells ?_)
  clear henv hst a; intro a w28 g27 henv hst
  refine seq_step rfl (op_alloc (c := #[.bool (neg (qn 0)), .slice none (zl (qn 0)) 0, .bool (neg (ql 0)), .slice none (zl (ql 0)) 0]) henv hst rfl zero_anvil_ratio_Rat qcells ?_)
  clear henv hst a; intro a w30 g29 henv hst
  refine seq_step rfl (op_alloc (c := #[.bool (neg (qn 0)), .slice none (zl (qn 0)) 0, .bool (neg (ql 0)), .slice none (zl (ql 0)) 0]) henv hst rfl zero_anvil_ratio_Rat qcells ?_)
  clear henv hst a; intro a w32 g31 henv hst
  refine seq_step rfl (op_store (k := 2) (c' := #[.bool (neg (qn x)), .slice A8 (zl (qn x)) c9, .bool (neg (ql x)), .slice B10 (zl (ql x)) d11]) henv hst (ty_anvil_ratio_Rat.size) rfl rfl rfl rfl (by simp) rfl rfl ?_)
  clear henv hst a; intro a w33 henv hst
  refine seq_step rfl (op_store (k := 1) (c' := #[.bool (neg (qn y)), .slice A14 (zl (qn y)) c15, .bool (neg (ql y)), .slice B16 (zl (ql y)) d17]) henv hst (ty_anvil_ratio_Rat.size) rfl rfl rfl rfl (by simp) rfl rfl ?_)
  clear henv hst a; intro a w34 henv hst
  refine seq_step rfl (op_store (k := 0) (c' := #[.bool (neg (qn z)), .slice A20 (zl (qn z)) c21, .bool (neg (ql z)), .slice B22 (zl (ql z)) d23]) henv hst (ty_anvil_ratio_Rat.size) rfl rfl rfl rfl (by simp) rfl rfl ?_)
  clear henv hst a; intro a w35 henv hst
  refine sv (v := .bool true) henv rfl (rn_assign henv rfl) ?_
  clear henv a; intro a henv
  refine wpList_nil ?_
  refine th_n ?_
  refine wp_seq ?_
  refine wp_seq ?_
  refine region_seq ?_
  revert a
  refine mA rfl rfl ?_
  refine sA (v := .bool false) rfl (fun _ henv => rn_un henv rfl rfl) ?_
  intro a henv
  refine wpList_nil ?_
  refine th_n ?_
  refine if_f henv rfl (rfl) ?_
  refine wp_skip ?_
  refine th_n ?_
  refine wp_seq ?_
  refine wp_seq ?_
  simp only [List.append_eq, List.cons_append, List.nil_append]
  refine region_any (n := 83) (Sk [bk g31 #[.bool (neg (qn z)), .slice A20 (zl (qn z)) c21, .bool (neg (ql z)), .slice B22 (zl (ql z)) d23] 91, bk g29 #[.bool (neg (qn y)), .slice A14 (zl (qn y)) c15, .bool (neg (ql y)), .slice B16 (zl (ql y)) d17] 91, bk g27 #[.bool (neg (qn x)), .slice A8 (zl (qn x)) c9, .bool (neg (ql x)), .slice B10 (zl (ql x)) d11] 91, bk g5 #[.string ⟨s3.toArray⟩, .string ⟨t3.toArray⟩] 89, bk g3 #[.string ⟨s2.toArray⟩, .string ⟨t2.toArray⟩] 89, bk g1 #[.string ⟨s1.toArray⟩, .string ⟨t1.toArray⟩] 89] [pfZ B22 d23 (ql z), pfZ A20 c21 (qn z), pfZ B16 d17 (ql y), pfZ A14 c15 (qn y), pfZ B10 d11 (ql x), pfZ A8 c9 (qn x)] [] []) mixed rfl henv hst ?_
  clear henv hst; intro w36 henv hst
  refine tL (i := 0) 2 2 [2, 5, 6, 7, 8, 9, 10, 11, 12, 13, 14, 15, 16, 17, 18, 19, 20, 21, 22, 23, 24, 25, 26, 27, 28, 29, 30, 31, 32, 33, 34, 35, 36, 37, 38, 39, 40, 41, 42, 43, 44, 45, 46, 47, 48, 49, 50, 51, 52, 53, 54, 55, 56, 57, 58, 59, 60, 61, 62, 63, 64, 65, 66, 67, 68, 69, 70, 71, 72, 73, 74, 75, 76, 77, 78, 79, 80, 81, 82] rfl (by as_aux_lemma => kernel_rfl) (fun _ _ _ h => h) henv rfl ty_anvil_ratio_Rat rfl hst rfl rfl rfl ?_
  clear henv a; intro a henv
  refine tL (i := 1) 1 1 [2, 5, 6, 7, 8, 9, 10, 11, 12, 13, 14, 15, 16, 17, 18, 19, 20, 21, 22, 23, 24, 25, 26, 27, 28, 29, 30, 31, 32, 33, 34, 35, 36, 37, 38, 39, 40, 41, 42, 43, 44, 45, 46, 47, 48, 49, 50, 51, 52, 53, 54, 55, 56, 57, 58, 59, 60, 61, 62, 63, 64, 65, 66, 67, 68, 69, 70, 71, 72, 73, 74, 75, 76, 77, 78, 79, 80, 81, 82] rfl (by as_aux_lemma => kernel_rfl) (fun _ _ _ h => h) henv rfl ty_anvil_ratio_Rat rfl hst rfl rfl rfl ?_
  clear henv a; intro a henv
  refine tL (i := 3) 1 1 (rg 5 78) rfl (by as_aux_lemma => kernel_rfl) (fun _ _ _ h => h) henv rfl ty_anvil_ratio_Rat rfl hst rfl rfl rfl ?_
  clear henv a; intro a henv
  refine tL (i := 4) 2 2 (rg 5 78) rfl (by as_aux_lemma => kernel_rfl) (fun _ _ _ h => h) henv rfl ty_anvil_ratio_Rat rfl hst rfl rfl rfl ?_
  clear henv a; intro a henv
  have hq43 : Qs 801 (x + y) := by have h := sx.add sy; exact h
  refine sAny_one (i := 2) (by as_aux_lemma => kernel_rfl) rfl rfl (op_call henv rfl Tryd.call58 rfl (add_q (x := x) (y := y) (show ZIn _ A8 c9 (qn x) from hst.pat (k := 5) rfl) (show ZIn _ B10 d11 (ql x) from hst.pat (k := 4) rfl) (show ZIn _ A14 c15 (qn y) from hst.pat (k := 3) rfl) (show ZIn _ B16 d17 (ql y) from hst.pat (k := 2) rfl) sx sy (by omega)) ?_)
  rintro e w44 ⟨_, rfl, ⟨A37, c38, B39, d40, rfl, hz41, hz42⟩, hb⟩
  refine ⟨_, rfl, ?_⟩
  clear henv a; intro a henv
  replace hst := ((hst.call hb).addZ hz41 ⟨nou_bk rfl, nou_bk rfl, nou_bk rfl, nou_bk rfl, nou_bk rfl, nou_bk rfl, trivial⟩).addZ hz42 ⟨nou_bk rfl, nou_bk rfl, nou_bk rfl, nou_bk rfl, nou_bk rfl, nou_bk rfl, trivial⟩
  clear hz41 hz42
  clear hb
  refine ⟨.inr ⟨hst.kn.pick (rg 0 6) (rg 2 6), .inr (hst.kn.pick [] [])⟩, ?_⟩
  have hq51 : Qs 801 (y + x) := by have h := sy.add sx; exact h
  refine sAny_one (i := 5) (by as_aux_lemma => kernel_rfl) rfl rfl (op_call henv rfl Tryd.call58 rfl (add_q (x := y) (y := x) (show ZIn _ A14 c15 (qn y) from hst.pat (k := 5) rfl) (show ZIn _ B16 d17 (ql y) from hst.pat (k := 4) rfl) (show ZIn _ A8 c9 (qn x) from hst.pat (k := 7) rfl) (show ZIn _ B10 d11 (ql x) from hst.pat (k := 6) rfl) sy sx (by omega)) ?_)
  rintro e w52 ⟨_, rfl, ⟨A45, c46, B47, d48, rfl, hz49, hz50⟩, hb⟩
  refine ⟨_, rfl, ?_⟩
  clear henv a; intro a henv
  replace hst := ((hst.call hb).addZ hz49 ⟨nou_bk rfl, nou_bk rfl, nou_bk rfl, nou_bk rfl, nou_bk rfl, nou_bk rfl, trivial⟩).addZ hz50 ⟨nou_bk rfl, nou_bk rfl, nou_bk rfl, nou_bk rfl, nou_bk rfl, nou_bk rfl, trivial⟩
  clear hz49 hz50
  clear hb
  refine ⟨.inr ⟨hst.kn.pick (rg 0 6) (rg 4 6), .inr (hst.kn.pick [] [])⟩, ?_⟩
  refine sAny_one (i := 6) (by as_aux_lemma => kernel_rfl) rfl rfl (op_call henv rfl Tryd.call57 rfl (same_q (x := x + y) (y := y + x) (show ZIn _ A37 c38 (qn (x + y)) from hst.pat (k := 3) rfl) (show ZIn _ B39 d40 (ql (x + y)) from hst.pat (k := 2) rfl) (show ZIn _ A45 c46 (qn (y + x)) from hst.pat (k := 1) rfl) (show ZIn _ B47 d48 (ql (y + x)) from hst.pat (k := 0) rfl) hq43 hq51 (by omega)) ?_)
  rintro e w53 ⟨rfl, hb⟩
  refine ⟨_, rfl, ?_⟩
  clear henv a; intro a henv
  replace hst := hst.call hb
  clear hb
  refine ⟨.inr ⟨hst.kn.pick (rg 0 6) (rg 4 6), .inr (hst.kn.pick [] [])⟩, ?_⟩
  rw [show (decide (x + y = y + x)) = true from decide_eq_true (Rat.add_comm _ _)] at henv
  refine tA (i := 7) (rg 8 75) (v := .bool false) rfl (by as_aux_lemma => kernel_rfl) (fun _ _ _ h => h) henv rfl (fun _ => rn_un henv rfl rfl) ?_
  clear henv a; intro a henv
  refine tM (i := 8) (rg 9 74) rfl (by as_aux_lemma => kernel_rfl) (fun _ _ _ h => h) henv rfl rfl ?_
  clear henv a; intro a henv
  refine tLg (i := 9) 2 2 [11, 14, 15, 16, 17, 18, 19, 20, 21, 22, 23, 24, 25, 26, 27, 28, 29, 30, 31, 32, 33, 34, 35, 36, 37, 38, 39, 40, 41, 42, 43, 44, 45, 46, 47, 48, 49, 50, 51, 52, 53, 54, 55, 56, 57, 58, 59, 60, 61, 62, 63, 64, 65, 66, 67, 68, 69, 70, 71, 72, 73, 74, 75, 76, 77, 78, 79, 80, 81, 82] rfl (by as_aux_lemma => kernel_rfl) (fun _ _ _ h => h) henv rfl rfl rfl rfl ty_anvil_ratio_Rat rfl hst rfl rfl rfl ?_
  clear henv a; intro a henv
  refine tLg (i := 10) 1 1 [11, 14, 15, 16, 17, 18, 19, 20, 21, 22, 23, 24, 25, 26, 27, 28, 29, 30, 31, 32, 33, 34, 35, 36, 37, 38, 39, 40, 41, 42, 43, 44, 45, 46, 47, 48, 49, 50, 51, 52, 53, 54, 55, 56, 57, 58, 59, 60, 61, 62, 63, 64, 65, 66, 67, 68, 69, 70, 71, 72, 73, 74, 75, 76, 77, 78, 79, 80, 81, 82] rfl (by as_aux_lemma => kernel_rfl) (fun _ _ _ h => h) henv rfl rfl rfl rfl ty_anvil_ratio_Rat rfl hst rfl rfl rfl ?_
  clear henv a; intro a henv
  refine tLg (i := 12) 1 1 (rg 14 69) rfl (by as_aux_lemma => kernel_rfl) (fun _ _ _ h => h) henv rfl rfl rfl rfl ty_anvil_ratio_Rat rfl hst rfl rfl rfl ?_
  clear henv a; intro a henv
  refine tLg (i := 13) 2 2 (rg 14 69) rfl (by as_aux_lemma => kernel_rfl) (fun _ _ _ h => h) henv rfl rfl rfl rfl ty_anvil_ratio_Rat rfl hst rfl rfl rfl ?_
  clear henv a; intro a henv
  refine sAny_oneg (i := 11) (by as_aux_lemma => kernel_rfl) rfl rfl henv rfl rfl rfl (op_call henv rfl Tryd.call59 rfl (mul_q (x := x) (y := y) (show ZIn _ A8 c9 (qn x) from hst.pat (k := 9) rfl) (show ZIn _ B10 d11 (ql x) from hst.pat (k := 8) rfl) (show ZIn _ A14 c15 (qn y) from hst.pat (k := 7) rfl) (show ZIn _ B16 d17 (ql y) from hst.pat (k := 6) rfl) sx sy (by omega)) ?_)
  rintro e w60 ⟨_, rfl, ⟨A54, c55, B56, d57, rfl, hz58, hz59⟩, hb⟩
  refine ⟨_, rfl, ?_⟩
  clear henv a; intro a henv
  replace hst := ((hst.call hb).addZ hz58 ⟨nou_bk rfl, nou_bk rfl, nou_bk rfl, nou_bk rfl, nou_bk rfl, nou_bk rfl, trivial⟩).addZ hz59 ⟨nou_bk rfl, nou_bk rfl, nou_bk rfl, nou_bk rfl, nou_bk rfl, nou_bk rfl, trivial⟩
  clear hz58 hz59
  clear hb
  refine ⟨.inr ⟨hst.kn.pick (rg 0 6) (rg 6 6), .inr (hst.kn.pick [] [])⟩, ?_⟩
  have hq67 : Qs 800 (y * x) := by have h := sy.mul sx; exact h
  refine sAny_oneg (i := 14) (by as_aux_lemma => kernel_rfl) rfl rfl henv rfl rfl rfl (op_call henv rfl Tryd.call59 rfl (mul_q (x := y) (y := x) (show ZIn _ A14 c15 (qn y) from hst.pat (k := 9) rfl) (show ZIn _ B16 d17 (ql y) from hst.pat (k := 8) rfl) (show ZIn _ A8 c9 (qn x) from hst.pat (k := 11) rfl) (show ZIn _ B10 d11 (ql x) from hst.pat (k := 10) rfl) sy sx (by omega)) ?_)
  rintro e w68 ⟨_, rfl, ⟨A61, c62, B63, d64, rfl, hz65, hz66⟩, hb⟩
  refine ⟨_, rfl, ?_⟩
  clear henv a; intro a henv
  replace hst := ((hst.call hb).addZ hz65 ⟨nou_bk rfl, nou_bk rfl, nou_bk rfl, nou_bk rfl, nou_bk rfl, nou_bk rfl, trivial⟩).addZ hz66 ⟨nou_bk rfl, nou_bk rfl, nou_bk rfl, nou_bk rfl, nou_bk rfl, nou_bk rfl, trivial⟩
  clear hz65 hz66
  clear hb
  refine ⟨.inr ⟨hst.kn.pick (rg 0 6) (rg 8 6), .inr (hst.kn.pick [] [])⟩, ?_⟩
  refine sAny_oneg (i := 15) (by as_aux_lemma => kernel_rfl) rfl rfl henv rfl rfl rfl (op_call henv rfl Tryd.call57 rfl (same_q (x := x * y) (y := y * x) (show ZIn _ A54 c55 (qn (x * y)) from hst.pat (k := 3) rfl) (show ZIn _ B56 d57 (ql (x * y)) from hst.pat (k := 2) rfl) (show ZIn _ A61 c62 (qn (y * x)) from hst.pat (k := 1) rfl) (show ZIn _ B63 d64 (ql (y * x)) from hst.pat (k := 0) rfl) (sx.mul sy) hq67 (by omega)) ?_)
  rintro e w69 ⟨rfl, hb⟩
  refine ⟨_, rfl, ?_⟩
  clear henv a; intro a henv
  replace hst := hst.call hb
  clear hb
  refine ⟨.inr ⟨hst.kn.pick (rg 0 6) (rg 8 6), .inr (hst.kn.pick [] [])⟩, ?_⟩
  rw [show (decide (x * y = y * x)) = true from decide_eq_true (Rat.mul_comm _ _)] at henv
  refine tAg (i := 16) (rg 17 66) (v := .bool false) rfl (by as_aux_lemma => kernel_rfl) (fun _ _ _ h => h) henv rfl rfl rfl rfl (fun _ => rn_un henv rfl rfl) ?_
  clear henv a; intro a henv
  refine tA (i := 17) (rg 18 65) (v := .bool false) rfl (by as_aux_lemma => kernel_rfl) (fun _ _ _ h => h) henv rfl (fun _ => rn_pick henv rfl rfl) ?_
  clear henv a; intro a henv
  refine tM (i := 18) (rg 19 64) rfl (by as_aux_lemma => kernel_rfl) (fun _ _ _ h => h) henv rfl rfl ?_
  clear henv a; intro a henv
  refine tLg (i := 19) 2 2 [21, 23, 27, 28, 29, 30, 31, 32, 33, 34, 35, 36, 37, 38, 39, 40, 41, 42, 43, 44, 45, 46, 47, 48, 49, 50, 51, 52, 53, 54, 55, 56, 57, 58, 59, 60, 61, 62, 63, 64, 65, 66, 67, 68, 69, 70, 71, 72, 73, 74, 75, 76, 77, 78, 79, 80, 81, 82] rfl (by as_aux_lemma => kernel_rfl) (fun _ _ _ h => h) henv rfl rfl rfl rfl ty_anvil_ratio_Rat rfl hst rfl rfl rfl ?_
  clear henv a; intro a henv
  refine tLg (i := 20) 1 1 [21, 23, 27, 28, 29, 30, 31, 32, 33, 34, 35, 36, 37, 38, 39, 40, 41, 42, 43, 44, 45, 46, 47, 48, 49, 50, 51, 52, 53, 54, 55, 56, 57, 58, 59, 60, 61, 62, 63, 64, 65, 66, 67, 68, 69, 70, 71, 72, 73, 74, 75, 76, 77, 78, 79, 80, 81, 82] rfl (by as_aux_lemma => kernel_rfl) (fun _ _ _ h => h) henv rfl rfl rfl rfl ty_anvil_ratio_Rat rfl hst rfl rfl rfl ?_
  clear henv a; intro a henv
  refine tLg (i := 22) 0 0 [23, 27, 28, 29, 30, 31, 32, 33, 34, 35, 36, 37, 38, 39, 40, 41, 42, 43, 44, 45, 46, 47, 48, 49, 50, 51, 52, 53, 54, 55, 56, 57, 58, 59, 60, 61, 62, 63, 64, 65, 66, 67, 68, 69, 70, 71, 72, 73, 74, 75, 76, 77, 78, 79, 80, 81, 82] rfl (by as_aux_lemma => kernel_rfl) (fun _ _ _ h => h) henv rfl rfl rfl rfl ty_anvil_ratio_Rat rfl hst rfl rfl rfl ?_
  clear henv a; intro a henv
  refine tLg (i := 24) 2 2 (rg 28 55) rfl (by as_aux_lemma => kernel_rfl) (fun _ _ _ h => h) henv rfl rfl rfl rfl ty_anvil_ratio_Rat rfl hst rfl rfl rfl ?_
  clear henv a; intro a henv
  refine tLg (i := 25) 1 1 (rg 27 56) rfl (by as_aux_lemma => kernel_rfl) (fun _ _ _ h => h) henv rfl rfl rfl rfl ty_anvil_ratio_Rat rfl hst rfl rfl rfl ?_
  clear henv a; intro a henv
  refine tLg (i := 26) 0 0 (rg 27 56) rfl (by as_aux_lemma => kernel_rfl) (fun _ _ _ h => h) henv rfl rfl rfl rfl ty_anvil_ratio_Rat rfl hst rfl rfl rfl ?_
  clear henv a; intro a henv
  refine sAny_oneg (i := 21) (by as_aux_lemma => kernel_rfl) rfl rfl henv rfl rfl rfl (op_call henv rfl Tryd.call58 rfl (add_q (x := x) (y := y) (show ZIn _ A8 c9 (qn x) from hst.pat (k := 13) rfl) (show ZIn _ B10 d11 (ql x) from hst.pat (k := 12) rfl) (show ZIn _ A14 c15 (qn y) from hst.pat (k := 11) rfl) (show ZIn _ B16 d17 (ql y) from hst.pat (k := 10) rfl) sx sy (by omega)) ?_)
  rintro e w76 ⟨_, rfl, ⟨A70, c71, B72, d73, rfl, hz74, hz75⟩, hb⟩
  refine ⟨_, rfl, ?_⟩
  clear henv a; intro a henv
  replace hst := ((hst.call hb).addZ hz74 ⟨nou_bk rfl, nou_bk rfl, nou_bk rfl, nou_bk rfl, nou_bk rfl, nou_bk rfl, trivial⟩).addZ hz75 ⟨nou_bk rfl, nou_bk rfl, nou_bk rfl, nou_bk rfl, nou_bk rfl, nou_bk rfl, trivial⟩
  clear hz74 hz75
  clear hb
  refine ⟨.inr ⟨hst.kn.pick (rg 0 6) (rg 10 6), .inr (hst.kn.pick [] [])⟩, ?_⟩
  have hq83 : Qs 1202 ((x + y) + z) := by have h := hq43.add sz; exact h
  refine sAny_oneg (i := 23) (by as_aux_lemma => kernel_rfl) rfl rfl henv rfl rfl rfl (op_call henv rfl Tryd.call58 rfl (add_q (x := x + y) (y := z) (show ZIn _ A70 c71 (qn (x + y)) from hst.pat (k := 1) rfl) (show ZIn _ B72 d73 (ql (x + y)) from hst.pat (k := 0) rfl) (show ZIn _ A20 c21 (qn z) from hst.pat (k := 11) rfl) (show ZIn _ B22 d23 (ql z) from hst.pat (k := 10) rfl) hq43 sz (by omega)) ?_)
  rintro e w84 ⟨_, rfl, ⟨A77, c78, B79, d80, rfl, hz81, hz82⟩, hb⟩
  refine ⟨_, rfl, ?_⟩
  clear henv a; intro a henv
  replace hst := ((hst.call hb).addZ hz81 ⟨nou_bk rfl, nou_bk rfl, nou_bk rfl, nou_bk rfl, nou_bk rfl, nou_bk rfl, trivial⟩).addZ hz82 ⟨nou_bk rfl, nou_bk rfl, nou_bk rfl, nou_bk rfl, nou_bk rfl, nou_bk rfl, trivial⟩
  clear hz81 hz82
  clear hb
  refine ⟨.inr ⟨hst.kn.pick (rg 0 6) (rg 12 6), .inr (hst.kn.pick [] [])⟩, ?_⟩
  have hq91 : Qs 801 (y + z) := by have h := sy.add sz; exact h
  refine sAny_oneg (i := 27) (by as_aux_lemma => kernel_rfl) rfl rfl henv rfl rfl rfl (op_call henv rfl Tryd.call58 rfl (add_q (x := y) (y := z) (show ZIn _ A14 c15 (qn y) from hst.pat (k := 15) rfl) (show ZIn _ B16 d17 (ql y) from hst.pat (k := 14) rfl) (show ZIn _ A20 c21 (qn z) from hst.pat (k := 13) rfl) (show ZIn _ B22 d23 (ql z) from hst.pat (k := 12) rfl) sy sz (by omega)) ?_)
  rintro e w92 ⟨_, rfl, ⟨A85, c86, B87, d88, rfl, hz89, hz90⟩, hb⟩
  refine ⟨_, rfl, ?_⟩
  clear henv a; intro a henv
  replace hst := ((hst.call hb).addZ hz89 ⟨nou_bk rfl, nou_bk rfl, nou_bk rfl, nou_bk rfl, nou_bk rfl, nou_bk rfl, trivial⟩).addZ hz90 ⟨nou_bk rfl, nou_bk rfl, nou_bk rfl, nou_bk rfl, nou_bk rfl, nou_bk rfl, trivial⟩
  clear hz89 hz90
  clear hb
  refine ⟨.inr ⟨hst.kn.pick (rg 0 6) (rg 14 6), .inr (hst.kn.pick [] [])⟩, ?_⟩
  have hq99 : Qs 1202 (x + (y + z)) := by have h := sx.add hq91; exact h
  refine sAny_oneg (i := 28) (by as_aux_lemma => kernel_rfl) rfl rfl henv rfl rfl rfl (op_call henv rfl Tryd.call58 rfl (add_q (x := x) (y := y + z) (show ZIn _ A8 c9 (qn x) from hst.pat (k := 19) rfl) (show ZIn _ B10 d11 (ql x) from hst.pat (k := 18) rfl) (show ZIn _ A85 c86 (qn (y + z)) from hst.pat (k := 1) rfl) (show ZIn _ B87 d88 (ql (y + z)) from hst.pat (k := 0) rfl) sx hq91 (by omega)) ?_)
  rintro e w100 ⟨_, rfl, ⟨A93, c94, B95, d96, rfl, hz97, hz98⟩, hb⟩
  refine ⟨_, rfl, ?_⟩
  clear henv a; intro a henv
  replace hst := ((hst.call hb).addZ hz97 ⟨nou_bk rfl, nou_bk rfl, nou_bk rfl, nou_bk rfl, nou_bk rfl, nou_bk rfl, trivial⟩).addZ hz98 ⟨nou_bk rfl, nou_bk rfl, nou_bk rfl, nou_bk rfl, nou_bk rfl, nou_bk rfl, trivial⟩
  clear hz97 hz98
  clear hb
  refine ⟨.inr ⟨hst.kn.pick (rg 0 6) (rg 16 6), .inr (hst.kn.pick [] [])⟩, ?_⟩
  refine sAny_oneg (i := 29) (by as_aux_lemma => kernel_rfl) rfl rfl henv rfl rfl rfl (op_call henv rfl Tryd.call57 rfl (same_q (x := (x + y) + z) (y := x + (y + z)) (show ZIn _ A77 c78 (qn ((x + y) + z)) from hst.pat (k := 5) rfl) (show ZIn _ B79 d80 (ql ((x + y) + z)) from hst.pat (k := 4) rfl) (show ZIn _ A93 c94 (qn (x + (y + z))) from hst.pat (k := 1) rfl) (show ZIn _ B95 d96 (ql (x + (y + z))) from hst.pat (k := 0) rfl) hq83 hq99 (by omega)) ?_)
  rintro e w101 ⟨rfl, hb⟩
  refine ⟨_, rfl, ?_⟩
  clear henv a; intro a henv
  replace hst := hst.call hb
  clear hb
  refine ⟨.inr ⟨hst.kn.pick (rg 0 6) (rg 16 6), .inr (hst.kn.pick [] [])⟩, ?_⟩
  rw [show (decide ((x + y) + z = x + (y + z))) = true from decide_eq_true (Rat.add_assoc _ _ _)] at henv
  refine tAg (i := 30) (rg 31 52) (v := .bool false) rfl (by as_aux_lemma => kernel_rfl) (fun _ _ _ h => h) henv rfl rfl rfl rfl (fun _ => rn_un henv rfl rfl) ?_
  clear henv a; intro a henv
  refine tA (i := 31) (rg 32 51) (v := .bool false) rfl (by as_aux_lemma => kernel_rfl) (fun _ _ _ h => h) henv rfl (fun _ => rn_pick henv rfl rfl) ?_
  clear henv a; intro a henv
  refine tM (i := 32) (rg 33 50) rfl (by as_aux_lemma => kernel_rfl) (fun _ _ _ h => h) henv rfl rfl ?_
  clear henv a; intro a henv
  refine tLg (i := 33) 2 2 [35, 37, 41, 42, 43, 44, 45, 46, 47, 48, 49, 50, 51, 52, 53, 54, 55, 56, 57, 58, 59, 60, 61, 62, 63, 64, 65, 66, 67, 68, 69, 70, 71, 72, 73, 74, 75, 76, 77, 78, 79, 80, 81, 82] rfl (by as_aux_lemma => kernel_rfl) (fun _ _ _ h => h) henv rfl rfl rfl rfl ty_anvil_ratio_Rat rfl hst rfl rfl rfl ?_
  clear henv a; intro a henv
  refine tLg (i := 34) 1 1 [35, 37, 41, 42, 43, 44, 45, 46, 47, 48, 49, 50, 51, 52, 53, 54, 55, 56, 57, 58, 59, 60, 61, 62, 63, 64, 65, 66, 67, 68, 69, 70, 71, 72, 73, 74, 75, 76, 77, 78, 79, 80, 81, 82] rfl (by as_aux_lemma => kernel_rfl) (fun _ _ _ h => h) henv rfl rfl rfl rfl ty_anvil_ratio_Rat rfl hst rfl rfl rfl ?_
  clear henv a; intro a henv
  refine tLg (i := 36) 0 0 [37, 41, 42, 43, 44, 45, 46, 47, 48, 49, 50, 51, 52, 53, 54, 55, 56, 57, 58, 59, 60, 61, 62, 63, 64, 65, 66, 67, 68, 69, 70, 71, 72, 73, 74, 75, 76, 77, 78, 79, 80, 81, 82] rfl (by as_aux_lemma => kernel_rfl) (fun _ _ _ h => h) henv rfl rfl rfl rfl ty_anvil_ratio_Rat rfl hst rfl rfl rfl ?_
  clear henv a; intro a henv
  refine tLg (i := 38) 2 2 (rg 42 41) rfl (by as_aux_lemma => kernel_rfl) (fun _ _ _ h => h) henv rfl rfl rfl rfl ty_anvil_ratio_Rat rfl hst rfl rfl rfl ?_
  clear henv a; intro a henv
  refine tLg (i := 39) 1 1 (rg 41 42) rfl (by as_aux_lemma => kernel_rfl) (fun _ _ _ h => h) henv rfl rfl rfl rfl ty_anvil_ratio_Rat rfl hst rfl rfl rfl ?_
  clear henv a; intro a henv
  refine tLg (i := 40) 0 0 (rg 41 42) rfl (by as_aux_lemma => kernel_rfl) (fun _ _ _ h => h) henv rfl rfl rfl rfl ty_anvil_ratio_Rat rfl hst rfl rfl rfl ?_
  clear henv a; intro a henv
  refine sAny_oneg (i := 35) (by as_aux_lemma => kernel_rfl) rfl rfl henv rfl rfl rfl (op_call henv rfl Tryd.call59 rfl (mul_q (x := x) (y := y) (show ZIn _ A8 c9 (qn x) from hst.pat (k := 21) rfl) (show ZIn _ B10 d11 (ql x) from hst.pat (k := 20) rfl) (show ZIn _ A14 c15 (qn y) from hst.pat (k := 19) rfl) (show ZIn _ B16 d17 (ql y) from hst.pat (k := 18) rfl) sx sy (by omega)) ?_)
  rintro e w108 ⟨_, rfl, ⟨A102, c103, B104, d105, rfl, hz106, hz107⟩, hb⟩
  refine ⟨_, rfl, ?_⟩
  clear henv a; intro a henv
  replace hst := ((hst.call hb).addZ hz106 ⟨nou_bk rfl, nou_bk rfl, nou_bk rfl, nou_bk rfl, nou_bk rfl, nou_bk rfl, trivial⟩).addZ hz107 ⟨nou_bk rfl, nou_bk rfl, nou_bk rfl, nou_bk rfl, nou_bk rfl, nou_bk rfl, trivial⟩
  clear hz106 hz107
  clear hb
  refine ⟨.inr ⟨hst.kn.pick (rg 0 6) (rg 18 6), .inr (hst.kn.pick [] [])⟩, ?_⟩
  have hq115 : Qs 1200 ((x * y) * z) := by have h := (sx.mul sy).mul sz; exact h
  refine sAny_oneg (i := 37) (by as_aux_lemma => kernel_rfl) rfl rfl henv rfl rfl rfl (op_call henv rfl Tryd.call59 rfl (mul_q (x := x * y) (y := z) (show ZIn _ A102 c103 (qn (x * y)) from hst.pat (k := 1) rfl) (show ZIn _ B104 d105 (ql (x * y)) from hst.pat (k := 0) rfl) (show ZIn _ A20 c21 (qn z) from hst.pat (k := 19) rfl) (show ZIn _ B22 d23 (ql z) from hst.pat (k := 18) rfl) (sx.mul sy) sz (by omega)) ?_)
  rintro e w116 ⟨_, rfl, ⟨A109, c110, B111, d112, rfl, hz113, hz114⟩, hb⟩
  refine ⟨_, rfl, ?_⟩
  clear henv a; intro a henv
  replace hst := ((hst.call hb).addZ hz113 ⟨nou_bk rfl, nou_bk rfl, nou_bk rfl, nou_bk rfl, nou_bk rfl, nou_bk rfl, trivial⟩).addZ hz114 ⟨nou_bk rfl, nou_bk rfl, nou_bk rfl, nou_bk rfl, nou_bk rfl, nou_bk rfl, trivial⟩
  clear hz113 hz114
  clear hb
  refine ⟨.inr ⟨hst.kn.pick (rg 0 6) (rg 20 6), .inr (hst.kn.pick [] [])⟩, ?_⟩
  have hq123 : Qs 800 (y * z) := by have h := sy.mul sz; exact h
  refine sAny_oneg (i := 41) (by as_aux_lemma => kernel_rfl) rfl rfl henv rfl rfl rfl (op_call henv rfl Tryd.call59 rfl (mul_q (x := y) (y := z) (show ZIn _ A14 c15 (qn y) from hst.pat (k := 23) rfl) (show ZIn _ B16 d17 (ql y) from hst.pat (k := 22) rfl) (show ZIn _ A20 c21 (qn z) from hst.pat (k := 21) rfl) (show ZIn _ B22 d23 (ql z) from hst.pat (k := 20) rfl) sy sz (by omega)) ?_)
  rintro e w124 ⟨_, rfl, ⟨A117, c118, B119, d120, rfl, hz121, hz122⟩, hb⟩
  refine ⟨_, rfl, ?_⟩
  clear henv a; intro a henv
  replace hst := ((hst.call hb).addZ hz121 ⟨nou_bk rfl, nou_bk rfl, nou_bk rfl, nou_bk rfl, nou_bk rfl, nou_bk rfl, trivial⟩).addZ hz122 ⟨nou_bk rfl, nou_bk rfl, nou_bk rfl, nou_bk rfl, nou_bk rfl, nou_bk rfl, trivial⟩
  clear hz121 hz122
  clear hb
  refine ⟨.inr ⟨hst.kn.pick (rg 0 6) (rg 22 6), .inr (hst.kn.pick [] [])⟩, ?_⟩
  have hq131 : Qs 1200 (x * (y * z)) := by have h := sx.mul hq123; exact h
  refine sAny_oneg (i := 42) (by as_aux_lemma => kernel_rfl) rfl rfl henv rfl rfl rfl (op_call henv rfl Tryd.call59 rfl (mul_q (x := x) (y := y * z) (show ZIn _ A8 c9 (qn x) from hst.pat (k := 27) rfl) (show ZIn _ B10 d11 (ql x) from hst.pat (k := 26) rfl) (show ZIn _ A117 c118 (qn (y * z)) from hst.pat (k := 1) rfl) (show ZIn _ B119 d120 (ql (y * z)) from hst.pat (k := 0) rfl) sx hq123 (by omega)) ?_)
  rintro e w132 ⟨_, rfl, ⟨A125, c126, B127, d128, rfl, hz129, hz130⟩, hb⟩
  refine ⟨_, rfl, ?_⟩
  clear henv a; intro a henv
  replace hst := ((hst.call hb).addZ hz129 ⟨nou_bk rfl, nou_bk rfl, nou_bk rfl, nou_bk rfl, nou_bk rfl, nou_bk rfl, trivial⟩).addZ hz130 ⟨nou_bk rfl, nou_bk rfl, nou_bk rfl, nou_bk rfl, nou_bk rfl, nou_bk rfl, trivial⟩
  clear hz129 hz130
  clear hb
  refine ⟨.inr ⟨hst.kn.pick (rg 0 6) (rg 24 6), .inr (hst.kn.pick [] [])⟩, ?_⟩
  refine sAny_oneg (i := 43) (by as_aux_lemma => kernel_rfl) rfl rfl henv rfl rfl rfl (op_call henv rfl Tryd.call57 rfl (same_q (x := (x * y) * z) (y := x * (y * z)) (show ZIn _ A109 c110 (qn ((x * y) * z)) from hst.pat (k := 5) rfl) (show ZIn _ B111 d112 (ql ((x * y) * z)) from hst.pat (k := 4) rfl) (show ZIn _ A125 c126 (qn (x * (y * z))) from hst.pat (k := 1) rfl) (show ZIn _ B127 d128 (ql (x * (y * z))) from hst.pat (k := 0) rfl) hq115 hq131 (by omega)) ?_)
  rintro e w133 ⟨rfl, hb⟩
  refine ⟨_, rfl, ?_⟩
  clear henv a; intro a henv
  replace hst := hst.call hb
  clear hb
  refine ⟨.inr ⟨hst.kn.pick (rg 0 6) (rg 24 6), .inr (hst.kn.pick [] [])⟩, ?_⟩
  rw [show (decide ((x * y) * z = x * (y * z))) = true from decide_eq_true (Rat.mul_assoc _ _ _)] at henv
  refine tAg (i := 44) (rg 45 38) (v := .bool false) rfl (by as_aux_lemma => kernel_rfl) (fun _ _ _ h => h) henv rfl rfl rfl rfl (fun _ => rn_un henv rfl rfl) ?_
  clear henv a; intro a henv
  refine tA (i := 45) (rg 46 37) (v := .bool false) rfl (by as_aux_lemma => kernel_rfl) (fun _ _ _ h => h) henv rfl (fun _ => rn_pick henv rfl rfl) ?_
  clear henv a; intro a henv
  refine tM (i := 46) (rg 47 36) rfl (by as_aux_lemma => kernel_rfl) (fun _ _ _ h => h) henv rfl rfl ?_
  clear henv a; intro a henv
  refine tLg (i := 47) 2 2 [51, 54, 57, 58, 59, 60, 61, 62, 63, 64, 65, 66, 67, 68, 69, 70, 71, 72, 73, 74, 75, 76, 77, 78, 79, 80, 81, 82] rfl (by as_aux_lemma => kernel_rfl) (fun _ _ _ h => h) henv rfl rfl rfl rfl ty_anvil_ratio_Rat rfl hst rfl rfl rfl ?_
  clear henv a; intro a henv
  refine tLg (i := 48) 1 1 [50, 51, 54, 57, 58, 59, 60, 61, 62, 63, 64, 65, 66, 67, 68, 69, 70, 71, 72, 73, 74, 75, 76, 77, 78, 79, 80, 81, 82] rfl (by as_aux_lemma => kernel_rfl) (fun _ _ _ h => h) henv rfl rfl rfl rfl ty_anvil_ratio_Rat rfl hst rfl rfl rfl ?_
  clear henv a; intro a henv
  refine tLg (i := 49) 0 0 [50, 51, 54, 57, 58, 59, 60, 61, 62, 63, 64, 65, 66, 67, 68, 69, 70, 71, 72, 73, 74, 75, 76, 77, 78, 79, 80, 81, 82] rfl (by as_aux_lemma => kernel_rfl) (fun _ _ _ h => h) henv rfl rfl rfl rfl ty_anvil_ratio_Rat rfl hst rfl rfl rfl ?_
  clear henv a; intro a henv
  refine tLg (i := 52) 2 2 [54, 57, 58, 59, 60, 61, 62, 63, 64, 65, 66, 67, 68, 69, 70, 71, 72, 73, 74, 75, 76, 77, 78, 79, 80, 81, 82] rfl (by as_aux_lemma => kernel_rfl) (fun _ _ _ h => h) henv rfl rfl rfl rfl ty_anvil_ratio_Rat rfl hst rfl rfl rfl ?_
  clear henv a; intro a henv
  refine tLg (i := 53) 1 1 [54, 57, 58, 59, 60, 61, 62, 63, 64, 65, 66, 67, 68, 69, 70, 71, 72, 73, 74, 75, 76, 77, 78, 79, 80, 81, 82] rfl (by as_aux_lemma => kernel_rfl) (fun _ _ _ h => h) henv rfl rfl rfl rfl ty_anvil_ratio_Rat rfl hst rfl rfl rfl ?_
  clear henv a; intro a henv
  refine tLg (i := 55) 2 2 (rg 57 26) rfl (by as_aux_lemma => kernel_rfl) (fun _ _ _ h => h) henv rfl rfl rfl rfl ty_anvil_ratio_Rat rfl hst rfl rfl rfl ?_
  clear henv a; intro a henv
  refine tLg (i := 56) 0 0 (rg 57 26) rfl (by as_aux_lemma => kernel_rfl) (fun _ _ _ h => h) henv rfl rfl rfl rfl ty_anvil_ratio_Rat rfl hst rfl rfl rfl ?_
  clear henv a; intro a henv
  refine sAny_oneg (i := 50) (by as_aux_lemma => kernel_rfl) rfl rfl henv rfl rfl rfl (op_call henv rfl Tryd.call58 rfl (add_q (x := y) (y := z) (show ZIn _ A14 c15 (qn y) from hst.pat (k := 27) rfl) (show ZIn _ B16 d17 (ql y) from hst.pat (k := 26) rfl) (show ZIn _ A20 c21 (qn z) from hst.pat (k := 25) rfl) (show ZIn _ B22 d23 (ql z) from hst.pat (k := 24) rfl) sy sz (by omega)) ?_)
  rintro e w140 ⟨_, rfl, ⟨A134, c135, B136, d137, rfl, hz138, hz139⟩, hb⟩
  refine ⟨_, rfl, ?_⟩
  clear henv a; intro a henv
  replace hst := ((hst.call hb).addZ hz138 ⟨nou_bk rfl, nou_bk rfl, nou_bk rfl, nou_bk rfl, nou_bk rfl, nou_bk rfl, trivial⟩).addZ hz139 ⟨nou_bk rfl, nou_bk rfl, nou_bk rfl, nou_bk rfl, nou_bk rfl, nou_bk rfl, trivial⟩
  clear hz138 hz139
  clear hb
  refine ⟨.inr ⟨hst.kn.pick (rg 0 6) (rg 26 6), .inr (hst.kn.pick [] [])⟩, ?_⟩
  have hq147 : Qs 1201 (x * (y + z)) := by have h := sx.mul hq91; exact h
  refine sAny_oneg (i := 51) (by as_aux_lemma => kernel_rfl) rfl rfl henv rfl rfl rfl (op_call henv rfl Tryd.call59 rfl (mul_q (x := x) (y := y + z) (show ZIn _ A8 c9 (qn x) from hst.pat (k := 31) rfl) (show ZIn _ B10 d11 (ql x) from hst.pat (k := 30) rfl) (show ZIn _ A134 c135 (qn (y + z)) from hst.pat (k := 1) rfl) (show ZIn _ B136 d137 (ql (y + z)) from hst.pat (k := 0) rfl) sx hq91 (by omega)) ?_)
  rintro e w148 ⟨_, rfl, ⟨A141, c142, B143, d144, rfl, hz145, hz146⟩, hb⟩
  refine ⟨_, rfl, ?_⟩
  clear henv a; intro a henv
  replace hst := ((hst.call hb).addZ hz145 ⟨nou_bk rfl, nou_bk rfl, nou_bk rfl, nou_bk rfl, nou_bk rfl, nou_bk rfl, trivial⟩).addZ hz146 ⟨nou_bk rfl, nou_bk rfl, nou_bk rfl, nou_bk rfl, nou_bk rfl, nou_bk rfl, trivial⟩
  clear hz145 hz146
  clear hb
  refine ⟨.inr ⟨hst.kn.pick (rg 0 6) (rg 28 6), .inr (hst.kn.pick [] [])⟩, ?_⟩
  refine sAny_oneg (i := 54) (by as_aux_lemma => kernel_rfl) rfl rfl henv rfl rfl rfl (op_call henv rfl Tryd.call59 rfl (mul_q (x := x) (y := y) (show ZIn _ A8 c9 (qn x) from hst.pat (k := 33) rfl) (show ZIn _ B10 d11 (ql x) from hst.pat (k := 32) rfl) (show ZIn _ A14 c15 (qn y) from hst.pat (k := 31) rfl) (show ZIn _ B16 d17 (ql y) from hst.pat (k := 30) rfl) sx sy (by omega)) ?_)
  rintro e w155 ⟨_, rfl, ⟨A149, c150, B151, d152, rfl, hz153, hz154⟩, hb⟩
  refine ⟨_, rfl, ?_⟩
  clear henv a; intro a henv
  replace hst := ((hst.call hb).addZ hz153 ⟨nou_bk rfl, nou_bk rfl, nou_bk rfl, nou_bk rfl, nou_bk rfl, nou_bk rfl, trivial⟩).addZ hz154 ⟨nou_bk rfl, nou_bk rfl, nou_bk rfl, nou_bk rfl, nou_bk rfl, nou_bk rfl, trivial⟩
  clear hz153 hz154
  clear hb
  refine ⟨.inr ⟨hst.kn.pick (rg 0 6) (rg 30 6), .inr (hst.kn.pick [] [])⟩, ?_⟩
  have hq162 : Qs 800 (x * z) := by have h := sx.mul sz; exact h
  refine sAny_oneg (i := 57) (by as_aux_lemma => kernel_rfl) rfl rfl henv rfl rfl rfl (op_call henv rfl Tryd.call59 rfl (mul_q (x := x) (y := z) (show ZIn _ A8 c9 (qn x) from hst.pat (k := 35) rfl) (show ZIn _ B10 d11 (ql x) from hst.pat (k := 34) rfl) (show ZIn _ A20 c21 (qn z) from hst.pat (k := 31) rfl) (show ZIn _ B22 d23 (ql z) from hst.pat (k := 30) rfl) sx sz (by omega)) ?_)
  rintro e w163 ⟨_, rfl, ⟨A156, c157, B158, d159, rfl, hz160, hz161⟩, hb⟩
  refine ⟨_, rfl, ?_⟩
  clear henv a; intro a henv
  replace hst := ((hst.call hb).addZ hz160 ⟨nou_bk rfl, nou_bk rfl, nou_bk rfl, nou_bk rfl, nou_bk rfl, nou_bk rfl, trivial⟩).addZ hz161 ⟨nou_bk rfl, nou_bk rfl, nou_bk rfl, nou_bk rfl, nou_bk rfl, nou_bk rfl, trivial⟩
  clear hz160 hz161
  clear hb
  refine ⟨.inr ⟨hst.kn.pick (rg 0 6) (rg 32 6), .inr (hst.kn.pick [] [])⟩, ?_⟩
  have hq170 : Qs 1601 ((x * y) + (x * z)) := by have h := (sx.mul sy).add hq162; exact h
  refine sAny_oneg (i := 58) (by as_aux_lemma => kernel_rfl) rfl rfl henv rfl rfl rfl (op_call henv rfl Tryd.call58 rfl (add_q (x := x * y) (y := x * z) (show ZIn _ A149 c150 (qn (x * y)) from hst.pat (k := 3) rfl) (show ZIn _ B151 d152 (ql (x * y)) from hst.pat (k := 2) rfl) (show ZIn _ A156 c157 (qn (x * z)) from hst.pat (k := 1) rfl) (show ZIn _ B158 d159 (ql (x * z)) from hst.pat (k := 0) rfl) (sx.mul sy) hq162 (by omega)) ?_)
  rintro e w171 ⟨_, rfl, ⟨A164, c165, B166, d167, rfl, hz168, hz169⟩, hb⟩
  refine ⟨_, rfl, ?_⟩
  clear henv a; intro a henv
  replace hst := ((hst.call hb).addZ hz168 ⟨nou_bk rfl, nou_bk rfl, nou_bk rfl, nou_bk rfl, nou_bk rfl, nou_bk rfl, trivial⟩).addZ hz169 ⟨nou_bk rfl, nou_bk rfl, nou_bk rfl, nou_bk rfl, nou_bk rfl, nou_bk rfl, trivial⟩
  clear hz168 hz169
  clear hb
  refine ⟨.inr ⟨hst.kn.pick (rg 0 6) (rg 34 6), .inr (hst.kn.pick [] [])⟩, ?_⟩
  refine sAny_oneg (i := 59) (by as_aux_lemma => kernel_rfl) rfl rfl henv rfl rfl rfl (op_call henv rfl Tryd.call57 rfl (same_q (x := x * (y + z)) (y := (x * y) + (x * z)) (show ZIn _ A141 c142 (qn (x * (y + z))) from hst.pat (k := 7) rfl) (show ZIn _ B143 d144 (ql (x * (y + z))) from hst.pat (k := 6) rfl) (show ZIn _ A164 c165 (qn ((x * y) + (x * z))) from hst.pat (k := 1) rfl) (show ZIn _ B166 d167 (ql ((x * y) + (x * z))) from hst.pat (k := 0) rfl) hq147 hq170 (by omega)) ?_)
  rintro e w172 ⟨rfl, hb⟩
  refine ⟨_, rfl, ?_⟩
  clear henv a; intro a henv
  replace hst := hst.call hb
  clear hb
  refine ⟨.inr ⟨hst.kn.pick (rg 0 6) (rg 34 6), .inr (hst.kn.pick [] [])⟩, ?_⟩
  rw [show (decide (x * (y + z) = (x * y) + (x * z))) = true from decide_eq_true (Rat.mul_add _ _ _)] at henv
  refine tAg (i := 60) (rg 61 22) (v := .bool false) rfl (by as_aux_lemma => kernel_rfl) (fun _ _ _ h => h) henv rfl rfl rfl rfl (fun _ => rn_un henv rfl rfl) ?_
  clear henv a; intro a henv
  refine tA (i := 61) (rg 62 21) (v := .bool false) rfl (by as_aux_lemma => kernel_rfl) (fun _ _ _ h => h) henv rfl (fun _ => rn_pick henv rfl rfl) ?_
  clear henv a; intro a henv
  refine tM (i := 62) (rg 63 20) rfl (by as_aux_lemma => kernel_rfl) (fun _ _ _ h => h) henv rfl rfl ?_
  clear henv a; intro a henv
  refine tLg (i := 63) 2 2 [65, 67, 69, 70, 71, 72, 73, 74, 75, 76, 77, 78, 79, 80, 81, 82] rfl (by as_aux_lemma => kernel_rfl) (fun _ _ _ h => h) henv rfl rfl rfl rfl ty_anvil_ratio_Rat rfl hst rfl rfl rfl ?_
  clear henv a; intro a henv
  refine tLg (i := 64) 1 1 [65, 67, 69, 70, 71, 72, 73, 74, 75, 76, 77, 78, 79, 80, 81, 82] rfl (by as_aux_lemma => kernel_rfl) (fun _ _ _ h => h) henv rfl rfl rfl rfl ty_anvil_ratio_Rat rfl hst rfl rfl rfl ?_
  clear henv a; intro a henv
  refine tLg (i := 66) 1 1 [67, 69, 70, 71, 72, 73, 74, 75, 76, 77, 78, 79, 80, 81, 82] rfl (by as_aux_lemma => kernel_rfl) (fun _ _ _ h => h) henv rfl rfl rfl rfl ty_anvil_ratio_Rat rfl hst rfl rfl rfl ?_
  clear henv a; intro a henv
  refine tLg (i := 68) 2 2 (rg 69 14) rfl (by as_aux_lemma => kernel_rfl) (fun _ _ _ h => h) henv rfl rfl rfl rfl ty_anvil_ratio_Rat rfl hst rfl rfl rfl ?_
  clear henv a; intro a henv
  refine sAny_oneg (i := 65) (by as_aux_lemma => kernel_rfl) rfl rfl henv rfl rfl rfl (op_call henv rfl Tryd.call58 rfl (add_q (x := x) (y := y) (show ZIn _ A8 c9 (qn x) from hst.pat (k := 39) rfl) (show ZIn _ B10 d11 (ql x) from hst.pat (k := 38) rfl) (show ZIn _ A14 c15 (qn y) from hst.pat (k := 37) rfl) (show ZIn _ B16 d17 (ql y) from hst.pat (k := 36) rfl) sx sy (by omega)) ?_)
  rintro e w179 ⟨_, rfl, ⟨A173, c174, B175, d176, rfl, hz177, hz178⟩, hb⟩
  refine ⟨_, rfl, ?_⟩
  clear henv a; intro a henv
  replace hst := ((hst.call hb).addZ hz177 ⟨nou_bk rfl, nou_bk rfl, nou_bk rfl, nou_bk rfl, nou_bk rfl, nou_bk rfl, trivial⟩).addZ hz178 ⟨nou_bk rfl, nou_bk rfl, nou_bk rfl, nou_bk rfl, nou_bk rfl, nou_bk rfl, trivial⟩
  clear hz177 hz178
  clear hb
  refine ⟨.inr ⟨hst.kn.pick (rg 0 6) (rg 36 6), .inr (hst.kn.pick [] [])⟩, ?_⟩
  have hq186 : Qs 1202 ((x + y) - y) := by have h := hq43.sub sy; exact h
  refine sAny_oneg (i := 67) (by as_aux_lemma => kernel_rfl) rfl rfl henv rfl rfl rfl (op_call henv rfl Tryd.call60 rfl (sub_q (x := x + y) (y := y) (show ZIn _ A173 c174 (qn (x + y)) from hst.pat (k := 1) rfl) (show ZIn _ B175 d176 (ql (x + y)) from hst.pat (k := 0) rfl) (show ZIn _ A14 c15 (qn y) from hst.pat (k := 39) rfl) (show ZIn _ B16 d17 (ql y) from hst.pat (k := 38) rfl) hq43 sy (by omega)) ?_)
  rintro e w187 ⟨_, rfl, ⟨A180, c181, B182, d183, rfl, hz184, hz185⟩, hb⟩
  refine ⟨_, rfl, ?_⟩
  clear henv a; intro a henv
  replace hst := ((hst.call hb).addZ hz184 ⟨nou_bk rfl, nou_bk rfl, nou_bk rfl, nou_bk rfl, nou_bk rfl, nou_bk rfl, trivial⟩).addZ hz185 ⟨nou_bk rfl, nou_bk rfl, nou_bk rfl, nou_bk rfl, nou_bk rfl, nou_bk rfl, trivial⟩
  clear hz184 hz185
  clear hb
  refine ⟨.inr ⟨hst.kn.pick (rg 0 6) (rg 38 6), .inr (hst.kn.pick [] [])⟩, ?_⟩
  refine sAny_oneg (i := 69) (by as_aux_lemma => kernel_rfl) rfl rfl henv rfl rfl rfl (op_call henv rfl Tryd.call57 rfl (same_q (x := (x + y) - y) (y := x) (show ZIn _ A180 c181 (qn ((x + y) - y)) from hst.pat (k := 1) rfl) (show ZIn _ B182 d183 (ql ((x + y) - y)) from hst.pat (k := 0) rfl) (show ZIn _ A8 c9 (qn x) from hst.pat (k := 43) rfl) (show ZIn _ B10 d11 (ql x) from hst.pat (k := 42) rfl) hq186 sx (by omega)) ?_)
  rintro e w188 ⟨rfl, hb⟩
  refine ⟨_, rfl, ?_⟩
  clear henv a; intro a henv
  replace hst := hst.call hb
  clear hb
  refine ⟨.inr ⟨hst.kn.pick (rg 0 6) (rg 38 6), .inr (hst.kn.pick [] [])⟩, ?_⟩
  rw [show (decide ((x + y) - y = x)) = true from decide_eq_true (Rat.add_sub_cancel)] at henv
  refine tAg (i := 70) (rg 71 12) (v := .bool false) rfl (by as_aux_lemma => kernel_rfl) (fun _ _ _ h => h) henv rfl rfl rfl rfl (fun _ => rn_un henv rfl rfl) ?_
  clear henv a; intro a henv
  refine tA (i := 71) (rg 72 11) (v := .bool false) rfl (by as_aux_lemma => kernel_rfl) (fun _ _ _ h => h) henv rfl (fun _ => rn_pick henv rfl rfl) ?_
  clear henv a; intro a henv
  refine tM (i := 72) (rg 73 10) rfl (by as_aux_lemma => kernel_rfl) (fun _ _ _ h => h) henv rfl rfl ?_
  clear henv a; intro a henv
  refine tLg (i := 73) 2 2 [75, 78, 79, 80, 81, 82] rfl (by as_aux_lemma => kernel_rfl) (fun _ _ _ h => h) henv rfl rfl rfl rfl ty_anvil_ratio_Rat rfl hst rfl rfl rfl ?_
  clear henv a; intro a henv
  refine tLg (i := 74) 1 1 [75, 78, 79, 80, 81, 82] rfl (by as_aux_lemma => kernel_rfl) (fun _ _ _ h => h) henv rfl rfl rfl rfl ty_anvil_ratio_Rat rfl hst rfl rfl rfl ?_
  clear henv a; intro a henv
  refine tLg (i := 76) 2 2 (rg 79 4) rfl (by as_aux_lemma => kernel_rfl) (fun _ _ _ h => h) henv rfl rfl rfl rfl ty_anvil_ratio_Rat rfl hst rfl rfl rfl ?_
  clear henv a; intro a henv
  refine tLg (i := 77) 1 1 (rg 78 5) rfl (by as_aux_lemma => kernel_rfl) (fun _ _ _ h => h) henv rfl rfl rfl rfl ty_anvil_ratio_Rat rfl hst rfl rfl rfl ?_
  clear henv a; intro a henv
  have hq195 : Qs 801 (x - y) := by have h := sx.sub sy; exact h
  refine sAny_oneg (i := 75) (by as_aux_lemma => kernel_rfl) rfl rfl henv rfl rfl rfl (op_call henv rfl Tryd.call60 rfl (sub_q (x := x) (y := y) (show ZIn _ A8 c9 (qn x) from hst.pat (k := 43) rfl) (show ZIn _ B10 d11 (ql x) from hst.pat (k := 42) rfl) (show ZIn _ A14 c15 (qn y) from hst.pat (k := 41) rfl) (show ZIn _ B16 d17 (ql y) from hst.pat (k := 40) rfl) sx sy (by omega)) ?_)
  rintro e w196 ⟨_, rfl, ⟨A189, c190, B191, d192, rfl, hz193, hz194⟩, hb⟩
  refine ⟨_, rfl, ?_⟩
  clear henv a; intro a henv
  replace hst := ((hst.call hb).addZ hz193 ⟨nou_bk rfl, nou_bk rfl, nou_bk rfl, nou_bk rfl, nou_bk rfl, nou_bk rfl, trivial⟩).addZ hz194 ⟨nou_bk rfl, nou_bk rfl, nou_bk rfl, nou_bk rfl, nou_bk rfl, nou_bk rfl, trivial⟩
  clear hz193 hz194
  clear hb
  refine ⟨.inr ⟨hst.kn.pick (rg 0 6) (rg 40 6), .inr (hst.kn.pick [] [])⟩, ?_⟩
  have hq203 : Qs 400 (-y) := by have h := sy.neg; exact h
  refine sAny_oneg (i := 78) (by as_aux_lemma => kernel_rfl) rfl rfl henv rfl rfl rfl (op_call henv rfl Tryd.call61 rfl (neg_q (x := y) (show ZIn _ A14 c15 (qn y) from hst.pat (k := 43) rfl) (show ZIn _ B16 d17 (ql y) from hst.pat (k := 42) rfl)) ?_)
  rintro e w204 ⟨_, rfl, ⟨A197, c198, B199, d200, rfl, hz201, hz202⟩, hb⟩
  refine ⟨_, rfl, ?_⟩
  clear henv a; intro a henv
  replace hst := ((hst.call hb).addZ hz201 ⟨nou_bk rfl, nou_bk rfl, nou_bk rfl, nou_bk rfl, nou_bk rfl, nou_bk rfl, trivial⟩).addZ hz202 ⟨nou_bk rfl, nou_bk rfl, nou_bk rfl, nou_bk rfl, nou_bk rfl, nou_bk rfl, trivial⟩
  clear hz201 hz202
  clear hb
  refine ⟨.inr ⟨hst.kn.pick (rg 0 6) (rg 42 6), .inr (hst.kn.pick [] [])⟩, ?_⟩
  have hq211 : Qs 801 (x + (-y)) := by have h := sx.add hq203; exact h
  refine sAny_oneg (i := 79) (by as_aux_lemma => kernel_rfl) rfl rfl henv rfl rfl rfl (op_call henv rfl Tryd.call58 rfl (add_q (x := x) (y := -y) (show ZIn _ A8 c9 (qn x) from hst.pat (k := 47) rfl) (show ZIn _ B10 d11 (ql x) from hst.pat (k := 46) rfl) (show ZIn _ A197 c198 (qn (-y)) from hst.pat (k := 1) rfl) (show ZIn _ B199 d200 (ql (-y)) from hst.pat (k := 0) rfl) sx hq203 (by omega)) ?_)
  rintro e w212 ⟨_, rfl, ⟨A205, c206, B207, d208, rfl, hz209, hz210⟩, hb⟩
  refine ⟨_, rfl, ?_⟩
  clear henv a; intro a henv
  replace hst := ((hst.call hb).addZ hz209 ⟨nou_bk rfl, nou_bk rfl, nou_bk rfl, nou_bk rfl, nou_bk rfl, nou_bk rfl, trivial⟩).addZ hz210 ⟨nou_bk rfl, nou_bk rfl, nou_bk rfl, nou_bk rfl, nou_bk rfl, nou_bk rfl, trivial⟩
  clear hz209 hz210
  clear hb
  refine ⟨.inr ⟨hst.kn.pick (rg 0 6) (rg 44 6), .inr (hst.kn.pick [] [])⟩, ?_⟩
  refine sAny_oneg (i := 80) (by as_aux_lemma => kernel_rfl) rfl rfl henv rfl rfl rfl (op_call henv rfl Tryd.call57 rfl (same_q (x := x - y) (y := x + (-y)) (show ZIn _ A189 c190 (qn (x - y)) from hst.pat (k := 5) rfl) (show ZIn _ B191 d192 (ql (x - y)) from hst.pat (k := 4) rfl) (show ZIn _ A205 c206 (qn (x + (-y))) from hst.pat (k := 1) rfl) (show ZIn _ B207 d208 (ql (x + (-y))) from hst.pat (k := 0) rfl) hq195 hq211 (by omega)) ?_)
  rintro e w213 ⟨rfl, hb⟩
  refine ⟨_, rfl, ?_⟩
  clear henv a; intro a henv
  replace hst := hst.call hb
  clear hb
  refine ⟨.inr ⟨hst.kn.pick (rg 0 6) (rg 44 6), .inr (hst.kn.pick [] [])⟩, ?_⟩
  rw [show (decide (x - y = x + (-y))) = true from decide_eq_true (Rat.sub_eq_add_neg _ _)] at henv
  refine tAg (i := 81) [82] (v := .bool false) rfl (by as_aux_lemma => kernel_rfl) (fun _ _ _ h => h) henv rfl rfl rfl rfl (fun _ => rn_un henv rfl rfl) ?_
  clear henv a; intro a henv
  refine tA (i := 82) [] (v := .bool false) rfl (by as_aux_lemma => kernel_rfl) (fun _ _ _ h => h) henv rfl (fun _ => rn_pick henv rfl rfl) ?_
  clear henv a; intro a henv
  refine sAny_done (by as_aux_lemma => kernel_rfl) ?_ _
  refine th_n ?_
  refine if_f henv rfl (rfl) ?_
  refine wp_skip ?_
  refine th_n ?_
  refine wp_seq ?_
  refine cut (fun a w => ∃ A215 : Option Addr, ∃ c216 : Nat, ∃ B217 : Option Addr, ∃ d218 : Nat, ∃ g223 : Nat, Env 129 a [(0, .agg #[.string ⟨s1.toArray⟩, .string ⟨t1.toArray⟩]), (1, .agg #[.string ⟨s2.toArray⟩, .string ⟨t2.toArray⟩]), (2, .agg #[.string ⟨s3.toArray⟩, .string ⟨t3.toArray⟩]), (3, .pointer (some ⟨g1, 0, none⟩)), (4, .pointer (some ⟨g3, 0, none⟩)), (5, .pointer (some ⟨g5, 0, none⟩)), (6, .bool false), (13, .bool true), (14, .bool false), (16, .agg #[.string ⟨s1.toArray⟩, .string ⟨t1.toArray⟩]), (17, .agg #[.string ⟨s2.toArray⟩, .string ⟨t2.toArray⟩]), (18, .agg #[.string ⟨s3.toArray⟩, .string ⟨t3.toArray⟩]), (19, .tuple #[.agg #[.bool (neg (qn x)), .slice A8 (zl (qn x)) c9, .bool (neg (ql x)), .slice B10 (zl (ql x)) d11], .agg #[.bool (neg (qn y)), .slice A14 (zl (qn y)) c15, .bool (neg (ql y)), .slice B16 (zl (ql y)) d17], .agg #[.bool (neg (qn z)), .slice A20 (zl (qn z)) c21, .bool (neg (ql z)), .slice B22 (zl (ql z)) d23], .bool true]), (15, .tuple #[.agg #[.bool (neg (qn x)), .slice A8 (zl (qn x)) c9, .bool (neg (ql x)), .slice B10 (zl (ql x)) d11], .agg #[.bool (neg (qn y)), .slice A14 (zl (qn y)) c15, .bool (neg (ql y)), .slice B16 (zl (ql y)) d17], .agg #[.bool (neg (qn z)), .slice A20 (zl (qn z)) c21, .bool (neg (ql z)), .slice B22 (zl (ql z)) d23], .bool true]), (20, .agg #[.bool (neg (qn x)), .slice A8 (zl (qn x)) c9, .bool (neg (ql x)), .slice B10 (zl (ql x)) d11]), (21, .agg #[.bool (neg (qn y)), .slice A14 (zl (qn y)) c15, .bool (neg (ql y)), .slice B16 (zl (ql y)) d17]), (22, .agg #[.bool (neg (qn z)), .slice A20 (zl (qn z)) c21, .bool (neg (ql z)), .slice B22 (zl (ql z)) d23]), (23, .bool true), (7, .pointer (some ⟨g27, 0, none⟩)), (8, .pointer (some ⟨g29, 0, none⟩)), (9, .pointer (some ⟨g31, 0, none⟩)), (10, .bool true), (24, .bool true), (25, .bool false), (26, .agg #[.bool (neg (qn x)), .slice A8 (zl (qn x)) c9, .bool (neg (ql x)), .slice B10 (zl (ql x)) d11]), (27, .agg #[.bool (neg (qn y)), .slice A14 (zl (qn y)) c15, .bool (neg (ql y)), .slice B16 (zl (ql y)) d17]), (29, .agg #[.bool (neg (qn y)), .slice A14 (zl (qn y)) c15, .bool (neg (ql y)), .slice B16 (zl (ql y)) d17]), (30, .agg #[.bool (neg (qn x)), .slice A8 (zl (qn x)) c9, .bool (neg (ql x)), .slice B10 (zl (ql x)) d11]), (28, .agg #[.bool (neg (qn (x + y))), .slice A37 (zl (qn (x + y))) c38, .bool (neg (ql (x + y))), .slice B39 (zl (ql (x + y))) d40]), (31, .agg #[.bool (neg (qn (y + x))), .slice A45 (zl (qn (y + x))) c46, .bool (neg (ql (y + x))), .slice B47 (zl (ql (y + x))) d48]), (32, .bool true), (33, .bool false), (34, .bool false), (35, .agg #[.bool (neg (qn x)), .slice A8 (zl (qn x)) c9, .bool (neg (ql x)), .slice B10 (zl (ql x)) d11]), (36, .agg #[.bool (neg (qn y)), .slice A14 (zl (qn y)) c15, .bool (neg (ql y)), .slice B16 (zl (ql y)) d17]), (38, .agg #[.bool (neg (qn y)), .slice A14 (zl (qn y)) c15, .bool (neg (ql y)), .slice B16 (zl (ql y)) d17]), (39, .agg #[.bool (neg (qn x)), .slice A8 (zl (qn x)) c9, .bool (neg (ql x)), .slice B10 (zl (ql x)) d11]), (37, .agg #[.bool (neg (qn (x * y))), .slice A54 (zl (qn (x * y))) c55, .bool (neg (ql (x * y))), .slice B56 (zl (ql (x * y))) d57]), (40, .agg #[.bool (neg (qn (y * x))), .slice A61 (zl (qn (y * x))) c62, .bool (neg (ql (y * x))), .slice B63 (zl (ql (y * x))) d64]), (41, .bool true), (42, .bool false), (43, .bool false), (44, .bool false), (45, .agg #[.bool (neg (qn x)), .slice A8 (zl (qn x)) c9, .bool (neg (ql x)), .slice B10 (zl (ql x)) d11]), (46, .agg #[.bool (neg (qn y)), .slice A14 (zl (qn y)) c15, .bool (neg (ql y)), .slice B16 (zl (ql y)) d17]), (48, .agg #[.bool (neg (qn z)), .slice A20 (zl (qn z)) c21, .bool (neg (ql z)), .slice B22 (zl (ql z)) d23]), (50, .agg #[.bool (neg (qn x)), .slice A8 (zl (qn x)) c9, .bool (neg (ql x)), .slice B10 (zl (ql x)) d11]), (51, .agg #[.bool (neg (qn y)), .slice A14 (zl (qn y)) c15, .bool (neg (ql y)), .slice B16 (zl (ql y)) d17]), (52, .agg #[.bool (neg (qn z)), .slice A20 (zl (qn z)) c21, .bool (neg (ql z)), .slice B22 (zl (ql z)) d23]), (47, .agg #[.bool (neg (qn (x + y))), .slice A70 (zl (qn (x + y))) c71, .bool (neg (ql (x + y))), .slice B72 (zl (ql (x + y))) d73]), (49, .agg #[.bool (neg (qn ((x + y) + z))), .slice A77 (zl (qn ((x + y) + z))) c78, .bool (neg (ql ((x + y) + z))), .slice B79 (zl (ql ((x + y) + z))) d80]), (53, .agg #[.bool (neg (qn (y + z))), .slice A85 (zl (qn (y + z))) c86, .bool (neg (ql (y + z))), .slice B87 (zl (ql (y + z))) d88]), (54, .agg #[.bool (neg (qn (x + (y + z)))), .slice A93 (zl (qn (x + (y + z)))) c94, .bool (neg (ql (x + (y + z)))), .slice B95 (zl (ql (x + (y + z)))) d96]), (55, .bool true), (56, .bool false), (57, .bool false), (58, .bool false), (59, .agg #[.bool (neg (qn x)), .slice A8 (zl (qn x)) c9, .bool (neg (ql x)), .slice B10 (zl (ql x)) d11]), (60, .agg #[.bool (neg (qn y)), .slice A14 (zl (qn y)) c15, .bool (neg (ql y)), .slice B16 (zl (ql y)) d17]), (62, .agg #[.bool (neg (qn z)), .slice A20 (zl (qn z)) c21, .bool (neg (ql z)), .slice B22 (zl (ql z)) d23]), (64, .agg #[.bool (neg (qn x)), .slice A8 (zl (qn x)) c9, .bool (neg (ql x)), .slice B10 (zl (ql x)) d11]), (65, .agg #[.bool (neg (qn y)), .slice A14 (zl (qn y)) c15, .bool (neg (ql y)), .slice B16 (zl (ql y)) d17]), (66, .agg #[.bool (neg (qn z)), .slice A20 (zl (qn z)) c21, .bool (neg (ql z)), .slice B22 (zl (ql z)) d23]), (61, .agg #[.bool (neg (qn (x * y))), .slice A102 (zl (qn (x * y))) c103, .bool (neg (ql (x * y))), .slice B104 (zl (ql (x * y))) d105]), (63, .agg #[.bool (neg (qn ((x * y) * z))), .slice A109 (zl (qn ((x * y) * z))) c110, .bool (neg (ql ((x * y) * z))), .slice B111 (zl (ql ((x * y) * z))) d112]), (67, .agg #[.bool (neg (qn (y * z))), .slice A117 (zl (qn (y * z))) c118, .bool (neg (ql (y * z))), .slice B119 (zl (ql (y * z))) d120]), (68, .agg #[.bool (neg (qn (x * (y * z)))), .slice A125 (zl (qn (x * (y * z)))) c126, .bool (neg (ql (x * (y * z)))), .slice B127 (zl (ql (x * (y * z)))) d128]), (69, .bool true), (70, .bool false), (71, .bool false), (72, .bool false), (73, .agg #[.bool (neg (qn x)), .slice A8 (zl (qn x)) c9, .bool (neg (ql x)), .slice B10 (zl (ql x)) d11]), (74, .agg #[.bool (neg (qn y)), .slice A14 (zl (qn y)) c15, .bool (neg (ql y)), .slice B16 (zl (ql y)) d17]), (75, .agg #[.bool (neg (qn z)), .slice A20 (zl (qn z)) c21, .bool (neg (ql z)), .slice B22 (zl (ql z)) d23]), (78, .agg #[.bool (neg (qn x)), .slice A8 (zl (qn x)) c9, .bool (neg (ql x)), .slice B10 (zl (ql x)) d11]), (79, .agg #[.bool (neg (qn y)), .slice A14 (zl (qn y)) c15, .bool (neg (ql y)), .slice B16 (zl (ql y)) d17]), (81, .agg #[.bool (neg (qn x)), .slice A8 (zl (qn x)) c9, .bool (neg (ql x)), .slice B10 (zl (ql x)) d11]), (82, .agg #[.bool (neg (qn z)), .slice A20 (zl (qn z)) c21, .bool (neg (ql z)), .slice B22 (zl (ql z)) d23]), (76, .agg #[.bool (neg (qn (y + z))), .slice A134 (zl (qn (y + z))) c135, .bool (neg (ql (y + z))), .slice B136 (zl (ql (y + z))) d137]), (77, .agg #[.bool (neg (qn (x * (y + z)))), .slice A141 (zl (qn (x * (y + z)))) c142, .bool (neg (ql (x * (y + z)))), .slice B143 (zl (ql (x * (y + z)))) d144]), (80, .agg #[.bool (neg (qn (x * y))), .slice A149 (zl (qn (x * y))) c150, .bool (neg (ql (x * y))), .slice B151 (zl (ql (x * y))) d152]), (83, .agg #[.bool (neg (qn (x * z))), .slice A156 (zl (qn (x * z))) c157, .bool (neg (ql (x * z))), .slice B158 (zl (ql (x * z))) d159]), (84, .agg #[.bool (neg (qn ((x * y) + (x * z)))), .slice A164 (zl (qn ((x * y) + (x * z)))) c165, .bool (neg (ql ((x * y) + (x * z)))), .slice B166 (zl (ql ((x * y) + (x * z)))) d167]), (85, .bool true), (86, .bool false), (87, .bool false), (88, .bool false), (89, .agg #[.bool (neg (qn x)), .slice A8 (zl (qn x)) c9, .bool (neg (ql x)), .slice B10 (zl (ql x)) d11]), (90, .agg #[.bool (neg (qn y)), .slice A14 (zl (qn y)) c15, .bool (neg (ql y)), .slice B16 (zl (ql y)) d17]), (92, .agg #[.bool (neg (qn y)), .slice A14 (zl (qn y)) c15, .bool (neg (ql y)), .slice B16 (zl (ql y)) d17]), (94, .agg #[.bool (neg (qn x)), .slice A8 (zl (qn x)) c9, .bool (neg (ql x)), .slice B10 (zl (ql x)) d11]), (91, .agg #[.bool (neg (qn (x + y))), .slice A173 (zl (qn (x + y))) c174, .bool (neg (ql (x + y))), .slice B175 (zl (ql (x + y))) d176]), (93, .agg #[.bool (neg (qn ((x + y) - y))), .slice A180 (zl (qn ((x + y) - y))) c181, .bool (neg (ql ((x + y) - y))), .slice B182 (zl (ql ((x + y) - y))) d183]), (95, .bool true), (96, .bool false), (97, .bool false), (98, .bool false), (99, .agg #[.bool (neg (qn x)), .slice A8 (zl (qn x)) c9, .bool (neg (ql x)), .slice B10 (zl (ql x)) d11]), (100, .agg #[.bool (neg (qn y)), .slice A14 (zl (qn y)) c15, .bool (neg (ql y)), .slice B16 (zl (ql y)) d17]), (102, .agg #[.bool (neg (qn x)), .slice A8 (zl (qn x)) c9, .bool (neg (ql x)), .slice B10 (zl (ql x)) d11]), (103, .agg #[.bool (neg (qn y)), .slice A14 (zl (qn y)) c15, .bool (neg (ql y)), .slice B16 (zl (ql y)) d17]), (101, .agg #[.bool (neg (qn (x - y))), .slice A189 (zl (qn (x - y))) c190, .bool (neg (ql (x - y))), .slice B191 (zl (ql (x - y))) d192]), (104, .agg #[.bool (neg (qn (-y))), .slice A197 (zl (qn (-y))) c198, .bool (neg (ql (-y))), .slice B199 (zl (ql (-y))) d200]), (105, .agg #[.bool (neg (qn (x + (-y)))), .slice A205 (zl (qn (x + (-y)))) c206, .bool (neg (ql (x + (-y)))), .slice B207 (zl (ql (x + (-y)))) d208]), (106, .bool true), (107, .bool false), (108, .bool false), (11, .pointer (some ⟨g223, 0, none⟩)), (12, .int .i64 2)] ∧ St w0 w [bk g223 #[.bool (neg (qn 0)), .slice none (zl (qn 0)) 0, .bool (neg (ql 0)), .slice none (zl (ql 0)) 0] 91, bk g31 #[.bool (neg (qn z)), .slice A20 (zl (qn z)) c21, .bool (neg (ql z)), .slice B22 (zl (ql z)) d23] 91, bk g29 #[.bool (neg (qn y)), .slice A14 (zl (qn y)) c15, .bool (neg (ql y)), .slice B16 (zl (ql y)) d17] 91, bk g27 #[.bool (neg (qn x)), .slice A8 (zl (qn x)) c9, .bool (neg (ql x)), .slice B10 (zl (ql x)) d11] 91, bk g5 #[.string ⟨s3.toArray⟩, .string ⟨t3.toArray⟩] 89, bk g3 #[.string ⟨s2.toArray⟩, .string ⟨t2.toArray⟩] 89, bk g1 #[.string ⟨s1.toArray⟩, .string ⟨t1.toArray⟩] 89] [pfZ none 0 (ql 0), pfZ none 0 (qn 0), pfZ B217 d218 (ql (x * y)), pfZ A215 c216 (qn (x * y)), pfZ B207 d208 (ql (x + (-y))), pfZ A205 c206 (qn (x + (-y))), pfZ B199 d200 (ql (-y)), pfZ A197 c198 (qn (-y)), pfZ B191 d192 (ql (x - y)), pfZ A189 c190 (qn (x - y)), pfZ B182 d183 (ql ((x + y) - y)), pfZ A180 c181 (qn ((x + y) - y)), pfZ B175 d176 (ql (x + y)), pfZ A173 c174 (qn (x + y)), pfZ B166 d167 (ql ((x * y) + (x * z))), pfZ A164 c165 (qn ((x * y) + (x * z))), pfZ B158 d159 (ql (x * z)), pfZ A156 c157 (qn (x * z)), pfZ B151 d152 (ql (x * y)), pfZ A149 c150 (qn (x * y)), pfZ B143 d144 (ql (x * (y + z))), pfZ A141 c142 (qn (x * (y + z))), pfZ B136 d137 (ql (y + z)), pfZ A134 c135 (qn (y + z)), pfZ B127 d128 (ql (x * (y * z))), pfZ A125 c126 (qn (x * (y * z))), pfZ B119 d120 (ql (y * z)), pfZ A117 c118 (qn (y * z)), pfZ B111 d112 (ql ((x * y) * z)), pfZ A109 c110 (qn ((x * y) * z)), pfZ B104 d105 (ql (x * y)), pfZ A102 c103 (qn (x * y)), pfZ B95 d96 (ql (x + (y + z))), pfZ A93 c94 (qn (x + (y + z))), pfZ B87 d88 (ql (y + z)), pfZ A85 c86 (qn (y + z)), pfZ B79 d80 (ql ((x + y) + z)), pfZ A77 c78 (qn ((x + y) + z)), pfZ B72 d73 (ql (x + y)), pfZ A70 c71 (qn (x + y)), pfZ B63 d64 (ql (y * x)), pfZ A61 c62 (qn (y * x)), pfZ B56 d57 (ql (x * y)), pfZ A54 c55 (qn (x * y)), pfZ B47 d48 (ql (y + x)), pfZ A45 c46 (qn (y + x)), pfZ B39 d40 (ql (x + y)), pfZ A37 c38 (qn (x + y)), pfZ B22 d23 (ql z), pfZ A20 c21 (qn z), pfZ B16 d17 (ql y), pfZ A14 c15 (qn y), pfZ B10 d11 (ql x), pfZ A8 c9 (qn x)]) ?_ ?_
  · refine region_any (n := 11) (Sk [bk g31 #[.bool (neg (qn z)), .slice A20 (zl (qn z)) c21, .bool (neg (ql z)), .slice B22 (zl (ql z)) d23] 91, bk g29 #[.bool (neg (qn y)), .slice A14 (zl (qn y)) c15, .bool (neg (ql y)), .slice B16 (zl (ql y)) d17] 91, bk g27 #[.bool (neg (qn x)), .slice A8 (zl (qn x)) c9, .bool (neg (ql x)), .slice B10 (zl (ql x)) d11] 91, bk g5 #[.string ⟨s3.toArray⟩, .string ⟨t3.toArray⟩] 89, bk g3 #[.string ⟨s2.toArray⟩, .string ⟨t2.toArray⟩] 89, bk g1 #[.string ⟨s1.toArray⟩, .string ⟨t1.toArray⟩] 89] [pfZ B207 d208 (ql (x + (-y))), pfZ A205 c206 (qn (x + (-y))), pfZ B199 d200 (ql (-y)), pfZ A197 c198 (qn (-y)), pfZ B191 d192 (ql (x - y)), pfZ A189 c190 (qn (x - y)), pfZ B182 d183 (ql ((x + y) - y)), pfZ A180 c181 (qn ((x + y) - y)), pfZ B175 d176 (ql (x + y)), pfZ A173 c174 (qn (x + y)), pfZ B166 d167 (ql ((x * y) + (x * z))), pfZ A164 c165 (qn ((x * y) + (x * z))), pfZ B158 d159 (ql (x * z)), pfZ A156 c157 (qn (x * z)), pfZ B151 d152 (ql (x * y)), pfZ A149 c150 (qn (x * y)), pfZ B143 d144 (ql (x * (y + z))), pfZ A141 c142 (qn (x * (y + z))), pfZ B136 d137 (ql (y + z)), pfZ A134 c135 (qn (y + z)), pfZ B127 d128 (ql (x * (y * z))), pfZ A125 c126 (qn (x * (y * z))), pfZ B119 d120 (ql (y * z)), pfZ A117 c118 (qn (y * z)), pfZ B111 d112 (ql ((x * y) * z)), pfZ A109 c110 (qn ((x * y) * z)), pfZ B104 d105 (ql (x * y)), pfZ A102 c103 (qn (x * y)), pfZ B95 d96 (ql (x + (y + z))), pfZ A93 c94 (qn (x + (y + z))), pfZ B87 d88 (ql (y + z)), pfZ A85 c86 (qn (y + z)), pfZ B79 d80 (ql ((x + y) + z)), pfZ A77 c78 (qn ((x + y) + z)), pfZ B72 d73 (ql (x + y)), pfZ A70 c71 (qn (x + y)), pfZ B63 d64 (ql (y * x)), pfZ A61 c62 (qn (y * x)), pfZ B56 d57 (ql (x * y)), pfZ A54 c55 (qn (x * y)), pfZ B47 d48 (ql (y + x)), pfZ A45 c46 (qn (y + x)), pfZ B39 d40 (ql (x + y)), pfZ A37 c38 (qn (x + y)), pfZ B22 d23 (ql z), pfZ A20 c21 (qn z), pfZ B16 d17 (ql y), pfZ A14 c15 (qn y), pfZ B10 d11 (ql x), pfZ A8 c9 (qn x)] [9] []) mixed rfl henv hst ?_
    clear henv hst; intro w214 henv hst
    refine tL (i := 0) 2 2 [2, 4, 5, 6, 7, 9, 10] rfl (by kernel_rfl) (fun _ _ _ h => h) henv rfl ty_anvil_ratio_Rat rfl hst rfl rfl rfl ?_
    clear henv a; intro a henv
    refine tL (i := 1) 1 1 [2, 4, 5, 6, 7, 9, 10] rfl (by kernel_rfl) (fun _ _ _ h => h) henv rfl ty_anvil_ratio_Rat rfl hst rfl rfl rfl ?_
    clear henv a; intro a henv
    refine tL (i := 3) 1 1 [4, 5, 6, 7, 9, 10] rfl (by kernel_rfl) (fun _ _ _ h => h) henv rfl ty_anvil_ratio_Rat rfl hst rfl rfl rfl ?_
    clear henv a; intro a henv
    refine sAny_all (rs := [2, 8]) (by kernel_rfl) (by simp) ?_
    simp only [List.forall_mem_cons, List.not_mem_nil, false_implies, implies_true, and_true]
    refine ⟨?_, ?_⟩
    · refine ⟨_, rfl, rfl, op_call henv rfl Tryd.call59 rfl (mul_q (x := x) (y := y) (show ZIn _ A8 c9 (qn x) from hst.pat (k := 49) rfl) (show ZIn _ B10 d11 (ql x) from hst.pat (k := 48) rfl) (show ZIn _ A14 c15 (qn y) from hst.pat (k := 47) rfl) (show ZIn _ B16 d17 (ql y) from hst.pat (k := 46) rfl) sx sy (by omega)) ?_⟩
      rintro e w221 ⟨_, rfl, ⟨A215, c216, B217, d218, rfl, hz219, hz220⟩, hb⟩
      refine ⟨_, rfl, ?_⟩
      clear henv a; intro a henv
      replace hst := ((hst.call hb).addZ hz219 ⟨nou_bk rfl, nou_bk rfl, nou_bk rfl, nou_bk rfl, nou_bk rfl, nou_bk rfl, trivial⟩).addZ hz220 ⟨nou_bk rfl, nou_bk rfl, nou_bk rfl, nou_bk rfl, nou_bk rfl, nou_bk rfl, trivial⟩
      clear hz219 hz220
      clear hb
      refine ⟨.inr ⟨hst.kn.pick (rg 0 6) (rg 2 50), .inr (hst.kn.pick [] [])⟩, ?_⟩
      refine sAny_all (rs := [4, 8]) (by kernel_rfl) (by simp) ?_
      simp only [List.forall_mem_cons, List.not_mem_nil, false_implies, implies_true, and_true]
      refine ⟨?_, ?_⟩
      · refine ⟨_, rfl, rfl, op_call henv rfl Tryd.call62 rfl (over_qz (x := x * y) (y := y) (show ZIn _ A215 c216 (qn (x * y)) from hst.pat (k := 1) rfl) (show ZIn _ B217 d218 (ql (x * y)) from hst.pat (k := 0) rfl) (show ZIn _ A14 c15 (qn y) from hst.pat (k := 49) rfl) (show ZIn _ B16 d17 (ql y) from hst.pat (k := 48) rfl) (sx.mul sy) (by omega) hy0) ?_⟩
        rintro e w222 ⟨rfl, hb⟩
        refine ⟨_, rfl, ?_⟩
        clear henv a; intro a henv
        replace hst := hst.call hb
        replace hst := (hst.addZ (show ZIn _ none 0 (qn 0) from zin_none _) ⟨nou_bk rfl, nou_bk rfl, nou_bk rfl, nou_bk rfl, nou_bk rfl, nou_bk rfl, trivial⟩).addZ (show ZIn _ none 0 (ql 0) from zin_none _) ⟨nou_bk rfl, nou_bk rfl, nou_bk rfl, nou_bk rfl, nou_bk rfl, nou_bk rfl, trivial⟩
        clear hb
        refine ⟨.inr ⟨hst.kn.pick (rg 0 6) (rg 4 50), .inr (hst.kn.pick [] [])⟩, ?_⟩
        refine tM (i := 5) [6, 7, 9, 10] rfl (by kernel_rfl) (fun _ _ _ h => h) henv rfl rfl ?_
        clear henv a; intro a henv
        refine tA (i := 6) [9, 10] (v := .agg #[.bool (neg (qn 0)), .slice none (zl (qn 0)) 0, .bool (neg (ql 0)), .slice none (zl (ql 0)) 0]) rfl (by kernel_rfl) (fun _ _ _ h => h) henv rfl (fun _ => rn_extract henv rfl rfl) ?_
        clear henv a; intro a henv
        refine tA (i := 7) [10] (v := .int .i64 2) rfl (by kernel_rfl) (fun _ _ _ h => h) henv rfl (fun _ => rn_extract henv rfl rfl) ?_
        clear henv a; intro a henv
        refine sAny_one (i := 8) (by kernel_rfl) rfl rfl (op_alloc (c := #[.bool (neg (qn 0)), .slice none (zl (qn 0)) 0, .bool (neg (ql 0)), .slice none (zl (ql 0)) 0]) henv hst rfl zero_anvil_ratio_Rat qcells ?_)
        clear henv hst a; intro a w224 g223 henv hst
        refine ⟨.inr ⟨hst.kn.pick (rg 1 6) (rg 4 50), .inr (hst.kn.pick [] [])⟩, ?_⟩
        refine sAny_one (i := 9) (by kernel_rfl) rfl rfl (op_store (k := 0) (c' := #[.bool (neg (qn 0)), .slice none (zl (qn 0)) 0, .bool (neg (ql 0)), .slice none (zl (ql 0)) 0]) henv hst (ty_anvil_ratio_Rat.size) rfl rfl rfl rfl (by simp) rfl rfl ?_)
        clear henv hst a; intro a w225 henv hst
        refine ⟨.inr ⟨hst.kn.pick (rg 1 6) (rg 4 50), .inl rfl⟩, ?_⟩
        refine tA (i := 10) [] (v := .int .i64 2) rfl (by kernel_rfl) (fun _ _ _ h => h) henv rfl (fun _ => rn_assign henv rfl) ?_
        clear henv a; intro a henv
        refine sAny_done (by kernel_rfl) ?_ _
        exact th_n ⟨A215, c216, B217, d218, g223, henv.sub ⟨rfl, rfl, rfl, rfl, rfl, rfl, rfl, rfl, rfl, rfl, rfl, rfl, rfl, rfl, rfl, rfl, rfl, rfl, rfl, rfl, rfl, rfl, rfl, rfl, rfl, rfl, rfl, rfl, rfl, rfl, rfl, rfl, rfl, rfl, rfl, rfl, rfl, rfl, rfl, rfl, rfl, rfl, rfl, rfl, rfl, rfl, rfl, rfl, rfl, rfl, rfl, rfl, rfl, rfl, rfl, rfl, rfl, rfl, rfl, rfl, rfl, rfl, rfl, rfl, rfl, rfl, rfl, rfl, rfl, rfl, rfl, rfl, rfl, rfl, rfl, rfl, rfl, rfl, rfl, rfl, rfl, rfl, rfl, rfl, rfl, rfl, rfl, rfl, rfl, rfl, rfl, rfl, rfl, rfl, rfl, rfl, rfl, rfl, rfl, rfl, rfl, rfl, rfl, rfl, rfl, rfl, rfl, rfl, rfl, trivial⟩, hst.pick [0, 1, 2, 3, 4, 5, 6] [0, 1, 2, 3, 4, 5, 6, 7, 8, 9, 10, 11, 12, 13, 14, 15, 16, 17, 18, 19, 20, 21, 22, 23, 24, 25, 26, 27, 28, 29, 30, 31, 32, 33, 34, 35, 36, 37, 38, 39, 40, 41, 42, 43, 44, 45, 46, 47, 48, 49, 50, 51, 52, 53] (by decide)⟩
      · refine ⟨_, rfl, rfl, op_alloc (c := #[.bool (neg (qn 0)), .slice none (zl (qn 0)) 0, .bool (neg (ql 0)), .slice none (zl (ql 0)) 0]) henv hst rfl zero_anvil_ratio_Rat qcells ?_⟩
        clear henv hst a; intro a w227 g226 henv hst
        refine ⟨.inr ⟨hst.kn.pick (rg 1 6) (rg 2 50), .inr (hst.kn.pick [] [])⟩, ?_⟩
        refine sAny_one (i := 4) (by kernel_rfl) rfl rfl (op_call henv rfl Tryd.call62 rfl (over_qz (x := x * y) (y := y) (show ZIn _ A215 c216 (qn (x * y)) from hst.pat (k := 1) rfl) (show ZIn _ B217 d218 (ql (x * y)) from hst.pat (k := 0) rfl) (show ZIn _ A14 c15 (qn y) from hst.pat (k := 49) rfl) (show ZIn _ B16 d17 (ql y) from hst.pat (k := 48) rfl) (sx.mul sy) (by omega) hy0) ?_)
        rintro e w228 ⟨rfl, hb⟩
        refine ⟨_, rfl, ?_⟩
        clear henv a; intro a henv
        replace hst := hst.call hb
        replace hst := (hst.addZ (show ZIn _ none 0 (qn 0) from zin_none _) ⟨nou_bk rfl, nou_bk rfl, nou_bk rfl, nou_bk rfl, nou_bk rfl, nou_bk rfl, nou_bk rfl, trivial⟩).addZ (show ZIn _ none 0 (ql 0) from zin_none _) ⟨nou_bk rfl, nou_bk rfl, nou_bk rfl, nou_bk rfl, nou_bk rfl, nou_bk rfl, nou_bk rfl, trivial⟩
        clear hb
        refine ⟨.inr ⟨hst.kn.pick (rg 1 6) (rg 4 50), .inr (hst.kn.pick [] [])⟩, ?_⟩
        refine tM (i := 5) [6, 7, 9, 10] rfl (by kernel_rfl) (fun _ _ _ h => h) henv rfl rfl ?_
        clear henv a; intro a henv
        refine tA (i := 6) [9, 10] (v := .agg #[.bool (neg (qn 0)), .slice none (zl (qn 0)) 0, .bool (neg (ql 0)), .slice none (zl (ql 0)) 0]) rfl (by kernel_rfl) (fun _ _ _ h => h) henv rfl (fun _ => rn_extract henv rfl rfl) ?_
        clear henv a; intro a henv
        refine tA (i := 7) [10] (v := .int .i64 2) rfl (by kernel_rfl) (fun _ _ _ h => h) henv rfl (fun _ => rn_extract henv rfl rfl) ?_
        clear henv a; intro a henv
        refine sAny_one (i := 9) (by kernel_rfl) rfl rfl (op_store (k := 0) (c' := #[.bool (neg (qn 0)), .slice none (zl (qn 0)) 0, .bool (neg (ql 0)), .slice none (zl (ql 0)) 0]) henv hst (ty_anvil_ratio_Rat.size) rfl rfl rfl rfl (by simp) rfl rfl ?_)
        clear henv hst a; intro a w229 henv hst
        refine ⟨.inr ⟨hst.kn.pick (rg 1 6) (rg 4 50), .inl rfl⟩, ?_⟩
        refine tA (i := 10) [] (v := .int .i64 2) rfl (by kernel_rfl) (fun _ _ _ h => h) henv rfl (fun _ => rn_assign henv rfl) ?_
        clear henv a; intro a henv
        refine sAny_done (by kernel_rfl) ?_ _
        exact th_n ⟨A215, c216, B217, d218, g226, henv.sub ⟨rfl, rfl, rfl, rfl, rfl, rfl, rfl, rfl, rfl, rfl, rfl, rfl, rfl, rfl, rfl, rfl, rfl, rfl, rfl, rfl, rfl, rfl, rfl, rfl, rfl, rfl, rfl, rfl, rfl, rfl, rfl, rfl, rfl, rfl, rfl, rfl, rfl, rfl, rfl, rfl, rfl, rfl, rfl, rfl, rfl, rfl, rfl, rfl, rfl, rfl, rfl, rfl, rfl, rfl, rfl, rfl, rfl, rfl, rfl, rfl, rfl, rfl, rfl, rfl, rfl, rfl, rfl, rfl, rfl, rfl, rfl, rfl, rfl, rfl, rfl, rfl, rfl, rfl, rfl, rfl, rfl, rfl, rfl, rfl, rfl, rfl, rfl, rfl, rfl, rfl, rfl, rfl, rfl, rfl, rfl, rfl, rfl, rfl, rfl, rfl, rfl, rfl, rfl, rfl, rfl, rfl, rfl, rfl, rfl, trivial⟩, hst.pick [0, 1, 2, 3, 4, 5, 6] [0, 1, 2, 3, 4, 5, 6, 7, 8, 9, 10, 11, 12, 13, 14, 15, 16, 17, 18, 19, 20, 21, 22, 23, 24, 25, 26, 27, 28, 29, 30, 31, 32, 33, 34, 35, 36, 37, 38, 39, 40, 41, 42, 43, 44, 45, 46, 47, 48, 49, 50, 51, 52, 53] (by decide)⟩
    · refine ⟨_, rfl, rfl, op_alloc (c := #[.bool (neg (qn 0)), .slice none (zl (qn 0)) 0, .bool (neg (ql 0)), .slice none (zl (ql 0)) 0]) henv hst rfl zero_anvil_ratio_Rat qcells ?_⟩
      clear henv hst a; intro a w231 g230 henv hst
      refine ⟨.inr ⟨hst.kn.pick (rg 1 6) (rg 0 50), .inr (hst.kn.pick [] [])⟩, ?_⟩
      refine sAny_one (i := 2) (by kernel_rfl) rfl rfl (op_call henv rfl Tryd.call59 rfl (mul_q (x := x) (y := y) (show ZIn _ A8 c9 (qn x) from hst.pat (k := 49) rfl) (show ZIn _ B10 d11 (ql x) from hst.pat (k := 48) rfl) (show ZIn _ A14 c15 (qn y) from hst.pat (k := 47) rfl) (show ZIn _ B16 d17 (ql y) from hst.pat (k := 46) rfl) sx sy (by omega)) ?_)
      rintro e w238 ⟨_, rfl, ⟨A232, c233, B234, d235, rfl, hz236, hz237⟩, hb⟩
      refine ⟨_, rfl, ?_⟩
      clear henv a; intro a henv
      replace hst := ((hst.call hb).addZ hz236 ⟨nou_bk rfl, nou_bk rfl, nou_bk rfl, nou_bk rfl, nou_bk rfl, nou_bk rfl, nou_bk rfl, trivial⟩).addZ hz237 ⟨nou_bk rfl, nou_bk rfl, nou_bk rfl, nou_bk rfl, nou_bk rfl, nou_bk rfl, nou_bk rfl, trivial⟩
      clear hz236 hz237
      clear hb
      refine ⟨.inr ⟨hst.kn.pick (rg 1 6) (rg 2 50), .inr (hst.kn.pick [] [])⟩, ?_⟩
      refine sAny_one (i := 4) (by kernel_rfl) rfl rfl (op_call henv rfl Tryd.call62 rfl (over_qz (x := x * y) (y := y) (show ZIn _ A232 c233 (qn (x * y)) from hst.pat (k := 1) rfl) (show ZIn _ B234 d235 (ql (x * y)) from hst.pat (k := 0) rfl) (show ZIn _ A14 c15 (qn y) from hst.pat (k := 49) rfl) (show ZIn _ B16 d17 (ql y) from hst.pat (k := 48) rfl) (sx.mul sy) (by omega) hy0) ?_)
      rintro e w239 ⟨rfl, hb⟩
      refine ⟨_, rfl, ?_⟩
      clear henv a; intro a henv
      replace hst := hst.call hb
      replace hst := (hst.addZ (show ZIn _ none 0 (qn 0) from zin_none _) ⟨nou_bk rfl, nou_bk rfl, nou_bk rfl, nou_bk rfl, nou_bk rfl, nou_bk rfl, nou_bk rfl, trivial⟩).addZ (show ZIn _ none 0 (ql 0) from zin_none _) ⟨nou_bk rfl, nou_bk rfl, nou_bk rfl, nou_bk rfl, nou_bk rfl, nou_bk rfl, nou_bk rfl, trivial⟩
      clear hb
      refine ⟨.inr ⟨hst.kn.pick (rg 1 6) (rg 4 50), .inr (hst.kn.pick [] [])⟩, ?_⟩
      refine tM (i := 5) [6, 7, 9, 10] rfl (by kernel_rfl) (fun _ _ _ h => h) henv rfl rfl ?_
      clear henv a; intro a henv
      refine tA (i := 6) [9, 10] (v := .agg #[.bool (neg (qn 0)), .slice none (zl (qn 0)) 0, .bool (neg (ql 0)), .slice none (zl (ql 0)) 0]) rfl (by kernel_rfl) (fun _ _ _ h => h) henv rfl (fun _ => rn_extract henv rfl rfl) ?_
      clear henv a; intro a henv
      refine tA (i := 7) [10] (v := .int .i64 2) rfl (by kernel_rfl) (fun _ _ _ h => h) henv rfl (fun _ => rn_extract henv rfl rfl) ?_
      clear henv a; intro a henv
      refine sAny_one (i := 9) (by kernel_rfl) rfl rfl (op_store (k := 0) (c' := #[.bool (neg (qn 0)), .slice none (zl (qn 0)) 0, .bool (neg (ql 0)), .slice none (zl (ql 0)) 0]) henv hst (ty_anvil_ratio_Rat.size) rfl rfl rfl rfl (by simp) rfl rfl ?_)
      clear henv hst a; intro a w240 henv hst
      refine ⟨.inr ⟨hst.kn.pick (rg 1 6) (rg 4 50), .inl rfl⟩, ?_⟩
      refine tA (i := 10) [] (v := .int .i64 2) rfl (by kernel_rfl) (fun _ _ _ h => h) henv rfl (fun _ => rn_assign henv rfl) ?_
      clear henv a; intro a henv
      refine sAny_done (by kernel_rfl) ?_ _
      exact th_n ⟨A232, c233, B234, d235, g230, henv.sub ⟨rfl, rfl, rfl, rfl, rfl, rfl, rfl, rfl, rfl, rfl, rfl, rfl, rfl, rfl, rfl, rfl, rfl, rfl, rfl, rfl, rfl, rfl, rfl, rfl, rfl, rfl, rfl, rfl, rfl, rfl, rfl, rfl, rfl, rfl, rfl, rfl, rfl, rfl, rfl, rfl, rfl, rfl, rfl, rfl, rfl, rfl, rfl, rfl, rfl, rfl, rfl, rfl, rfl, rfl, rfl, rfl, rfl, rfl, rfl, rfl, rfl, rfl, rfl, rfl, rfl, rfl, rfl, rfl, rfl, rfl, rfl, rfl, rfl, rfl, rfl, rfl, rfl, rfl, rfl, rfl, rfl, rfl, rfl, rfl, rfl, rfl, rfl, rfl, rfl, rfl, rfl, rfl, rfl, rfl, rfl, rfl, rfl, rfl, rfl, rfl, rfl, rfl, rfl, rfl, rfl, rfl, rfl, rfl, rfl, trivial⟩, hst.pick [0, 1, 2, 3, 4, 5, 6] [0, 1, 2, 3, 4, 5, 6, 7, 8, 9, 10, 11, 12, 13, 14, 15, 16, 17, 18, 19, 20, 21, 22, 23, 24, 25, 26, 27, 28, 29, 30, 31, 32, 33, 34, 35, 36, 37, 38, 39, 40, 41, 42, 43, 44, 45, 46, 47, 48, 49, 50, 51, 52, 53] (by decide)⟩
  clear henv hst a
  rintro a w241 ⟨A215, c216, B217, d218, g223, henv, hst⟩
  refine wp_seq ?_
  refine wp_seq ?_
  refine region_seq ?_
  refine sv (v := .agg #[.bool (neg (qn y)), .slice A14 (zl (qn y)) c15, .bool (neg (ql y)), .slice B16 (zl (ql y)) d17]) henv rfl (rn_load0 henv ty_anvil_ratio_Rat rfl (hst.oat (k := 2) rfl) rfl) ?_
  clear henv a; intro a henv
  refine seq_step rfl (op_call henv rfl Tryd.call63 rfl (sign_q (x := y) (show ZIn _ A14 c15 (qn y) from hst.pat (k := 51) rfl) (show ZIn _ B16 d17 (ql y) from hst.pat (k := 50) rfl)) ?_)
  rintro e w242 ⟨rfl, hb⟩
  refine ⟨_, rfl, ?_⟩
  clear henv a; intro a henv
  replace hst := hst.call hb
  clear hb
  refine sv (v := .bool ((qn y).sign == (0 : Int))) henv rfl (rn_bin henv rfl rfl rfl) ?_
  clear henv a; intro a henv
  rw [show ((qn y).sign == (0 : Int)) = true from (by rw [hy0]; rfl)] at henv
  refine wpList_nil ?_
  refine th_n ?_
  refine if_t henv rfl (rfl) ?_
  refine wp_seq ?_
  refine region_seq ?_
  revert a
  refine mA rfl rfl ?_
  refine sA (v := .bool true) rfl (fun _ henv => rn_bin henv rfl rfl rfl) ?_
  refine aA rfl rfl ?_
  intro a henv
  refine wpList_nil ?_
  refine th_n ?_
  refine wp_ret ?_
  refine th_r ?_
  refine leave henv (res1 Tryd.results9 (RV.tmp henv rfl)) ?_
  exact ⟨rfl, hst.below⟩
set_option maxRecDepth 100000 in
set_option maxHeartbeats 16000000 in
theorem qfield_ok {s1 t1 s2 t2 s3 t3 : List UInt8} {x y z : Rat} {w0 : World} (f1 : ThAs s1 t1 s2 t2 s3 t3 x y z true) (sx : Qs 400 x) (sy : Qs 400 y) (sz : Qs 400 z) (hy0 : y ≠ 0) :
    Calls Tryd.prog 9 #[.agg #[.string ⟨s1.toArray⟩, .string ⟨t1.toArray⟩], .agg #[.string ⟨s2.toArray⟩, .string ⟨t2.toArray⟩], .agg #[.string ⟨s3.toArray⟩, .string ⟨t3.toArray⟩]] w0 fun e w' => e = .returned (.bool true) ∧ Below w0.heap.size w0 w' := by
  refine enter Tryd.func9 rfl Tryd.ntmps9 rfl ?_
  intro a henv hst
  refine wp_seq ?_
  refine region_seq ?_
  refine seq_step rfl (op_box (c := #[.string ⟨s1.toArray⟩, .string ⟨t1.toArray⟩]) henv hst rfl rfl rfl ?_)
  clear henv hst a; intro a w2 g1 henv hst
  refine seq_step rfl (op_box (c := #[.string ⟨s2.toArray⟩, .string ⟨t2.toArray⟩]) henv hst rfl rfl rfl ?_)
  clear henv hst a; intro a w4 g3 henv hst
  refine seq_step rfl (op_box (c := #[.string ⟨s3.toArray⟩, .string ⟨t3.toArray⟩]) henv hst rfl rfl rfl ?_)
  clear henv hst a; intro a w6 g5 henv hst
  refine sv (v := .bool false) henv rfl (rn_assign henv rfl) ?_
  clear henv a; intro a henv
  refine wpList_nil ?_
  refine th_n ?_
  refine wp_seq ?_
  refine wp_seq ?_
  refine region_seq ?_
  refine seq_step rfl (op_call henv rfl Tryd.call55 rfl (qworks) ?_)
  rintro e w7 ⟨rfl, hb⟩
  refine ⟨_, rfl, ?_⟩
  clear henv a; intro a henv
  replace hst := hst.call hb
  clear hb
  refine sv (v := .bool false) henv rfl (rn_un henv rfl rfl) ?_
  clear henv a; intro a henv
  refine wpList_nil ?_
  refine th_n ?_
  refine if_f henv rfl (rfl) ?_
  refine wp_skip ?_
  refine th_n ?_
  refine wp_seq ?_
  refine region_seq ?_
  revert a
  refine sA (v := .agg #[.string ⟨s1.toArray⟩, .string ⟨t1.toArray⟩]) rfl (fun _ henv => rn_load0 henv ty_anvil_anvillaw03_Frac rfl (hst.oat (k := 2) rfl) rfl) ?_
  refine sA (v := .agg #[.string ⟨s2.toArray⟩, .string ⟨t2.toArray⟩]) rfl (fun _ henv => rn_load0 henv ty_anvil_anvillaw03_Frac rfl (hst.oat (k := 1) rfl) rfl) ?_
  refine sA (v := .agg #[.string ⟨s3.toArray⟩, .string ⟨t3.toArray⟩]) rfl (fun _ henv => rn_load0 henv ty_anvil_anvillaw03_Frac rfl (hst.oat (k := 0) rfl) rfl) ?_
  intro a henv
  refine seq_step rfl (op_call henv rfl Tryd.call56 rfl (f1 _) ?_)
  rintro e w26 ⟨_, _, _, rfl, ⟨A8, c9, B10, d11, rfl, hz12, hz13⟩, ⟨A14, c15, B16, d17, rfl, hz18, hz19⟩, ⟨A20, c21, B22, d23, rfl, hz24, hz25⟩, hb⟩
  refine ⟨_, rfl, ?_⟩
  clear henv a; intro a henv
  replace hst := ((((((hst.call hb).addZ hz12 ⟨nou_bk rfl, nou_bk rfl, nou_bk rfl, trivial⟩).addZ hz13 ⟨nou_bk rfl, nou_bk rfl, nou_bk rfl, trivial⟩).addZ hz18 ⟨nou_bk rfl, nou_bk rfl, nou_bk rfl, trivial⟩).addZ hz19 ⟨nou_bk rfl, nou_bk rfl, nou_bk rfl, trivial⟩).addZ hz24 ⟨nou_bk rfl, nou_bk rfl, nou_bk rfl, trivial⟩).addZ hz25 ⟨nou_bk rfl, nou_bk rfl, nou_bk rfl, trivial⟩
  clear hz12 hz13 hz18 hz19 hz24 hz25
  clear hb
  revert a
  refine mA rfl rfl ?_
  refine sA (v := .agg #[.bool (neg (qn x)), .slice A8 (zl (qn x)) c9, .bool (neg (ql x)), .slice B10 (zl (ql x)) d11]) rfl (fun _ henv => rn_extract henv rfl rfl) ?_
  refine sA (v := .agg #[.bool (neg (qn y)), .slice A14 (zl (qn y)) c15, .bool (neg (ql y)), .slice B16 (zl (ql y)) d17]) rfl (fun _ henv => rn_extract henv rfl rfl) ?_
  refine sA (v := .agg #[.bool (neg (qn z)), .slice A20 (zl (qn z)) c21, .bool (neg (ql z)), .slice B22 (zl (ql z)) d23]) rfl (fun _ henv => rn_extract henv rfl rfl) ?_
  refine sA (v := .bool true) rfl (fun _ henv => rn_extract henv rfl rfl) ?_
  intro a henv
  refine seq_step rfl (op_alloc (c := #[.bool (neg (qn 0)), .slice none (zl (qn 0)) 0, .bool (neg (ql 0)), .slice none (zl (ql 0)) 0]) henv hst rfl zero_anvil_ratio_Rat qcells ?_)
  clear henv hst a; intro a w28 g27 henv hst
  refine seq_step rfl (op_alloc (c := #[.bool (neg (qn 0)), .slice none (zl (qn 0)) 0, .bool (neg (ql 0)), .slice none (zl (ql 0)) 0]) henv hst rfl zero_anvil_ratio_Rat qcells ?_)
  clear henv hst a; intro a w30 g29 henv hst
  refine seq_step rfl (op_alloc (c := #[.bool (neg (qn 0)), .slice none (zl (qn 0)) 0, .bool (neg (ql 0)), .slice none (zl (ql 0)) 0]) henv hst rfl zero_anvil_ratio_Rat qcells ?_)
  clear henv hst a; intro a w32 g31 henv hst
  refine seq_step rfl (op_store (k := 2) (c' := #[.bool (neg (qn x)), .slice A8 (zl (qn x)) c9, .bool (neg (ql x)), .slice B10 (zl (ql x)) d11]) henv hst (ty_anvil_ratio_Rat.size) rfl rfl rfl rfl (by simp) rfl rfl ?_)
  clear henv hst a; intro a w33 henv hst
  refine seq_step rfl (op_store (k := 1) (c' := #[.bool (neg (qn y)), .slice A14 (zl (qn y)) c15, .bool (neg (ql y)), .slice B16 (zl (ql y)) d17]) henv hst (ty_anvil_ratio_Rat.size) rfl rfl rfl rfl (by simp) rfl rfl ?_)
  clear henv hst a; intro a w34 henv hst
  refine seq_step rfl (op_store (k := 0) (c' := #[.bool (neg (qn z)), .slice A20 (zl (qn z)) c21, .bool (neg (ql z)), .slice B22 (zl (ql z)) d23]) henv hst (ty_anvil_ratio_Rat.size) rfl rfl rfl rfl (by simp) rfl rfl ?_)
  clear henv hst a; intro a w35 henv hst
  refine sv (v := .bool true) henv rfl (rn_assign henv rfl) ?_
  clear henv a; intro a henv
  refine wpList_nil ?_
  refine th_n ?_
  refine wp_seq ?_
  refine wp_seq ?_
  refine region_seq ?_
  revert a
  refine mA rfl rfl ?_
  refine sA (v := .bool false) rfl (fun _ henv => rn_un henv rfl rfl) ?_
  intro a henv
  refine wpList_nil ?_
  refine th_n ?_
  refine if_f henv rfl (rfl) ?_
  refine wp_skip ?_
  refine th_n ?_
  refine wp_seq ?_
  refine wp_seq ?_
  simp only [List.append_eq, List.cons_append, List.nil_append]
  refine region_any (n := 83) (Sk [bk g31 #[.bool (neg (qn z)), .slice A20 (zl (qn z)) c21, .bool (neg (ql z)), .slice B22 (zl (ql z)) d23] 91, bk g29 #[.bool (neg (qn y)), .slice A14 (zl (qn y)) c15, .bool (neg (ql y)), .slice B16 (zl (ql y)) d17] 91, bk g27 #[.bool (neg (qn x)), .slice A8 (zl (qn x)) c9, .bool (neg (ql x)), .slice B10 (zl (ql x)) d11] 91, bk g5 #[.string ⟨s3.toArray⟩, .string ⟨t3.toArray⟩] 89, bk g3 #[.string ⟨s2.toArray⟩, .string ⟨t2.toArray⟩] 89, bk g1 #[.string ⟨s1.toArray⟩, .string ⟨t1.toArray⟩] 89] [pfZ B22 d23 (ql z), pfZ A20 c21 (qn z), pfZ B16 d17 (ql y), pfZ A14 c15 (qn y), pfZ B10 d11 (ql x), pfZ A8 c9 (qn x)] [] []) mixed rfl henv hst ?_
  clear henv hst; intro w36 henv hst
  refine tL (i := 0) 2 2 [2, 5, 6, 7, 8, 9, 10, 11, 12, 13, 14, 15, 16, 17, 18, 19, 20, 21, 22, 23, 24, 25, 26, 27, 28, 29, 30, 31, 32, 33, 34, 35, 36, 37, 38, 39, 40, 41, 42, 43, 44, 45, 46, 47, 48, 49, 50, 51, 52, 53, 54, 55, 56, 57, 58, 59, 60, 61, 62, 63, 64, 65, 66, 67, 68, 69, 70, 71, 72, 73, 74, 75, 76, 77, 78, 79, 80, 81, 82] rfl (by as_aux_lemma => kernel_rfl) (fun _ _ _ h => h) henv rfl ty_anvil_ratio_Rat rfl hst rfl rfl rfl ?_
  clear henv a; intro a henv
  refine tL (i := 1) 1 1 [2, 5, 6, 7, 8, 9, 10, 11, 12, 13, 14, 15, 16, 17, 18, 19, 20, 21, 22, 23, 24, 25, 26, 27, 28, 29, 30, 31, 32, 33, 34, 35, 36, 37, 38, 39, 40, 41, 42, 43, 44, 45, 46, 47, 48, 49, 50, 51, 52, 53, 54, 55, 56, 57, 58, 59, 60, 61, 62, 63, 64, 65, 66, 67, 68, 69, 70, 71, 72, 73, 74, 75, 76, 77, 78, 79, 80, 81, 82] rfl (by as_aux_lemma => kernel_rfl) (fun _ _ _ h => h) henv rfl ty_anvil_ratio_Rat rfl hst rfl rfl rfl ?_
  clear henv a; intro a henv
  refine tL (i := 3) 1 1 (rg 5 78) rfl (by as_aux_lemma => kernel_rfl) (fun _ _ _ h => h) henv rfl ty_anvil_ratio_Rat rfl hst rfl rfl rfl ?_
  clear henv a; intro a henv
  refine tL (i := 4) 2 2 (rg 5 78) rfl (by as_aux_lemma => kernel_rfl) (fun _ _ _ h => h) henv rfl ty_anvil_ratio_Rat rfl hst rfl rfl rfl ?_
  clear henv a; intro a henv
  have hq43 : Qs 801 (x + y) := by have h := sx.add sy; exact h
  refine sAny_one (i := 2) (by as_aux_lemma => kernel_rfl) rfl rfl (op_call henv rfl Tryd.call58 rfl (add_q (x := x) (y := y) (show ZIn _ A8 c9 (qn x) from hst.pat (k := 5) rfl) (show ZIn _ B10 d11 (ql x) from hst.pat (k := 4) rfl) (show ZIn _ A14 c15 (qn y) from hst.pat (k := 3) rfl) (show ZIn _ B16 d17 (ql y) from hst.pat (k := 2) rfl) sx sy (by omega)) ?_)
  rintro e w44 ⟨_, rfl, ⟨A37, c38, B39, d40, rfl, hz41, hz42⟩, hb⟩
  refine ⟨_, rfl, ?_⟩
  clear henv a; intro a henv
  replace hst := ((hst.call hb).addZ hz41 ⟨nou_bk rfl, nou_bk rfl, nou_bk rfl, nou_bk rfl, nou_bk rfl, nou_bk rfl, trivial⟩).addZ hz42 ⟨nou_bk rfl, nou_bk rfl, nou_bk rfl, nou_bk rfl, nou_bk rfl, nou_bk rfl, trivial⟩
  clear hz41 hz42
  clear hb
  refine ⟨.inr ⟨hst.kn.pick (rg 0 6) (rg 2 6), .inr (hst.kn.pick [] [])⟩, ?_⟩
  have hq51 : Qs 801 (y + x) := by have h := sy.add sx; exact h
  refine sAny_one (i := 5) (by as_aux_lemma => kernel_rfl) rfl rfl (op_call henv rfl Tryd.call58 rfl (add_q (x := y) (y := x) (show ZIn _ A14 c15 (qn y) from hst.pat (k := 5) rfl) (show ZIn _ B16 d17 (ql y) from hst.pat (k := 4) rfl) (show ZIn _ A8 c9 (qn x) from hst.pat (k := 7) rfl) (show ZIn _ B10 d11 (ql x) from hst.pat (k := 6) rfl) sy sx (by omega)) ?_)
  rintro e w52 ⟨_, rfl, ⟨A45, c46, B47, d48, rfl, hz49, hz50⟩, hb⟩
  refine ⟨_, rfl, ?_⟩
  clear henv a; intro a henv
  replace hst := ((hst.call hb).addZ hz49 ⟨nou_bk rfl, nou_bk rfl, nou_bk rfl, nou_bk rfl, nou_bk rfl, nou_bk rfl, trivial⟩).addZ hz50 ⟨nou_bk rfl, nou_bk rfl, nou_bk rfl, nou_bk rfl, nou_bk rfl, nou_bk rfl, trivial⟩
  clear hz49 hz50
  clear hb
  refine ⟨.inr ⟨hst.kn.pick (rg 0 6) (rg 4 6), .inr (hst.kn.pick [] [])⟩, ?_⟩
  refine sAny_one (i := 6) (by as_aux_lemma => kernel_rfl) rfl rfl (op_call henv rfl Tryd.call57 rfl (same_q (x := x + y) (y := y + x) (show ZIn _ A37 c38 (qn (x + y)) from hst.pat (k := 3) rfl) (show ZIn _ B39 d40 (ql (x + y)) from hst.pat (k := 2) rfl) (show ZIn _ A45 c46 (qn (y + x)) from hst.pat (k := 1) rfl) (show ZIn _ B47 d48 (ql (y + x)) from hst.pat (k := 0) rfl) hq43 hq51 (by omega)) ?_)
  rintro e w53 ⟨rfl, hb⟩
  refine ⟨_, rfl, ?_⟩
  clear henv a; intro a henv
  replace hst := hst.call hb
  clear hb
  refine ⟨.inr ⟨hst.kn.pick (rg 0 6) (rg 4 6), .inr (hst.kn.pick [] [])⟩, ?_⟩
  rw [show (decide (x + y = y + x)) = true from decide_eq_true (Rat.add_comm _ _)] at henv
  refine tA (i := 7) (rg 8 75) (v := .bool false) rfl (by as_aux_lemma => kernel_rfl) (fun _ _ _ h => h) henv rfl (fun _ => rn_un henv rfl rfl) ?_
  clear henv a; intro a henv
  refine tM (i := 8) (rg 9 74) rfl (by as_aux_lemma => kernel_rfl) (fun _ _ _ h => h) henv rfl rfl ?_
  clear henv a; intro a henv
  refine tLg (i := 9) 2 2 [11, 14, 15, 16, 17, 18, 19, 20, 21, 22, 23, 24, 25, 26, 27, 28, 29, 30, 31, 32, 33, 34, 35, 36, 37, 38, 39, 40, 41, 42, 43, 44, 45, 46, 47, 48, 49, 50, 51, 52, 53, 54, 55, 56, 57, 58, 59, 60, 61, 62, 63, 64, 65, 66, 67, 68, 69, 70, 71, 72, 73, 74, 75, 76, 77, 78, 79, 80, 81, 82] rfl (by as_aux_lemma => kernel_rfl) (fun _ _ _ h => h) henv rfl rfl rfl rfl ty_anvil_ratio_Rat rfl hst rfl rfl rfl ?_
  clear henv a; intro a henv
  refine tLg (i := 10) 1 1 [11, 14, 15, 16, 17, 18, 19, 20, 21, 22, 23, 24, 25, 26, 27, 28, 29, 30, 31, 32, 33, 34, 35, 36, 37, 38, 39, 40, 41, 42, 43, 44, 45, 46, 47, 48, 49, 50, 51, 52, 53, 54, 55, 56, 57, 58, 59, 60, 61, 62, 63, 64, 65, 66, 67, 68, 69, 70, 71, 72, 73, 74, 75, 76, 77, 78, 79, 80, 81, 82] rfl (by as_aux_lemma => kernel_rfl) (fun _ _ _ h => h) henv rfl rfl rfl rfl ty_anvil_ratio_Rat rfl hst rfl rfl rfl ?_
  clear henv a; intro a henv
  refine tLg (i := 12) 1 1 (rg 14 69) rfl (by as_aux_lemma => kernel_rfl) (fun _ _ _ h => h) henv rfl rfl rfl rfl ty_anvil_ratio_Rat rfl hst rfl rfl rfl ?_
  clear henv a; intro a henv
  refine tLg (i := 13) 2 2 (rg 14 69) rfl (by as_aux_lemma => kernel_rfl) (fun _ _ _ h => h) henv rfl rfl rfl rfl ty_anvil_ratio_Rat rfl hst rfl rfl rfl ?_
  clear henv a; intro a henv
  refine sAny_oneg (i := 11) (by as_aux_lemma => kernel_rfl) rfl rfl henv rfl rfl rfl (op_call henv rfl Tryd.call59 rfl (mul_q (x := x) (y := y) (show ZIn _ A8 c9 (qn x) from hst.pat (k := 9) rfl) (show ZIn _ B10 d11 (ql x) from hst.pat (k := 8) rfl) (show ZIn _ A14 c15 (qn y) from hst.pat (k := 7) rfl) (show ZIn _ B16 d17 (ql y) from hst.pat (k := 6) rfl) sx sy (by omega)) ?_)
  rintro e w60 ⟨_, rfl, ⟨A54, c55, B56, d57, rfl, hz58, hz59⟩, hb⟩
  refine ⟨_, rfl, ?_⟩
  clear henv a; intro a henv
  replace hst := ((hst.call hb).addZ hz58 ⟨nou_bk rfl, nou_bk rfl, nou_bk rfl, nou_bk rfl, nou_bk rfl, nou_bk rfl, trivial⟩).addZ hz59 ⟨nou_bk rfl, nou_bk rfl, nou_bk rfl, nou_bk rfl, nou_bk rfl, nou_bk rfl, trivial⟩
  clear hz58 hz59
  clear hb
  refine ⟨.inr ⟨hst.kn.pick (rg 0 6) (rg 6 6), .inr (hst.kn.pick [] [])⟩, ?_⟩
  have hq67 : Qs 800 (y * x) := by have h := sy.mul sx; exact h
  refine sAny_oneg (i := 14) (by as_aux_lemma => kernel_rfl) rfl rfl henv rfl rfl rfl (op_call henv rfl Tryd.call59 rfl (mul_q (x := y) (y := x) (show ZIn _ A14 c15 (qn y) from hst.pat (k := 9) rfl) (show ZIn _ B16 d17 (ql y) from hst.pat (k := 8) rfl) (show ZIn _ A8 c9 (qn x) from hst.pat (k := 11) rfl) (show ZIn _ B10 d11 (ql x) from hst.pat (k := 10) rfl) sy sx (by omega)) ?_)
  rintro e w68 ⟨_, rfl, ⟨A61, c62, B63, d64, rfl, hz65, hz66⟩, hb⟩
  refine ⟨_, rfl, ?_⟩
  clear henv a; intro a henv
  replace hst := ((hst.call hb).addZ hz65 ⟨nou_bk rfl, nou_bk rfl, nou_bk rfl, nou_bk rfl, nou_bk rfl, nou_bk rfl, trivial⟩).addZ hz66 ⟨nou_bk rfl, nou_bk rfl, nou_bk rfl, nou_bk rfl, nou_bk rfl, nou_bk rfl, trivial⟩
  clear hz65 hz66
  clear hb
  refine ⟨.inr ⟨hst.kn.pick (rg 0 6) (rg 8 6), .inr (hst.kn.pick [] [])⟩, ?_⟩
  refine sAny_oneg (i := 15) (by as_aux_lemma => kernel_rfl) rfl rfl henv rfl rfl rfl (op_call henv rfl Tryd.call57 rfl (same_q (x := x * y) (y := y * x) (show ZIn _ A54 c55 (qn (x * y)) from hst.pat (k := 3) rfl) (show ZIn _ B56 d57 (ql (x * y)) from hst.pat (k := 2) rfl) (show ZIn _ A61 c62 (qn (y * x)) from hst.pat (k := 1) rfl) (show ZIn _ B63 d64 (ql (y * x)) from hst.pat (k := 0) rfl) (sx.mul sy) hq67 (by omega)) ?_)
  rintro e w69 ⟨rfl, hb⟩
  refine ⟨_, rfl, ?_⟩
  clear henv a; intro a henv
  replace hst := hst.call hb
  clear hb
  refine ⟨.inr ⟨hst.kn.pick (rg 0 6) (rg 8 6), .inr (hst.kn.pick [] [])⟩, ?_⟩
  rw [show (decide (x * y = y * x)) = true from decide_eq_true (Rat.mul_comm _ _)] at henv
  refine tAg (i := 16) (rg 17 66) (v := .bool false) rfl (by as_aux_lemma => kernel_rfl) (fun _ _ _ h => h) henv rfl rfl rfl rfl (fun _ => rn_un henv rfl rfl) ?_
  clear henv a; intro a henv
  refine tA (i := 17) (rg 18 65) (v := .bool false) rfl (by as_aux_lemma => kernel_rfl) (fun _ _ _ h => h) henv rfl (fun _ => rn_pick henv rfl rfl) ?_
  clear henv a; intro a henv
  refine tM (i := 18) (rg 19 64) rfl (by as_aux_lemma => kernel_rfl) (fun _ _ _ h => h) henv rfl rfl ?_
  clear henv a; intro a henv
  refine tLg (i := 19) 2 2 [21, 23, 27, 28, 29, 30, 31, 32, 33, 34, 35, 36, 37, 38, 39, 40, 41, 42, 43, 44, 45, 46, 47, 48, 49, 50, 51, 52, 53, 54, 55, 56, 57, 58, 59, 60, 61, 62, 63, 64, 65, 66, 67, 68, 69, 70, 71, 72, 73, 74, 75, 76, 77, 78, 79, 80, 81, 82] rfl (by as_aux_lemma => kernel_rfl) (fun _ _ _ h => h) henv rfl rfl rfl rfl ty_anvil_ratio_Rat rfl hst rfl rfl rfl ?_
  clear henv a; intro a henv
  refine tLg (i := 20) 1 1 [21, 23, 27, 28, 29, 30, 31, 32, 33, 34, 35, 36, 37, 38, 39, 40, 41, 42, 43, 44, 45, 46, 47, 48, 49, 50, 51, 52, 53, 54, 55, 56, 57, 58, 59, 60, 61, 62, 63, 64, 65, 66, 67, 68, 69, 70, 71, 72, 73, 74, 75, 76, 77, 78, 79, 80, 81, 82] rfl (by as_aux_lemma => kernel_rfl) (fun _ _ _ h => h) henv rfl rfl rfl rfl ty_anvil_ratio_Rat rfl hst rfl rfl rfl ?_
  clear henv a; intro a henv
  refine tLg (i := 22) 0 0 [23, 27, 28, 29, 30, 31, 32, 33, 34, 35, 36, 37, 38, 39, 40, 41, 42, 43, 44, 45, 46, 47, 48, 49, 50, 51, 52, 53, 54, 55, 56, 57, 58, 59, 60, 61, 62, 63, 64, 65, 66, 67, 68, 69, 70, 71, 72, 73, 74, 75, 76, 77, 78, 79, 80, 81, 82] rfl (by as_aux_lemma => kernel_rfl) (fun _ _ _ h => h) henv rfl rfl rfl rfl ty_anvil_ratio_Rat rfl hst rfl rfl rfl ?_
  clear henv a; intro a henv
  refine tLg (i := 24) 2 2 (rg 28 55) rfl (by as_aux_lemma => kernel_rfl) (fun _ _ _ h => h) henv rfl rfl rfl rfl ty_anvil_ratio_Rat rfl hst rfl rfl rfl ?_
  clear henv a; intro a henv
  refine tLg (i := 25) 1 1 (rg 27 56) rfl (by as_aux_lemma => kernel_rfl) (fun _ _ _ h => h) henv rfl rfl rfl rfl ty_anvil_ratio_Rat rfl hst rfl rfl rfl ?_
  clear henv a; intro a henv
  refine tLg (i := 26) 0 0 (rg 27 56) rfl (by as_aux_lemma => kernel_rfl) (fun _ _ _ h => h) henv rfl rfl rfl rfl ty_anvil_ratio_Rat rfl hst rfl rfl rfl ?_
  clear henv a; intro a henv
  refine sAny_oneg (i := 21) (by as_aux_lemma => kernel_rfl) rfl rfl henv rfl rfl rfl (op_call henv rfl Tryd.call58 rfl (add_q (x := x) (y := y) (show ZIn _ A8 c9 (qn x) from hst.pat (k := 13) rfl) (show ZIn _ B10 d11 (ql x) from hst.pat (k := 12) rfl) (show ZIn _ A14 c15 (qn y) from hst.pat (k := 11) rfl) (show ZIn _ B16 d17 (ql y) from hst.pat (k := 10) rfl) sx sy (by omega)) ?_)
  rintro e w76 ⟨_, rfl, ⟨A70, c71, B72, d73, rfl, hz74, hz75⟩, hb⟩
  refine ⟨_, rfl, ?_⟩
  clear henv a; intro a henv
  replace hst := ((hst.call hb).addZ hz74 ⟨nou_bk rfl, nou_bk rfl, nou_bk rfl, nou_bk rfl, nou_bk rfl, nou_bk rfl, trivial⟩).addZ hz75 ⟨nou_bk rfl, nou_bk rfl, nou_bk rfl, nou_bk rfl, nou_bk rfl, nou_bk rfl, trivial⟩
  clear hz74 hz75
  clear hb
  refine ⟨.inr ⟨hst.kn.pick (rg 0 6) (rg 10 6), .inr (hst.kn.pick [] [])⟩, ?_⟩
  have hq83 : Qs 1202 ((x + y) + z) := by have h := hq43.add sz; exact h
  refine sAny_oneg (i := 23) (by as_aux_lemma => kernel_rfl) rfl rfl henv rfl rfl rfl (op_call henv rfl Tryd.call58 rfl (add_q (x := x + y) (y := z) (show ZIn _ A70 c71 (qn (x + y)) from hst.pat (k := 1) rfl) (show ZIn _ B72 d73 (ql (x + y)) from hst.pat (k := 0) rfl) (show ZIn _ A20 c21 (qn z) from hst.pat (k := 11) rfl) (show ZIn _ B22 d23 (ql z) from hst.pat (k := 10) rfl) hq43 sz (by omega)) ?_)
  rintro e w84 ⟨_, rfl, ⟨A77, c78, B79, d80, rfl, hz81, hz82⟩, hb⟩
  refine ⟨_, rfl, ?_⟩
  clear henv a; intro a henv
  replace hst := ((hst.call hb).addZ hz81 ⟨nou_bk rfl, nou_bk rfl, nou_bk rfl, nou_bk rfl, nou_bk rfl, nou_bk rfl, trivial⟩).addZ hz82 ⟨nou_bk rfl, nou_bk rfl, nou_bk rfl, nou_bk rfl, nou_bk rfl, nou_bk rfl, trivial⟩
  clear hz81 hz82
  clear hb
  refine ⟨.inr ⟨hst.kn.pick (rg 0 6) (rg 12 6), .inr (hst.kn.pick [] [])⟩, ?_⟩
  have hq91 : Qs 801 (y + z) := by have h := sy.add sz; exact h
  refine sAny_oneg (i := 27) (by as_aux_lemma => kernel_rfl) rfl rfl henv rfl rfl rfl (op_call henv rfl Tryd.call58 rfl (add_q (x := y) (y := z) (show ZIn _ A14 c15 (qn y) from hst.pat (k := 15) rfl) (show ZIn _ B16 d17 (ql y) from hst.pat (k := 14) rfl) (show ZIn _ A20 c21 (qn z) from hst.pat (k := 13) rfl) (show ZIn _ B22 d23 (ql z) from hst.pat (k := 12) rfl) sy sz (by omega)) ?_)
  rintro e w92 ⟨_, rfl, ⟨A85, c86, B87, d88, rfl, hz89, hz90⟩, hb⟩
  refine ⟨_, rfl, ?_⟩
  clear henv a; intro a henv
  replace hst := ((hst.call hb).addZ hz89 ⟨nou_bk rfl, nou_bk rfl, nou_bk rfl, nou_bk rfl, nou_bk rfl, nou_bk rfl, trivial⟩).addZ hz90 ⟨nou_bk rfl, nou_bk rfl, nou_bk rfl, nou_bk rfl, nou_bk rfl, nou_bk rfl, trivial⟩
  clear hz89 hz90
  clear hb
  refine ⟨.inr ⟨hst.kn.pick (rg 0 6) (rg 14 6), .inr (hst.kn.pick [] [])⟩, ?_⟩
  have hq99 : Qs 1202 (x + (y + z)) := by have h := sx.add hq91; exact h
  refine sAny_oneg (i := 28) (by as_aux_lemma => kernel_rfl) rfl rfl henv rfl rfl rfl (op_call henv rfl Tryd.call58 rfl (add_q (x := x) (y := y + z) (show ZIn _ A8 c9 (qn x) from hst.pat (k := 19) rfl) (show ZIn _ B10 d11 (ql x) from hst.pat (k := 18) rfl) (show ZIn _ A85 c86 (qn (y + z)) from hst.pat (k := 1) rfl) (show ZIn _ B87 d88 (ql (y + z)) from hst.pat (k := 0) rfl) sx hq91 (by omega)) ?_)
  rintro e w100 ⟨_, rfl, ⟨A93, c94, B95, d96, rfl, hz97, hz98⟩, hb⟩
  refine ⟨_, rfl, ?_⟩
  clear henv a; intro a henv
  replace hst := ((hst.call hb).addZ hz97 ⟨nou_bk rfl, nou_bk rfl, nou_bk rfl, nou_bk rfl, nou_bk rfl, nou_bk rfl, trivial⟩).addZ hz98 ⟨nou_bk rfl, nou_bk rfl, nou_bk rfl, nou_bk rfl, nou_bk rfl, nou_bk rfl, trivial⟩
  clear hz97 hz98
  clear hb
  refine ⟨.inr ⟨hst.kn.pick (rg 0 6) (rg 16 6), .inr (hst.kn.pick [] [])⟩, ?_⟩
  refine sAny_oneg (i := 29) (by as_aux_lemma => kernel_rfl) rfl rfl henv rfl rfl rfl (op_call henv rfl Tryd.call57 rfl (same_q (x := (x + y) + z) (y := x + (y + z)) (show ZIn _ A77 c78 (qn ((x + y) + z)) from hst.pat (k := 5) rfl) (show ZIn _ B79 d80 (ql ((x + y) + z)) from hst.pat (k := 4) rfl) (show ZIn _ A93 c94 (qn (x + (y + z))) from hst.pat (k := 1) rfl) (show ZIn _ B95 d96 (ql (x + (y + z))) from hst.pat (k := 0) rfl) hq83 hq99 (by omega)) ?_)
  rintro e w101 ⟨rfl, hb⟩
  refine ⟨_, rfl, ?_⟩
  clear henv a; intro a henv
  replace hst := hst.call hb
  clear hb
  refine ⟨.inr ⟨hst.kn.pick (rg 0 6) (rg 16 6), .inr (hst.kn.pick [] [])⟩, ?_⟩
  rw [show (decide ((x + y) + z = x + (y + z))) = true from decide_eq_true (Rat.add_assoc _ _ _)] at henv
  refine tAg (i := 30) (rg 31 52) (v := .bool false) rfl (by as_aux_lemma => kernel_rfl) (fun _ _ _ h => h) henv rfl rfl rfl rfl (fun _ => rn_un henv rfl rfl) ?_
  clear henv a; intro a henv
  refine tA (i := 31) (rg 32 51) (v := .bool false) rfl (by as_aux_lemma => kernel_rfl) (fun _ _ _ h => h) henv rfl (fun _ => rn_pick henv rfl rfl) ?_
  clear henv a; intro a henv
  refine tM (i := 32) (rg 33 50) rfl (by as_aux_lemma => kernel_rfl) (fun _ _ _ h => h) henv rfl rfl ?_
  clear henv a; intro a henv
  refine tLg (i := 33) 2 2 [35, 37, 41, 42, 43, 44, 45, 46, 47, 48, 49, 50, 51, 52, 53, 54, 55, 56, 57, 58, 59, 60, 61, 62, 63, 64, 65, 66, 67, 68, 69, 70, 71, 72, 73, 74, 75, 76, 77, 78, 79, 80, 81, 82] rfl (by as_aux_lemma => kernel_rfl) (fun _ _ _ h => h) henv rfl rfl rfl rfl ty_anvil_ratio_Rat rfl hst rfl rfl rfl ?_
  clear henv a; intro a henv
  refine tLg (i := 34) 1 1 [35, 37, 41, 42, 43, 44, 45, 46, 47, 48, 49, 50, 51, 52, 53, 54, 55, 56, 57, 58, 59, 60, 61, 62, 63, 64, 65, 66, 67, 68, 69, 70, 71, 72, 73, 74, 75, 76, 77, 78, 79, 80, 81, 82] rfl (by as_aux_lemma => kernel_rfl) (fun _ _ _ h => h) henv rfl rfl rfl rfl ty_anvil_ratio_Rat rfl hst rfl rfl rfl ?_
  clear henv a; intro a henv
  refine tLg (i := 36) 0 0 [37, 41, 42, 43, 44, 45, 46, 47, 48, 49, 50, 51, 52, 53, 54, 55, 56, 57, 58, 59, 60, 61, 62, 63, 64, 65, 66, 67, 68, 69, 70, 71, 72, 73, 74, 75, 76, 77, 78, 79, 80, 81, 82] rfl (by as_aux_lemma => kernel_rfl) (fun _ _ _ h => h) henv rfl rfl rfl rfl ty_anvil_ratio_Rat rfl hst rfl rfl rfl ?_
  clear henv a; intro a henv
  refine tLg (i := 38) 2 2 (rg 42 41) rfl (by as_aux_lemma => kernel_rfl) (fun _ _ _ h => h) henv rfl rfl rfl rfl ty_anvil_ratio_Rat rfl hst rfl rfl rfl ?_
  clear henv a; intro a henv
  refine tLg (i := 39) 1 1 (rg 41 42) rfl (by as_aux_lemma => kernel_rfl) (fun _ _ _ h => h) henv rfl rfl rfl rfl ty_anvil_ratio_Rat rfl hst rfl rfl rfl ?_
  clear henv a; intro a henv
  refine tLg (i := 40) 0 0 (rg 41 42) rfl (by as_aux_lemma => kernel_rfl) (fun _ _ _ h => h) henv rfl rfl rfl rfl ty_anvil_ratio_Rat rfl hst rfl rfl rfl ?_
  clear henv a; intro a henv
  refine sAny_oneg (i := 35) (by as_aux_lemma => kernel_rfl) rfl rfl henv rfl rfl rfl (op_call henv rfl Tryd.call59 rfl (mul_q (x := x) (y := y) (show ZIn _ A8 c9 (qn x) from hst.pat (k := 21) rfl) (show ZIn _ B10 d11 (ql x) from hst.pat (k := 20) rfl) (show ZIn _ A14 c15 (qn y) from hst.pat (k := 19) rfl) (show ZIn _ B16 d17 (ql y) from hst.pat (k := 18) rfl) sx sy (by omega)) ?_)
  rintro e w108 ⟨_, rfl, ⟨A102, c103, B104, d105, rfl, hz106, hz107⟩, hb⟩
  refine ⟨_, rfl, ?_⟩
  clear henv a; intro a henv
  replace hst := ((hst.call hb).addZ hz106 ⟨nou_bk rfl, nou_bk rfl, nou_bk rfl, nou_bk rfl, nou_bk rfl, nou_bk rfl, trivial⟩).addZ hz107 ⟨nou_bk rfl, nou_bk rfl, nou_bk rfl, nou_bk rfl, nou_bk rfl, nou_bk rfl, trivial⟩
  clear hz106 hz107
  clear hb
  refine ⟨.inr ⟨hst.kn.pick (rg 0 6) (rg 18 6), .inr (hst.kn.pick [] [])⟩, ?_⟩
  have hq115 : Qs 1200 ((x * y) * z) := by have h := (sx.mul sy).mul sz; exact h
  refine sAny_oneg (i := 37) (by as_aux_lemma => kernel_rfl) rfl rfl henv rfl rfl rfl (op_call henv rfl Tryd.call59 rfl (mul_q (x := x * y) (y := z) (show ZIn _ A102 c103 (qn (x * y)) from hst.pat (k := 1) rfl) (show ZIn _ B104 d105 (ql (x * y)) from hst.pat (k := 0) rfl) (show ZIn _ A20 c21 (qn z) from hst.pat (k := 19) rfl) (show ZIn _ B22 d23 (ql z) from hst.pat (k := 18) rfl) (sx.mul sy) sz (by omega)) ?_)
  rintro e w116 ⟨_, rfl, ⟨A109, c110, B111, d112, rfl, hz113, hz114⟩, hb⟩
  refine ⟨_, rfl, ?_⟩
  clear henv a; intro a henv
  replace hst := ((hst.call hb).addZ hz113 ⟨nou_bk rfl, nou_bk rfl, nou_bk rfl, nou_bk rfl, nou_bk rfl, nou_bk rfl, trivial⟩).addZ hz114 ⟨nou_bk rfl, nou_bk rfl, nou_bk rfl, nou_bk rfl, nou_bk rfl, nou_bk rfl, trivial⟩
  clear hz113 hz114
  clear hb
  refine ⟨.inr ⟨hst.kn.pick (rg 0 6) (rg 20 6), .inr (hst.kn.pick [] [])⟩, ?_⟩
  have hq123 : Qs 800 (y * z) := by have h := sy.mul sz; exact h
  refine sAny_oneg (i := 41) (by as_aux_lemma => kernel_rfl) rfl rfl henv rfl rfl rfl (op_call henv rfl Tryd.call59 rfl (mul_q (x := y) (y := z) (show ZIn _ A14 c15 (qn y) from hst.pat (k := 23) rfl) (show ZIn _ B16 d17 (ql y) from hst.pat (k := 22) rfl) (show ZIn _ A20 c21 (qn z) from hst.pat (k := 21) rfl) (show ZIn _ B22 d23 (ql z) from hst.pat (k := 20) rfl) sy sz (by omega)) ?_)
  rintro e w124 ⟨_, rfl, ⟨A117, c118, B119, d120, rfl, hz121, hz122⟩, hb⟩
  refine ⟨_, rfl, ?_⟩
  clear henv a; intro a henv
  replace hst := ((hst.call hb).addZ hz121 ⟨nou_bk rfl, nou_bk rfl, nou_bk rfl, nou_bk rfl, nou_bk rfl, nou_bk rfl, trivial⟩).addZ hz122 ⟨nou_bk rfl, nou_bk rfl, nou_bk rfl, nou_bk rfl, nou_bk rfl, nou_bk rfl, trivial⟩
  clear hz121 hz122
  clear hb
  refine ⟨.inr ⟨hst.kn.pick (rg 0 6) (rg 22 6), .inr (hst.kn.pick [] [])⟩, ?_⟩
  have hq131 : Qs 1200 (x * (y * z)) := by have h := sx.mul hq123; exact h
  refine sAny_oneg (i := 42) (by as_aux_lemma => kernel_rfl) rfl rfl henv rfl rfl rfl (op_call henv rfl Tryd.call59 rfl (mul_q (x := x) (y := y * z) (show ZIn _ A8 c9 (qn x) from hst.pat (k := 27) rfl) (show ZIn _ B10 d11 (ql x) from hst.pat (k := 26) rfl) (show ZIn _ A117 c118 (qn (y * z)) from hst.pat (k := 1) rfl) (show ZIn _ B119 d120 (ql (y * z)) from hst.pat (k := 0) rfl) sx hq123 (by omega)) ?_)
  rintro e w132 ⟨_, rfl, ⟨A125, c126, B127, d128, rfl, hz129, hz130⟩, hb⟩
  refine ⟨_, rfl, ?_⟩
  clear henv a; intro a henv
  replace hst := ((hst.call hb).addZ hz129 ⟨nou_bk rfl, nou_bk rfl, nou_bk rfl, nou_bk rfl, nou_bk rfl, nou_bk rfl, trivial⟩).addZ hz130 ⟨nou_bk rfl, nou_bk rfl, nou_bk rfl, nou_bk rfl, nou_bk rfl, nou_bk rfl, trivial⟩
  clear hz129 hz130
  clear hb
  refine ⟨.inr ⟨hst.kn.pick (rg 0 6) (rg 24 6), .inr (hst.kn.pick [] [])⟩, ?_⟩
  refine sAny_oneg (i := 43) (by as_aux_lemma => kernel_rfl) rfl rfl henv rfl rfl rfl (op_call henv rfl Tryd.call57 rfl (same_q (x := (x * y) * z) (y := x * (y * z)) (show ZIn _ A109 c110 (qn ((x * y) * z)) from hst.pat (k := 5) rfl) (show ZIn _ B111 d112 (ql ((x * y) * z)) from hst.pat (k := 4) rfl) (show ZIn _ A125 c126 (qn (x * (y * z))) from hst.pat (k := 1) rfl) (show ZIn _ B127 d128 (ql (x * (y * z))) from hst.pat (k := 0) rfl) hq115 hq131 (by omega)) ?_)
  rintro e w133 ⟨rfl, hb⟩
  refine ⟨_, rfl, ?_⟩
  clear henv a; intro a henv
  replace hst := hst.call hb
  clear hb
  refine ⟨.inr ⟨hst.kn.pick (rg 0 6) (rg 24 6), .inr (hst.kn.pick [] [])⟩, ?_⟩
  rw [show (decide ((x * y) * z = x * (y * z))) = true from decide_eq_true (Rat.mul_assoc _ _ _)] at henv
  refine tAg (i := 44) (rg 45 38) (v := .bool false) rfl (by as_aux_lemma => kernel_rfl) (fun _ _ _ h => h) henv rfl rfl rfl rfl (fun _ => rn_un henv rfl rfl) ?_
  clear henv a; intro a henv
  refine tA (i := 45) (rg 46 37) (v := .bool false) rfl (by as_aux_lemma => kernel_rfl) (fun _ _ _ h => h) henv rfl (fun _ => rn_pick henv rfl rfl) ?_
  clear henv a; intro a henv
  refine tM (i := 46) (rg 47 36) rfl (by as_aux_lemma => kernel_rfl) (fun _ _ _ h => h) henv rfl rfl ?_
  clear henv a; intro a henv
  refine tLg (i := 47) 2 2 [51, 54, 57, 58, 59, 60, 61, 62, 63, 64, 65, 66, 67, 68, 69, 70, 71, 72, 73, 74, 75, 76, 77, 78, 79, 80, 81, 82] rfl (by as_aux_lemma => kernel_rfl) (fun _ _ _ h => h) henv rfl rfl rfl rfl ty_anvil_ratio_Rat rfl hst rfl rfl rfl ?_
  clear henv a; intro a henv
  refine tLg (i := 48) 1 1 [50, 51, 54, 57, 58, 59, 60, 61, 62, 63, 64, 65, 66, 67, 68, 69, 70, 71, 72, 73, 74, 75, 76, 77, 78, 79, 80, 81, 82] rfl (by as_aux_lemma => kernel_rfl) (fun _ _ _ h => h) henv rfl rfl rfl rfl ty_anvil_ratio_Rat rfl hst rfl rfl rfl ?_
  clear henv a; intro a henv
  refine tLg (i := 49) 0 0 [50, 51, 54, 57, 58, 59, 60, 61, 62, 63, 64, 65, 66, 67, 68, 69, 70, 71, 72, 73, 74, 75, 76, 77, 78, 79, 80, 81, 82] rfl (by as_aux_lemma => kernel_rfl) (fun _ _ _ h => h) henv rfl rfl rfl rfl ty_anvil_ratio_Rat rfl hst rfl rfl rfl ?_
  clear henv a; intro a henv
  refine tLg (i := 52) 2 2 [54, 57, 58, 59, 60, 61, 62, 63, 64, 65, 66, 67, 68, 69, 70, 71, 72, 73, 74, 75, 76, 77, 78, 79, 80, 81, 82] rfl (by as_aux_lemma => kernel_rfl) (fun _ _ _ h => h) henv rfl rfl rfl rfl ty_anvil_ratio_Rat rfl hst rfl rfl rfl ?_
  clear henv a; intro a henv
  refine tLg (i := 53) 1 1 [54, 57, 58, 59, 60, 61, 62, 63, 64, 65, 66, 67, 68, 69, 70, 71, 72, 73, 74, 75, 76, 77, 78, 79, 80, 81, 82] rfl (by as_aux_lemma => kernel_rfl) (fun _ _ _ h => h) henv rfl rfl rfl rfl ty_anvil_ratio_Rat rfl hst rfl rfl rfl ?_
  clear henv a; intro a henv
  refine tLg (i := 55) 2 2 (rg 57 26) rfl (by as_aux_lemma => kernel_rfl) (fun _ _ _ h => h) henv rfl rfl rfl rfl ty_anvil_ratio_Rat rfl hst rfl rfl rfl ?_
  clear henv a; intro a henv
  refine tLg (i := 56) 0 0 (rg 57 26) rfl (by as_aux_lemma => kernel_rfl) (fun _ _ _ h => h) henv rfl rfl rfl rfl ty_anvil_ratio_Rat rfl hst rfl rfl rfl ?_
  clear henv a; intro a henv
  refine sAny_oneg (i := 50) (by as_aux_lemma => kernel_rfl) rfl rfl henv rfl rfl rfl (op_call henv rfl Tryd.call58 rfl (add_q (x := y) (y := z) (show ZIn _ A14 c15 (qn y) from hst.pat (k := 27) rfl) (show ZIn _ B16 d17 (ql y) from hst.pat (k := 26) rfl) (show ZIn _ A20 c21 (qn z) from hst.pat (k := 25) rfl) (show ZIn _ B22 d23 (ql z) from hst.pat (k := 24) rfl) sy sz (by omega)) ?_)
  rintro e w140 ⟨_, rfl, ⟨A134, c135, B136, d137, rfl, hz138, hz139⟩, hb⟩
  refine ⟨_, rfl, ?_⟩
  clear henv a; intro a henv
  replace hst := ((hst.call hb).addZ hz138 ⟨nou_bk rfl, nou_bk rfl, nou_bk rfl, nou_bk rfl, nou_bk rfl, nou_bk rfl, trivial⟩).addZ hz139 ⟨nou_bk rfl, nou_bk rfl, nou_bk rfl, nou_bk rfl, nou_bk rfl, nou_bk rfl, trivial⟩
  clear hz138 hz139
  clear hb
  refine ⟨.inr ⟨hst.kn.pick (rg 0 6) (rg 26 6), .inr (hst.kn.pick [] [])⟩, ?_⟩
  have hq147 : Qs 1201 (x * (y + z)) := by have h := sx.mul hq91; exact h
  refine sAny_oneg (i := 51) (by as_aux_lemma => kernel_rfl) rfl rfl henv rfl rfl rfl (op_call henv rfl Tryd.call59 rfl (mul_q (x := x) (y := y + z) (show ZIn _ A8 c9 (qn x) from hst.pat (k := 31) rfl) (show ZIn _ B10 d11 (ql x) from hst.pat (k := 30) rfl) (show ZIn _ A134 c135 (qn (y + z)) from hst.pat (k := 1) rfl) (show ZIn _ B136 d137 (ql (y + z)) from hst.pat (k := 0) rfl) sx hq91 (by omega)) ?_)
  rintro e w148 ⟨_, rfl, ⟨A141, c142, B143, d144, rfl, hz145, hz146⟩, hb⟩
  refine ⟨_, rfl, ?_⟩
  clear henv a; intro a henv
  replace hst := ((hst.call hb).addZ hz145 ⟨nou_bk rfl, nou_bk rfl, nou_bk rfl, nou_bk rfl, nou_bk rfl, nou_bk rfl, trivial⟩).addZ hz146 ⟨nou_bk rfl, nou_bk rfl, nou_bk rfl, nou_bk rfl, nou_bk rfl, nou_bk rfl, trivial⟩
  clear hz145 hz146
  clear hb
  refine ⟨.inr ⟨hst.kn.pick (rg 0 6) (rg 28 6), .inr (hst.kn.pick [] [])⟩, ?_⟩
  refine sAny_oneg (i := 54) (by as_aux_lemma => kernel_rfl) rfl rfl henv rfl rfl rfl (op_call henv rfl Tryd.call59 rfl (mul_q (x := x) (y := y) (show ZIn _ A8 c9 (qn x) from hst.pat (k := 33) rfl) (show ZIn _ B10 d11 (ql x) from hst.pat (k := 32) rfl) (show ZIn _ A14 c15 (qn y) from hst.pat (k := 31) rfl) (show ZIn _ B16 d17 (ql y) from hst.pat (k := 30) rfl) sx sy (by omega)) ?_)
  rintro e w155 ⟨_, rfl, ⟨A149, c150, B151, d152, rfl, hz153, hz154⟩, hb⟩
  refine ⟨_, rfl, ?_⟩
  clear henv a; intro a henv
  replace hst := ((hst.call hb).addZ hz153 ⟨nou_bk rfl, nou_bk rfl, nou_bk rfl, nou_bk rfl, nou_bk rfl, nou_bk rfl, trivial⟩).addZ hz154 ⟨nou_bk rfl, nou_bk rfl, nou_bk rfl, nou_bk rfl, nou_bk rfl, nou_bk rfl, trivial⟩
  clear hz153 hz154
  clear hb
  refine ⟨.inr ⟨hst.kn.pick (rg 0 6) (rg 30 6), .inr (hst.kn.pick [] [])⟩, ?_⟩
  have hq162 : Qs 800 (x * z) := by have h := sx.mul sz; exact h
  refine sAny_oneg (i := 57) (by as_aux_lemma => kernel_rfl) rfl rfl henv rfl rfl rfl (op_call henv rfl Tryd.call59 rfl (mul_q (x := x) (y := z) (show ZIn _ A8 c9 (qn x) from hst.pat (k := 35) rfl) (show ZIn _ B10 d11 (ql x) from hst.pat (k := 34) rfl) (show ZIn _ A20 c21 (qn z) from hst.pat (k := 31) rfl) (show ZIn _ B22 d23 (ql z) from hst.pat (k := 30) rfl) sx sz (by omega)) ?_)
  rintro e w163 ⟨_, rfl, ⟨A156, c157, B158, d159, rfl, hz160, hz161⟩, hb⟩
  refine ⟨_, rfl, ?_⟩
  clear henv a; intro a henv
  replace hst := ((hst.call hb).addZ hz160 ⟨nou_bk rfl, nou_bk rfl, nou_bk rfl, nou_bk rfl, nou_bk rfl, nou_bk rfl, trivial⟩).addZ hz161 ⟨nou_bk rfl, nou_bk rfl, nou_bk rfl, nou_bk rfl, nou_bk rfl, nou_bk rfl, trivial⟩
  clear hz160 hz161
  clear hb
  refine ⟨.inr ⟨hst.kn.pick (rg 0 6) (rg 32 6), .inr (hst.kn.pick [] [])⟩, ?_⟩
  have hq170 : Qs 1601 ((x * y) + (x * z)) := by have h := (sx.mul sy).add hq162; exact h
  refine sAny_oneg (i := 58) (by as_aux_lemma => kernel_rfl) rfl rfl henv rfl rfl rfl (op_call henv rfl Tryd.call58 rfl (add_q (x := x * y) (y := x * z) (show ZIn _ A149 c150 (qn (x * y)) from hst.pat (k := 3) rfl) (show ZIn _ B151 d152 (ql (x * y)) from hst.pat (k := 2) rfl) (show ZIn _ A156 c157 (qn (x * z)) from hst.pat (k := 1) rfl) (show ZIn _ B158 d159 (ql (x * z)) from hst.pat (k := 0) rfl) (sx.mul sy) hq162 (by omega)) ?_)
  rintro e w171 ⟨_, rfl, ⟨A164, c165, B166, d167, rfl, hz168, hz169⟩, hb⟩
  refine ⟨_, rfl, ?_⟩
  clear henv a; intro a henv
  replace hst := ((hst.call hb).addZ hz168 ⟨nou_bk rfl, nou_bk rfl, nou_bk rfl, nou_bk rfl, nou_bk rfl, nou_bk rfl, trivial⟩).addZ hz169 ⟨nou_bk rfl, nou_bk rfl, nou_bk rfl, nou_bk rfl, nou_bk rfl, nou_bk rfl, trivial⟩
  clear hz168 hz169
  clear hb
  refine ⟨.inr ⟨hst.kn.pick (rg 0 6) (rg 34 6), .inr (hst.kn.pick [] [])⟩, ?_⟩
  refine sAny_oneg (i := 59) (by as_aux_lemma => kernel_rfl) rfl rfl henv rfl rfl rfl (op_call henv rfl Tryd.call57 rfl (same_q (x := x * (y + z)) (y := (x * y) + (x * z)) (show ZIn _ A141 c142 (qn (x * (y + z))) from hst.pat (k := 7) rfl) (show ZIn _ B143 d144 (ql (x * (y + z))) from hst.pat (k := 6) rfl) (show ZIn _ A164 c165 (qn ((x * y) + (x * z))) from hst.pat (k := 1) rfl) (show ZIn _ B166 d167 (ql ((x * y) + (x * z))) from hst.pat (k := 0) rfl) hq147 hq170 (by omega)) ?_)
  rintro e w172 ⟨rfl, hb⟩
  refine ⟨_, rfl, ?_⟩
  clear henv a; intro a henv
  replace hst := hst.call hb
  clear hb
  refine ⟨.inr ⟨hst.kn.pick (rg 0 6) (rg 34 6), .inr (hst.kn.pick [] [])⟩, ?_⟩
  rw [show (decide (x * (y + z) = (x * y) + (x * z))) = true from decide_eq_true (Rat.mul_add _ _ _)] at henv
  refine tAg (i := 60) (rg 61 22) (v := .bool false) rfl (by as_aux_lemma => kernel_rfl) (fun _ _ _ h => h) henv rfl rfl rfl rfl (fun _ => rn_un henv rfl rfl) ?_
  clear henv a; intro a henv
  refine tA (i := 61) (rg 62 21) (v := .bool false) rfl (by as_aux_lemma => kernel_rfl) (fun _ _ _ h => h) henv rfl (fun _ => rn_pick henv rfl rfl) ?_
  clear henv a; intro a henv
  refine tM (i := 62) (rg 63 20) rfl (by as_aux_lemma => kernel_rfl) (fun _ _ _ h => h) henv rfl rfl ?_
  clear henv a; intro a henv
  refine tLg (i := 63) 2 2 [65, 67, 69, 70, 71, 72, 73, 74, 75, 76, 77, 78, 79, 80, 81, 82] rfl (by as_aux_lemma => kernel_rfl) (fun _ _ _ h => h) henv rfl rfl rfl rfl ty_anvil_ratio_Rat rfl hst rfl rfl rfl ?_
  clear henv a; intro a henv
  refine tLg (i := 64) 1 1 [65, 67, 69, 70, 71, 72, 73, 74, 75, 76, 77, 78, 79, 80, 81, 82] rfl (by as_aux_lemma => kernel_rfl) (fun _ _ _ h => h) henv rfl rfl rfl rfl ty_anvil_ratio_Rat rfl hst rfl rfl rfl ?_
  clear henv a; intro a henv
  refine tLg (i := 66) 1 1 [67, 69, 70, 71, 72, 73, 74, 75, 76, 77, 78, 79, 80, 81, 82] rfl (by as_aux_lemma => kernel_rfl) (fun _ _ _ h => h) henv rfl rfl rfl rfl ty_anvil_ratio_Rat rfl hst rfl rfl rfl ?_
  clear henv a; intro a henv
  refine tLg (i := 68) 2 2 (rg 69 14) rfl (by as_aux_lemma => kernel_rfl) (fun _ _ _ h => h) henv rfl rfl rfl rfl ty_anvil_ratio_Rat rfl hst rfl rfl rfl ?_
  clear henv a; intro a henv
  refine sAny_oneg (i := 65) (by as_aux_lemma => kernel_rfl) rfl rfl henv rfl rfl rfl (op_call henv rfl Tryd.call58 rfl (add_q (x := x) (y := y) (show ZIn _ A8 c9 (qn x) from hst.pat (k := 39) rfl) (show ZIn _ B10 d11 (ql x) from hst.pat (k := 38) rfl) (show ZIn _ A14 c15 (qn y) from hst.pat (k := 37) rfl) (show ZIn _ B16 d17 (ql y) from hst.pat (k := 36) rfl) sx sy (by omega)) ?_)
  rintro e w179 ⟨_, rfl, ⟨A173, c174, B175, d176, rfl, hz177, hz178⟩, hb⟩
  refine ⟨_, rfl, ?_⟩
  clear henv a; intro a henv
  replace hst := ((hst.call hb).addZ hz177 ⟨nou_bk rfl, nou_bk rfl, nou_bk rfl, nou_bk rfl, nou_bk rfl, nou_bk rfl, trivial⟩).addZ hz178 ⟨nou_bk rfl, nou_bk rfl, nou_bk rfl, nou_bk rfl, nou_bk rfl, nou_bk rfl, trivial⟩
  clear hz177 hz178
  clear hb
  refine ⟨.inr ⟨hst.kn.pick (rg 0 6) (rg 36 6), .inr (hst.kn.pick [] [])⟩, ?_⟩
  have hq186 : Qs 1202 ((x + y) - y) := by have h := hq43.sub sy; exact h
  refine sAny_oneg (i := 67) (by as_aux_lemma => kernel_rfl) rfl rfl henv rfl rfl rfl (op_call henv rfl Tryd.call60 rfl (sub_q (x := x + y) (y := y) (show ZIn _ A173 c174 (qn (x + y)) from hst.pat (k := 1) rfl) (show ZIn _ B175 d176 (ql (x + y)) from hst.pat (k := 0) rfl) (show ZIn _ A14 c15 (qn y) from hst.pat (k := 39) rfl) (show ZIn _ B16 d17 (ql y) from hst.pat (k := 38) rfl) hq43 sy (by omega)) ?_)
  rintro e w187 ⟨_, rfl, ⟨A180, c181, B182, d183, rfl, hz184, hz185⟩, hb⟩
  refine ⟨_, rfl, ?_⟩
  clear henv a; intro a henv
  replace hst := ((hst.call hb).addZ hz184 ⟨nou_bk rfl, nou_bk rfl, nou_bk rfl, nou_bk rfl, nou_bk rfl, nou_bk rfl, trivial⟩).addZ hz185 ⟨nou_bk rfl, nou_bk rfl, nou_bk rfl, nou_bk rfl, nou_bk rfl, nou_bk rfl, trivial⟩
  clear hz184 hz185
  clear hb
  refine ⟨.inr ⟨hst.kn.pick (rg 0 6) (rg 38 6), .inr (hst.kn.pick [] [])⟩, ?_⟩
  refine sAny_oneg (i := 69) (by as_aux_lemma => kernel_rfl) rfl rfl henv rfl rfl rfl (op_call henv rfl Tryd.call57 rfl (same_q (x := (x + y) - y) (y := x) (show ZIn _ A180 c181 (qn ((x + y) - y)) from hst.pat (k := 1) rfl) (show ZIn _ B182 d183 (ql ((x + y) - y)) from hst.pat (k := 0) rfl) (show ZIn _ A8 c9 (qn x) from hst.pat (k := 43) rfl) (show ZIn _ B10 d11 (ql x) from hst.pat (k := 42) rfl) hq186 sx (by omega)) ?_)
  rintro e w188 ⟨rfl, hb⟩
  refine ⟨_, rfl, ?_⟩
  clear henv a; intro a henv
  replace hst := hst.call hb
  clear hb
  refine ⟨.inr ⟨hst.kn.pick (rg 0 6) (rg 38 6), .inr (hst.kn.pick [] [])⟩, ?_⟩
  rw [show (decide ((x + y) - y = x)) = true from decide_eq_true (Rat.add_sub_cancel)] at henv
  refine tAg (i := 70) (rg 71 12) (v := .bool false) rfl (by as_aux_lemma => kernel_rfl) (fun _ _ _ h => h) henv rfl rfl rfl rfl (fun _ => rn_un henv rfl rfl) ?_
  clear henv a; intro a henv
  refine tA (i := 71) (rg 72 11) (v := .bool false) rfl (by as_aux_lemma => kernel_rfl) (fun _ _ _ h => h) henv rfl (fun _ => rn_pick henv rfl rfl) ?_
  clear henv a; intro a henv
  refine tM (i := 72) (rg 73 10) rfl (by as_aux_lemma => kernel_rfl) (fun _ _ _ h => h) henv rfl rfl ?_
  clear henv a; intro a henv
  refine tLg (i := 73) 2 2 [75, 78, 79, 80, 81, 82] rfl (by as_aux_lemma => kernel_rfl) (fun _ _ _ h => h) henv rfl rfl rfl rfl ty_anvil_ratio_Rat rfl hst rfl rfl rfl ?_
  clear henv a; intro a henv
  refine tLg (i := 74) 1 1 [75, 78, 79, 80, 81, 82] rfl (by as_aux_lemma => kernel_rfl) (fun _ _ _ h => h) henv rfl rfl rfl rfl ty_anvil_ratio_Rat rfl hst rfl rfl rfl ?_
  clear henv a; intro a henv
  refine tLg (i := 76) 2 2 (rg 79 4) rfl (by as_aux_lemma => kernel_rfl) (fun _ _ _ h => h) henv rfl rfl rfl rfl ty_anvil_ratio_Rat rfl hst rfl rfl rfl ?_
  clear henv a; intro a henv
  refine tLg (i := 77) 1 1 (rg 78 5) rfl (by as_aux_lemma => kernel_rfl) (fun _ _ _ h => h) henv rfl rfl rfl rfl ty_anvil_ratio_Rat rfl hst rfl rfl rfl ?_
  clear henv a; intro a henv
  have hq195 : Qs 801 (x - y) := by have h := sx.sub sy; exact h
  refine sAny_oneg (i := 75) (by as_aux_lemma => kernel_rfl) rfl rfl henv rfl rfl rfl (op_call henv rfl Tryd.call60 rfl (sub_q (x := x) (y := y) (show ZIn _ A8 c9 (qn x) from hst.pat (k := 43) rfl) (show ZIn _ B10 d11 (ql x) from hst.pat (k := 42) rfl) (show ZIn _ A14 c15 (qn y) from hst.pat (k := 41) rfl) (show ZIn _ B16 d17 (ql y) from hst.pat (k := 40) rfl) sx sy (by omega)) ?_)
  rintro e w196 ⟨_, rfl, ⟨A189, c190, B191, d192, rfl, hz193, hz194⟩, hb⟩
  refine ⟨_, rfl, ?_⟩
  clear henv a; intro a henv
  replace hst := ((hst.call hb).addZ hz193 ⟨nou_bk rfl, nou_bk rfl, nou_bk rfl, nou_bk rfl, nou_bk rfl, nou_bk rfl, trivial⟩).addZ hz194 ⟨nou_bk rfl, nou_bk rfl, nou_bk rfl, nou_bk rfl, nou_bk rfl, nou_bk rfl, trivial⟩
  clear hz193 hz194
  clear hb
  refine ⟨.inr ⟨hst.kn.pick (rg 0 6) (rg 40 6), .inr (hst.kn.pick [] [])⟩, ?_⟩
  have hq203 : Qs 400 (-y) := by have h := sy.neg; exact h
  refine sAny_oneg (i := 78) (by as_aux_lemma => kernel_rfl) rfl rfl henv rfl rfl rfl (op_call henv rfl Tryd.call61 rfl (neg_q (x := y) (show ZIn _ A14 c15 (qn y) from hst.pat (k := 43) rfl) (show ZIn _ B16 d17 (ql y) from hst.pat (k := 42) rfl)) ?_)
  rintro e w204 ⟨_, rfl, ⟨A197, c198, B199, d200, rfl, hz201, hz202⟩, hb⟩
  refine ⟨_, rfl, ?_⟩
  clear henv a; intro a henv
  replace hst := ((hst.call hb).addZ hz201 ⟨nou_bk rfl, nou_bk rfl, nou_bk rfl, nou_bk rfl, nou_bk rfl, nou_bk rfl, trivial⟩).addZ hz202 ⟨nou_bk rfl, nou_bk rfl, nou_bk rfl, nou_bk rfl, nou_bk rfl, nou_bk rfl, trivial⟩
  clear hz201 hz202
  clear hb
  refine ⟨.inr ⟨hst.kn.pick (rg 0 6) (rg 42 6), .inr (hst.kn.pick [] [])⟩, ?_⟩
  have hq211 : Qs 801 (x + (-y)) := by have h := sx.add hq203; exact h
  refine sAny_oneg (i := 79) (by as_aux_lemma => kernel_rfl) rfl rfl henv rfl rfl rfl (op_call henv rfl Tryd.call58 rfl (add_q (x := x) (y := -y) (show ZIn _ A8 c9 (qn x) from hst.pat (k := 47) rfl) (show ZIn _ B10 d11 (ql x) from hst.pat (k := 46) rfl) (show ZIn _ A197 c198 (qn (-y)) from hst.pat (k := 1) rfl) (show ZIn _ B199 d200 (ql (-y)) from hst.pat (k := 0) rfl) sx hq203 (by omega)) ?_)
  rintro e w212 ⟨_, rfl, ⟨A205, c206, B207, d208, rfl, hz209, hz210⟩, hb⟩
  refine ⟨_, rfl, ?_⟩
  clear henv a; intro a henv
  replace hst := ((hst.call hb).addZ hz209 ⟨nou_bk rfl, nou_bk rfl, nou_bk rfl, nou_bk rfl, nou_bk rfl, nou_bk rfl, trivial⟩).addZ hz210 ⟨nou_bk rfl, nou_bk rfl, nou_bk rfl, nou_bk rfl, nou_bk rfl, nou_bk rfl, trivial⟩
  clear hz209 hz210
  clear hb
  refine ⟨.inr ⟨hst.kn.pick (rg 0 6) (rg 44 6), .inr (hst.kn.pick [] [])⟩, ?_⟩
  refine sAny_oneg (i := 80) (by as_aux_lemma => kernel_rfl) rfl rfl henv rfl rfl rfl (op_call henv rfl Tryd.call57 rfl (same_q (x := x - y) (y := x + (-y)) (show ZIn _ A189 c190 (qn (x - y)) from hst.pat (k := 5) rfl) (show ZIn _ B191 d192 (ql (x - y)) from hst.pat (k := 4) rfl) (show ZIn _ A205 c206 (qn (x + (-y))) from hst.pat (k := 1) rfl) (show ZIn _ B207 d208 (ql (x + (-y))) from hst.pat (k := 0) rfl) hq195 hq211 (by omega)) ?_)
  rintro e w213 ⟨rfl, hb⟩
  refine ⟨_, rfl, ?_⟩
  clear henv a; intro a henv
  replace hst := hst.call hb
  clear hb
  refine ⟨.inr ⟨hst.kn.pick (rg 0 6) (rg 44 6), .inr (hst.kn.pick [] [])⟩, ?_⟩
  rw [show (decide (x - y = x + (-y))) = true from decide_eq_true (Rat.sub_eq_add_neg _ _)] at henv
  refine tAg (i := 81) [82] (v := .bool false) rfl (by as_aux_lemma => kernel_rfl) (fun _ _ _ h => h) henv rfl rfl rfl rfl (fun _ => rn_un henv rfl rfl) ?_
  clear henv a; intro a henv
  refine tA (i := 82) [] (v := .bool false) rfl (by as_aux_lemma => kernel_rfl) (fun _ _ _ h => h) henv rfl (fun _ => rn_pick henv rfl rfl) ?_
  clear henv a; intro a henv
  refine sAny_done (by as_aux_lemma => kernel_rfl) ?_ _
  refine th_n ?_
  refine if_f henv rfl (rfl) ?_
  refine wp_skip ?_
  refine th_n ?_
  refine wp_seq ?_
  refine cut (fun a w => ∃ A215 : Option Addr, ∃ c216 : Nat, ∃ B217 : Option Addr, ∃ d218 : Nat, ∃ A222 : Option Addr, ∃ c223 : Nat, ∃ B224 : Option Addr, ∃ d225 : Nat, ∃ g229 : Nat, Env 129 a [(0, .agg #[.string ⟨s1.toArray⟩, .string ⟨t1.toArray⟩]), (1, .agg #[.string ⟨s2.toArray⟩, .string ⟨t2.toArray⟩]), (2, .agg #[.string ⟨s3.toArray⟩, .string ⟨t3.toArray⟩]), (3, .pointer (some ⟨g1, 0, none⟩)), (4, .pointer (some ⟨g3, 0, none⟩)), (5, .pointer (some ⟨g5, 0, none⟩)), (6, .bool false), (13, .bool true), (14, .bool false), (16, .agg #[.string ⟨s1.toArray⟩, .string ⟨t1.toArray⟩]), (17, .agg #[.string ⟨s2.toArray⟩, .string ⟨t2.toArray⟩]), (18, .agg #[.string ⟨s3.toArray⟩, .string ⟨t3.toArray⟩]), (19, .tuple #[.agg #[.bool (neg (qn x)), .slice A8 (zl (qn x)) c9, .bool (neg (ql x)), .slice B10 (zl (ql x)) d11], .agg #[.bool (neg (qn y)), .slice A14 (zl (qn y)) c15, .bool (neg (ql y)), .slice B16 (zl (ql y)) d17], .agg #[.bool (neg (qn z)), .slice A20 (zl (qn z)) c21, .bool (neg (ql z)), .slice B22 (zl (ql z)) d23], .bool true]), (15, .tuple #[.agg #[.bool (neg (qn x)), .slice A8 (zl (qn x)) c9, .bool (neg (ql x)), .slice B10 (zl (ql x)) d11], .agg #[.bool (neg (qn y)), .slice A14 (zl (qn y)) c15, .bool (neg (ql y)), .slice B16 (zl (ql y)) d17], .agg #[.bool (neg (qn z)), .slice A20 (zl (qn z)) c21, .bool (neg (ql z)), .slice B22 (zl (ql z)) d23], .bool true]), (20, .agg #[.bool (neg (qn x)), .slice A8 (zl (qn x)) c9, .bool (neg (ql x)), .slice B10 (zl (ql x)) d11]), (21, .agg #[.bool (neg (qn y)), .slice A14 (zl (qn y)) c15, .bool (neg (ql y)), .slice B16 (zl (ql y)) d17]), (22, .agg #[.bool (neg (qn z)), .slice A20 (zl (qn z)) c21, .bool (neg (ql z)), .slice B22 (zl (ql z)) d23]), (23, .bool true), (7, .pointer (some ⟨g27, 0, none⟩)), (8, .pointer (some ⟨g29, 0, none⟩)), (9, .pointer (some ⟨g31, 0, none⟩)), (10, .bool true), (24, .bool true), (25, .bool false), (26, .agg #[.bool (neg (qn x)), .slice A8 (zl (qn x)) c9, .bool (neg (ql x)), .slice B10 (zl (ql x)) d11]), (27, .agg #[.bool (neg (qn y)), .slice A14 (zl (qn y)) c15, .bool (neg (ql y)), .slice B16 (zl (ql y)) d17]), (29, .agg #[.bool (neg (qn y)), .slice A14 (zl (qn y)) c15, .bool (neg (ql y)), .slice B16 (zl (ql y)) d17]), (30, .agg #[.bool (neg (qn x)), .slice A8 (zl (qn x)) c9, .bool (neg (ql x)), .slice B10 (zl (ql x)) d11]), (28, .agg #[.bool (neg (qn (x + y))), .slice A37 (zl (qn (x + y))) c38, .bool (neg (ql (x + y))), .slice B39 (zl (ql (x + y))) d40]), (31, .agg #[.bool (neg (qn (y + x))), .slice A45 (zl (qn (y + x))) c46, .bool (neg (ql (y + x))), .slice B47 (zl (ql (y + x))) d48]), (32, .bool true), (33, .bool false), (34, .bool false), (35, .agg #[.bool (neg (qn x)), .slice A8 (zl (qn x)) c9, .bool (neg (ql x)), .slice B10 (zl (ql x)) d11]), (36, .agg #[.bool (neg (qn y)), .slice A14 (zl (qn y)) c15, .bool (neg (ql y)), .slice B16 (zl (ql y)) d17]), (38, .agg #[.bool (neg (qn y)), .slice A14 (zl (qn y)) c15, .bool (neg (ql y)), .slice B16 (zl (ql y)) d17]), (39, .agg #[.bool (neg (qn x)), .slice A8 (zl (qn x)) c9, .bool (neg (ql x)), .slice B10 (zl (ql x)) d11]), (37, .agg #[.bool (neg (qn (x * y))), .slice A54 (zl (qn (x * y))) c55, .bool (neg (ql (x * y))), .slice B56 (zl (ql (x * y))) d57]), (40, .agg #[.bool (neg (qn (y * x))), .slice A61 (zl (qn (y * x))) c62, .bool (neg (ql (y * x))), .slice B63 (zl (ql (y * x))) d64]), (41, .bool true), (42, .bool false), (43, .bool false), (44, .bool false), (45, .agg #[.bool (neg (qn x)), .slice A8 (zl (qn x)) c9, .bool (neg (ql x)), .slice B10 (zl (ql x)) d11]), (46, .agg #[.bool (neg (qn y)), .slice A14 (zl (qn y)) c15, .bool (neg (ql y)), .slice B16 (zl (ql y)) d17]), (48, .agg #[.bool (neg (qn z)), .slice A20 (zl (qn z)) c21, .bool (neg (ql z)), .slice B22 (zl (ql z)) d23]), (50, .agg #[.bool (neg (qn x)), .slice A8 (zl (qn x)) c9, .bool (neg (ql x)), .slice B10 (zl (ql x)) d11]), (51, .agg #[.bool (neg (qn y)), .slice A14 (zl (qn y)) c15, .bool (neg (ql y)), .slice B16 (zl (ql y)) d17]), (52, .agg #[.bool (neg (qn z)), .slice A20 (zl (qn z)) c21, .bool (neg (ql z)), .slice B22 (zl (ql z)) d23]), (47, .agg #[.bool (neg (qn (x + y))), .slice A70 (zl (qn (x + y))) c71, .bool (neg (ql (x + y))), .slice B72 (zl (ql (x + y))) d73]), (49, .agg #[.bool (neg (qn ((x + y) + z))), .slice A77 (zl (qn ((x + y) + z))) c78, .bool (neg (ql ((x + y) + z))), .slice B79 (zl (ql ((x + y) + z))) d80]), (53, .agg #[.bool (neg (qn (y + z))), .slice A85 (zl (qn (y + z))) c86, .bool (neg (ql (y + z))), .slice B87 (zl (ql (y + z))) d88]), (54, .agg #[.bool (neg (qn (x + (y + z)))), .slice A93 (zl (qn (x + (y + z)))) c94, .bool (neg (ql (x + (y + z)))), .slice B95 (zl (ql (x + (y + z)))) d96]), (55, .bool true), (56, .bool false), (57, .bool false), (58, .bool false), (59, .agg #[.bool (neg (qn x)), .slice A8 (zl (qn x)) c9, .bool (neg (ql x)), .slice B10 (zl (ql x)) d11]), (60, .agg #[.bool (neg (qn y)), .slice A14 (zl (qn y)) c15, .bool (neg (ql y)), .slice B16 (zl (ql y)) d17]), (62, .agg #[.bool (neg (qn z)), .slice A20 (zl (qn z)) c21, .bool (neg (ql z)), .slice B22 (zl (ql z)) d23]), (64, .agg #[.bool (neg (qn x)), .slice A8 (zl (qn x)) c9, .bool (neg (ql x)), .slice B10 (zl (ql x)) d11]), (65, .agg #[.bool (neg (qn y)), .slice A14 (zl (qn y)) c15, .bool (neg (ql y)), .slice B16 (zl (ql y)) d17]), (66, .agg #[.bool (neg (qn z)), .slice A20 (zl (qn z)) c21, .bool (neg (ql z)), .slice B22 (zl (ql z)) d23]), (61, .agg #[.bool (neg (qn (x * y))), .slice A102 (zl (qn (x * y))) c103, .bool (neg (ql (x * y))), .slice B104 (zl (ql (x * y))) d105]), (63, .agg #[.bool (neg (qn ((x * y) * z))), .slice A109 (zl (qn ((x * y) * z))) c110, .bool (neg (ql ((x * y) * z))), .slice B111 (zl (ql ((x * y) * z))) d112]), (67, .agg #[.bool (neg (qn (y * z))), .slice A117 (zl (qn (y * z))) c118, .bool (neg (ql (y * z))), .slice B119 (zl (ql (y * z))) d120]), (68, .agg #[.bool (neg (qn (x * (y * z)))), .slice A125 (zl (qn (x * (y * z)))) c126, .bool (neg (ql (x * (y * z)))), .slice B127 (zl (ql (x * (y * z)))) d128]), (69, .bool true), (70, .bool false), (71, .bool false), (72, .bool false), (73, .agg #[.bool (neg (qn x)), .slice A8 (zl (qn x)) c9, .bool (neg (ql x)), .slice B10 (zl (ql x)) d11]), (74, .agg #[.bool (neg (qn y)), .slice A14 (zl (qn y)) c15, .bool (neg (ql y)), .slice B16 (zl (ql y)) d17]), (75, .agg #[.bool (neg (qn z)), .slice A20 (zl (qn z)) c21, .bool (neg (ql z)), .slice B22 (zl (ql z)) d23]), (78, .agg #[.bool (neg (qn x)), .slice A8 (zl (qn x)) c9, .bool (neg (ql x)), .slice B10 (zl (ql x)) d11]), (79, .agg #[.bool (neg (qn y)), .slice A14 (zl (qn y)) c15, .bool (neg (ql y)), .slice B16 (zl (ql y)) d17]), (81, .agg #[.bool (neg (qn x)), .slice A8 (zl (qn x)) c9, .bool (neg (ql x)), .slice B10 (zl (ql x)) d11]), (82, .agg #[.bool (neg (qn z)), .slice A20 (zl (qn z)) c21, .bool (neg (ql z)), .slice B22 (zl (ql z)) d23]), (76, .agg #[.bool (neg (qn (y + z))), .slice A134 (zl (qn (y + z))) c135, .bool (neg (ql (y + z))), .slice B136 (zl (ql (y + z))) d137]), (77, .agg #[.bool (neg (qn (x * (y + z)))), .slice A141 (zl (qn (x * (y + z)))) c142, .bool (neg (ql (x * (y + z)))), .slice B143 (zl (ql (x * (y + z)))) d144]), (80, .agg #[.bool (neg (qn (x * y))), .slice A149 (zl (qn (x * y))) c150, .bool (neg (ql (x * y))), .slice B151 (zl (ql (x * y))) d152]), (83, .agg #[.bool (neg (qn (x * z))), .slice A156 (zl (qn (x * z))) c157, .bool (neg (ql (x * z))), .slice B158 (zl (ql (x * z))) d159]), (84, .agg #[.bool (neg (qn ((x * y) + (x * z)))), .slice A164 (zl (qn ((x * y) + (x * z)))) c165, .bool (neg (ql ((x * y) + (x * z)))), .slice B166 (zl (ql ((x * y) + (x * z)))) d167]), (85, .bool true), (86, .bool false), (87, .bool false), (88, .bool false), (89, .agg #[.bool (neg (qn x)), .slice A8 (zl (qn x)) c9, .bool (neg (ql x)), .slice B10 (zl (ql x)) d11]), (90, .agg #[.bool (neg (qn y)), .slice A14 (zl (qn y)) c15, .bool (neg (ql y)), .slice B16 (zl (ql y)) d17]), (92, .agg #[.bool (neg (qn y)), .slice A14 (zl (qn y)) c15, .bool (neg (ql y)), .slice B16 (zl (ql y)) d17]), (94, .agg #[.bool (neg (qn x)), .slice A8 (zl (qn x)) c9, .bool (neg (ql x)), .slice B10 (zl (ql x)) d11]), (91, .agg #[.bool (neg (qn (x + y))), .slice A173 (zl (qn (x + y))) c174, .bool (neg (ql (x + y))), .slice B175 (zl (ql (x + y))) d176]), (93, .agg #[.bool (neg (qn ((x + y) - y))), .slice A180 (zl (qn ((x + y) - y))) c181, .bool (neg (ql ((x + y) - y))), .slice B182 (zl (ql ((x + y) - y))) d183]), (95, .bool true), (96, .bool false), (97, .bool false), (98, .bool false), (99, .agg #[.bool (neg (qn x)), .slice A8 (zl (qn x)) c9, .bool (neg (ql x)), .slice B10 (zl (ql x)) d11]), (100, .agg #[.bool (neg (qn y)), .slice A14 (zl (qn y)) c15, .bool (neg (ql y)), .slice B16 (zl (ql y)) d17]), (102, .agg #[.bool (neg (qn x)), .slice A8 (zl (qn x)) c9, .bool (neg (ql x)), .slice B10 (zl (ql x)) d11]), (103, .agg #[.bool (neg (qn y)), .slice A14 (zl (qn y)) c15, .bool (neg (ql y)), .slice B16 (zl (ql y)) d17]), (101, .agg #[.bool (neg (qn (x - y))), .slice A189 (zl (qn (x - y))) c190, .bool (neg (ql (x - y))), .slice B191 (zl (ql (x - y))) d192]), (104, .agg #[.bool (neg (qn (-y))), .slice A197 (zl (qn (-y))) c198, .bool (neg (ql (-y))), .slice B199 (zl (ql (-y))) d200]), (105, .agg #[.bool (neg (qn (x + (-y)))), .slice A205 (zl (qn (x + (-y)))) c206, .bool (neg (ql (x + (-y)))), .slice B207 (zl (ql (x + (-y)))) d208]), (106, .bool true), (107, .bool false), (108, .bool false), (11, .pointer (some ⟨g229, 0, none⟩)), (12, .int .i64 0)] ∧ St w0 w [bk g229 #[.bool (neg (qn ((x * y) / y))), .slice A222 (zl (qn ((x * y) / y))) c223, .bool (neg (ql ((x * y) / y))), .slice B224 (zl (ql ((x * y) / y))) d225] 91, bk g31 #[.bool (neg (qn z)), .slice A20 (zl (qn z)) c21, .bool (neg (ql z)), .slice B22 (zl (ql z)) d23] 91, bk g29 #[.bool (neg (qn y)), .slice A14 (zl (qn y)) c15, .bool (neg (ql y)), .slice B16 (zl (ql y)) d17] 91, bk g27 #[.bool (neg (qn x)), .slice A8 (zl (qn x)) c9, .bool (neg (ql x)), .slice B10 (zl (ql x)) d11] 91, bk g5 #[.string ⟨s3.toArray⟩, .string ⟨t3.toArray⟩] 89, bk g3 #[.string ⟨s2.toArray⟩, .string ⟨t2.toArray⟩] 89, bk g1 #[.string ⟨s1.toArray⟩, .string ⟨t1.toArray⟩] 89] [pfZ B224 d225 (ql ((x * y) / y)), pfZ A222 c223 (qn ((x * y) / y)), pfZ B217 d218 (ql (x * y)), pfZ A215 c216 (qn (x * y)), pfZ B207 d208 (ql (x + (-y))), pfZ A205 c206 (qn (x + (-y))), pfZ B199 d200 (ql (-y)), pfZ A197 c198 (qn (-y)), pfZ B191 d192 (ql (x - y)), pfZ A189 c190 (qn (x - y)), pfZ B182 d183 (ql ((x + y) - y)), pfZ A180 c181 (qn ((x + y) - y)), pfZ B175 d176 (ql (x + y)), pfZ A173 c174 (qn (x + y)), pfZ B166 d167 (ql ((x * y) + (x * z))), pfZ A164 c165 (qn ((x * y) + (x * z))), pfZ B158 d159 (ql (x * z)), pfZ A156 c157 (qn (x * z)), pfZ B151 d152 (ql (x * y)), pfZ A149 c150 (qn (x * y)), pfZ B143 d144 (ql (x * (y + z))), pfZ A141 c142 (qn (x * (y + z))), pfZ B136 d137 (ql (y + z)), pfZ A134 c135 (qn (y + z)), pfZ B127 d128 (ql (x * (y * z))), pfZ A125 c126 (qn (x * (y * z))), pfZ B119 d120 (ql (y * z)), pfZ A117 c118 (qn (y * z)), pfZ B111 d112 (ql ((x * y) * z)), pfZ A109 c110 (qn ((x * y) * z)), pfZ B104 d105 (ql (x * y)), pfZ A102 c103 (qn (x * y)), pfZ B95 d96 (ql (x + (y + z))), pfZ A93 c94 (qn (x + (y + z))), pfZ B87 d88 (ql (y + z)), pfZ A85 c86 (qn (y + z)), pfZ B79 d80 (ql ((x + y) + z)), pfZ A77 c78 (qn ((x + y) + z)), pfZ B72 d73 (ql (x + y)), pfZ A70 c71 (qn (x + y)), pfZ B63 d64 (ql (y * x)), pfZ A61 c62 (qn (y * x)), pfZ B56 d57 (ql (x * y)), pfZ A54 c55 (qn (x * y)), pfZ B47 d48 (ql (y + x)), pfZ A45 c46 (qn (y + x)), pfZ B39 d40 (ql (x + y)), pfZ A37 c38 (qn (x + y)), pfZ B22 d23 (ql z), pfZ A20 c21 (qn z), pfZ B16 d17 (ql y), pfZ A14 c15 (qn y), pfZ B10 d11 (ql x), pfZ A8 c9 (qn x)]) ?_ ?_
  · refine region_any (n := 11) (Sk [bk g31 #[.bool (neg (qn z)), .slice A20 (zl (qn z)) c21, .bool (neg (ql z)), .slice B22 (zl (ql z)) d23] 91, bk g29 #[.bool (neg (qn y)), .slice A14 (zl (qn y)) c15, .bool (neg (ql y)), .slice B16 (zl (ql y)) d17] 91, bk g27 #[.bool (neg (qn x)), .slice A8 (zl (qn x)) c9, .bool (neg (ql x)), .slice B10 (zl (ql x)) d11] 91, bk g5 #[.string ⟨s3.toArray⟩, .string ⟨t3.toArray⟩] 89, bk g3 #[.string ⟨s2.toArray⟩, .string ⟨t2.toArray⟩] 89, bk g1 #[.string ⟨s1.toArray⟩, .string ⟨t1.toArray⟩] 89] [pfZ B207 d208 (ql (x + (-y))), pfZ A205 c206 (qn (x + (-y))), pfZ B199 d200 (ql (-y)), pfZ A197 c198 (qn (-y)), pfZ B191 d192 (ql (x - y)), pfZ A189 c190 (qn (x - y)), pfZ B182 d183 (ql ((x + y) - y)), pfZ A180 c181 (qn ((x + y) - y)), pfZ B175 d176 (ql (x + y)), pfZ A173 c174 (qn (x + y)), pfZ B166 d167 (ql ((x * y) + (x * z))), pfZ A164 c165 (qn ((x * y) + (x * z))), pfZ B158 d159 (ql (x * z)), pfZ A156 c157 (qn (x * z)), pfZ B151 d152 (ql (x * y)), pfZ A149 c150 (qn (x * y)), pfZ B143 d144 (ql (x * (y + z))), pfZ A141 c142 (qn (x * (y + z))), pfZ B136 d137 (ql (y + z)), pfZ A134 c135 (qn (y + z)), pfZ B127 d128 (ql (x * (y * z))), pfZ A125 c126 (qn (x * (y * z))), pfZ B119 d120 (ql (y * z)), pfZ A117 c118 (qn (y * z)), pfZ B111 d112 (ql ((x * y) * z)), pfZ A109 c110 (qn ((x * y) * z)), pfZ B104 d105 (ql (x * y)), pfZ A102 c103 (qn (x * y)), pfZ B95 d96 (ql (x + (y + z))), pfZ A93 c94 (qn (x + (y + z))), pfZ B87 d88 (ql (y + z)), pfZ A85 c86 (qn (y + z)), pfZ B79 d80 (ql ((x + y) + z)), pfZ A77 c78 (qn ((x + y) + z)), pfZ B72 d73 (ql (x + y)), pfZ A70 c71 (qn (x + y)), pfZ B63 d64 (ql (y * x)), pfZ A61 c62 (qn (y * x)), pfZ B56 d57 (ql (x * y)), pfZ A54 c55 (qn (x * y)), pfZ B47 d48 (ql (y + x)), pfZ A45 c46 (qn (y + x)), pfZ B39 d40 (ql (x + y)), pfZ A37 c38 (qn (x + y)), pfZ B22 d23 (ql z), pfZ A20 c21 (qn z), pfZ B16 d17 (ql y), pfZ A14 c15 (qn y), pfZ B10 d11 (ql x), pfZ A8 c9 (qn x)] [9] []) mixed rfl henv hst ?_
    clear henv hst; intro w214 henv hst
    refine tL (i := 0) 2 2 [2, 4, 5, 6, 7, 9, 10] rfl (by kernel_rfl) (fun _ _ _ h => h) henv rfl ty_anvil_ratio_Rat rfl hst rfl rfl rfl ?_
    clear henv a; intro a henv
    refine tL (i := 1) 1 1 [2, 4, 5, 6, 7, 9, 10] rfl (by kernel_rfl) (fun _ _ _ h => h) henv rfl ty_anvil_ratio_Rat rfl hst rfl rfl rfl ?_
    clear henv a; intro a henv
    refine tL (i := 3) 1 1 [4, 5, 6, 7, 9, 10] rfl (by kernel_rfl) (fun _ _ _ h => h) henv rfl ty_anvil_ratio_Rat rfl hst rfl rfl rfl ?_
    clear henv a; intro a henv
    refine sAny_all (rs := [2, 8]) (by kernel_rfl) (by simp) ?_
    simp only [List.forall_mem_cons, List.not_mem_nil, false_implies, implies_true, and_true]
    refine ⟨?_, ?_⟩
    · refine ⟨_, rfl, rfl, op_call henv rfl Tryd.call59 rfl (mul_q (x := x) (y := y) (show ZIn _ A8 c9 (qn x) from hst.pat (k := 49) rfl) (show ZIn _ B10 d11 (ql x) from hst.pat (k := 48) rfl) (show ZIn _ A14 c15 (qn y) from hst.pat (k := 47) rfl) (show ZIn _ B16 d17 (ql y) from hst.pat (k := 46) rfl) sx sy (by omega)) ?_⟩
      rintro e w221 ⟨_, rfl, ⟨A215, c216, B217, d218, rfl, hz219, hz220⟩, hb⟩
      refine ⟨_, rfl, ?_⟩
      clear henv a; intro a henv
      replace hst := ((hst.call hb).addZ hz219 ⟨nou_bk rfl, nou_bk rfl, nou_bk rfl, nou_bk rfl, nou_bk rfl, nou_bk rfl, trivial⟩).addZ hz220 ⟨nou_bk rfl, nou_bk rfl, nou_bk rfl, nou_bk rfl, nou_bk rfl, nou_bk rfl, trivial⟩
      clear hz219 hz220
      clear hb
      refine ⟨.inr ⟨hst.kn.pick (rg 0 6) (rg 2 50), .inr (hst.kn.pick [] [])⟩, ?_⟩
      refine sAny_all (rs := [4, 8]) (by kernel_rfl) (by simp) ?_
      simp only [List.forall_mem_cons, List.not_mem_nil, false_implies, implies_true, and_true]
      refine ⟨?_, ?_⟩
      · refine ⟨_, rfl, rfl, op_call henv rfl Tryd.call62 rfl (over_q (x := x * y) (y := y) (show ZIn _ A215 c216 (qn (x * y)) from hst.pat (k := 1) rfl) (show ZIn _ B217 d218 (ql (x * y)) from hst.pat (k := 0) rfl) (show ZIn _ A14 c15 (qn y) from hst.pat (k := 49) rfl) (show ZIn _ B16 d17 (ql y) from hst.pat (k := 48) rfl) (sx.mul sy) sy (by omega) hy0) ?_⟩
        rintro e w228 ⟨_, rfl, ⟨A222, c223, B224, d225, rfl, hz226, hz227⟩, hb⟩
        refine ⟨_, rfl, ?_⟩
        clear henv a; intro a henv
        replace hst := ((hst.call hb).addZ hz226 ⟨nou_bk rfl, nou_bk rfl, nou_bk rfl, nou_bk rfl, nou_bk rfl, nou_bk rfl, trivial⟩).addZ hz227 ⟨nou_bk rfl, nou_bk rfl, nou_bk rfl, nou_bk rfl, nou_bk rfl, nou_bk rfl, trivial⟩
        clear hz226 hz227
        clear hb
        refine ⟨.inr ⟨hst.kn.pick (rg 0 6) (rg 4 50), .inr (hst.kn.pick [] [])⟩, ?_⟩
        refine tM (i := 5) [6, 7, 9, 10] rfl (by kernel_rfl) (fun _ _ _ h => h) henv rfl rfl ?_
        clear henv a; intro a henv
        refine tA (i := 6) [9, 10] (v := .agg #[.bool (neg (qn ((x * y) / y))), .slice A222 (zl (qn ((x * y) / y))) c223, .bool (neg (ql ((x * y) / y))), .slice B224 (zl (ql ((x * y) / y))) d225]) rfl (by kernel_rfl) (fun _ _ _ h => h) henv rfl (fun _ => rn_extract henv rfl rfl) ?_
        clear henv a; intro a henv
        refine tA (i := 7) [10] (v := .int .i64 0) rfl (by kernel_rfl) (fun _ _ _ h => h) henv rfl (fun _ => rn_extract henv rfl rfl) ?_
        clear henv a; intro a henv
        refine sAny_one (i := 8) (by kernel_rfl) rfl rfl (op_alloc (c := #[.bool (neg (qn 0)), .slice none (zl (qn 0)) 0, .bool (neg (ql 0)), .slice none (zl (ql 0)) 0]) henv hst rfl zero_anvil_ratio_Rat qcells ?_)
        clear henv hst a; intro a w230 g229 henv hst
        refine ⟨.inr ⟨hst.kn.pick (rg 1 6) (rg 4 50), .inr (hst.kn.pick [] [])⟩, ?_⟩
        refine sAny_one (i := 9) (by kernel_rfl) rfl rfl (op_store (k := 0) (c' := #[.bool (neg (qn ((x * y) / y))), .slice A222 (zl (qn ((x * y) / y))) c223, .bool (neg (ql ((x * y) / y))), .slice B224 (zl (ql ((x * y) / y))) d225]) henv hst (ty_anvil_ratio_Rat.size) rfl rfl rfl rfl (by simp) rfl rfl ?_)
        clear henv hst a; intro a w231 henv hst
        refine ⟨.inr ⟨hst.kn.pick (rg 1 6) (rg 4 50), .inl rfl⟩, ?_⟩
        refine tA (i := 10) [] (v := .int .i64 0) rfl (by kernel_rfl) (fun _ _ _ h => h) henv rfl (fun _ => rn_assign henv rfl) ?_
        clear henv a; intro a henv
        refine sAny_done (by kernel_rfl) ?_ _
        exact th_n ⟨A215, c216, B217, d218, A222, c223, B224, d225, g229, henv.sub ⟨rfl, rfl, rfl, rfl, rfl, rfl, rfl, rfl, rfl, rfl, rfl, rfl, rfl, rfl, rfl, rfl, rfl, rfl, rfl, rfl, rfl, rfl, rfl, rfl, rfl, rfl, rfl, rfl, rfl, rfl, rfl, rfl, rfl, rfl, rfl, rfl, rfl, rfl, rfl, rfl, rfl, rfl, rfl, rfl, rfl, rfl, rfl, rfl, rfl, rfl, rfl, rfl, rfl, rfl, rfl, rfl, rfl, rfl, rfl, rfl, rfl, rfl, rfl, rfl, rfl, rfl, rfl, rfl, rfl, rfl, rfl, rfl, rfl, rfl, rfl, rfl, rfl, rfl, rfl, rfl, rfl, rfl, rfl, rfl, rfl, rfl, rfl, rfl, rfl, rfl, rfl, rfl, rfl, rfl, rfl, rfl, rfl, rfl, rfl, rfl, rfl, rfl, rfl, rfl, rfl, rfl, rfl, rfl, rfl, trivial⟩, hst.pick [0, 1, 2, 3, 4, 5, 6] [0, 1, 2, 3, 4, 5, 6, 7, 8, 9, 10, 11, 12, 13, 14, 15, 16, 17, 18, 19, 20, 21, 22, 23, 24, 25, 26, 27, 28, 29, 30, 31, 32, 33, 34, 35, 36, 37, 38, 39, 40, 41, 42, 43, 44, 45, 46, 47, 48, 49, 50, 51, 52, 53] (by decide)⟩
      · refine ⟨_, rfl, rfl, op_alloc (c := #[.bool (neg (qn 0)), .slice none (zl (qn 0)) 0, .bool (neg (ql 0)), .slice none (zl (ql 0)) 0]) henv hst rfl zero_anvil_ratio_Rat qcells ?_⟩
        clear henv hst a; intro a w233 g232 henv hst
        refine ⟨.inr ⟨hst.kn.pick (rg 1 6) (rg 2 50), .inr (hst.kn.pick [] [])⟩, ?_⟩
        refine sAny_one (i := 4) (by kernel_rfl) rfl rfl (op_call henv rfl Tryd.call62 rfl (over_q (x := x * y) (y := y) (show ZIn _ A215 c216 (qn (x * y)) from hst.pat (k := 1) rfl) (show ZIn _ B217 d218 (ql (x * y)) from hst.pat (k := 0) rfl) (show ZIn _ A14 c15 (qn y) from hst.pat (k := 49) rfl) (show ZIn _ B16 d17 (ql y) from hst.pat (k := 48) rfl) (sx.mul sy) sy (by omega) hy0) ?_)
        rintro e w240 ⟨_, rfl, ⟨A234, c235, B236, d237, rfl, hz238, hz239⟩, hb⟩
        refine ⟨_, rfl, ?_⟩
        clear henv a; intro a henv
        replace hst := ((hst.call hb).addZ hz238 ⟨nou_bk rfl, nou_bk rfl, nou_bk rfl, nou_bk rfl, nou_bk rfl, nou_bk rfl, nou_bk rfl, trivial⟩).addZ hz239 ⟨nou_bk rfl, nou_bk rfl, nou_bk rfl, nou_bk rfl, nou_bk rfl, nou_bk rfl, nou_bk rfl, trivial⟩
        clear hz238 hz239
        clear hb
        refine ⟨.inr ⟨hst.kn.pick (rg 1 6) (rg 4 50), .inr (hst.kn.pick [] [])⟩, ?_⟩
        refine tM (i := 5) [6, 7, 9, 10] rfl (by kernel_rfl) (fun _ _ _ h => h) henv rfl rfl ?_
        clear henv a; intro a henv
        refine tA (i := 6) [9, 10] (v := .agg #[.bool (neg (qn ((x * y) / y))), .slice A234 (zl (qn ((x * y) / y))) c235, .bool (neg (ql ((x * y) / y))), .slice B236 (zl (ql ((x * y) / y))) d237]) rfl (by kernel_rfl) (fun _ _ _ h => h) henv rfl (fun _ => rn_extract henv rfl rfl) ?_
        clear henv a; intro a henv
        refine tA (i := 7) [10] (v := .int .i64 0) rfl (by kernel_rfl) (fun _ _ _ h => h) henv rfl (fun _ => rn_extract henv rfl rfl) ?_
        clear henv a; intro a henv
        refine sAny_one (i := 9) (by kernel_rfl) rfl rfl (op_store (k := 0) (c' := #[.bool (neg (qn ((x * y) / y))), .slice A234 (zl (qn ((x * y) / y))) c235, .bool (neg (ql ((x * y) / y))), .slice B236 (zl (ql ((x * y) / y))) d237]) henv hst (ty_anvil_ratio_Rat.size) rfl rfl rfl rfl (by simp) rfl rfl ?_)
        clear henv hst a; intro a w241 henv hst
        refine ⟨.inr ⟨hst.kn.pick (rg 1 6) (rg 4 50), .inl rfl⟩, ?_⟩
        refine tA (i := 10) [] (v := .int .i64 0) rfl (by kernel_rfl) (fun _ _ _ h => h) henv rfl (fun _ => rn_assign henv rfl) ?_
        clear henv a; intro a henv
        refine sAny_done (by kernel_rfl) ?_ _
        exact th_n ⟨A215, c216, B217, d218, A234, c235, B236, d237, g232, henv.sub ⟨rfl, rfl, rfl, rfl, rfl, rfl, rfl, rfl, rfl, rfl, rfl, rfl, rfl, rfl, rfl, rfl, rfl, rfl, rfl, rfl, rfl, rfl, rfl, rfl, rfl, rfl, rfl, rfl, rfl, rfl, rfl, rfl, rfl, rfl, rfl, rfl, rfl, rfl, rfl, rfl, rfl, rfl, rfl, rfl, rfl, rfl, rfl, rfl, rfl, rfl, rfl, rfl, rfl, rfl, rfl, rfl, rfl, rfl, rfl, rfl, rfl, rfl, rfl, rfl, rfl, rfl, rfl, rfl, rfl, rfl, rfl, rfl, rfl, rfl, rfl, rfl, rfl, rfl, rfl, rfl, rfl, rfl, rfl, rfl, rfl, rfl, rfl, rfl, rfl, rfl, rfl, rfl, rfl, rfl, rfl, rfl, rfl, rfl, rfl, rfl, rfl, rfl, rfl, rfl, rfl, rfl, rfl, rfl, rfl, trivial⟩, hst.pick [0, 1, 2, 3, 4, 5, 6] [0, 1, 2, 3, 4, 5, 6, 7, 8, 9, 10, 11, 12, 13, 14, 15, 16, 17, 18, 19, 20, 21, 22, 23, 24, 25, 26, 27, 28, 29, 30, 31, 32, 33, 34, 35, 36, 37, 38, 39, 40, 41, 42, 43, 44, 45, 46, 47, 48, 49, 50, 51, 52, 53] (by decide)⟩
    · refine ⟨_, rfl, rfl, op_alloc (c := #[.bool (neg (qn 0)), .slice none (zl (qn 0)) 0, .bool (neg (ql 0)), .slice none (zl (ql 0)) 0]) henv hst rfl zero_anvil_ratio_Rat qcells ?_⟩
      clear henv hst a; intro a w243 g242 henv hst
      refine ⟨.inr ⟨hst.kn.pick (rg 1 6) (rg 0 50), .inr (hst.kn.pick [] [])⟩, ?_⟩
      refine sAny_one (i := 2) (by kernel_rfl) rfl rfl (op_call henv rfl Tryd.call59 rfl (mul_q (x := x) (y := y) (show ZIn _ A8 c9 (qn x) from hst.pat (k := 49) rfl) (show ZIn _ B10 d11 (ql x) from hst.pat (k := 48) rfl) (show ZIn _ A14 c15 (qn y) from hst.pat (k := 47) rfl) (show ZIn _ B16 d17 (ql y) from hst.pat (k := 46) rfl) sx sy (by omega)) ?_)
      rintro e w250 ⟨_, rfl, ⟨A244, c245, B246, d247, rfl, hz248, hz249⟩, hb⟩
      refine ⟨_, rfl, ?_⟩
      clear henv a; intro a henv
      replace hst := ((hst.call hb).addZ hz248 ⟨nou_bk rfl, nou_bk rfl, nou_bk rfl, nou_bk rfl, nou_bk rfl, nou_bk rfl, nou_bk rfl, trivial⟩).addZ hz249 ⟨nou_bk rfl, nou_bk rfl, nou_bk rfl, nou_bk rfl, nou_bk rfl, nou_bk rfl, nou_bk rfl, trivial⟩
      clear hz248 hz249
      clear hb
      refine ⟨.inr ⟨hst.kn.pick (rg 1 6) (rg 2 50), .inr (hst.kn.pick [] [])⟩, ?_⟩
      refine sAny_one (i := 4) (by kernel_rfl) rfl rfl (op_call henv rfl Tryd.call62 rfl (over_q (x := x * y) (y := y) (show ZIn _ A244 c245 (qn (x * y)) from hst.pat (k := 1) rfl) (show ZIn _ B246 d247 (ql (x * y)) from hst.pat (k := 0) rfl) (show ZIn _ A14 c15 (qn y) from hst.pat (k := 49) rfl) (show ZIn _ B16 d17 (ql y) from hst.pat (k := 48) rfl) (sx.mul sy) sy (by omega) hy0) ?_)
      rintro e w257 ⟨_, rfl, ⟨A251, c252, B253, d254, rfl, hz255, hz256⟩, hb⟩
      refine ⟨_, rfl, ?_⟩
      clear henv a; intro a henv
      replace hst := ((hst.call hb).addZ hz255 ⟨nou_bk rfl, nou_bk rfl, nou_bk rfl, nou_bk rfl, nou_bk rfl, nou_bk rfl, nou_bk rfl, trivial⟩).addZ hz256 ⟨nou_bk rfl, nou_bk rfl, nou_bk rfl, nou_bk rfl, nou_bk rfl, nou_bk rfl, nou_bk rfl, trivial⟩
      clear hz255 hz256
      clear hb
      refine ⟨.inr ⟨hst.kn.pick (rg 1 6) (rg 4 50), .inr (hst.kn.pick [] [])⟩, ?_⟩
      refine tM (i := 5) [6, 7, 9, 10] rfl (by kernel_rfl) (fun _ _ _ h => h) henv rfl rfl ?_
      clear henv a; intro a henv
      refine tA (i := 6) [9, 10] (v := .agg #[.bool (neg (qn ((x * y) / y))), .slice A251 (zl (qn ((x * y) / y))) c252, .bool (neg (ql ((x * y) / y))), .slice B253 (zl (ql ((x * y) / y))) d254]) rfl (by kernel_rfl) (fun _ _ _ h => h) henv rfl (fun _ => rn_extract henv rfl rfl) ?_
      clear henv a; intro a henv
      refine tA (i := 7) [10] (v := .int .i64 0) rfl (by kernel_rfl) (fun _ _ _ h => h) henv rfl (fun _ => rn_extract henv rfl rfl) ?_
      clear henv a; intro a henv
      refine sAny_one (i := 9) (by kernel_rfl) rfl rfl (op_store (k := 0) (c' := #[.bool (neg (qn ((x * y) / y))), .slice A251 (zl (qn ((x * y) / y))) c252, .bool (neg (ql ((x * y) / y))), .slice B253 (zl (ql ((x * y) / y))) d254]) henv hst (ty_anvil_ratio_Rat.size) rfl rfl rfl rfl (by simp) rfl rfl ?_)
      clear henv hst a; intro a w258 henv hst
      refine ⟨.inr ⟨hst.kn.pick (rg 1 6) (rg 4 50), .inl rfl⟩, ?_⟩
      refine tA (i := 10) [] (v := .int .i64 0) rfl (by kernel_rfl) (fun _ _ _ h => h) henv rfl (fun _ => rn_assign henv rfl) ?_
      clear henv a; intro a henv
      refine sAny_done (by kernel_rfl) ?_ _
      exact th_n ⟨A244, c245, B246, d247, A251, c252, B253, d254, g242, henv.sub ⟨rfl, rfl, rfl, rfl, rfl, rfl, rfl, rfl, rfl, rfl, rfl, rfl, rfl, rfl, rfl, rfl, rfl, rfl, rfl, rfl, rfl, rfl, rfl, rfl, rfl, rfl, rfl, rfl, rfl, rfl, rfl, rfl, rfl, rfl, rfl, rfl, rfl, rfl, rfl, rfl, rfl, rfl, rfl, rfl, rfl, rfl, rfl, rfl, rfl, rfl, rfl, rfl, rfl, rfl, rfl, rfl, rfl, rfl, rfl, rfl, rfl, rfl, rfl, rfl, rfl, rfl, rfl, rfl, rfl, rfl, rfl, rfl, rfl, rfl, rfl, rfl, rfl, rfl, rfl, rfl, rfl, rfl, rfl, rfl, rfl, rfl, rfl, rfl, rfl, rfl, rfl, rfl, rfl, rfl, rfl, rfl, rfl, rfl, rfl, rfl, rfl, rfl, rfl, rfl, rfl, rfl, rfl, rfl, rfl, trivial⟩, hst.pick [0, 1, 2, 3, 4, 5, 6] [0, 1, 2, 3, 4, 5, 6, 7, 8, 9, 10, 11, 12, 13, 14, 15, 16, 17, 18, 19, 20, 21, 22, 23, 24, 25, 26, 27, 28, 29, 30, 31, 32, 33, 34, 35, 36, 37, 38, 39, 40, 41, 42, 43, 44, 45, 46, 47, 48, 49, 50, 51, 52, 53] (by decide)⟩
  clear henv hst a
  rintro a w259 ⟨A215, c216, B217, d218, A222, c223, B224, d225, g229, henv, hst⟩
  refine wp_seq ?_
  refine wp_seq ?_
  refine region_seq ?_
  refine sv (v := .agg #[.bool (neg (qn y)), .slice A14 (zl (qn y)) c15, .bool (neg (ql y)), .slice B16 (zl (ql y)) d17]) henv rfl (rn_load0 henv ty_anvil_ratio_Rat rfl (hst.oat (k := 2) rfl) rfl) ?_
  clear henv a; intro a henv
  refine seq_step rfl (op_call henv rfl Tryd.call63 rfl (sign_q (x := y) (show ZIn _ A14 c15 (qn y) from hst.pat (k := 51) rfl) (show ZIn _ B16 d17 (ql y) from hst.pat (k := 50) rfl)) ?_)
  rintro e w260 ⟨rfl, hb⟩
  refine ⟨_, rfl, ?_⟩
  clear henv a; intro a henv
  replace hst := hst.call hb
  clear hb
  refine sv (v := .bool ((qn y).sign == (0 : Int))) henv rfl (rn_bin henv rfl rfl rfl) ?_
  clear henv a; intro a henv
  rw [show ((qn y).sign == (0 : Int)) = false from (beq_eq_false_iff_ne.2 fun e => hy0 (qn_eq0.1 (Int.sign_eq_zero_iff_zero.1 e)))] at henv
  refine wpList_nil ?_
  refine th_n ?_
  refine if_f henv rfl (rfl) ?_
  refine wp_skip ?_
  refine th_n ?_
  refine wp_seq ?_
  refine region_seq ?_
  revert a
  refine mA rfl rfl ?_
  refine sA (v := .bool true) rfl (fun _ henv => rn_bin henv rfl rfl rfl) ?_
  refine mA rfl rfl ?_
  refine gA (v := .agg #[.bool (neg (qn ((x * y) / y))), .slice A222 (zl (qn ((x * y) / y))) c223, .bool (neg (ql ((x * y) / y))), .slice B224 (zl (ql ((x * y) / y))) d225]) rfl rfl rfl rfl (fun _ henv => rn_load0 henv ty_anvil_ratio_Rat rfl (hst.oat (k := 0) rfl) rfl) ?_
  refine gA (v := .agg #[.bool (neg (qn x)), .slice A8 (zl (qn x)) c9, .bool (neg (ql x)), .slice B10 (zl (ql x)) d11]) rfl rfl rfl rfl (fun _ henv => rn_load0 henv ty_anvil_ratio_Rat rfl (hst.oat (k := 3) rfl) rfl) ?_
  intro a henv
  refine seq_g rfl henv rfl rfl (op_call henv rfl Tryd.call57 rfl (same_q (x := (x * y) / y) (y := x) (show ZIn _ A222 c223 (qn ((x * y) / y)) from hst.pat (k := 1) rfl) (show ZIn _ B224 d225 (ql ((x * y) / y)) from hst.pat (k := 0) rfl) (show ZIn _ A8 c9 (qn x) from hst.pat (k := 53) rfl) (show ZIn _ B10 d11 (ql x) from hst.pat (k := 52) rfl) ((sx.mul sy).over sy hy0) sx (by omega)) ?_)
  rintro e w261 ⟨rfl, hb⟩
  refine ⟨_, rfl, ?_⟩
  clear henv a; intro a henv
  replace hst := hst.call hb
  clear hb
  rw [show (decide ((x * y) / y = x)) = true from decide_eq_true (Rat.mul_div_cancel hy0)] at henv
  revert a
  refine sA (v := .bool true) rfl (fun _ henv => rn_pick henv rfl rfl) ?_
  refine aA rfl rfl ?_
  intro a henv
  refine wpList_nil ?_
  refine th_n ?_
  refine wp_ret ?_
  refine leave henv (res1 Tryd.results9 (RV.tmp henv rfl)) ?_
  exact ⟨rfl, hst.below⟩
theorem qfield {s1 t1 s2 t2 s3 t3 : List UInt8} {w0 : World} (a1 : s1.length ≤ maxLen) (b1 : t1.length ≤ maxLen) (a2 : s2.length ≤ maxLen) (b2 : t2.length ≤ maxLen) (a3 : s3.length ≤ maxLen) (b3 : t3.length ≤ maxLen) :
    Calls Tryd.prog 9 #[.agg #[.string ⟨s1.toArray⟩, .string ⟨t1.toArray⟩], .agg #[.string ⟨s2.toArray⟩, .string ⟨t2.toArray⟩], .agg #[.string ⟨s3.toArray⟩, .string ⟨t3.toArray⟩]] w0 fun e w' => e = .returned (.bool true) ∧ Below w0.heap.size w0 w' := by
  obtain ⟨x, y, z, o, f, hq⟩ := three_any a1 b1 a2 b2 a3 b3
  cases o with
  | false => exact qfield_no f
  | true =>
    by_cases hy0 : y = 0
    · exact qfield_zero f (hq rfl).1 (hq rfl).2.1 (hq rfl).2.2 hy0
    · exact qfield_ok f (hq rfl).1 (hq rfl).2.1 (hq rfl).2.2 hy0
end Go.Proofs.YtegglooojlheoaaDoor.W
