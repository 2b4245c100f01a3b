/- Package anvilref03: what its functions leave, over core's Rat. Printed by pv/gen_ratio.py. No condition. -/
import Derived.Test.YtegglooojlheoaaDoorM42
import Derived.Test.YtegglooojlheoaaDoorM11
import Derived.Test.YtegglooojlheoaaDoorM49
import Derived.Test.YtegglooojlheoaaDoorM36
import Derived.Test.YtegglooojlheoaaDoorM34
import Derived.Test.YtegglooojlheoaaDoorM29

namespace Go.Proofs.YtegglooojlheoaaDoor.W
open Go.RowKit Anv Go.Lib
section
variable {N : Nat} {dq : List Deferred} {a : Act} {l : List (Nat × Value)} {w : World} {d : Nat} {ty : TypeId} {pos : String} {af : Array Edge} {gd : Option (Nat × Bool)}
end
end Go.Proofs.YtegglooojlheoaaDoor.W

/- The laws of anvillaw03: their helpers. Printed by pv/gen_qlaw.py. No condition. -/
namespace Go.Proofs.YtegglooojlheoaaDoor.W
open Go.RowKit Anv Go.Lib
theorem qs_zero : Qs 1 0 := ⟨by decide, by decide⟩
theorem qs_w : Qs 1 (mkRat (-3) 2) := ⟨by decide, by decide⟩
theorem qs_3 : Qs 1 ((3 : Int) : Rat) := ⟨by decide, by decide⟩
theorem floor_sz {k : Nat} {r : Rat} (h : Qs k r) : zl r.floor ≤ k := by
  rw [← q_floor]
  exact Nat.le_trans (zl_ediv _ _) h.n
theorem over_qz {A0 B0 : Option Addr} {c0 d0 : Nat} {x : Rat} {A1 B1 : Option Addr} {c1 d1 : Nat} {y : Rat} {w0 : World} (h0 : ZIn w0 A0 c0 (qn x)) (k0 : ZIn w0 B0 d0 (ql x)) (h1 : ZIn w0 A1 c1 (qn y)) (k1 : ZIn w0 B1 d1 (ql y)) {a : Nat} (sx : Qs a x) (ha : a ≤ 40000) (hy : y = 0) :
    Calls Tryd.prog 62 #[.agg #[.bool (neg (qn x)), .slice A0 (zl (qn x)) c0, .bool (neg (ql x)), .slice B0 (zl (ql x)) d0], .agg #[.bool (neg (qn y)), .slice A1 (zl (qn y)) c1, .bool (neg (ql y)), .slice B1 (zl (ql y)) d1]] w0 fun e w' => e = .returned (.tuple #[.agg #[.bool (neg (qn 0)), .slice none (zl (qn 0)) 0, .bool (neg (ql 0)), .slice none (zl (ql 0)) 0], .int .i64 2]) ∧ Below w0.heap.size w0 w' := by
  subst hy
  exact over_q0 h0 k0 h1 k1 sx ha
def RdAs (s : List UInt8) (z p q b : Int) : Prop := ∀ w0 : World,
    (Calls Tryd.prog 113 #[.string ⟨s.toArray⟩] w0 fun e w' => ∃ v, e = .returned (.tuple #[v, .agg #[.int .i64 p, .int .i64 q]]) ∧ ZAt w' v z ∧ Below w0.heap.size w0 w') ∧
    (Calls Tryd.prog 115 #[.string ⟨s.toArray⟩] w0 fun e w' => ∃ v, e = .returned (.tuple #[v, .int .i64 b]) ∧ RAt w' v z ∧ Below w0.heap.size w0 w')
def Lg (e : FE) : Prop := 300 < e.1.length ∨ 300 < e.2.length
set_option maxRecDepth 100000 in
set_option maxHeartbeats 2000000 in
theorem qworks {w0 : World} :
    Calls Tryd.prog 55 #[] w0 fun e w' => e = .returned (.bool true) ∧ Below w0.heap.size w0 w' := by
  have h6 : zl 6 ≤ 1 := nl_le_of_lt (by decide)
  have h4 : zl (-4) ≤ 1 := nl_le_of_lt (by decide)
  refine enter Tryd.func55 rfl Tryd.ntmps55 rfl ?_
  intro a henv hst
  refine wp_seq ?_
  refine region_seq ?_
  refine sv (v := .bool false) henv rfl (rn_assign henv rfl) ?_
  clear henv a; intro a henv
  refine wpList_nil ?_
  refine th_n ?_
  refine wp_seq ?_
  refine region_seq ?_
  refine seq_step rfl (op_call henv rfl Tryd.call43 rfl (of_z (n := (6 : Int)) (by decide) (by decide)) ?_)
  rintro e w4 ⟨_, rfl, ⟨A1, c2, rfl, hz3⟩, hb⟩
  refine ⟨_, rfl, ?_⟩
  clear henv a; intro a henv
  replace hst := (hst.call hb).addZ hz3 trivial
  clear hz3
  clear hb
  refine seq_step rfl (op_call henv rfl Tryd.call43 rfl (of_z (n := (-4 : Int)) (by decide) (by decide)) ?_)
  rintro e w8 ⟨_, rfl, ⟨A5, c6, rfl, hz7⟩, hb⟩
  refine ⟨_, rfl, ?_⟩
  clear henv a; intro a henv
  replace hst := (hst.call hb).addZ hz7 trivial
  clear hz7
  clear hb
  refine seq_step rfl (op_call henv rfl Tryd.call90 rfl (make_qr (p := 6) (q := -4) (r := mkRat (-3) 2) (show ZIn _ A1 c2 6 from hst.pat (k := 1) rfl) (show ZIn _ A5 c6 (-4) from hst.pat (k := 0) rfl) (by omega) (by omega) (by decide) (by decide +kernel)) ?_)
  rintro e w15 ⟨_, rfl, ⟨A9, c10, B11, d12, rfl, hz13, hz14⟩, hb⟩
  refine ⟨_, rfl, ?_⟩
  clear henv a; intro a henv
  replace hst := ((hst.call hb).addZ hz13 trivial).addZ hz14 trivial
  clear hz13 hz14
  clear hb
  revert a
  refine mA rfl rfl ?_
  refine sA (v := .agg #[.bool (neg (qn (mkRat (-3) 2))), .slice A9 (zl (qn (mkRat (-3) 2))) c10, .bool (neg (ql (mkRat (-3) 2))), .slice B11 (zl (ql (mkRat (-3) 2))) d12]) rfl (fun _ henv => rn_extract henv rfl rfl) ?_
  refine sA (v := .int .i64 0) rfl (fun _ henv => rn_extract henv rfl rfl) ?_
  intro a henv
  refine seq_step rfl (op_alloc (c := #[.bool (neg (qn 0)), .slice none (zl (qn 0)) 0, .bool (neg (ql 0)), .slice none (zl (ql 0)) 0]) henv hst rfl zero_anvil_ratio_Rat qcells ?_)
  clear henv hst a; intro a w17 g16 henv hst
  refine seq_step rfl (op_store (k := 0) (c' := #[.bool (neg (qn (mkRat (-3) 2))), .slice A9 (zl (qn (mkRat (-3) 2))) c10, .bool (neg (ql (mkRat (-3) 2))), .slice B11 (zl (ql (mkRat (-3) 2))) d12]) henv hst (ty_anvil_ratio_Rat.size) rfl rfl rfl rfl (by simp) rfl rfl ?_)
  clear henv hst a; intro a w18 henv hst
  refine sv (v := .int .i64 0) henv rfl (rn_assign henv rfl) ?_
  clear henv a; intro a henv
  refine wpList_nil ?_
  refine th_n ?_
  refine wp_seq ?_
  refine cut (fun a w => ∃ A20 : Option Addr, ∃ c21 : Nat, ∃ A24 : Option Addr, ∃ c25 : Nat, ∃ B26 : Option Addr, ∃ d27 : Nat, ∃ A31 : Option Addr, ∃ c32 : Nat, ∃ B33 : Option Addr, ∃ d34 : Nat, ∃ g38 : Nat, Env 59 a [(0, .bool false), (7, .agg #[.bool (neg 6), .slice A1 (zl 6) c2]), (8, .agg #[.bool (neg (-4)), .slice A5 (zl (-4)) c6]), (9, .tuple #[.agg #[.bool (neg (qn (mkRat (-3) 2))), .slice A9 (zl (qn (mkRat (-3) 2))) c10, .bool (neg (ql (mkRat (-3) 2))), .slice B11 (zl (ql (mkRat (-3) 2))) d12], .int .i64 0]), (6, .tuple #[.agg #[.bool (neg (qn (mkRat (-3) 2))), .slice A9 (zl (qn (mkRat (-3) 2))) c10, .bool (neg (ql (mkRat (-3) 2))), .slice B11 (zl (ql (mkRat (-3) 2))) d12], .int .i64 0]), (10, .agg #[.bool (neg (qn (mkRat (-3) 2))), .slice A9 (zl (qn (mkRat (-3) 2))) c10, .bool (neg (ql (mkRat (-3) 2))), .slice B11 (zl (ql (mkRat (-3) 2))) d12]), (11, .int .i64 0), (1, .pointer (some ⟨g16, 0, none⟩)), (2, .int .i64 0), (3, .pointer (some ⟨g38, 0, none⟩)), (4, .int .i64 0)] ∧ St w0 w [bk g38 #[.bool (neg (qn ((mkRat (-3) 2) / ((3 : Int) : Rat)))), .slice A31 (zl (qn ((mkRat (-3) 2) / ((3 : Int) : Rat)))) c32, .bool (neg (ql ((mkRat (-3) 2) / ((3 : Int) : Rat)))), .slice B33 (zl (ql ((mkRat (-3) 2) / ((3 : Int) : Rat)))) d34] 91, bk g16 #[.bool (neg (qn (mkRat (-3) 2))), .slice A9 (zl (qn (mkRat (-3) 2))) c10, .bool (neg (ql (mkRat (-3) 2))), .slice B11 (zl (ql (mkRat (-3) 2))) d12] 91] [pfZ B33 d34 (ql ((mkRat (-3) 2) / ((3 : Int) : Rat))), pfZ A31 c32 (qn ((mkRat (-3) 2) / ((3 : Int) : Rat))), pfZ B26 d27 (ql ((3 : Int) : Rat)), pfZ A24 c25 (qn ((3 : Int) : Rat)), pfZ A20 c21 3, pfZ B11 d12 (ql (mkRat (-3) 2)), pfZ A9 c10 (qn (mkRat (-3) 2)), pfZ A5 c6 (-4), pfZ A1 c2 6]) ?_ ?_
  · refine region_any (n := 10) (Sk [bk g16 #[.bool (neg (qn (mkRat (-3) 2))), .slice A9 (zl (qn (mkRat (-3) 2))) c10, .bool (neg (ql (mkRat (-3) 2))), .slice B11 (zl (ql (mkRat (-3) 2))) d12] 91] [pfZ B11 d12 (ql (mkRat (-3) 2)), pfZ A9 c10 (qn (mkRat (-3) 2)), pfZ A5 c6 (-4), pfZ A1 c2 6] [8] []) mixed rfl henv hst ?_
    clear henv hst; intro w19 henv hst
    refine tL (i := 0) 0 0 [3, 4, 5, 6, 8, 9] rfl (by kernel_rfl) (fun _ _ _ h => h) henv rfl ty_anvil_ratio_Rat rfl hst rfl rfl rfl ?_
    clear henv a; intro a henv
    refine sAny_all (rs := [1, 7]) (by kernel_rfl) (by simp) ?_
    simp only [List.forall_mem_cons, List.not_mem_nil, false_implies, implies_true, and_true]
    refine ⟨?_, ?_⟩
    · refine ⟨_, rfl, rfl, op_call henv rfl Tryd.call43 rfl (of_z (n := (3 : Int)) (by decide) (by decide)) ?_⟩
      rintro e w23 ⟨_, rfl, ⟨A20, c21, rfl, hz22⟩, hb⟩
      refine ⟨_, rfl, ?_⟩
      clear henv a; intro a henv
      replace hst := (hst.call hb).addZ hz22 ⟨nou_bk rfl, trivial⟩
      clear hz22
      clear hb
      refine ⟨.inr ⟨hst.kn.pick [0] (rg 1 4), .inr (hst.kn.pick [] [])⟩, ?_⟩
      refine sAny_all (rs := [2, 7]) (by kernel_rfl) (by simp) ?_
      simp only [List.forall_mem_cons, List.not_mem_nil, false_implies, implies_true, and_true]
      refine ⟨?_, ?_⟩
      · refine ⟨_, rfl, rfl, op_call henv rfl Tryd.call65 rfl (of_int_q (z := 3) (show ZIn _ A20 c21 3 from hst.pat (k := 0) rfl)) ?_⟩
        rintro e w30 ⟨_, rfl, ⟨A24, c25, B26, d27, rfl, hz28, hz29⟩, hb⟩
        refine ⟨_, rfl, ?_⟩
        clear henv a; intro a henv
        replace hst := ((hst.call hb).addZ hz28 ⟨nou_bk rfl, trivial⟩).addZ hz29 ⟨nou_bk rfl, trivial⟩
        clear hz28 hz29
        clear hb
        refine ⟨.inr ⟨hst.kn.pick [0] (rg 3 4), .inr (hst.kn.pick [] [])⟩, ?_⟩
        refine sAny_all (rs := [3, 7]) (by kernel_rfl) (by simp) ?_
        simp only [List.forall_mem_cons, List.not_mem_nil, false_implies, implies_true, and_true]
        refine ⟨?_, ?_⟩
        · refine ⟨_, rfl, rfl, op_call henv rfl Tryd.call62 rfl (over_q (x := mkRat (-3) 2) (y := ((3 : Int) : Rat)) (show ZIn _ A9 c10 (qn (mkRat (-3) 2)) from hst.pat (k := 4) rfl) (show ZIn _ B11 d12 (ql (mkRat (-3) 2)) from hst.pat (k := 3) rfl) (show ZIn _ A24 c25 (qn ((3 : Int) : Rat)) from hst.pat (k := 1) rfl) (show ZIn _ B26 d27 (ql ((3 : Int) : Rat)) from hst.pat (k := 0) rfl) qs_w qs_3 (by omega) (by decide)) ?_⟩
          rintro e w37 ⟨_, rfl, ⟨A31, c32, B33, d34, rfl, hz35, hz36⟩, hb⟩
          refine ⟨_, rfl, ?_⟩
          clear henv a; intro a henv
          replace hst := ((hst.call hb).addZ hz35 ⟨nou_bk rfl, trivial⟩).addZ hz36 ⟨nou_bk rfl, trivial⟩
          clear hz35 hz36
          clear hb
          refine ⟨.inr ⟨hst.kn.pick [0] (rg 5 4), .inr (hst.kn.pick [] [])⟩, ?_⟩
          refine tM (i := 4) [5, 6, 8, 9] rfl (by kernel_rfl) (fun _ _ _ h => h) henv rfl rfl ?_
          clear henv a; intro a henv
          refine tA (i := 5) [8, 9] (v := .agg #[.bool (neg (qn ((mkRat (-3) 2) / ((3 : Int) : Rat)))), .slice A31 (zl (qn ((mkRat (-3) 2) / ((3 : Int) : Rat)))) c32, .bool (neg (ql ((mkRat (-3) 2) / ((3 : Int) : Rat)))), .slice B33 (zl (ql ((mkRat (-3) 2) / ((3 : Int) : Rat)))) d34]) rfl (by kernel_rfl) (fun _ _ _ h => h) henv rfl (fun _ => rn_extract henv rfl rfl) ?_
          clear henv a; intro a henv
          refine tA (i := 6) [9] (v := .int .i64 0) rfl (by kernel_rfl) (fun _ _ _ h => h) henv rfl (fun _ => rn_extract henv rfl rfl) ?_
          clear henv a; intro a henv
          refine sAny_one (i := 7) (by kernel_rfl) rfl rfl (op_alloc (c := #[.bool (neg (qn 0)), .slice none (zl (qn 0)) 0, .bool (neg (ql 0)), .slice none (zl (ql 0)) 0]) henv hst rfl zero_anvil_ratio_Rat qcells ?_)
          clear henv hst a; intro a w39 g38 henv hst
          refine ⟨.inr ⟨hst.kn.pick [1] (rg 5 4), .inr (hst.kn.pick [] [])⟩, ?_⟩
          refine sAny_one (i := 8) (by kernel_rfl) rfl rfl (op_store (k := 0) (c' := #[.bool (neg (qn ((mkRat (-3) 2) / ((3 : Int) : Rat)))), .slice A31 (zl (qn ((mkRat (-3) 2) / ((3 : Int) : Rat)))) c32, .bool (neg (ql ((mkRat (-3) 2) / ((3 : Int) : Rat)))), .slice B33 (zl (ql ((mkRat (-3) 2) / ((3 : Int) : Rat)))) d34]) henv hst (ty_anvil_ratio_Rat.size) rfl rfl rfl rfl (by simp) rfl rfl ?_)
          clear henv hst a; intro a w40 henv hst
          refine ⟨.inr ⟨hst.kn.pick [1] (rg 5 4), .inl rfl⟩, ?_⟩
          refine tA (i := 9) [] (v := .int .i64 0) rfl (by kernel_rfl) (fun _ _ _ h => h) henv rfl (fun _ => rn_assign henv rfl) ?_
          clear henv a; intro a henv
          refine sAny_done (by kernel_rfl) ?_ _
          exact th_n ⟨A20, c21, A24, c25, B26, d27, A31, c32, B33, d34, g38, henv.sub ⟨rfl, rfl, rfl, rfl, rfl, rfl, rfl, rfl, rfl, rfl, rfl, trivial⟩, hst.pick [0, 1] [0, 1, 2, 3, 4, 5, 6, 7, 8] (by decide)⟩
        · refine ⟨_, rfl, rfl, op_alloc (c := #[.bool (neg (qn 0)), .slice none (zl (qn 0)) 0, .bool (neg (ql 0)), .slice none (zl (ql 0)) 0]) henv hst rfl zero_anvil_ratio_Rat qcells ?_⟩
          clear henv hst a; intro a w42 g41 henv hst
          refine ⟨.inr ⟨hst.kn.pick [1] (rg 3 4), .inr (hst.kn.pick [] [])⟩, ?_⟩
          refine sAny_one (i := 3) (by kernel_rfl) rfl rfl (op_call henv rfl Tryd.call62 rfl (over_q (x := mkRat (-3) 2) (y := ((3 : Int) : Rat)) (show ZIn _ A9 c10 (qn (mkRat (-3) 2)) from hst.pat (k := 4) rfl) (show ZIn _ B11 d12 (ql (mkRat (-3) 2)) from hst.pat (k := 3) rfl) (show ZIn _ A24 c25 (qn ((3 : Int) : Rat)) from hst.pat (k := 1) rfl) (show ZIn _ B26 d27 (ql ((3 : Int) : Rat)) from hst.pat (k := 0) rfl) qs_w qs_3 (by omega) (by decide)) ?_)
          rintro e w49 ⟨_, rfl, ⟨A43, c44, B45, d46, rfl, hz47, hz48⟩, hb⟩
          refine ⟨_, rfl, ?_⟩
          clear henv a; intro a henv
          replace hst := ((hst.call hb).addZ hz47 ⟨nou_bk rfl, nou_bk rfl, trivial⟩).addZ hz48 ⟨nou_bk rfl, nou_bk rfl, trivial⟩
          clear hz47 hz48
          clear hb
          refine ⟨.inr ⟨hst.kn.pick [1] (rg 5 4), .inr (hst.kn.pick [] [])⟩, ?_⟩
          refine tM (i := 4) [5, 6, 8, 9] rfl (by kernel_rfl) (fun _ _ _ h => h) henv rfl rfl ?_
          clear henv a; intro a henv
          refine tA (i := 5) [8, 9] (v := .agg #[.bool (neg (qn ((mkRat (-3) 2) / ((3 : Int) : Rat)))), .slice A43 (zl (qn ((mkRat (-3) 2) / ((3 : Int) : Rat)))) c44, .bool (neg (ql ((mkRat (-3) 2) / ((3 : Int) : Rat)))), .slice B45 (zl (ql ((mkRat (-3) 2) / ((3 : Int) : Rat)))) d46]) rfl (by kernel_rfl) (fun _ _ _ h => h) henv rfl (fun _ => rn_extract henv rfl rfl) ?_
          clear henv a; intro a henv
          refine tA (i := 6) [9] (v := .int .i64 0) rfl (by kernel_rfl) (fun _ _ _ h => h) henv rfl (fun _ => rn_extract henv rfl rfl) ?_
          clear henv a; intro a henv
          refine sAny_one (i := 8) (by kernel_rfl) rfl rfl (op_store (k := 0) (c' := #[.bool (neg (qn ((mkRat (-3) 2) / ((3 : Int) : Rat)))), .slice A43 (zl (qn ((mkRat (-3) 2) / ((3 : Int) : Rat)))) c44, .bool (neg (ql ((mkRat (-3) 2) / ((3 : Int) : Rat)))), .slice B45 (zl (ql ((mkRat (-3) 2) / ((3 : Int) : Rat)))) d46]) henv hst (ty_anvil_ratio_Rat.size) rfl rfl rfl rfl (by simp) rfl rfl ?_)
          clear henv hst a; intro a w50 henv hst
          refine ⟨.inr ⟨hst.kn.pick [1] (rg 5 4), .inl rfl⟩, ?_⟩
          refine tA (i := 9) [] (v := .int .i64 0) rfl (by kernel_rfl) (fun _ _ _ h => h) henv rfl (fun _ => rn_assign henv rfl) ?_
          clear henv a; intro a henv
          refine sAny_done (by kernel_rfl) ?_ _
          exact th_n ⟨A20, c21, A24, c25, B26, d27, A43, c44, B45, d46, g41, henv.sub ⟨rfl, rfl, rfl, rfl, rfl, rfl, rfl, rfl, rfl, rfl, rfl, trivial⟩, hst.pick [0, 1] [0, 1, 2, 3, 4, 5, 6, 7, 8] (by decide)⟩
      · refine ⟨_, rfl, rfl, op_alloc (c := #[.bool (neg (qn 0)), .slice none (zl (qn 0)) 0, .bool (neg (ql 0)), .slice none (zl (ql 0)) 0]) henv hst rfl zero_anvil_ratio_Rat qcells ?_⟩
        clear henv hst a; intro a w52 g51 henv hst
        refine ⟨.inr ⟨hst.kn.pick [1] (rg 1 4), .inr (hst.kn.pick [] [])⟩, ?_⟩
        refine sAny_one (i := 2) (by kernel_rfl) rfl rfl (op_call henv rfl Tryd.call65 rfl (of_int_q (z := 3) (show ZIn _ A20 c21 3 from hst.pat (k := 0) rfl)) ?_)
        rintro e w59 ⟨_, rfl, ⟨A53, c54, B55, d56, rfl, hz57, hz58⟩, hb⟩
        refine ⟨_, rfl, ?_⟩
        clear henv a; intro a henv
        replace hst := ((hst.call hb).addZ hz57 ⟨nou_bk rfl, nou_bk rfl, trivial⟩).addZ hz58 ⟨nou_bk rfl, nou_bk rfl, trivial⟩
        clear hz57 hz58
        clear hb
        refine ⟨.inr ⟨hst.kn.pick [1] (rg 3 4), .inr (hst.kn.pick [] [])⟩, ?_⟩
        refine sAny_one (i := 3) (by kernel_rfl) rfl rfl (op_call henv rfl Tryd.call62 rfl (over_q (x := mkRat (-3) 2) (y := ((3 : Int) : Rat)) (show ZIn _ A9 c10 (qn (mkRat (-3) 2)) from hst.pat (k := 4) rfl) (show ZIn _ B11 d12 (ql (mkRat (-3) 2)) from hst.pat (k := 3) rfl) (show ZIn _ A53 c54 (qn ((3 : Int) : Rat)) from hst.pat (k := 1) rfl) (show ZIn _ B55 d56 (ql ((3 : Int) : Rat)) from hst.pat (k := 0) rfl) qs_w qs_3 (by omega) (by decide)) ?_)
        rintro e w66 ⟨_, rfl, ⟨A60, c61, B62, d63, rfl, hz64, hz65⟩, hb⟩
        refine ⟨_, rfl, ?_⟩
        clear henv a; intro a henv
        replace hst := ((hst.call hb).addZ hz64 ⟨nou_bk rfl, nou_bk rfl, trivial⟩).addZ hz65 ⟨nou_bk rfl, nou_bk rfl, trivial⟩
        clear hz64 hz65
        clear hb
        refine ⟨.inr ⟨hst.kn.pick [1] (rg 5 4), .inr (hst.kn.pick [] [])⟩, ?_⟩
        refine tM (i := 4) [5, 6, 8, 9] rfl (by kernel_rfl) (fun _ _ _ h => h) henv rfl rfl ?_
        clear henv a; intro a henv
        refine tA (i := 5) [8, 9] (v := .agg #[.bool (neg (qn ((mkRat (-3) 2) / ((3 : Int) : Rat)))), .slice A60 (zl (qn ((mkRat (-3) 2) / ((3 : Int) : Rat)))) c61, .bool (neg (ql ((mkRat (-3) 2) / ((3 : Int) : Rat)))), .slice B62 (zl (ql ((mkRat (-3) 2) / ((3 : Int) : Rat)))) d63]) rfl (by kernel_rfl) (fun _ _ _ h => h) henv rfl (fun _ => rn_extract henv rfl rfl) ?_
        clear henv a; intro a henv
        refine tA (i := 6) [9] (v := .int .i64 0) rfl (by kernel_rfl) (fun _ _ _ h => h) henv rfl (fun _ => rn_extract henv rfl rfl) ?_
        clear henv a; intro a henv
        refine sAny_one (i := 8) (by kernel_rfl) rfl rfl (op_store (k := 0) (c' := #[.bool (neg (qn ((mkRat (-3) 2) / ((3 : Int) : Rat)))), .slice A60 (zl (qn ((mkRat (-3) 2) / ((3 : Int) : Rat)))) c61, .bool (neg (ql ((mkRat (-3) 2) / ((3 : Int) : Rat)))), .slice B62 (zl (ql ((mkRat (-3) 2) / ((3 : Int) : Rat)))) d63]) henv hst (ty_anvil_ratio_Rat.size) rfl rfl rfl rfl (by simp) rfl rfl ?_)
        clear henv hst a; intro a w67 henv hst
        refine ⟨.inr ⟨hst.kn.pick [1] (rg 5 4), .inl rfl⟩, ?_⟩
        refine tA (i := 9) [] (v := .int .i64 0) rfl (by kernel_rfl) (fun _ _ _ h => h) henv rfl (fun _ => rn_assign henv rfl) ?_
        clear henv a; intro a henv
        refine sAny_done (by kernel_rfl) ?_ _
        exact th_n ⟨A20, c21, A53, c54, B55, d56, A60, c61, B62, d63, g51, henv.sub ⟨rfl, rfl, rfl, rfl, rfl, rfl, rfl, rfl, rfl, rfl, rfl, trivial⟩, hst.pick [0, 1] [0, 1, 2, 3, 4, 5, 6, 7, 8] (by decide)⟩
    · refine ⟨_, rfl, rfl, op_alloc (c := #[.bool (neg (qn 0)), .slice none (zl (qn 0)) 0, .bool (neg (ql 0)), .slice none (zl (ql 0)) 0]) henv hst rfl zero_anvil_ratio_Rat qcells ?_⟩
      clear henv hst a; intro a w69 g68 henv hst
      refine ⟨.inr ⟨hst.kn.pick [1] (rg 0 4), .inr (hst.kn.pick [] [])⟩, ?_⟩
      refine sAny_one (i := 1) (by kernel_rfl) rfl rfl (op_call henv rfl Tryd.call43 rfl (of_z (n := (3 : Int)) (by decide) (by decide)) ?_)
      rintro e w73 ⟨_, rfl, ⟨A70, c71, rfl, hz72⟩, hb⟩
      refine ⟨_, rfl, ?_⟩
      clear henv a; intro a henv
      replace hst := (hst.call hb).addZ hz72 ⟨nou_bk rfl, nou_bk rfl, trivial⟩
      clear hz72
      clear hb
      refine ⟨.inr ⟨hst.kn.pick [1] (rg 1 4), .inr (hst.kn.pick [] [])⟩, ?_⟩
      refine sAny_one (i := 2) (by kernel_rfl) rfl rfl (op_call henv rfl Tryd.call65 rfl (of_int_q (z := 3) (show ZIn _ A70 c71 3 from hst.pat (k := 0) rfl)) ?_)
      rintro e w80 ⟨_, rfl, ⟨A74, c75, B76, d77, rfl, hz78, hz79⟩, hb⟩
      refine ⟨_, rfl, ?_⟩
      clear henv a; intro a henv
      replace hst := ((hst.call hb).addZ hz78 ⟨nou_bk rfl, nou_bk rfl, trivial⟩).addZ hz79 ⟨nou_bk rfl, nou_bk rfl, trivial⟩
      clear hz78 hz79
      clear hb
      refine ⟨.inr ⟨hst.kn.pick [1] (rg 3 4), .inr (hst.kn.pick [] [])⟩, ?_⟩
      refine sAny_one (i := 3) (by kernel_rfl) rfl rfl (op_call henv rfl Tryd.call62 rfl (over_q (x := mkRat (-3) 2) (y := ((3 : Int) : Rat)) (show ZIn _ A9 c10 (qn (mkRat (-3) 2)) from hst.pat (k := 4) rfl) (show ZIn _ B11 d12 (ql (mkRat (-3) 2)) from hst.pat (k := 3) rfl) (show ZIn _ A74 c75 (qn ((3 : Int) : Rat)) from hst.pat (k := 1) rfl) (show ZIn _ B76 d77 (ql ((3 : Int) : Rat)) from hst.pat (k := 0) rfl) qs_w qs_3 (by omega) (by decide)) ?_)
      rintro e w87 ⟨_, rfl, ⟨A81, c82, B83, d84, rfl, hz85, hz86⟩, hb⟩
      refine ⟨_, rfl, ?_⟩
      clear henv a; intro a henv
      replace hst := ((hst.call hb).addZ hz85 ⟨nou_bk rfl, nou_bk rfl, trivial⟩).addZ hz86 ⟨nou_bk rfl, nou_bk rfl, trivial⟩
      clear hz85 hz86
      clear hb
      refine ⟨.inr ⟨hst.kn.pick [1] (rg 5 4), .inr (hst.kn.pick [] [])⟩, ?_⟩
      refine tM (i := 4) [5, 6, 8, 9] rfl (by kernel_rfl) (fun _ _ _ h => h) henv rfl rfl ?_
      clear henv a; intro a henv
      refine tA (i := 5) [8, 9] (v := .agg #[.bool (neg (qn ((mkRat (-3) 2) / ((3 : Int) : Rat)))), .slice A81 (zl (qn ((mkRat (-3) 2) / ((3 : Int) : Rat)))) c82, .bool (neg (ql ((mkRat (-3) 2) / ((3 : Int) : Rat)))), .slice B83 (zl (ql ((mkRat (-3) 2) / ((3 : Int) : Rat)))) d84]) rfl (by kernel_rfl) (fun _ _ _ h => h) henv rfl (fun _ => rn_extract henv rfl rfl) ?_
      clear henv a; intro a henv
      refine tA (i := 6) [9] (v := .int .i64 0) rfl (by kernel_rfl) (fun _ _ _ h => h) henv rfl (fun _ => rn_extract henv rfl rfl) ?_
      clear henv a; intro a henv
      refine sAny_one (i := 8) (by kernel_rfl) rfl rfl (op_store (k := 0) (c' := #[.bool (neg (qn ((mkRat (-3) 2) / ((3 : Int) : Rat)))), .slice A81 (zl (qn ((mkRat (-3) 2) / ((3 : Int) : Rat)))) c82, .bool (neg (ql ((mkRat (-3) 2) / ((3 : Int) : Rat)))), .slice B83 (zl (ql ((mkRat (-3) 2) / ((3 : Int) : Rat)))) d84]) henv hst (ty_anvil_ratio_Rat.size) rfl rfl rfl rfl (by simp) rfl rfl ?_)
      clear henv hst a; intro a w88 henv hst
      refine ⟨.inr ⟨hst.kn.pick [1] (rg 5 4), .inl rfl⟩, ?_⟩
      refine tA (i := 9) [] (v := .int .i64 0) rfl (by kernel_rfl) (fun _ _ _ h => h) henv rfl (fun _ => rn_assign henv rfl) ?_
      clear henv a; intro a henv
      refine sAny_done (by kernel_rfl) ?_ _
      exact th_n ⟨A70, c71, A74, c75, B76, d77, A81, c82, B83, d84, g68, henv.sub ⟨rfl, rfl, rfl, rfl, rfl, rfl, rfl, rfl, rfl, rfl, rfl, trivial⟩, hst.pick [0, 1] [0, 1, 2, 3, 4, 5, 6, 7, 8] (by decide)⟩
  clear henv hst a
  rintro a w89 ⟨A20, c21, A24, c25, B26, d27, A31, c32, B33, d34, g38, henv, hst⟩
  refine wp_seq ?_
  refine region_seq ?_
  revert a
  refine sA (v := .agg #[.bool (neg (qn ((mkRat (-3) 2) / ((3 : Int) : Rat)))), .slice A31 (zl (qn ((mkRat (-3) 2) / ((3 : Int) : Rat)))) c32, .bool (neg (ql ((mkRat (-3) 2) / ((3 : Int) : Rat)))), .slice B33 (zl (ql ((mkRat (-3) 2) / ((3 : Int) : Rat)))) d34]) rfl (fun _ henv => rn_load0 henv ty_anvil_ratio_Rat rfl (hst.oat (k := 0) rfl) rfl) ?_
  refine sA (v := .agg #[.bool (neg (qn (mkRat (-3) 2))), .slice A9 (zl (qn (mkRat (-3) 2))) c10, .bool (neg (ql (mkRat (-3) 2))), .slice B11 (zl (ql (mkRat (-3) 2))) d12]) rfl (fun _ henv => rn_load0 henv ty_anvil_ratio_Rat rfl (hst.oat (k := 1) rfl) rfl) ?_
  intro a henv
  have hq96 : Qs 4 (((mkRat (-3) 2) / ((3 : Int) : Rat)) + (mkRat (-3) 2)) := by have h := (Qs.over qs_w qs_3 (by decide)).add qs_w; exact h
  refine seq_step rfl (op_call henv rfl Tryd.call58 rfl (add_q (x := (mkRat (-3) 2) / ((3 : Int) : Rat)) (y := mkRat (-3) 2) (show ZIn _ A31 c32 (qn ((mkRat (-3) 2) / ((3 : Int) : Rat))) from hst.pat (k := 1) rfl) (show ZIn _ B33 d34 (ql ((mkRat (-3) 2) / ((3 : Int) : Rat))) from hst.pat (k := 0) rfl) (show ZIn _ A9 c10 (qn (mkRat (-3) 2)) from hst.pat (k := 6) rfl) (show ZIn _ B11 d12 (ql (mkRat (-3) 2)) from hst.pat (k := 5) rfl) (Qs.over qs_w qs_3 (by decide)) qs_w (by omega)) ?_)
  rintro e w97 ⟨_, rfl, ⟨A90, c91, B92, d93, rfl, hz94, hz95⟩, hb⟩
  refine ⟨_, rfl, ?_⟩
  clear henv a; intro a henv
  replace hst := ((hst.call hb).addZ hz94 ⟨nou_bk rfl, nou_bk rfl, trivial⟩).addZ hz95 ⟨nou_bk rfl, nou_bk rfl, trivial⟩
  clear hz94 hz95
  clear hb
  refine seq_step rfl (op_alloc (c := #[.bool (neg (qn 0)), .slice none (zl (qn 0)) 0, .bool (neg (ql 0)), .slice none (zl (ql 0)) 0]) henv hst rfl zero_anvil_ratio_Rat qcells ?_)
  clear henv hst a; intro a w99 g98 henv hst
  refine seq_step rfl (op_store (k := 0) (c' := #[.bool (neg (qn (((mkRat (-3) 2) / ((3 : Int) : Rat)) + (mkRat (-3) 2)))), .slice A90 (zl (qn (((mkRat (-3) 2) / ((3 : Int) : Rat)) + (mkRat (-3) 2)))) c91, .bool (neg (ql (((mkRat (-3) 2) / ((3 : Int) : Rat)) + (mkRat (-3) 2)))), .slice B92 (zl (ql (((mkRat (-3) 2) / ((3 : Int) : Rat)) + (mkRat (-3) 2)))) d93]) henv hst (ty_anvil_ratio_Rat.size) rfl rfl rfl rfl (by simp) rfl rfl ?_)
  clear henv hst a; intro a w100 henv hst
  refine wpList_nil ?_
  refine th_n ?_
  refine wp_seq ?_
  refine region_seq ?_
  revert a
  refine mA rfl rfl ?_
  refine sA (v := .bool true) rfl (fun _ henv => rn_bin henv rfl rfl rfl) ?_
  refine mA rfl rfl ?_
  refine gA (v := .int .i64 0) rfl rfl rfl rfl (fun _ henv => rn_move henv rfl) ?_
  refine gA (v := .bool true) rfl rfl rfl rfl (fun _ henv => rn_bin henv rfl rfl rfl) ?_
  refine sA (v := .bool true) rfl (fun _ henv => rn_pick henv rfl rfl) ?_
  refine mA rfl rfl ?_
  refine gA (v := .agg #[.bool (neg (qn (mkRat (-3) 2))), .slice A9 (zl (qn (mkRat (-3) 2))) c10, .bool (neg (ql (mkRat (-3) 2))), .slice B11 (zl (ql (mkRat (-3) 2))) d12]) rfl rfl rfl rfl (fun _ henv => rn_load0 henv ty_anvil_ratio_Rat rfl (hst.oat (k := 2) rfl) rfl) ?_
  intro a henv
  refine seq_g rfl henv rfl rfl (op_call henv rfl Tryd.call92 rfl (text_q (x := mkRat (-3) 2) (show ZIn _ A9 c10 (qn (mkRat (-3) 2)) from hst.pat (k := 8) rfl) (show ZIn _ B11 d12 (ql (mkRat (-3) 2)) from hst.pat (k := 7) rfl) qs_w (by omega)) ?_)
  rintro e w101 ⟨rfl, hb⟩
  refine ⟨_, rfl, ?_⟩
  clear henv a; intro a henv
  replace hst := hst.call hb
  clear hb
  refine seq_g rfl henv rfl rfl (op_val (v := .bool (decide ((textQ (mkRat (-3) 2)) = [45, 51, 47, 50]))) henv rfl (rn_eqls (s := (textQ (mkRat (-3) 2))) (t := [45, 51, 47, 50]) henv rfl rfl) ?_)
  clear henv a; intro a henv
  rw [show (decide ((textQ (mkRat (-3) 2)) = [45, 51, 47, 50])) = true from decide_eq_true (by decide +kernel)] at henv
  revert a
  refine sA (v := .bool true) rfl (fun _ henv => rn_pick henv rfl rfl) ?_
  refine mA rfl rfl ?_
  refine gA (v := .agg #[.bool (neg (qn ((mkRat (-3) 2) / ((3 : Int) : Rat)))), .slice A31 (zl (qn ((mkRat (-3) 2) / ((3 : Int) : Rat)))) c32, .bool (neg (ql ((mkRat (-3) 2) / ((3 : Int) : Rat)))), .slice B33 (zl (ql ((mkRat (-3) 2) / ((3 : Int) : Rat)))) d34]) rfl rfl rfl rfl (fun _ henv => rn_load0 henv ty_anvil_ratio_Rat rfl (hst.oat (k := 1) rfl) rfl) ?_
  intro a henv
  refine seq_g rfl henv rfl rfl (op_call henv rfl Tryd.call92 rfl (text_q (x := (mkRat (-3) 2) / ((3 : Int) : Rat)) (show ZIn _ A31 c32 (qn ((mkRat (-3) 2) / ((3 : Int) : Rat))) from hst.pat (k := 3) rfl) (show ZIn _ B33 d34 (ql ((mkRat (-3) 2) / ((3 : Int) : Rat))) from hst.pat (k := 2) rfl) (Qs.over qs_w qs_3 (by decide)) (by omega)) ?_)
  rintro e w102 ⟨rfl, hb⟩
  refine ⟨_, rfl, ?_⟩
  clear henv a; intro a henv
  replace hst := hst.call hb
  clear hb
  refine seq_g rfl henv rfl rfl (op_val (v := .bool (decide ((textQ ((mkRat (-3) 2) / ((3 : Int) : Rat))) = [45, 49, 47, 50]))) henv rfl (rn_eqls (s := (textQ ((mkRat (-3) 2) / ((3 : Int) : Rat)))) (t := [45, 49, 47, 50]) henv rfl rfl) ?_)
  clear henv a; intro a henv
  rw [show (decide ((textQ ((mkRat (-3) 2) / ((3 : Int) : Rat))) = [45, 49, 47, 50])) = true from decide_eq_true (by decide +kernel)] at henv
  revert a
  refine sA (v := .bool true) rfl (fun _ henv => rn_pick henv rfl rfl) ?_
  refine mA rfl rfl ?_
  refine gA (v := .agg #[.bool (neg (qn (((mkRat (-3) 2) / ((3 : Int) : Rat)) + (mkRat (-3) 2)))), .slice A90 (zl (qn (((mkRat (-3) 2) / ((3 : Int) : Rat)) + (mkRat (-3) 2)))) c91, .bool (neg (ql (((mkRat (-3) 2) / ((3 : Int) : Rat)) + (mkRat (-3) 2)))), .slice B92 (zl (ql (((mkRat (-3) 2) / ((3 : Int) : Rat)) + (mkRat (-3) 2)))) d93]) rfl rfl rfl rfl (fun _ henv => rn_load0 henv ty_anvil_ratio_Rat rfl (hst.oat (k := 0) rfl) rfl) ?_
  intro a henv
  refine seq_g rfl henv rfl rfl (op_call henv rfl Tryd.call92 rfl (text_q (x := ((mkRat (-3) 2) / ((3 : Int) : Rat)) + (mkRat (-3) 2)) (show ZIn _ A90 c91 (qn (((mkRat (-3) 2) / ((3 : Int) : Rat)) + (mkRat (-3) 2))) from hst.pat (k := 1) rfl) (show ZIn _ B92 d93 (ql (((mkRat (-3) 2) / ((3 : Int) : Rat)) + (mkRat (-3) 2))) from hst.pat (k := 0) rfl) hq96 (by omega)) ?_)
  rintro e w103 ⟨rfl, hb⟩
  refine ⟨_, rfl, ?_⟩
  clear henv a; intro a henv
  replace hst := hst.call hb
  clear hb
  refine seq_g rfl henv rfl rfl (op_val (v := .bool (decide ((textQ (((mkRat (-3) 2) / ((3 : Int) : Rat)) + (mkRat (-3) 2))) = [45, 50]))) henv rfl (rn_eqls (s := (textQ (((mkRat (-3) 2) / ((3 : Int) : Rat)) + (mkRat (-3) 2)))) (t := [45, 50]) henv rfl rfl) ?_)
  clear henv a; intro a henv
  rw [show (decide ((textQ (((mkRat (-3) 2) / ((3 : Int) : Rat)) + (mkRat (-3) 2))) = [45, 50])) = true from decide_eq_true (by decide +kernel)] at henv
  revert a
  refine sA (v := .bool true) rfl (fun _ henv => rn_pick henv rfl rfl) ?_
  refine mA rfl rfl ?_
  refine gA (v := .agg #[.bool (neg (qn (((mkRat (-3) 2) / ((3 : Int) : Rat)) + (mkRat (-3) 2)))), .slice A90 (zl (qn (((mkRat (-3) 2) / ((3 : Int) : Rat)) + (mkRat (-3) 2)))) c91, .bool (neg (ql (((mkRat (-3) 2) / ((3 : Int) : Rat)) + (mkRat (-3) 2)))), .slice B92 (zl (ql (((mkRat (-3) 2) / ((3 : Int) : Rat)) + (mkRat (-3) 2)))) d93]) rfl rfl rfl rfl (fun _ henv => rn_load0 henv ty_anvil_ratio_Rat rfl (hst.oat (k := 0) rfl) rfl) ?_
  intro a henv
  refine seq_g rfl henv rfl rfl (op_call henv rfl Tryd.call67 rfl (whole_q (x := ((mkRat (-3) 2) / ((3 : Int) : Rat)) + (mkRat (-3) 2)) (show ZIn _ A90 c91 (qn (((mkRat (-3) 2) / ((3 : Int) : Rat)) + (mkRat (-3) 2))) from hst.pat (k := 1) rfl) (show ZIn _ B92 d93 (ql (((mkRat (-3) 2) / ((3 : Int) : Rat)) + (mkRat (-3) 2))) from hst.pat (k := 0) rfl)) ?_)
  rintro e w104 ⟨rfl, hb⟩
  refine ⟨_, rfl, ?_⟩
  clear henv a; intro a henv
  replace hst := hst.call hb
  clear hb
  rw [show (decide (ql (((mkRat (-3) 2) / ((3 : Int) : Rat)) + (mkRat (-3) 2)) = 0)) = true from decide_eq_true (by decide +kernel)] at henv
  revert a
  refine sA (v := .bool true) rfl (fun _ henv => rn_pick henv rfl rfl) ?_
  refine mA rfl rfl ?_
  refine gA (v := .agg #[.bool (neg (qn (((mkRat (-3) 2) / ((3 : Int) : Rat)) + (mkRat (-3) 2)))), .slice A90 (zl (qn (((mkRat (-3) 2) / ((3 : Int) : Rat)) + (mkRat (-3) 2)))) c91, .bool (neg (ql (((mkRat (-3) 2) / ((3 : Int) : Rat)) + (mkRat (-3) 2)))), .slice B92 (zl (ql (((mkRat (-3) 2) / ((3 : Int) : Rat)) + (mkRat (-3) 2)))) d93]) rfl rfl rfl rfl (fun _ henv => rn_load0 henv ty_anvil_ratio_Rat rfl (hst.oat (k := 0) rfl) rfl) ?_
  intro a henv
  have hs108 := hq96.d
  refine seq_g rfl henv rfl rfl (op_call henv rfl Tryd.call89 rfl (den_q (x := ((mkRat (-3) 2) / ((3 : Int) : Rat)) + (mkRat (-3) 2)) (show ZIn _ A90 c91 (qn (((mkRat (-3) 2) / ((3 : Int) : Rat)) + (mkRat (-3) 2))) from hst.pat (k := 1) rfl) (show ZIn _ B92 d93 (ql (((mkRat (-3) 2) / ((3 : Int) : Rat)) + (mkRat (-3) 2))) from hst.pat (k := 0) rfl) hq96 (by omega)) ?_)
  rintro e w109 ⟨_, rfl, ⟨A105, c106, rfl, hz107⟩, hb⟩
  refine ⟨_, rfl, ?_⟩
  clear henv a; intro a henv
  replace hst := (hst.call hb).addZ hz107 ⟨nou_bk rfl, nou_bk rfl, nou_bk rfl, trivial⟩
  clear hz107
  clear hb
  refine seq_g rfl henv rfl rfl (op_call henv rfl Tryd.call72 rfl (text_z (z := (qd (((mkRat (-3) 2) / ((3 : Int) : Rat)) + (mkRat (-3) 2)))) (show ZIn _ A105 c106 (qd (((mkRat (-3) 2) / ((3 : Int) : Rat)) + (mkRat (-3) 2))) from hst.pat (k := 0) rfl) (by omega)) ?_)
  rintro e w110 ⟨rfl, hb⟩
  refine ⟨_, rfl, ?_⟩
  clear henv a; intro a henv
  replace hst := hst.call hb
  clear hb
  refine seq_g rfl henv rfl rfl (op_val (v := .bool (decide ((textZ (qd (((mkRat (-3) 2) / ((3 : Int) : Rat)) + (mkRat (-3) 2)))) = [49]))) henv rfl (rn_eqls (s := (textZ (qd (((mkRat (-3) 2) / ((3 : Int) : Rat)) + (mkRat (-3) 2))))) (t := [49]) henv rfl rfl) ?_)
  clear henv a; intro a henv
  rw [show (decide ((textZ (qd (((mkRat (-3) 2) / ((3 : Int) : Rat)) + (mkRat (-3) 2)))) = [49])) = true from decide_eq_true (by decide +kernel)] at henv
  revert a
  refine sA (v := .bool true) rfl (fun _ henv => rn_pick henv rfl rfl) ?_
  refine mA rfl rfl ?_
  refine gA (v := .agg #[.bool (neg (qn (mkRat (-3) 2))), .slice A9 (zl (qn (mkRat (-3) 2))) c10, .bool (neg (ql (mkRat (-3) 2))), .slice B11 (zl (ql (mkRat (-3) 2))) d12]) rfl rfl rfl rfl (fun _ henv => rn_load0 henv ty_anvil_ratio_Rat rfl (hst.oat (k := 2) rfl) rfl) ?_
  intro a henv
  have hs114 : zl (mkRat (-3) 2).floor ≤ 1 := floor_sz qs_w
  refine seq_g rfl henv rfl rfl (op_call henv rfl Tryd.call66 rfl (floor_q (x := mkRat (-3) 2) (show ZIn _ A9 c10 (qn (mkRat (-3) 2)) from hst.pat (k := 9) rfl) (show ZIn _ B11 d12 (ql (mkRat (-3) 2)) from hst.pat (k := 8) rfl) qs_w (by omega)) ?_)
  rintro e w115 ⟨_, rfl, ⟨A111, c112, rfl, hz113⟩, hb⟩
  refine ⟨_, rfl, ?_⟩
  clear henv a; intro a henv
  replace hst := (hst.call hb).addZ hz113 ⟨nou_bk rfl, nou_bk rfl, nou_bk rfl, trivial⟩
  clear hz113
  clear hb
  refine seq_g rfl henv rfl rfl (op_call henv rfl Tryd.call72 rfl (text_z (z := (mkRat (-3) 2).floor) (show ZIn _ A111 c112 ((mkRat (-3) 2).floor) from hst.pat (k := 0) rfl) (by omega)) ?_)
  rintro e w116 ⟨rfl, hb⟩
  refine ⟨_, rfl, ?_⟩
  clear henv a; intro a henv
  replace hst := hst.call hb
  clear hb
  refine seq_g rfl henv rfl rfl (op_val (v := .bool (decide ((textZ ((mkRat (-3) 2).floor)) = [45, 50]))) henv rfl (rn_eqls (s := (textZ ((mkRat (-3) 2).floor))) (t := [45, 50]) henv rfl rfl) ?_)
  clear henv a; intro a henv
  rw [show (decide ((textZ ((mkRat (-3) 2).floor)) = [45, 50])) = true from decide_eq_true (by decide +kernel)] at henv
  revert a
  refine sA (v := .bool true) rfl (fun _ henv => rn_pick henv rfl rfl) ?_
  refine aA rfl rfl ?_
  intro a henv
  refine wpList_nil ?_
  refine th_n ?_
  refine wp_ret ?_
  refine leave henv (res1 Tryd.results55 (RV.tmp henv rfl)) ?_
  exact ⟨rfl, hst.below⟩
end Go.Proofs.YtegglooojlheoaaDoor.W

/- alone, three, same; RatioOrder, RatioField: the laws' walks. Printed by pv/gen_qlaw3.py. No condition. -/
namespace Go.Proofs.YtegglooojlheoaaDoor.W
open Go.RowKit Anv Go.Lib
section
variable {P : Program} {N : Nat} {dq : List Deferred} {a : Act} {l : List (Nat × Value)} {w : World} {d : Nat} {ty : TypeId} {pos : String} {af : Array Edge} {gd : Option (Nat × Bool)}
end
def IRd (s : List UInt8) (z p q : Int) : Prop := ∀ w0 : World,
    Calls Tryd.prog 113 #[.string ⟨s.toArray⟩] w0 fun e w' => ∃ v, e = .returned (.tuple #[v, .agg #[.int .i64 p, .int .i64 q]]) ∧ ZAt w' v z ∧ Below w0.heap.size w0 w'
def AlAs (s t : List UInt8) (x : Rat) (o : Bool) : Prop := ∀ w0 : World,
    Calls Tryd.prog 87 #[.agg #[.string ⟨s.toArray⟩, .string ⟨t.toArray⟩]] w0 fun e w' => ∃ v, e = .returned (.tuple #[v, .bool o]) ∧ QAt w' v x ∧ Below w0.heap.size w0 w'
def ThAs (s1 t1 s2 t2 s3 t3 : List UInt8) (x y z : Rat) (o : Bool) : Prop := ∀ w0 : World,
    Calls Tryd.prog 56 #[.agg #[.string ⟨s1.toArray⟩, .string ⟨t1.toArray⟩], .agg #[.string ⟨s2.toArray⟩, .string ⟨t2.toArray⟩], .agg #[.string ⟨s3.toArray⟩, .string ⟨t3.toArray⟩]] w0 fun e w' => ∃ v1 v2 v3, e = .returned (.tuple #[v1, v2, v3, .bool o]) ∧ QAt w' v1 x ∧ QAt w' v2 y ∧ QAt w' v3 z ∧ Below w0.heap.size w0 w'
end Go.Proofs.YtegglooojlheoaaDoor.W
