/- RatioMany. Printed by pv/gen_qn.py. No condition. -/
import Derived.Test.YtegglooojlheoaaDoorM49
import Derived.Test.YtegglooojlheoaaDoorM15
import Derived.Test.YtegglooojlheoaaDoorM48

set_option maxRecDepth 100000
set_option maxHeartbeats 16000000
namespace Go.Proofs.YtegglooojlheoaaDoor.W
open Go.RowKit Anv Go.Lib
theorem cutQ {P : Program} {c : Code} {Q : Exit → Act → World → Prop} {a : Act} {w : World} (M : Act → World → Prop) (h : c.wp P (Exit.then M Q) a w) (hK : ∀ a w, M a w → Q .normal a w) : c.wp P Q a w :=
 wp_mono h fun e a w hq => by cases e <;> first | exact hK _ _ hq | exact hq
theorem fr_cases {es : List FE} (h : ∀ e ∈ es, ¬ Lg e) (j : Nat) : es[j]? = none ∨ (∃ s t, es[j]? = some (s, t) ∧ RatNo s t) ∨ ∃ s t x, es[j]? = some (s, t) ∧ RatAs s t x ∧ Qs 400 x := by
 cases hj : es[j]? with
 | none => exact .inl rfl
 | some e =>
  obtain ⟨s, t⟩ := e
  rcases rat_cases (h _ (List.mem_of_getElem? hj)) with q | ⟨x, q, hx⟩
  ·exact .inr (.inl ⟨s, t, rfl, q⟩)
  ·exact .inr (.inr ⟨s, t, x, rfl, q, hx⟩)
theorem kq_step {ks : List KE} {A B : Option Addr} {c d : Nat} {x : Rat} (h : ∀ r ∈ ks.map kr, Qs 400 r) (hx : Qs 400 x) : ∀ r ∈ (ks ++ [(A, c, B, d, x)]).map kr, Qs 400 r := fun r hr => by
 rw [List.map_append] at hr
 rcases List.mem_append.1 hr with hr | hr
 ·exact h r hr
 ·rw [List.mem_singleton.1 hr]; exact hx
theorem cmD_sz {rs : List Rat} (h : ∀ r ∈ rs, Qs 400 r) : zl (cmD rs) ≤ 400 * rs.length + 1 := by
 have : ∀ (rs : List Rat), (∀ r ∈ rs, Qs 400 r) → ∀ d : Int, zl (rs.foldl cmS d) ≤ zl d + 400 * rs.length := by
  intro rs
  induction rs with
  | nil => intro _ d; exact Nat.le_refl _
  | cons r rs ih =>
   intro h d
   have h1 := ih (fun x hx => h x (List.mem_cons_of_mem _ hx)) (cmS d r)
   have h2 := cmS_sz d r
   have h3 := (h r (List.mem_cons_self ..)).d
   rw [List.foldl_cons, List.length_cons]
   omega
 have h1 := this rs h 1
 have h2 : zl 1 ≤ 1 := nl_le_of_lt (by decide)
 unfold cmD
 omega
theorem smQ_sz {rs : List Rat} (h : ∀ r ∈ rs, Qs 400 r) : Qs (401 * rs.length + 1) (smQ rs) := by
 have : ∀ (rs : List Rat), (∀ r ∈ rs, Qs 400 r) → ∀ (k : Nat) (d : Rat), Qs k d → Qs (401 * rs.length + k) (rs.foldl (· + ·) d) := by
  intro rs
  induction rs with
  | nil => intro _ k d hd; exact hd.mono (by simp)
  | cons r rs ih =>
   intro h k d hd
   rw [List.foldl_cons]
   exact (ih (fun x hx => h x (List.mem_cons_of_mem _ hx)) _ _ (hd.add (h r (List.mem_cons_self ..)))).mono (by rw [List.length_cons]; omega)
 exact this rs h 1 0 qs_zero
theorem rmany_many {A0 : Option Addr} {n0 c0 : Nat} {es0 : List FE} {w0 : World} (h0 : (pfRow fF FF 2 A0 n0 c0 es0).P w0) (hm : 12 < n0) :
  Calls Tryd.prog 11 #[.slice A0 n0 c0] w0 fun e w' => e = .returned (.bool true) ∧ Below w0.heap.size w0 w' := by
 refine enter Tryd.func11 rfl Tryd.ntmps11 rfl ?_
 intro a η σ
 have hlen0 := h0.2.1
 replace σ := σ.argRow h0
 clear h0
 refine wp_seq (region_seq ?_)
 refine sv (v := .bool false) η rfl (rn_assign η rfl) ?_
 clear η a; intro a η
 refine wpList_nil (th_n (wp_seq (wp_seq (region_seq ?_))))
 refine seq_step rfl (op_call η rfl Tryd.call55 rfl (qworks) ?_)
 rintro e w51 ⟨rfl, hb⟩
 refine ⟨_, rfl, ?_⟩
 clear η a; intro a η
 replace σ := σ.call hb
 clear hb
 refine sv (v := .bool false) η rfl (rn_un η rfl rfl) ?_
 clear η a; intro a η
 refine wpList_nil (th_n ?_)
 refine if_f η rfl (rfl) ?_
 refine wp_skip (th_n (wp_seq (wp_seq (region_seq ?_))))
 refine sv (v := .slice A0 n0 c0) η rfl (rn_move η rfl) ?_
 clear η a; intro a η
 refine seq_step rfl (op_call η rfl Tryd.call68 rfl (qlong_many (σ.pat (k := 0) rfl) hm) ?_)
 rintro e w52 ⟨rfl, hb⟩
 refine ⟨_, rfl, ?_⟩
 clear η a; intro a η
 replace σ := σ.call hb
 clear hb
 refine wpList_nil (th_n ?_)
 refine if_t η rfl (rfl) ?_
 refine wp_seq (region_seq ?_)
 refine sv (v := .bool true) η rfl (rn_assign η rfl) ?_
 clear η a; intro a η
 refine wpList_nil (th_n (wp_ret (th_r ?_)))
 refine leave η (res1 Tryd.results11 (RV.tmp η rfl)) ?_
 exact ⟨rfl, σ.below⟩
theorem rmany_yes {A0 : Option Addr} {n0 c0 : Nat} {es0 : List FE} {w0 : World} (h0 : (pfRow fF FF 2 A0 n0 c0 es0).P w0) (hm : ∃ e ∈ es0, Lg e) :
  Calls Tryd.prog 11 #[.slice A0 n0 c0] w0 fun e w' => e = .returned (.bool true) ∧ Below w0.heap.size w0 w' := by
 refine enter Tryd.func11 rfl Tryd.ntmps11 rfl ?_
 intro a η σ
 have hlen0 := h0.2.1
 replace σ := σ.argRow h0
 clear h0
 refine wp_seq (region_seq ?_)
 refine sv (v := .bool false) η rfl (rn_assign η rfl) ?_
 clear η a; intro a η
 refine wpList_nil (th_n (wp_seq (wp_seq (region_seq ?_))))
 refine seq_step rfl (op_call η rfl Tryd.call55 rfl (qworks) ?_)
 rintro e w51 ⟨rfl, hb⟩
 refine ⟨_, rfl, ?_⟩
 clear η a; intro a η
 replace σ := σ.call hb
 clear hb
 refine sv (v := .bool false) η rfl (rn_un η rfl rfl) ?_
 clear η a; intro a η
 refine wpList_nil (th_n ?_)
 refine if_f η rfl (rfl) ?_
 refine wp_skip (th_n (wp_seq (wp_seq (region_seq ?_))))
 refine sv (v := .slice A0 n0 c0) η rfl (rn_move η rfl) ?_
 clear η a; intro a η
 refine seq_step rfl (op_call η rfl Tryd.call68 rfl (qlong_yes (σ.pat (k := 0) rfl) hm) ?_)
 rintro e w52 ⟨rfl, hb⟩
 refine ⟨_, rfl, ?_⟩
 clear η a; intro a η
 replace σ := σ.call hb
 clear hb
 refine wpList_nil (th_n ?_)
 refine if_t η rfl (rfl) ?_
 refine wp_seq (region_seq ?_)
 refine sv (v := .bool true) η rfl (rn_assign η rfl) ?_
 clear η a; intro a η
 refine wpList_nil (th_n (wp_ret (th_r ?_)))
 refine leave η (res1 Tryd.results11 (RV.tmp η rfl)) ?_
 exact ⟨rfl, σ.below⟩
theorem rmany_s {A0 : Option Addr} {n0 c0 : Nat} {es0 : List FE} {w0 : World} (h0 : (pfRow fF FF 2 A0 n0 c0 es0).P w0) (hn : n0 ≤ 12) (hsh : ∀ e ∈ es0, ¬ Lg e) :
  Calls Tryd.prog 11 #[.slice A0 n0 c0] w0 fun e w' => e = .returned (.bool true) ∧ Below w0.heap.size w0 w' := by
 refine enter Tryd.func11 rfl Tryd.ntmps11 rfl ?_
 intro a η σ
 have hlen0 := h0.2.1
 replace σ := σ.argRow h0
 clear h0
 refine wp_seq (region_seq ?_)
 refine sv (v := .bool false) η rfl (rn_assign η rfl) ?_
 clear η a; intro a η
 refine wpList_nil (th_n (wp_seq (wp_seq (region_seq ?_))))
 refine seq_step rfl (op_call η rfl Tryd.call55 rfl (qworks) ?_)
 rintro e w51 ⟨rfl, hb⟩
 refine ⟨_, rfl, ?_⟩
 clear η a; intro a η
 replace σ := σ.call hb
 clear hb
 refine sv (v := .bool false) η rfl (rn_un η rfl rfl) ?_
 clear η a; intro a η
 refine wpList_nil (th_n ?_)
 refine if_f η rfl (rfl) ?_
 refine wp_skip (th_n (wp_seq (wp_seq (region_seq ?_))))
 refine sv (v := .slice A0 n0 c0) η rfl (rn_move η rfl) ?_
 clear η a; intro a η
 refine seq_step rfl (op_call η rfl Tryd.call68 rfl (qlong_no (σ.pat (k := 0) rfl) hn hsh) ?_)
 rintro e w52 ⟨rfl, hb⟩
 refine ⟨_, rfl, ?_⟩
 clear η a; intro a η
 replace σ := σ.call hb
 clear hb
 refine wpList_nil (th_n ?_)
 refine if_f η rfl (rfl) ?_
 refine wp_skip (th_n (wp_seq ?_))
 replace σ := (σ.addRowS notU 91 4).nilEs FK
 replace σ : St w0 _ [rowS notU 91 4 none 0 0 (fl fK ([]))] [pfEs FK ([]), pfRow fF FF 2 A0 n0 c0 es0] := σ
 refine region_seq ?_
 refine sv (v := .slice none 0 0) η rfl (rn_assign η rfl) ?_
 clear η a; intro a η
 refine wpList_nil (th_n (wp_seq ?_))
 replace σ := (σ.addRowS notU 108 4).nilEs FH
 replace σ : St w0 _ [rowS notU 108 4 none 0 0 (fl fH ([])), rowS notU 91 4 none 0 0 (fl fK ([]))] [pfEs FH ([]), pfEs FK ([]), pfRow fF FF 2 A0 n0 c0 es0] := σ
 refine region_seq ?_
 refine sv (v := .slice none 0 0) η rfl (rn_assign η rfl) ?_
 clear η a; intro a η
 refine wpList_nil (th_n (wp_seq (wp_seq (region_seq ?_))))
 revert a
 refine mA rfl rfl ?_
 refine sA (v := .int .i64 (n0 : Nat)) rfl (fun _ η => rn_len η Tryd.underlying103 rfl) ?_
 refine mA rfl rfl ?_
 intro a η
 refine wpList_nil (th_n (wp_block ?_))
 refine wp_loop_ghost (fun mz a w => ∃ (j : Nat) (Bk : Option Addr) (dk : Nat) (ks : List KE) (Bh : Option Addr) (dh : Nat) (hs : List KE), n0 - j = mz ∧ Env 110 a [(0, .slice A0 n0 c0), (3, .slice Bk j dk), (4, .slice Bh j dh), (19, .slice A0 n0 c0), (20, .int .i64 (n0 : Nat)), (21, .int .i64 (j : Nat))] ∧ St w0 w [rowS notU 91 4 Bk j dk (fl fK ks), rowS notU 108 4 Bh j dh (fl fH hs)] [pfRow fF FF 2 A0 n0 c0 es0, pfEs FK ks, pfEs FH hs] ∧ j ≤ n0 ∧ ks.length = j ∧ hs.length = j ∧ hs.map kr = ks.map kr ∧ (∀ r ∈ ks.map kr, Qs 400 r)) _ ⟨0, none, 0, [], none, 0, [], rfl, η.sub ⟨rfl, rfl, rfl, rfl, rfl, rfl, trivial⟩, σ.pick [1, 0] [2, 1, 0] (by decide), (Nat.zero_le _), rfl, rfl, rfl, (fun _ h => by cases h)⟩ ?_
 clear η σ a
 rintro mz a w53 ⟨j, Bk, dk, ks, Bh, dh, hs, rfl, η, σ, hj, hkl, hhl, hkh, hkq⟩
 rcases fr_cases hsh j with hv | ⟨s, t, he0, hf⟩ | ⟨s, t, x, he0, hf, hx⟩
 ·refine wp_seq (region_seq ?_)
  refine sv (v := .bool (decide (((j : Nat) : Int) < ((n0 : Nat) : Int)))) η rfl (rn_bin η rfl rfl rfl) ?_
  clear η a; intro a η
  refine wpList_nil (th_n (wp_seq ?_))
  refine if_split η rfl (fun hc54 => ?_) (fun hc54 => ?_)
  ·exfalso; have q := of_decide_eq_true hc54; have := List.getElem?_eq_none_iff.1 hv; omega
  ·obtain rfl : n0 = j := by have := of_decide_eq_false hc54; omega
   replace σ := σ.giveRow (k := 0) (j := 1) rfl rfl hkl
   replace σ := σ.giveRow (k := 0) (j := 4) rfl rfl hhl
   replace σ : St w0 _ [] [pfRow fH FH 4 Bh n0 dh hs, pfRd 4 Bh n0 dh (fl fH hs), pfRow fK FK 4 Bk n0 dk ks, pfRd 4 Bk n0 dk (fl fK ks), pfRow fF FF 2 A0 n0 c0 es0, pfEs FK ks, pfEs FH hs] := σ
   obtain ⟨rs, hrs⟩ : ∃ rs, ks.map kr = rs := ⟨_, rfl⟩
   have hrsh : hs.map kr = rs := hkh.trans hrs
   rw [hrs] at hkq
   have hrl : rs.length = n0 := by rw [← hrs, List.length_map, hkl]
   have hDs := cmD_sz hkq
   have edD := dl_zl (cmD rs)
   have hsm : Qs 4813 (smQ rs) := (smQ_sz hkq).mono (by omega)
   refine wp_exit (th_x (th_x (bl_x (th_n (wp_seq (region_seq ?_))))))
   refine sv (v := .slice Bk n0 dk) η rfl (rn_move η rfl) ?_
   clear η a; intro a η
   refine seq_step rfl (op_call η rfl Tryd.call70 rfl (common_q (σ.pat (k := 2) rfl) hrs hkq hn) ?_)
   rintro e w64 ⟨_, _, rfl, ⟨A55, c56, es57, rfl, hr, hl58, hz59, hnl60⟩, ⟨A61, c62, rfl, hz63⟩, hb⟩
   refine ⟨_, rfl, ?_⟩
   clear η a; intro a η
   replace σ := (σ.freshRd hb hr hl58 (ap_N hr.2.1 trivial)).addZ hz63 trivial
   clear hr hz63
   clear hb
   revert a
   refine mA rfl rfl ?_
   refine sA (v := .slice A55 n0 c56) rfl (fun _ η => rn_extract η rfl rfl) ?_
   refine sA (v := .agg #[.bool (neg (cmD rs)), .slice A61 (zl (cmD rs)) c62]) rfl (fun _ η => rn_extract η rfl rfl) ?_
   intro a η
   refine seq_step rfl (op_alloc (c := #[.bool (neg 0), .slice none (zl 0) 0]) η σ rfl zero_anvil_integer_Int zcells ?_)
   clear η σ a; intro a w66 g65 η σ
   refine sv (v := .slice A55 n0 c56) η rfl (rn_assign η rfl) ?_
   clear η a; intro a η
   refine seq_step rfl (op_store (k := 0) (c' := #[.bool (neg (cmD rs)), .slice A61 (zl (cmD rs)) c62]) η σ (ty_anvil_integer_Int.size) rfl rfl rfl rfl (by simp) rfl rfl ?_)
   clear η σ a; intro a w67 η σ
   refine wpList_nil (th_n (wp_seq (region_seq ?_)))
   refine sv (v := .slice Bh n0 dh) η rfl (rn_move η rfl) ?_
   clear η a; intro a η
   refine seq_step rfl (op_call η rfl Tryd.call71 rfl (common_y (σ.pat (k := 2) rfl) hrsh hkq hn) ?_)
   rintro e w77 ⟨_, _, rfl, ⟨A68, c69, es70, rfl, hr, hl71, hz72, hnl73⟩, ⟨A74, c75, rfl, hz76⟩, hb⟩
   refine ⟨_, rfl, ?_⟩
   clear η a; intro a η
   replace σ := (σ.freshRd hb hr hl71 (ap_M hr.2.1 ⟨nou_bk rfl, trivial⟩)).addR hz76 ⟨nou_bk rfl, trivial⟩
   clear hr hz76
   clear hb
   revert a
   refine mA rfl rfl ?_
   refine sA (v := .slice A68 n0 c69) rfl (fun _ η => rn_extract η rfl rfl) ?_
   refine sA (v := .agg #[.bool (neg (cmD rs)), .slice A74 (dl (cmD rs)) c75]) rfl (fun _ η => rn_extract η rfl rfl) ?_
   intro a η
   refine seq_step rfl (op_alloc (c := #[.bool (neg 0), .slice none (dl 0) 0]) η σ rfl zero_anvil_anvilref02_Int rcells ?_)
   clear η σ a; intro a w79 g78 η σ
   refine sv (v := .slice A68 n0 c69) η rfl (rn_assign η rfl) ?_
   clear η a; intro a η
   refine seq_step rfl (op_store (k := 0) (c' := #[.bool (neg (cmD rs)), .slice A74 (dl (cmD rs)) c75]) η σ (ty_anvil_anvilref02_Int.size) rfl rfl rfl rfl (by simp) rfl rfl ?_)
   clear η σ a; intro a w80 η σ
   refine wpList_nil (th_n (wp_seq (wp_seq ?_)))
   refine cut (fun a w => Env 110 a [(0, .slice A0 n0 c0), (3, .slice Bk n0 dk), (4, .slice Bh n0 dh), (19, .slice A0 n0 c0), (20, .int .i64 (n0 : Nat)), (21, .int .i64 (n0 : Nat)), (22, .bool (decide (((n0 : Nat) : Int) < ((n0 : Nat) : Int)))), (43, .slice Bk n0 dk), (44, .tuple #[.slice A55 n0 c56, .agg #[.bool (neg (cmD rs)), .slice A61 (zl (cmD rs)) c62]]), (42, .tuple #[.slice A55 n0 c56, .agg #[.bool (neg (cmD rs)), .slice A61 (zl (cmD rs)) c62]]), (45, .slice A55 n0 c56), (46, .agg #[.bool (neg (cmD rs)), .slice A61 (zl (cmD rs)) c62]), (11, .pointer (some ⟨g65, 0, none⟩)), (10, .slice A55 n0 c56), (48, .slice Bh n0 dh), (49, .tuple #[.slice A68 n0 c69, .agg #[.bool (neg (cmD rs)), .slice A74 (dl (cmD rs)) c75]]), (47, .tuple #[.slice A68 n0 c69, .agg #[.bool (neg (cmD rs)), .slice A74 (dl (cmD rs)) c75]]), (50, .slice A68 n0 c69), (51, .agg #[.bool (neg (cmD rs)), .slice A74 (dl (cmD rs)) c75]), (13, .pointer (some ⟨g78, 0, none⟩)), (12, .slice A68 n0 c69), (80, .bool false)] ∧ St w0 w [bk g78 #[.bool (neg (cmD rs)), .slice A74 (dl (cmD rs)) c75] 39, bk g65 #[.bool (neg (cmD rs)), .slice A61 (zl (cmD rs)) c62] 36] [pfR A74 c75 (cmD rs), pfRow fM FM 2 A68 n0 c69 es70, pfZ A61 c62 (cmD rs), pfRow fN FN 2 A55 n0 c56 es57, pfRow fH FH 4 Bh n0 dh hs, pfRd 4 Bh n0 dh (fl fH hs), pfRow fK FK 4 Bk n0 dk ks, pfRd 4 Bk n0 dk (fl fK ks), pfRow fF FF 2 A0 n0 c0 es0, pfEs FK ks, pfEs FH hs]) ?_ ?_
   ·rcases Nat.eq_zero_or_pos n0 with hz0 | hz0
    ·refine region_any (n := 29) (Sk [bk g78 #[.bool (neg (cmD rs)), .slice A74 (dl (cmD rs)) c75] 39, bk g65 #[.bool (neg (cmD rs)), .slice A61 (zl (cmD rs)) c62] 36] [pfR A74 c75 (cmD rs), pfRow fM FM 2 A68 n0 c69 es70, pfZ A61 c62 (cmD rs), pfRow fN FN 2 A55 n0 c56 es57, pfRow fH FH 4 Bh n0 dh hs, pfRd 4 Bh n0 dh (fl fH hs), pfRow fK FK 4 Bk n0 dk ks, pfRd 4 Bk n0 dk (fl fK ks), pfRow fF FF 2 A0 n0 c0 es0, pfEs FK ks, pfEs FH hs] [] []) mixed rfl η σ ?_
     clear η σ; intro w81 η σ
     refine tM (i := 0) [1, 4, 5, 6, 7, 8, 9, 10, 11, 12, 13, 14, 15, 16, 17, 18, 19, 20, 21, 22, 23, 24, 25, 26, 27, 28] rfl (by kernel_rfl) (fun _ _ _ h => h) η rfl rfl ?_
     clear η a; intro a η
     refine tA (i := 1) (rg 4 25) (v := .int .i64 (n0 : Nat)) rfl (by kernel_rfl) (fun _ _ _ h => h) η rfl (fun _ => rn_len η Tryd.underlying30 rfl) ?_
     clear η a; intro a η
     refine tM (i := 2) (rg 3 26) rfl (by kernel_rfl) (fun _ _ _ h => h) η rfl rfl ?_
     clear η a; intro a η
     refine tA (i := 3) (rg 4 25) (v := .int .i64 (n0 : Nat)) rfl (by kernel_rfl) (fun _ _ _ h => h) η rfl (fun _ => rn_len η Tryd.underlying31 rfl) ?_
     clear η a; intro a η
     refine tA (i := 4) (rg 5 24) (v := .bool (((n0 : Nat) : Int) != ((n0 : Nat) : Int))) rfl (by kernel_rfl) (fun _ _ _ h => h) η rfl (fun _ => rn_bin η rfl rfl rfl) ?_
     clear η a; intro a η
     rw [show (((n0 : Nat) : Int) != ((n0 : Nat) : Int)) = false from (bne_self_eq_false _)] at η
     refine tM (i := 5) (rg 6 23) rfl (by kernel_rfl) (fun _ _ _ h => h) η rfl rfl ?_
     clear η a; intro a η
     refine tAg (i := 6) (rg 7 22) (v := .slice A0 n0 c0) rfl (by kernel_rfl) (fun _ _ _ h => h) η rfl rfl rfl rfl (fun _ => rn_move η rfl) ?_
     clear η a; intro a η
     refine tAg (i := 7) (rg 8 21) (v := .int .i64 (n0 : Nat)) rfl (by kernel_rfl) (fun _ _ _ h => h) η rfl rfl rfl rfl (fun _ => rn_len η Tryd.underlying103 rfl) ?_
     clear η a; intro a η
     refine tAg (i := 8) (rg 9 20) (v := .bool (((n0 : Nat) : Int) == (0 : Int))) rfl (by kernel_rfl) (fun _ _ _ h => h) η rfl rfl rfl rfl (fun _ => rn_bin η rfl rfl rfl) ?_
     clear η a; intro a η
     rw [show (((n0 : Nat) : Int) == (0 : Int)) = true from (beq_iff_eq.2 (by omega))] at η
     refine tAg (i := 9) (rg 10 19) (v := .bool true) rfl (by kernel_rfl) (fun _ _ _ h => h) η rfl rfl rfl rfl (fun _ => rn_move η rfl) ?_
     clear η a; intro a η
     refine tAg (i := 10) (rg 11 18) (v := .slice A55 n0 c56) rfl (by kernel_rfl) (fun _ _ _ h => h) η rfl rfl rfl rfl (fun _ => rn_move η rfl) ?_
     clear η a; intro a η
     refine tAg (i := 11) (rg 12 17) (v := .bool (!A55.isNone)) rfl (by kernel_rfl) (fun _ _ _ h => h) η rfl rfl rfl rfl (fun _ => rn_nilN η Tryd.underlying30 rfl) ?_
     clear η a; intro a η
     rw [show (!A55.isNone) = false from (by rw [hnl60 (by omega)]; rfl)] at η
     refine tAg (i := 12) (rg 13 16) (v := .bool false) rfl (by kernel_rfl) (fun _ _ _ h => h) η rfl rfl rfl rfl (fun _ => rn_pick η rfl rfl) ?_
     clear η a; intro a η
     refine tA (i := 13) (rg 14 15) (v := .bool false) rfl (by kernel_rfl) (fun _ _ _ h => h) η rfl (fun _ => rn_pick η rfl rfl) ?_
     clear η a; intro a η
     refine tM (i := 14) (rg 15 14) rfl (by kernel_rfl) (fun _ _ _ h => h) η rfl rfl ?_
     clear η a; intro a η
     refine tLg (i := 15) 1 1 [16, 18, 19, 20, 21, 22, 23, 24, 25, 26, 27, 28] rfl (by kernel_rfl) (fun _ _ _ h => h) η rfl rfl rfl rfl ty_anvil_integer_Int rfl σ rfl rfl rfl ?_
     clear η a; intro a η
     refine tLg (i := 17) 0 0 (rg 18 11) rfl (by kernel_rfl) (fun _ _ _ h => h) η rfl rfl rfl rfl ty_anvil_anvilref02_Int rfl σ rfl rfl rfl ?_
     clear η a; intro a η
     refine sAny_oneg (i := 16) (by kernel_rfl) rfl rfl η rfl rfl rfl (op_call η rfl Tryd.call72 rfl (text_z (z := (cmD rs)) (show ZIn _ A61 c62 (cmD rs) from σ.pat (k := 2) rfl) (by omega)) ?_)
     rintro e w82 ⟨rfl, hb⟩
     refine ⟨_, rfl, ?_⟩
     clear η a; intro a η
     replace σ := σ.call hb
     clear hb
     refine ⟨.inr ⟨σ.kn.pick [0, 1] (rg 0 11), .inr (σ.kn.pick [] [])⟩, ?_⟩
     refine sAny_oneg (i := 18) (by kernel_rfl) rfl rfl η rfl rfl rfl (op_call η rfl Tryd.call73 rfl (text_r (z := (cmD rs)) (show RIn _ A74 c75 (cmD rs) from σ.pat (k := 0) rfl) (by omega)) ?_)
     rintro e w83 ⟨rfl, hb⟩
     refine ⟨_, rfl, ?_⟩
     clear η a; intro a η
     replace σ := σ.call hb
     clear hb
     refine ⟨.inr ⟨σ.kn.pick [0, 1] (rg 0 11), .inr (σ.kn.pick [] [])⟩, ?_⟩
     refine tAg (i := 19) (rg 20 9) (v := .bool (!decide ((textZ (cmD rs)) = (textZ (cmD rs))))) rfl (by kernel_rfl) (fun _ _ _ h => h) η rfl rfl rfl rfl (fun _ => rn_neqs (s := (textZ (cmD rs))) (t := (textZ (cmD rs))) η rfl rfl) ?_
     clear η a; intro a η
     rw [show (!decide ((textZ (cmD rs)) = (textZ (cmD rs)))) = false from (by rw [decide_eq_true rfl]; rfl)] at η
     refine tA (i := 20) (rg 21 8) (v := .bool false) rfl (by kernel_rfl) (fun _ _ _ h => h) η rfl (fun _ => rn_pick η rfl rfl) ?_
     clear η a; intro a η
     refine tM (i := 21) (rg 22 7) rfl (by kernel_rfl) (fun _ _ _ h => h) η rfl rfl ?_
     clear η a; intro a η
     refine tAg (i := 22) [23, 25, 26, 27, 28] (v := .slice Bk n0 dk) rfl (by kernel_rfl) (fun _ _ _ h => h) η rfl rfl rfl rfl (fun _ => rn_move η rfl) ?_
     clear η a; intro a η
     refine tAg (i := 24) (rg 25 4) (v := .slice Bh n0 dh) rfl (by kernel_rfl) (fun _ _ _ h => h) η rfl rfl rfl rfl (fun _ => rn_move η rfl) ?_
     clear η a; intro a η
     refine sAny_oneg (i := 23) (by kernel_rfl) rfl rfl η rfl rfl rfl (op_call η rfl Tryd.call75 rfl (sum_q (σ.pat (k := 6) rfl) hrs hkq hn) ?_)
     rintro e w90 ⟨_, rfl, ⟨A84, c85, B86, d87, rfl, hz88, hz89⟩, hb⟩
     refine ⟨_, rfl, ?_⟩
     clear η a; intro a η
     replace σ := ((σ.call hb).addZ hz88 ⟨nou_bk rfl, nou_bk rfl, trivial⟩).addZ hz89 ⟨nou_bk rfl, nou_bk rfl, trivial⟩
     clear hz88 hz89
     clear hb
     refine ⟨.inr ⟨σ.kn.pick [0, 1] (rg 2 11), .inr (σ.kn.pick [] [])⟩, ?_⟩
     refine sAny_oneg (i := 25) (by kernel_rfl) rfl rfl η rfl rfl rfl (op_call η rfl Tryd.call76 rfl (sum_y (σ.pat (k := 6) rfl) hrsh hkq hn) ?_)
     rintro e w97 ⟨_, rfl, ⟨A91, c92, B93, d94, rfl, hz95, hz96⟩, hb⟩
     refine ⟨_, rfl, ?_⟩
     clear η a; intro a η
     replace σ := ((σ.call hb).addR hz95 ⟨nou_bk rfl, nou_bk rfl, trivial⟩).addR hz96 ⟨nou_bk rfl, nou_bk rfl, trivial⟩
     clear hz95 hz96
     clear hb
     refine ⟨.inr ⟨σ.kn.pick [0, 1] (rg 4 11), .inr (σ.kn.pick [] [])⟩, ?_⟩
     refine sAny_oneg (i := 26) (by kernel_rfl) rfl rfl η rfl rfl rfl (op_call η rfl Tryd.call74 rfl (is_qy (r := smQ rs) (show ZIn _ A84 c85 (qn (smQ rs)) from σ.pat (k := 3) rfl) (show ZIn _ B86 d87 (ql (smQ rs)) from σ.pat (k := 2) rfl) (show RIn _ A91 c92 (qn (smQ rs)) from σ.pat (k := 1) rfl) (show RIn _ B93 d94 (qd (smQ rs)) from σ.pat (k := 0) rfl) hsm (by omega)) ?_)
     rintro e w98 ⟨rfl, hb⟩
     refine ⟨_, rfl, ?_⟩
     clear η a; intro a η
     replace σ := σ.call hb
     clear hb
     refine ⟨.inr ⟨σ.kn.pick [0, 1] (rg 4 11), .inr (σ.kn.pick [] [])⟩, ?_⟩
     refine tAg (i := 27) [28] (v := .bool false) rfl (by kernel_rfl) (fun _ _ _ h => h) η rfl rfl rfl rfl (fun _ => rn_un η rfl rfl) ?_
     clear η a; intro a η
     refine tA (i := 28) [] (v := .bool false) rfl (by kernel_rfl) (fun _ _ _ h => h) η rfl (fun _ => rn_pick η rfl rfl) ?_
     clear η a; intro a η
     refine sAny_done (by kernel_rfl) ?_ _
     exact th_n ⟨η.sub ⟨rfl, rfl, rfl, rfl, rfl, rfl, rfl, rfl, rfl, rfl, rfl, rfl, rfl, rfl, rfl, rfl, rfl, rfl, rfl, rfl, rfl, rfl, trivial⟩, σ.pick [0, 1] [4, 5, 6, 7, 8, 9, 10, 11, 12, 13, 14] (by decide)⟩
    ·refine region_any (n := 29) (Sk [bk g78 #[.bool (neg (cmD rs)), .slice A74 (dl (cmD rs)) c75] 39, bk g65 #[.bool (neg (cmD rs)), .slice A61 (zl (cmD rs)) c62] 36] [pfR A74 c75 (cmD rs), pfRow fM FM 2 A68 n0 c69 es70, pfZ A61 c62 (cmD rs), pfRow fN FN 2 A55 n0 c56 es57, pfRow fH FH 4 Bh n0 dh hs, pfRd 4 Bh n0 dh (fl fH hs), pfRow fK FK 4 Bk n0 dk ks, pfRd 4 Bk n0 dk (fl fK ks), pfRow fF FF 2 A0 n0 c0 es0, pfEs FK ks, pfEs FH hs] [] []) mixed rfl η σ ?_
     clear η σ; intro w99 η σ
     refine tM (i := 0) [1, 4, 5, 6, 7, 8, 9, 10, 11, 12, 13, 14, 15, 16, 17, 18, 19, 20, 21, 22, 23, 24, 25, 26, 27, 28] rfl (by kernel_rfl) (fun _ _ _ h => h) η rfl rfl ?_
     clear η a; intro a η
     refine tA (i := 1) (rg 4 25) (v := .int .i64 (n0 : Nat)) rfl (by kernel_rfl) (fun _ _ _ h => h) η rfl (fun _ => rn_len η Tryd.underlying30 rfl) ?_
     clear η a; intro a η
     refine tM (i := 2) (rg 3 26) rfl (by kernel_rfl) (fun _ _ _ h => h) η rfl rfl ?_
     clear η a; intro a η
     refine tA (i := 3) (rg 4 25) (v := .int .i64 (n0 : Nat)) rfl (by kernel_rfl) (fun _ _ _ h => h) η rfl (fun _ => rn_len η Tryd.underlying31 rfl) ?_
     clear η a; intro a η
     refine tA (i := 4) (rg 5 24) (v := .bool (((n0 : Nat) : Int) != ((n0 : Nat) : Int))) rfl (by kernel_rfl) (fun _ _ _ h => h) η rfl (fun _ => rn_bin η rfl rfl rfl) ?_
     clear η a; intro a η
     rw [show (((n0 : Nat) : Int) != ((n0 : Nat) : Int)) = false from (bne_self_eq_false _)] at η
     refine tM (i := 5) (rg 6 23) rfl (by kernel_rfl) (fun _ _ _ h => h) η rfl rfl ?_
     clear η a; intro a η
     refine tAg (i := 6) (rg 7 22) (v := .slice A0 n0 c0) rfl (by kernel_rfl) (fun _ _ _ h => h) η rfl rfl rfl rfl (fun _ => rn_move η rfl) ?_
     clear η a; intro a η
     refine tAg (i := 7) (rg 8 21) (v := .int .i64 (n0 : Nat)) rfl (by kernel_rfl) (fun _ _ _ h => h) η rfl rfl rfl rfl (fun _ => rn_len η Tryd.underlying103 rfl) ?_
     clear η a; intro a η
     refine tAg (i := 8) (rg 9 20) (v := .bool (((n0 : Nat) : Int) == (0 : Int))) rfl (by kernel_rfl) (fun _ _ _ h => h) η rfl rfl rfl rfl (fun _ => rn_bin η rfl rfl rfl) ?_
     clear η a; intro a η
     rw [show (((n0 : Nat) : Int) == (0 : Int)) = false from (beq_eq_false_iff_ne.2 (by omega))] at η
     refine tAg (i := 9) (rg 10 19) (v := .bool false) rfl (by kernel_rfl) (fun _ _ _ h => h) η rfl rfl rfl rfl (fun _ => rn_move η rfl) ?_
     clear η a; intro a η
     refine sAny_skipg (i := 10) [11, 12, 13, 14, 15, 16, 17, 18, 19, 20, 21, 22, 23, 24, 25, 26, 27, 28] rfl (by kernel_rfl) (fun _ _ _ h => h) η rfl rfl rfl rfl rfl ?_
     clear η a; intro a η
     refine sAny_skipg (i := 11) [12, 13, 14, 15, 16, 17, 18, 19, 20, 21, 22, 23, 24, 25, 26, 27, 28] rfl (by kernel_rfl) (fun _ _ _ h => h) η rfl rfl rfl rfl rfl ?_
     clear η a; intro a η
     refine tAg (i := 12) (rg 13 16) (v := .bool false) rfl (by kernel_rfl) (fun _ _ _ h => h) η rfl rfl rfl rfl (fun _ => rn_pick η rfl rfl) ?_
     clear η a; intro a η
     refine tA (i := 13) (rg 14 15) (v := .bool false) rfl (by kernel_rfl) (fun _ _ _ h => h) η rfl (fun _ => rn_pick η rfl rfl) ?_
     clear η a; intro a η
     refine tM (i := 14) (rg 15 14) rfl (by kernel_rfl) (fun _ _ _ h => h) η rfl rfl ?_
     clear η a; intro a η
     refine tLg (i := 15) 1 1 [16, 18, 19, 20, 21, 22, 23, 24, 25, 26, 27, 28] rfl (by kernel_rfl) (fun _ _ _ h => h) η rfl rfl rfl rfl ty_anvil_integer_Int rfl σ rfl rfl rfl ?_
     clear η a; intro a η
     refine tLg (i := 17) 0 0 (rg 18 11) rfl (by kernel_rfl) (fun _ _ _ h => h) η rfl rfl rfl rfl ty_anvil_anvilref02_Int rfl σ rfl rfl rfl ?_
     clear η a; intro a η
     refine sAny_oneg (i := 16) (by kernel_rfl) rfl rfl η rfl rfl rfl (op_call η rfl Tryd.call72 rfl (text_z (z := (cmD rs)) (show ZIn _ A61 c62 (cmD rs) from σ.pat (k := 2) rfl) (by omega)) ?_)
     rintro e w100 ⟨rfl, hb⟩
     refine ⟨_, rfl, ?_⟩
     clear η a; intro a η
     replace σ := σ.call hb
     clear hb
     refine ⟨.inr ⟨σ.kn.pick [0, 1] (rg 0 11), .inr (σ.kn.pick [] [])⟩, ?_⟩
     refine sAny_oneg (i := 18) (by kernel_rfl) rfl rfl η rfl rfl rfl (op_call η rfl Tryd.call73 rfl (text_r (z := (cmD rs)) (show RIn _ A74 c75 (cmD rs) from σ.pat (k := 0) rfl) (by omega)) ?_)
     rintro e w101 ⟨rfl, hb⟩
     refine ⟨_, rfl, ?_⟩
     clear η a; intro a η
     replace σ := σ.call hb
     clear hb
     refine ⟨.inr ⟨σ.kn.pick [0, 1] (rg 0 11), .inr (σ.kn.pick [] [])⟩, ?_⟩
     refine tAg (i := 19) (rg 20 9) (v := .bool (!decide ((textZ (cmD rs)) = (textZ (cmD rs))))) rfl (by kernel_rfl) (fun _ _ _ h => h) η rfl rfl rfl rfl (fun _ => rn_neqs (s := (textZ (cmD rs))) (t := (textZ (cmD rs))) η rfl rfl) ?_
     clear η a; intro a η
     rw [show (!decide ((textZ (cmD rs)) = (textZ (cmD rs)))) = false from (by rw [decide_eq_true rfl]; rfl)] at η
     refine tA (i := 20) (rg 21 8) (v := .bool false) rfl (by kernel_rfl) (fun _ _ _ h => h) η rfl (fun _ => rn_pick η rfl rfl) ?_
     clear η a; intro a η
     refine tM (i := 21) (rg 22 7) rfl (by kernel_rfl) (fun _ _ _ h => h) η rfl rfl ?_
     clear η a; intro a η
     refine tAg (i := 22) [23, 25, 26, 27, 28] (v := .slice Bk n0 dk) rfl (by kernel_rfl) (fun _ _ _ h => h) η rfl rfl rfl rfl (fun _ => rn_move η rfl) ?_
     clear η a; intro a η
     refine tAg (i := 24) (rg 25 4) (v := .slice Bh n0 dh) rfl (by kernel_rfl) (fun _ _ _ h => h) η rfl rfl rfl rfl (fun _ => rn_move η rfl) ?_
     clear η a; intro a η
     refine sAny_oneg (i := 23) (by kernel_rfl) rfl rfl η rfl rfl rfl (op_call η rfl Tryd.call75 rfl (sum_q (σ.pat (k := 6) rfl) hrs hkq hn) ?_)
     rintro e w108 ⟨_, rfl, ⟨A102, c103, B104, d105, rfl, hz106, hz107⟩, hb⟩
     refine ⟨_, rfl, ?_⟩
     clear η a; intro a η
     replace σ := ((σ.call hb).addZ hz106 ⟨nou_bk rfl, nou_bk rfl, trivial⟩).addZ hz107 ⟨nou_bk rfl, nou_bk rfl, trivial⟩
     clear hz106 hz107
     clear hb
     refine ⟨.inr ⟨σ.kn.pick [0, 1] (rg 2 11), .inr (σ.kn.pick [] [])⟩, ?_⟩
     refine sAny_oneg (i := 25) (by kernel_rfl) rfl rfl η rfl rfl rfl (op_call η rfl Tryd.call76 rfl (sum_y (σ.pat (k := 6) rfl) hrsh hkq hn) ?_)
     rintro e w115 ⟨_, rfl, ⟨A109, c110, B111, d112, rfl, hz113, hz114⟩, hb⟩
     refine ⟨_, rfl, ?_⟩
     clear η a; intro a η
     replace σ := ((σ.call hb).addR hz113 ⟨nou_bk rfl, nou_bk rfl, trivial⟩).addR hz114 ⟨nou_bk rfl, nou_bk rfl, trivial⟩
     clear hz113 hz114
     clear hb
     refine ⟨.inr ⟨σ.kn.pick [0, 1] (rg 4 11), .inr (σ.kn.pick [] [])⟩, ?_⟩
     refine sAny_oneg (i := 26) (by kernel_rfl) rfl rfl η rfl rfl rfl (op_call η rfl Tryd.call74 rfl (is_qy (r := smQ rs) (show ZIn _ A102 c103 (qn (smQ rs)) from σ.pat (k := 3) rfl) (show ZIn _ B104 d105 (ql (smQ rs)) from σ.pat (k := 2) rfl) (show RIn _ A109 c110 (qn (smQ rs)) from σ.pat (k := 1) rfl) (show RIn _ B111 d112 (qd (smQ rs)) from σ.pat (k := 0) rfl) hsm (by omega)) ?_)
     rintro e w116 ⟨rfl, hb⟩
     refine ⟨_, rfl, ?_⟩
     clear η a; intro a η
     replace σ := σ.call hb
     clear hb
     refine ⟨.inr ⟨σ.kn.pick [0, 1] (rg 4 11), .inr (σ.kn.pick [] [])⟩, ?_⟩
     refine tAg (i := 27) [28] (v := .bool false) rfl (by kernel_rfl) (fun _ _ _ h => h) η rfl rfl rfl rfl (fun _ => rn_un η rfl rfl) ?_
     clear η a; intro a η
     refine tA (i := 28) [] (v := .bool false) rfl (by kernel_rfl) (fun _ _ _ h => h) η rfl (fun _ => rn_pick η rfl rfl) ?_
     clear η a; intro a η
     refine sAny_done (by kernel_rfl) ?_ _
     exact th_n ⟨η.sub ⟨rfl, rfl, rfl, rfl, rfl, rfl, rfl, rfl, rfl, rfl, rfl, rfl, rfl, rfl, rfl, rfl, rfl, rfl, rfl, rfl, rfl, rfl, trivial⟩, σ.pick [0, 1] [4, 5, 6, 7, 8, 9, 10, 11, 12, 13, 14] (by decide)⟩
   clear η σ a
   rintro a w117 ⟨η, σ⟩
   refine if_f η rfl (rfl) ?_
   refine wp_skip (th_n (wp_seq (wp_seq (region_seq ?_))))
   revert a
   refine mA rfl rfl ?_
   refine sA (v := .int .i64 (n0 : Nat)) rfl (fun _ η => rn_len η Tryd.underlying30 rfl) ?_
   refine mA rfl rfl ?_
   intro a η
   refine wpList_nil (th_n (wp_block ?_))
   refine wp_loop_ghost (fun mz a w => ∃ m : Nat, n0 - m = mz ∧ Env 110 a [(3, .slice Bk n0 dk), (4, .slice Bh n0 dh), (10, .slice A55 n0 c56), (12, .slice A68 n0 c69), (81, .slice A55 n0 c56), (82, .int .i64 (n0 : Nat)), (83, .int .i64 (m : Nat))] ∧ St w0 w [] [pfRow fM FM 2 A68 n0 c69 es70, pfRow fN FN 2 A55 n0 c56 es57, pfRow fH FH 4 Bh n0 dh hs, pfRow fK FK 4 Bk n0 dk ks] ∧ m ≤ n0) _ ⟨0, rfl, η.sub ⟨rfl, rfl, rfl, rfl, rfl, rfl, rfl, trivial⟩, σ.pick [] [1, 3, 4, 6] (by decide), (Nat.zero_le _)⟩ ?_
   clear η σ a
   rintro mz a w118 ⟨m, rfl, η, σ, hm⟩
   refine wp_seq (region_seq ?_)
   refine sv (v := .bool (decide (((m : Nat) : Int) < ((n0 : Nat) : Int)))) η rfl (rn_bin η rfl rfl rfl) ?_
   clear η a; intro a η
   refine wpList_nil (th_n (wp_seq ?_))
   refine if_split η rfl (fun hc119 => ?_) (fun hc119 => ?_)
   ·have hlm : m < n0 := by have := of_decide_eq_true hc119; omega
    obtain ⟨r, hrj⟩ : ∃ r, rs[m]? = some r := ⟨_, List.getElem?_eq_getElem (by omega)⟩
    have hse := hkq r (List.mem_of_getElem? hrj)
    obtain ⟨A1, c1, B1, d1, hk1⟩ := kr_of hrs hrj
    obtain ⟨A2, c2, B2, d2, hk2⟩ := kr_of hrsh hrj
    obtain ⟨A3, c3, hk3⟩ := zz_at hz59 (cmN_at hrj)
    obtain ⟨A4, c4, hk4⟩ := zz_at hz72 (cmN_at hrj)
    have hz1 := zl_mul (qn r) (cmD rs / qd r)
    have hz2 := zl_ediv (cmD rs) (qd r)
    have hnr := hse.n
    have ezz := dl_zl (qn r * (cmD rs / qd r))
    replace σ := σ.elem (k := 3) rfl hk1
    replace σ := σ.split2 (k := 0) rfl
    replace σ : St w0 _ [] [pfZ A1 c1 (qn r), pfZ B1 d1 (ql r), FK (A1, c1, B1, d1, r), pfRow fM FM 2 A68 n0 c69 es70, pfRow fN FN 2 A55 n0 c56 es57, pfRow fH FH 4 Bh n0 dh hs, pfRow fK FK 4 Bk n0 dk ks] := σ
    replace σ := σ.elem (k := 5) rfl hk2
    replace σ := σ.split2 (k := 0) rfl
    replace σ : St w0 _ [] [pfR A2 c2 (qn r), pfR B2 d2 (qd r), FH (A2, c2, B2, d2, r), pfZ A1 c1 (qn r), pfZ B1 d1 (ql r), FK (A1, c1, B1, d1, r), pfRow fM FM 2 A68 n0 c69 es70, pfRow fN FN 2 A55 n0 c56 es57, pfRow fH FH 4 Bh n0 dh hs, pfRow fK FK 4 Bk n0 dk ks] := σ
    replace σ := σ.elem (k := 7) rfl hk3
    replace σ : St w0 _ [] [pfZ A3 c3 (qn r * (cmD rs / qd r)), pfR A2 c2 (qn r), pfR B2 d2 (qd r), FH (A2, c2, B2, d2, r), pfZ A1 c1 (qn r), pfZ B1 d1 (ql r), FK (A1, c1, B1, d1, r), pfRow fM FM 2 A68 n0 c69 es70, pfRow fN FN 2 A55 n0 c56 es57, pfRow fH FH 4 Bh n0 dh hs, pfRow fK FK 4 Bk n0 dk ks] := σ
    replace σ := σ.elem (k := 7) rfl hk4
    replace σ : St w0 _ [] [pfR A4 c4 (qn r * (cmD rs / qd r)), pfZ A3 c3 (qn r * (cmD rs / qd r)), pfR A2 c2 (qn r), pfR B2 d2 (qd r), FH (A2, c2, B2, d2, r), pfZ A1 c1 (qn r), pfZ B1 d1 (ql r), FK (A1, c1, B1, d1, r), pfRow fM FM 2 A68 n0 c69 es70, pfRow fN FN 2 A55 n0 c56 es57, pfRow fH FH 4 Bh n0 dh hs, pfRow fK FK 4 Bk n0 dk ks] := σ
    refine wp_skip (th_n (wp_seq (wp_block (wp_seq (region_seq ?_)))))
    revert a
    refine mA rfl rfl ?_
    refine aA rfl rfl ?_
    intro a η
    refine wpList_nil (th_n (wp_seq ?_))
    refine region_any (n := 23) (Sk [] [pfR A4 c4 (qn r * (cmD rs / qd r)), pfZ A3 c3 (qn r * (cmD rs / qd r)), pfR A2 c2 (qn r), pfR B2 d2 (qd r), FH (A2, c2, B2, d2, r), pfZ A1 c1 (qn r), pfZ B1 d1 (ql r), FK (A1, c1, B1, d1, r), pfRow fM FM 2 A68 n0 c69 es70, pfRow fN FN 2 A55 n0 c56 es57, pfRow fH FH 4 Bh n0 dh hs, pfRow fK FK 4 Bk n0 dk ks] [] []) mixed rfl η σ ?_
    clear η σ; intro w120 η σ
    refine tM (i := 0) [2, 3, 4, 9, 10, 11, 12, 13, 14, 15, 16, 17, 18, 19, 20, 21, 22] rfl (by kernel_rfl) (fun _ _ _ h => h) η rfl rfl ?_
    clear η a; intro a η
    refine tM (i := 1) [2, 3, 4, 9, 10, 11, 12, 13, 14, 15, 16, 17, 18, 19, 20, 21, 22] rfl (by kernel_rfl) (fun _ _ _ h => h) η rfl rfl ?_
    clear η a; intro a η
    refine sAny_take (i := 2) [3, 4, 9, 10, 11, 12, 13, 14, 15, 16, 17, 18, 19, 20, 21, 22] (fun w' => (pfRow fN FN 2 A55 n0 c56 es57).P w') (v := .pointer (some ⟨ab A55, ao A55 + m * 2, none⟩)) rfl (by kernel_rfl) (fun _ _ _ h => h) (fun _ _ _ hS => hS.1.pat (k := 9) rfl) η rfl (σ.pat (k := 9) rfl) (fun w' hg => rn_idxR (i := m) η Tryd.underlying30 (ty_anvil_integer_Int.size) rfl rfl (by omega) rfl (show (pfRow fN FN 2 A55 n0 c56 es57).P _ from hg).1) ?_
    clear η a; intro a η
    refine sAny_take (i := 3) [4, 9, 10, 11, 12, 13, 14, 15, 16, 17, 18, 19, 20, 21, 22] (fun w' => (pfRow fN FN 2 A55 n0 c56 es57).P w') (v := .agg #[.bool (neg (qn r * (cmD rs / qd r))), .slice A3 (zl (qn r * (cmD rs / qd r))) c3]) rfl (by kernel_rfl) (fun _ _ _ h => h) (fun _ _ _ hS => hS.1.pat (k := 9) rfl) η rfl (σ.pat (k := 9) rfl) (fun w' hg => rn_loadE (i := m) (e := (A3, c3, (qn r * (cmD rs / qd r)))) η ty_anvil_integer_Int rfl rfl fN_len (show (pfRow fN FN 2 A55 n0 c56 es57).P _ from hg).1 (by omega) hk3 rfl) ?_
    clear η a; intro a η
    refine tM (i := 5) (rg 7 16) rfl (by kernel_rfl) (fun _ _ _ h => h) η rfl rfl ?_
    clear η a; intro a η
    refine tM (i := 6) (rg 7 16) rfl (by kernel_rfl) (fun _ _ _ h => h) η rfl rfl ?_
    clear η a; intro a η
    refine sAny_take (i := 7) [8, 9, 10, 11, 12, 13, 14, 15, 16, 17, 18, 19, 20, 21, 22] (fun w' => (pfRow fM FM 2 A68 n0 c69 es70).P w') (v := .pointer (some ⟨ab A68, ao A68 + m * 2, none⟩)) rfl (by kernel_rfl) (fun _ _ _ h => h) (fun _ _ _ hS => hS.1.pat (k := 8) rfl) η rfl (σ.pat (k := 8) rfl) (fun w' hg => rn_idxR (i := m) η Tryd.underlying31 (ty_anvil_anvilref02_Int.size) rfl rfl (by omega) rfl (show (pfRow fM FM 2 A68 n0 c69 es70).P _ from hg).1) ?_
    clear η a; intro a η
    refine sAny_take (i := 8) [9, 10, 11, 12, 13, 14, 15, 16, 17, 18, 19, 20, 21, 22] (fun w' => (pfRow fM FM 2 A68 n0 c69 es70).P w') (v := .agg #[.bool (neg (qn r * (cmD rs / qd r))), .slice A4 (dl (qn r * (cmD rs / qd r))) c4]) rfl (by kernel_rfl) (fun _ _ _ h => h) (fun _ _ _ hS => hS.1.pat (k := 8) rfl) η rfl (σ.pat (k := 8) rfl) (fun w' hg => rn_loadE (i := m) (e := (A4, c4, (qn r * (cmD rs / qd r)))) η ty_anvil_anvilref02_Int rfl rfl fM_len (show (pfRow fM FM 2 A68 n0 c69 es70).P _ from hg).1 (by omega) hk4 rfl) ?_
    clear η a; intro a η
    refine sAny_one (i := 4) (by kernel_rfl) rfl rfl (op_call η rfl Tryd.call72 rfl (text_z (z := (qn r * (cmD rs / qd r))) (show ZIn _ A3 c3 (qn r * (cmD rs / qd r)) from σ.pat (k := 1) rfl) (by omega)) ?_)
    rintro e w121 ⟨rfl, hb⟩
    refine ⟨_, rfl, ?_⟩
    clear η a; intro a η
    replace σ := σ.call hb
    clear hb
    refine ⟨.inr ⟨σ.kn.pick [] (rg 0 12), .inr (σ.kn.pick [] [])⟩, ?_⟩
    refine sAny_one (i := 9) (by kernel_rfl) rfl rfl (op_call η rfl Tryd.call73 rfl (text_r (z := (qn r * (cmD rs / qd r))) (show RIn _ A4 c4 (qn r * (cmD rs / qd r)) from σ.pat (k := 0) rfl) (by omega)) ?_)
    rintro e w122 ⟨rfl, hb⟩
    refine ⟨_, rfl, ?_⟩
    clear η a; intro a η
    replace σ := σ.call hb
    clear hb
    refine ⟨.inr ⟨σ.kn.pick [] (rg 0 12), .inr (σ.kn.pick [] [])⟩, ?_⟩
    refine tA (i := 10) (rg 11 12) (v := .bool (!decide ((textZ (qn r * (cmD rs / qd r))) = (textZ (qn r * (cmD rs / qd r)))))) rfl (by kernel_rfl) (fun _ _ _ h => h) η rfl (fun _ => rn_neqs (s := (textZ (qn r * (cmD rs / qd r)))) (t := (textZ (qn r * (cmD rs / qd r)))) η rfl rfl) ?_
    clear η a; intro a η
    rw [show (!decide ((textZ (qn r * (cmD rs / qd r))) = (textZ (qn r * (cmD rs / qd r))))) = false from (by rw [decide_eq_true rfl]; rfl)] at η
    refine tM (i := 11) (rg 12 11) rfl (by kernel_rfl) (fun _ _ _ h => h) η rfl rfl ?_
    clear η a; intro a η
    refine tAg (i := 12) [14, 15, 20, 21, 22] (v := .slice Bk n0 dk) rfl (by kernel_rfl) (fun _ _ _ h => h) η rfl rfl rfl rfl (fun _ => rn_move η rfl) ?_
    clear η a; intro a η
    refine tAg (i := 13) [14, 15, 20, 21, 22] (v := .int .i64 (m : Nat)) rfl (by kernel_rfl) (fun _ _ _ h => h) η rfl rfl rfl rfl (fun _ => rn_move η rfl) ?_
    clear η a; intro a η
    refine sAny_takeg (i := 14) [15, 20, 21, 22] (fun w' => (pfRow fK FK 4 Bk n0 dk ks).P w') (v := .pointer (some ⟨ab Bk, ao Bk + m * 4, none⟩)) rfl (by kernel_rfl) (fun _ _ _ h => h) (fun _ _ _ hS => hS.1.pat (k := 11) rfl) η rfl rfl rfl rfl (σ.pat (k := 11) rfl) (fun w' hg => rn_idxR (i := m) η Tryd.underlying105 (ty_anvil_ratio_Rat.size) rfl rfl (by omega) rfl (show (pfRow fK FK 4 Bk n0 dk ks).P _ from hg).1) ?_
    clear η a; intro a η
    refine sAny_takeg (i := 15) [20, 21, 22] (fun w' => (pfRow fK FK 4 Bk n0 dk ks).P w') (v := .agg #[.bool (neg (qn r)), .slice A1 (zl (qn r)) c1, .bool (neg (ql r)), .slice B1 (zl (ql r)) d1]) rfl (by kernel_rfl) (fun _ _ _ h => h) (fun _ _ _ hS => hS.1.pat (k := 11) rfl) η rfl rfl rfl rfl (σ.pat (k := 11) rfl) (fun w' hg => rn_loadE (i := m) (e := (A1, c1, B1, d1, r)) η ty_anvil_ratio_Rat rfl rfl fK_len (show (pfRow fK FK 4 Bk n0 dk ks).P _ from hg).1 (by omega) hk1 rfl) ?_
    clear η a; intro a η
    refine tAg (i := 16) (rg 18 5) (v := .slice Bh n0 dh) rfl (by kernel_rfl) (fun _ _ _ h => h) η rfl rfl rfl rfl (fun _ => rn_move η rfl) ?_
    clear η a; intro a η
    refine tAg (i := 17) (rg 18 5) (v := .int .i64 (m : Nat)) rfl (by kernel_rfl) (fun _ _ _ h => h) η rfl rfl rfl rfl (fun _ => rn_move η rfl) ?_
    clear η a; intro a η
    refine sAny_takeg (i := 18) [19, 20, 21, 22] (fun w' => (pfRow fH FH 4 Bh n0 dh hs).P w') (v := .pointer (some ⟨ab Bh, ao Bh + m * 4, none⟩)) rfl (by kernel_rfl) (fun _ _ _ h => h) (fun _ _ _ hS => hS.1.pat (k := 10) rfl) η rfl rfl rfl rfl (σ.pat (k := 10) rfl) (fun w' hg => rn_idxR (i := m) η Tryd.underlying106 (ty_anvil_anvilref03_Rat.size) rfl rfl (by omega) rfl (show (pfRow fH FH 4 Bh n0 dh hs).P _ from hg).1) ?_
    clear η a; intro a η
    refine sAny_takeg (i := 19) [20, 21, 22] (fun w' => (pfRow fH FH 4 Bh n0 dh hs).P w') (v := .agg #[.bool (neg (qn r)), .slice A2 (dl (qn r)) c2, .bool (neg (qd r)), .slice B2 (dl (qd r)) d2]) rfl (by kernel_rfl) (fun _ _ _ h => h) (fun _ _ _ hS => hS.1.pat (k := 10) rfl) η rfl rfl rfl rfl (σ.pat (k := 10) rfl) (fun w' hg => rn_loadE (i := m) (e := (A2, c2, B2, d2, r)) η ty_anvil_anvilref03_Rat rfl rfl fH_len (show (pfRow fH FH 4 Bh n0 dh hs).P _ from hg).1 (by omega) hk2 rfl) ?_
    clear η a; intro a η
    refine sAny_oneg (i := 20) (by kernel_rfl) rfl rfl η rfl rfl rfl (op_call η rfl Tryd.call74 rfl (is_qy (r := r) (show ZIn _ A1 c1 (qn r) from σ.pat (k := 5) rfl) (show ZIn _ B1 d1 (ql r) from σ.pat (k := 6) rfl) (show RIn _ A2 c2 (qn r) from σ.pat (k := 2) rfl) (show RIn _ B2 d2 (qd r) from σ.pat (k := 3) rfl) hse (by omega)) ?_)
    rintro e w123 ⟨rfl, hb⟩
    refine ⟨_, rfl, ?_⟩
    clear η a; intro a η
    replace σ := σ.call hb
    clear hb
    refine ⟨.inr ⟨σ.kn.pick [] (rg 0 12), .inr (σ.kn.pick [] [])⟩, ?_⟩
    refine tAg (i := 21) [22] (v := .bool false) rfl (by kernel_rfl) (fun _ _ _ h => h) η rfl rfl rfl rfl (fun _ => rn_un η rfl rfl) ?_
    clear η a; intro a η
    refine tA (i := 22) [] (v := .bool false) rfl (by kernel_rfl) (fun _ _ _ h => h) η rfl (fun _ => rn_pick η rfl rfl) ?_
    clear η a; intro a η
    refine sAny_done (by kernel_rfl) ?_ _
    refine th_n ?_
    refine if_f η rfl (rfl) ?_
    refine wp_skip (bl_n (th_n (region_seq ?_)))
    revert a
    refine sA (v := .int .i64 (m + 1 : Nat)) rfl (fun _ η => rn_add η rfl rfl (by rw [IntWalk.i64_in _ (by omega)]; omega)) ?_
    refine mA rfl rfl ?_
    intro a η
    refine wpList_nil ?_
    exact th_n ⟨_, (by omega), ⟨m + 1, rfl, η.sub ⟨rfl, rfl, rfl, rfl, rfl, rfl, rfl, trivial⟩, σ.pick [] [8, 9, 10, 11] (by decide), (by omega)⟩⟩
   ·refine wp_exit (th_x (th_x (bl_x (th_n (wp_seq (region_seq ?_))))))
    refine sv (v := .bool true) η rfl (rn_assign η rfl) ?_
    clear η a; intro a η
    refine wpList_nil (th_n (wp_ret ?_))
    refine leave η (res1 Tryd.results11 (RV.tmp η rfl)) ?_
    exact ⟨rfl, σ.below⟩
 ·refine wp_seq (region_seq ?_)
  refine sv (v := .bool (decide (((j : Nat) : Int) < ((n0 : Nat) : Int)))) η rfl (rn_bin η rfl rfl rfl) ?_
  clear η a; intro a η
  refine wpList_nil (th_n (wp_seq ?_))
  refine if_split η rfl (fun hc124 => ?_) (fun hc124 => ?_)
  ·have hlt : j < n0 := by have := of_decide_eq_true hc124; omega
   refine wp_skip (th_n (wp_seq (wp_block (wp_seq (region_seq ?_)))))
   revert a
   refine sA (v := .pointer (some ⟨ab A0, ao A0 + j * 2, none⟩)) rfl (fun _ η => rn_idxR (i := j) η Tryd.underlying103 (ty_anvil_anvillaw03_Frac.size) rfl rfl (by omega) rfl (show (pfRow fF FF 2 A0 n0 c0 es0).P _ from (σ.pat (k := 0) rfl)).1) ?_
   refine sA (v := .agg #[.string ⟨s.toArray⟩, .string ⟨t.toArray⟩]) rfl (fun _ η => rn_loadE (i := j) (e := (s, t)) η ty_anvil_anvillaw03_Frac rfl rfl fF_len (show (pfRow fF FF 2 A0 n0 c0 es0).P _ from (σ.pat (k := 0) rfl)).1 (by omega) he0 rfl) ?_
   intro a η
   refine seq_step rfl (op_alloc (c := #[.string ⟨#[]⟩, .string ⟨#[]⟩]) η σ rfl zero_anvil_anvillaw03_Frac rfl ?_)
   clear η σ a; intro a w126 g125 η σ
   refine seq_step rfl (op_store (k := 0) (c' := #[.string ⟨s.toArray⟩, .string ⟨t.toArray⟩]) η σ (ty_anvil_anvillaw03_Frac.size) rfl rfl rfl rfl (by simp) rfl rfl ?_)
   clear η σ a; intro a w127 η σ
   refine wpList_nil (th_n (wp_seq (region_seq ?_)))
   refine sv (v := .agg #[.string ⟨s.toArray⟩, .string ⟨t.toArray⟩]) η rfl (rn_load0 η ty_anvil_anvillaw03_Frac rfl (σ.oat (k := 0) rfl) rfl) ?_
   clear η a; intro a η
   refine seq_step rfl (op_call η rfl Tryd.call69 rfl (hf _) ?_)
   rintro e w128 ⟨rfl, hb⟩
   refine ⟨_, rfl, ?_⟩
   clear η a; intro a η
   replace σ := σ.call hb
   clear hb
   revert a
   refine mA rfl rfl ?_
   refine sA (v := .agg #[.bool (neg (qn 0)), .slice none (zl (qn 0)) 0, .bool (neg (ql 0)), .slice none (zl (ql 0)) 0]) rfl (fun _ η => rn_extract η rfl rfl) ?_
   refine sA (v := .agg #[.bool (neg 0), .slice none (dl 0) 0, .bool (neg 0), .slice none (dl 0) 0]) rfl (fun _ η => rn_extract η rfl rfl) ?_
   refine sA (v := .bool false) rfl (fun _ η => rn_extract η rfl rfl) ?_
   intro a η
   refine seq_step rfl (op_alloc (c := #[.bool (neg (qn 0)), .slice none (zl (qn 0)) 0, .bool (neg (ql 0)), .slice none (zl (ql 0)) 0]) η σ rfl zero_anvil_ratio_Rat qcells ?_)
   clear η σ a; intro a w130 g129 η σ
   refine seq_step rfl (op_alloc (c := #[.bool false, .slice none 0 0, .bool false, .slice none 0 0]) η σ rfl zero_anvil_anvilref03_Rat rfl ?_)
   clear η σ a; intro a w132 g131 η σ
   refine seq_step rfl (op_store (k := 1) (c' := #[.bool (neg (qn 0)), .slice none (zl (qn 0)) 0, .bool (neg (ql 0)), .slice none (zl (ql 0)) 0]) η σ (ty_anvil_ratio_Rat.size) rfl rfl rfl rfl (by simp) rfl rfl ?_)
   clear η σ a; intro a w133 η σ
   refine seq_step rfl (op_store (k := 0) (c' := #[.bool (neg 0), .slice none (dl 0) 0, .bool (neg 0), .slice none (dl 0) 0]) η σ (ty_anvil_anvilref03_Rat.size) rfl rfl rfl rfl (by simp) rfl rfl ?_)
   clear η σ a; intro a w134 η σ
   refine sv (v := .bool false) η rfl (rn_assign η rfl) ?_
   clear η a; intro a η
   refine wpList_nil (th_n (wp_seq (wp_seq (region_seq ?_))))
   revert a
   refine mA rfl rfl ?_
   refine sA (v := .bool true) rfl (fun _ η => rn_un η rfl rfl) ?_
   intro a η
   refine wpList_nil (th_n ?_)
   refine if_t η rfl (rfl) ?_
   refine wp_seq (region_seq ?_)
   refine sv (v := .bool true) η rfl (rn_assign η rfl) ?_
   clear η a; intro a η
   refine wpList_nil (th_n (wp_ret (th_r (bl_r (th_r (th_r (bl_r (th_r ?_))))))))
   refine leave η (res1 Tryd.results11 (RV.tmp η rfl)) ?_
   exact ⟨rfl, σ.below⟩
  ·exfalso; have q := of_decide_eq_false hc124; have := (List.getElem?_eq_some_iff.1 he0).1; omega
 ·refine wp_seq (region_seq ?_)
  refine sv (v := .bool (decide (((j : Nat) : Int) < ((n0 : Nat) : Int)))) η rfl (rn_bin η rfl rfl rfl) ?_
  clear η a; intro a η
  refine wpList_nil (th_n (wp_seq ?_))
  refine if_split η rfl (fun hc135 => ?_) (fun hc135 => ?_)
  ·have hlt : j < n0 := by have := of_decide_eq_true hc135; omega
   refine wp_skip (th_n (wp_seq (wp_block (wp_seq (region_seq ?_)))))
   revert a
   refine sA (v := .pointer (some ⟨ab A0, ao A0 + j * 2, none⟩)) rfl (fun _ η => rn_idxR (i := j) η Tryd.underlying103 (ty_anvil_anvillaw03_Frac.size) rfl rfl (by omega) rfl (show (pfRow fF FF 2 A0 n0 c0 es0).P _ from (σ.pat (k := 0) rfl)).1) ?_
   refine sA (v := .agg #[.string ⟨s.toArray⟩, .string ⟨t.toArray⟩]) rfl (fun _ η => rn_loadE (i := j) (e := (s, t)) η ty_anvil_anvillaw03_Frac rfl rfl fF_len (show (pfRow fF FF 2 A0 n0 c0 es0).P _ from (σ.pat (k := 0) rfl)).1 (by omega) he0 rfl) ?_
   intro a η
   refine seq_step rfl (op_alloc (c := #[.string ⟨#[]⟩, .string ⟨#[]⟩]) η σ rfl zero_anvil_anvillaw03_Frac rfl ?_)
   clear η σ a; intro a w137 g136 η σ
   refine seq_step rfl (op_store (k := 0) (c' := #[.string ⟨s.toArray⟩, .string ⟨t.toArray⟩]) η σ (ty_anvil_anvillaw03_Frac.size) rfl rfl rfl rfl (by simp) rfl rfl ?_)
   clear η σ a; intro a w138 η σ
   refine wpList_nil (th_n (wp_seq (region_seq ?_)))
   refine sv (v := .agg #[.string ⟨s.toArray⟩, .string ⟨t.toArray⟩]) η rfl (rn_load0 η ty_anvil_anvillaw03_Frac rfl (σ.oat (k := 0) rfl) rfl) ?_
   clear η a; intro a η
   refine seq_step rfl (op_call η rfl Tryd.call69 rfl (hf _) ?_)
   rintro e w151 ⟨⟨_, _, rfl, ⟨A139, c140, B141, d142, rfl, hz143, hz144⟩, ⟨A145, c146, B147, d148, rfl, hz149, hz150⟩⟩, hb⟩
   refine ⟨_, rfl, ?_⟩
   clear η a; intro a η
   replace σ := ((((σ.call hb).addZ hz143 ⟨nou_bk rfl, nou_rowS, nou_rowS, trivial⟩).addZ hz144 ⟨nou_bk rfl, nou_rowS, nou_rowS, trivial⟩).addR hz149 ⟨nou_bk rfl, nou_rowS, nou_rowS, trivial⟩).addR hz150 ⟨nou_bk rfl, nou_rowS, nou_rowS, trivial⟩
   clear hz143 hz144 hz149 hz150
   clear hb
   revert a
   refine mA rfl rfl ?_
   refine sA (v := .agg #[.bool (neg (qn x)), .slice A139 (zl (qn x)) c140, .bool (neg (ql x)), .slice B141 (zl (ql x)) d142]) rfl (fun _ η => rn_extract η rfl rfl) ?_
   refine sA (v := .agg #[.bool (neg (qn x)), .slice A145 (dl (qn x)) c146, .bool (neg (qd x)), .slice B147 (dl (qd x)) d148]) rfl (fun _ η => rn_extract η rfl rfl) ?_
   refine sA (v := .bool true) rfl (fun _ η => rn_extract η rfl rfl) ?_
   intro a η
   refine seq_step rfl (op_alloc (c := #[.bool (neg (qn 0)), .slice none (zl (qn 0)) 0, .bool (neg (ql 0)), .slice none (zl (ql 0)) 0]) η σ rfl zero_anvil_ratio_Rat qcells ?_)
   clear η σ a; intro a w153 g152 η σ
   refine seq_step rfl (op_alloc (c := #[.bool false, .slice none 0 0, .bool false, .slice none 0 0]) η σ rfl zero_anvil_anvilref03_Rat rfl ?_)
   clear η σ a; intro a w155 g154 η σ
   refine seq_step rfl (op_store (k := 1) (c' := #[.bool (neg (qn x)), .slice A139 (zl (qn x)) c140, .bool (neg (ql x)), .slice B141 (zl (ql x)) d142]) η σ (ty_anvil_ratio_Rat.size) rfl rfl rfl rfl (by simp) rfl rfl ?_)
   clear η σ a; intro a w156 η σ
   refine seq_step rfl (op_store (k := 0) (c' := #[.bool (neg (qn x)), .slice A145 (dl (qn x)) c146, .bool (neg (qd x)), .slice B147 (dl (qd x)) d148]) η σ (ty_anvil_anvilref03_Rat.size) rfl rfl rfl rfl (by simp) rfl rfl ?_)
   clear η σ a; intro a w157 η σ
   refine sv (v := .bool true) η rfl (rn_assign η rfl) ?_
   clear η a; intro a η
   refine wpList_nil (th_n (wp_seq (wp_seq (region_seq ?_))))
   revert a
   refine mA rfl rfl ?_
   refine sA (v := .bool false) rfl (fun _ η => rn_un η rfl rfl) ?_
   intro a η
   refine wpList_nil (th_n ?_)
   refine if_f η rfl (rfl) ?_
   refine wp_skip (th_n ?_)
   refine cutQ (fun a w => ∃ (g159 g161 c162 g164 g168 c169 : Nat), Env 110 a [(0, .slice A0 n0 c0), (3, .slice (some ⟨g161, 0, none⟩) (j + 1) c162), (4, .slice (some ⟨g168, 0, none⟩) (j + 1) c169), (19, .slice A0 n0 c0), (20, .int .i64 (n0 : Nat)), (21, .int .i64 (j : Nat)), (22, .bool (decide (((j : Nat) : Int) < ((n0 : Nat) : Int)))), (23, .pointer (some ⟨ab A0, ao A0 + j * 2, none⟩)), (24, .agg #[.string ⟨s.toArray⟩, .string ⟨t.toArray⟩]), (6, .pointer (some ⟨g136, 0, none⟩)), (26, .agg #[.string ⟨s.toArray⟩, .string ⟨t.toArray⟩]), (27, .tuple #[.agg #[.bool (neg (qn x)), .slice A139 (zl (qn x)) c140, .bool (neg (ql x)), .slice B141 (zl (ql x)) d142], .agg #[.bool (neg (qn x)), .slice A145 (dl (qn x)) c146, .bool (neg (qd x)), .slice B147 (dl (qd x)) d148], .bool true]), (25, .tuple #[.agg #[.bool (neg (qn x)), .slice A139 (zl (qn x)) c140, .bool (neg (ql x)), .slice B141 (zl (ql x)) d142], .agg #[.bool (neg (qn x)), .slice A145 (dl (qn x)) c146, .bool (neg (qd x)), .slice B147 (dl (qd x)) d148], .bool true]), (28, .agg #[.bool (neg (qn x)), .slice A139 (zl (qn x)) c140, .bool (neg (ql x)), .slice B141 (zl (ql x)) d142]), (29, .agg #[.bool (neg (qn x)), .slice A145 (dl (qn x)) c146, .bool (neg (qd x)), .slice B147 (dl (qd x)) d148]), (30, .bool true), (7, .pointer (some ⟨g152, 0, none⟩)), (8, .pointer (some ⟨g154, 0, none⟩)), (9, .bool true), (31, .bool true), (32, .bool false)] ∧ St w0 w [bk g164 #[.bool (neg (qn x)), .slice A145 (dl (qn x)) c146, .bool (neg (qd x)), .slice B147 (dl (qd x)) d148] 108, bk g159 #[.bool (neg (qn x)), .slice A139 (zl (qn x)) c140, .bool (neg (ql x)), .slice B141 (zl (ql x)) d142] 91, bk g154 #[.bool (neg (qn x)), .slice A145 (dl (qn x)) c146, .bool (neg (qd x)), .slice B147 (dl (qd x)) d148] 108, bk g152 #[.bool (neg (qn x)), .slice A139 (zl (qn x)) c140, .bool (neg (ql x)), .slice B141 (zl (ql x)) d142] 91, bk g136 #[.string ⟨s.toArray⟩, .string ⟨t.toArray⟩] 89, rowS notU 91 4 (some ⟨g161, 0, none⟩) (j + 1) c162 (fl fK (ks ++ [(A139, c140, B141, d142, x)])), rowS notU 108 4 (some ⟨g168, 0, none⟩) (j + 1) c169 (fl fH (hs ++ [(A145, c146, B147, d148, x)]))] [pfEs FH (hs ++ [(A145, c146, B147, d148, x)]), FH (A145, c146, B147, d148, x), pfEs FK (ks ++ [(A139, c140, B141, d142, x)]), FK (A139, c140, B141, d142, x), pfR B147 d148 (qd x), pfR A145 c146 (qn x), pfZ B141 d142 (ql x), pfZ A139 c140 (qn x), pfRow fF FF 2 A0 n0 c0 es0, pfEs FK ks, pfEs FH hs]) ?_ ?_
   ·refine region_any (n := 10) (Sk [bk g154 #[.bool (neg (qn x)), .slice A145 (dl (qn x)) c146, .bool (neg (qd x)), .slice B147 (dl (qd x)) d148] 108, bk g152 #[.bool (neg (qn x)), .slice A139 (zl (qn x)) c140, .bool (neg (ql x)), .slice B141 (zl (ql x)) d142] 91, bk g136 #[.string ⟨s.toArray⟩, .string ⟨t.toArray⟩] 89] [pfR B147 d148 (qd x), pfR A145 c146 (qn x), pfZ B141 d142 (ql x), pfZ A139 c140 (qn x), pfRow fF FF 2 A0 n0 c0 es0, pfEs FK ks, pfEs FH hs] [] []) mixed rfl η σ ?_
    clear η σ; intro w158 η σ
    refine sAny_gen fun T hT => ?_
    have hN166 : ∀ (L : Array Bool) (a : Act) (w : World), L = #[true, true, true, true, true, true, true, false, false, false] → (∃ (g159 g161 c162 g164 : Nat), Env 110 a [(0, .slice A0 n0 c0), (3, .slice Bk j dk), (4, .slice Bh j dh), (19, .slice A0 n0 c0), (20, .int .i64 (n0 : Nat)), (21, .int .i64 (j : Nat)), (22, .bool (decide (((j : Nat) : Int) < ((n0 : Nat) : Int)))), (23, .pointer (some ⟨ab A0, ao A0 + j * 2, none⟩)), (24, .agg #[.string ⟨s.toArray⟩, .string ⟨t.toArray⟩]), (6, .pointer (some ⟨g136, 0, none⟩)), (26, .agg #[.string ⟨s.toArray⟩, .string ⟨t.toArray⟩]), (27, .tuple #[.agg #[.bool (neg (qn x)), .slice A139 (zl (qn x)) c140, .bool (neg (ql x)), .slice B141 (zl (ql x)) d142], .agg #[.bool (neg (qn x)), .slice A145 (dl (qn x)) c146, .bool (neg (qd x)), .slice B147 (dl (qd x)) d148], .bool true]), (25, .tuple #[.agg #[.bool (neg (qn x)), .slice A139 (zl (qn x)) c140, .bool (neg (ql x)), .slice B141 (zl (ql x)) d142], .agg #[.bool (neg (qn x)), .slice A145 (dl (qn x)) c146, .bool (neg (qd x)), .slice B147 (dl (qd x)) d148], .bool true]), (28, .agg #[.bool (neg (qn x)), .slice A139 (zl (qn x)) c140, .bool (neg (ql x)), .slice B141 (zl (ql x)) d142]), (29, .agg #[.bool (neg (qn x)), .slice A145 (dl (qn x)) c146, .bool (neg (qd x)), .slice B147 (dl (qd x)) d148]), (30, .bool true), (7, .pointer (some ⟨g152, 0, none⟩)), (8, .pointer (some ⟨g154, 0, none⟩)), (9, .bool true), (31, .bool true), (32, .bool false), (37, .slice Bh j dh), (36, .slice (some ⟨g161, 0, none⟩) (j + 1) c162), (39, .slice (some ⟨g164, 0, none⟩) 1 1)] ∧ St w0 w [bk g164 #[.bool (neg (qn x)), .slice A145 (dl (qn x)) c146, .bool (neg (qd x)), .slice B147 (dl (qd x)) d148] 108, bk g159 #[.bool (neg (qn x)), .slice A139 (zl (qn x)) c140, .bool (neg (ql x)), .slice B141 (zl (ql x)) d142] 91, bk g154 #[.bool (neg (qn x)), .slice A145 (dl (qn x)) c146, .bool (neg (qd x)), .slice B147 (dl (qd x)) d148] 108, bk g152 #[.bool (neg (qn x)), .slice A139 (zl (qn x)) c140, .bool (neg (ql x)), .slice B141 (zl (ql x)) d142] 91, bk g136 #[.string ⟨s.toArray⟩, .string ⟨t.toArray⟩] 89, rowS notU 91 4 (some ⟨g161, 0, none⟩) (j + 1) c162 (fl fK (ks ++ [(A139, c140, B141, d142, x)])), rowS notU 108 4 Bh j dh (fl fH hs)] [pfEs FK (ks ++ [(A139, c140, B141, d142, x)]), FK (A139, c140, B141, d142, x), pfR B147 d148 (qd x), pfR A145 c146 (qn x), pfZ B141 d142 (ql x), pfZ A139 c140 (qn x), pfRow fF FF 2 A0 n0 c0 es0, pfEs FK ks, pfEs FH hs]) → T 3 L a w := by
     rintro _ a w167 rfl ⟨g159, g161, c162, g164, η, σ⟩
     rw [hT]
     replace σ := σ.and2 (i := 3) (j := 2) rfl rfl
     replace σ : St w0 _ [bk g164 #[.bool (neg (qn x)), .slice A145 (dl (qn x)) c146, .bool (neg (qd x)), .slice B147 (dl (qd x)) d148] 108, bk g159 #[.bool (neg (qn x)), .slice A139 (zl (qn x)) c140, .bool (neg (ql x)), .slice B141 (zl (ql x)) d142] 91, bk g154 #[.bool (neg (qn x)), .slice A145 (dl (qn x)) c146, .bool (neg (qd x)), .slice B147 (dl (qd x)) d148] 108, bk g152 #[.bool (neg (qn x)), .slice A139 (zl (qn x)) c140, .bool (neg (ql x)), .slice B141 (zl (ql x)) d142] 91, bk g136 #[.string ⟨s.toArray⟩, .string ⟨t.toArray⟩] 89, rowS notU 91 4 (some ⟨g161, 0, none⟩) (j + 1) c162 (fl fK (ks ++ [(A139, c140, B141, d142, x)])), rowS notU 108 4 Bh j dh (fl fH hs)] [FH (A145, c146, B147, d148, x), pfEs FK (ks ++ [(A139, c140, B141, d142, x)]), FK (A139, c140, B141, d142, x), pfR B147 d148 (qd x), pfR A145 c146 (qn x), pfZ B141 d142 (ql x), pfZ A139 c140 (qn x), pfRow fF FF 2 A0 n0 c0 es0, pfEs FK ks, pfEs FH hs] := σ
     refine sAny_one (i := 7) (by kernel_rfl) rfl rfl (op_appendS (k := 6) (j := 0) η σ rfl Tryd.underlying106 inf_anvil_anvilref03_Rat rfl rfl rfl rfl rfl rfl rfl rfl rfl rfl rfl (by unfold maxLen; omega) (by omega) ?_)
     clear η σ a; intro a w170 g168 c169 η σ
     rw [show fl fH hs ++ (#[.bool (neg (qn x)), .slice A145 (dl (qn x)) c146, .bool (neg (qd x)), .slice B147 (dl (qd x)) d148] : Array Value).toList = fl fH (hs ++ [(A145, c146, B147, d148, x)]) from fl_snoc (f := fH) hs (A145, c146, B147, d148, x)] at σ
     replace σ := σ.snocEs (e := (A145, c146, B147, d148, x)) (i := 9) (j := 0) rfl rfl
     refine ⟨.inr ⟨σ.kn.pick [2, 3, 4] (rg 4 7), .inr (σ.kn.pick [] [])⟩, ?_⟩
     refine tA (i := 8) [9] (v := .slice (some ⟨g161, 0, none⟩) (j + 1) c162) rfl (by kernel_rfl) (fun _ _ _ h => h) η rfl (fun _ => rn_assign η rfl) ?_
     clear η a; intro a η
     refine tA (i := 9) [] (v := .slice (some ⟨g168, 0, none⟩) (j + 1) c169) rfl (by kernel_rfl) (fun _ _ _ h => h) η rfl (fun _ => rn_assign η rfl) ?_
     clear η a; intro a η
     refine sAny_done (by kernel_rfl) ?_ _
     exact th_n ⟨g159, g161, c162, g164, g168, c169, η.sub ⟨rfl, rfl, rfl, rfl, rfl, rfl, rfl, rfl, rfl, rfl, rfl, rfl, rfl, rfl, rfl, rfl, rfl, rfl, rfl, rfl, rfl, trivial⟩, σ.pick [0, 1, 2, 3, 4, 5, 6] [0, 1, 2, 3, 4, 5, 6, 7, 8, 9, 10] (by decide)⟩
    have hN173 : ∀ (L : Array Bool) (a : Act) (w : World), L = #[true, true, true, false, true, true, true, false, false, false] → (∃ (g159 g171 : Nat), Env 110 a [(0, .slice A0 n0 c0), (3, .slice Bk j dk), (4, .slice Bh j dh), (19, .slice A0 n0 c0), (20, .int .i64 (n0 : Nat)), (21, .int .i64 (j : Nat)), (22, .bool (decide (((j : Nat) : Int) < ((n0 : Nat) : Int)))), (23, .pointer (some ⟨ab A0, ao A0 + j * 2, none⟩)), (24, .agg #[.string ⟨s.toArray⟩, .string ⟨t.toArray⟩]), (6, .pointer (some ⟨g136, 0, none⟩)), (26, .agg #[.string ⟨s.toArray⟩, .string ⟨t.toArray⟩]), (27, .tuple #[.agg #[.bool (neg (qn x)), .slice A139 (zl (qn x)) c140, .bool (neg (ql x)), .slice B141 (zl (ql x)) d142], .agg #[.bool (neg (qn x)), .slice A145 (dl (qn x)) c146, .bool (neg (qd x)), .slice B147 (dl (qd x)) d148], .bool true]), (25, .tuple #[.agg #[.bool (neg (qn x)), .slice A139 (zl (qn x)) c140, .bool (neg (ql x)), .slice B141 (zl (ql x)) d142], .agg #[.bool (neg (qn x)), .slice A145 (dl (qn x)) c146, .bool (neg (qd x)), .slice B147 (dl (qd x)) d148], .bool true]), (28, .agg #[.bool (neg (qn x)), .slice A139 (zl (qn x)) c140, .bool (neg (ql x)), .slice B141 (zl (ql x)) d142]), (29, .agg #[.bool (neg (qn x)), .slice A145 (dl (qn x)) c146, .bool (neg (qd x)), .slice B147 (dl (qd x)) d148]), (30, .bool true), (7, .pointer (some ⟨g152, 0, none⟩)), (8, .pointer (some ⟨g154, 0, none⟩)), (9, .bool true), (31, .bool true), (32, .bool false), (33, .slice Bk j dk), (37, .slice Bh j dh), (35, .slice (some ⟨g159, 0, none⟩) 1 1), (39, .slice (some ⟨g171, 0, none⟩) 1 1)] ∧ St w0 w [bk g171 #[.bool (neg (qn x)), .slice A145 (dl (qn x)) c146, .bool (neg (qd x)), .slice B147 (dl (qd x)) d148] 108, bk g159 #[.bool (neg (qn x)), .slice A139 (zl (qn x)) c140, .bool (neg (ql x)), .slice B141 (zl (ql x)) d142] 91, bk g154 #[.bool (neg (qn x)), .slice A145 (dl (qn x)) c146, .bool (neg (qd x)), .slice B147 (dl (qd x)) d148] 108, bk g152 #[.bool (neg (qn x)), .slice A139 (zl (qn x)) c140, .bool (neg (ql x)), .slice B141 (zl (ql x)) d142] 91, bk g136 #[.string ⟨s.toArray⟩, .string ⟨t.toArray⟩] 89, rowS notU 91 4 Bk j dk (fl fK ks), rowS notU 108 4 Bh j dh (fl fH hs)] [pfR B147 d148 (qd x), pfR A145 c146 (qn x), pfZ B141 d142 (ql x), pfZ A139 c140 (qn x), pfRow fF FF 2 A0 n0 c0 es0, pfEs FK ks, pfEs FH hs]) → T 4 L a w := by
     rintro _ a w174 rfl ⟨g159, g171, η, σ⟩
     rw [hT]
     replace σ := σ.and2 (i := 3) (j := 2) rfl rfl
     replace σ : St w0 _ [bk g171 #[.bool (neg (qn x)), .slice A145 (dl (qn x)) c146, .bool (neg (qd x)), .slice B147 (dl (qd x)) d148] 108, bk g159 #[.bool (neg (qn x)), .slice A139 (zl (qn x)) c140, .bool (neg (ql x)), .slice B141 (zl (ql x)) d142] 91, bk g154 #[.bool (neg (qn x)), .slice A145 (dl (qn x)) c146, .bool (neg (qd x)), .slice B147 (dl (qd x)) d148] 108, bk g152 #[.bool (neg (qn x)), .slice A139 (zl (qn x)) c140, .bool (neg (ql x)), .slice B141 (zl (ql x)) d142] 91, bk g136 #[.string ⟨s.toArray⟩, .string ⟨t.toArray⟩] 89, rowS notU 91 4 Bk j dk (fl fK ks), rowS notU 108 4 Bh j dh (fl fH hs)] [FK (A139, c140, B141, d142, x), pfR B147 d148 (qd x), pfR A145 c146 (qn x), pfZ B141 d142 (ql x), pfZ A139 c140 (qn x), pfRow fF FF 2 A0 n0 c0 es0, pfEs FK ks, pfEs FH hs] := σ
     refine sAny_one (i := 3) (by kernel_rfl) rfl rfl (op_appendS (k := 5) (j := 1) η σ rfl Tryd.underlying105 inf_anvil_ratio_Rat rfl rfl rfl rfl rfl rfl rfl rfl rfl rfl rfl (by unfold maxLen; omega) (by omega) ?_)
     clear η σ a; intro a w177 g175 c176 η σ
     rw [show fl fK ks ++ (#[.bool (neg (qn x)), .slice A139 (zl (qn x)) c140, .bool (neg (ql x)), .slice B141 (zl (ql x)) d142] : Array Value).toList = fl fK (ks ++ [(A139, c140, B141, d142, x)]) from fl_snoc (f := fK) ks (A139, c140, B141, d142, x)] at σ
     replace σ := σ.snocEs (e := (A139, c140, B141, d142, x)) (i := 6) (j := 0) rfl rfl
     refine ⟨.inr ⟨σ.kn.pick [2, 3, 4] (rg 2 7), .inr (σ.kn.pick [] [])⟩, ?_⟩
     rw [← hT]
     exact hN166 _ _ _ (by kernel_rfl) ⟨g159, g175, c176, g171, η.sub ⟨rfl, rfl, rfl, rfl, rfl, rfl, rfl, rfl, rfl, rfl, rfl, rfl, rfl, rfl, rfl, rfl, rfl, rfl, rfl, rfl, rfl, rfl, rfl, rfl, trivial⟩, σ.pick [0, 1, 2, 3, 4, 5, 6] [0, 1, 2, 3, 4, 5, 6, 7, 8] (by decide)⟩
    rw [hT]
    refine tM (i := 0) [3, 7, 8, 9] rfl (by kernel_rfl) (fun _ _ _ h => h) η rfl rfl ?_
    clear η a; intro a η
    refine tL (i := 1) 1 1 [2, 3, 7, 8, 9] rfl (by kernel_rfl) (fun _ _ _ h => h) η rfl ty_anvil_ratio_Rat rfl σ rfl rfl rfl ?_
    clear η a; intro a η
    refine tM (i := 4) [7, 8, 9] rfl (by kernel_rfl) (fun _ _ _ h => h) η rfl rfl ?_
    clear η a; intro a η
    refine tL (i := 5) 0 0 (rg 6 4) rfl (by kernel_rfl) (fun _ _ _ h => h) η rfl ty_anvil_anvilref03_Rat rfl σ rfl rfl rfl ?_
    clear η a; intro a η
    refine sAny_all (rs := [2, 6]) (by kernel_rfl) (by simp) ?_
    simp only [List.forall_mem_cons, List.not_mem_nil, false_implies, implies_true, and_true]
    refine ⟨?_, ?_⟩
    ·refine ⟨_, rfl, rfl, op_buildSlice (z := 4) (pv := #[(0, .agg #[.bool (neg (qn x)), .slice A139 (zl (qn x)) c140, .bool (neg (ql x)), .slice B141 (zl (ql x)) d142])]) (c := #[.bool (neg (qn x)), .slice A139 (zl (qn x)) c140, .bool (neg (ql x)), .slice B141 (zl (ql x)) d142]) η σ rfl Tryd.underlying105 (ty_anvil_ratio_Rat.size) zero_anvil_ratio_Rat (by decide) (by decide) rfl (by kernel_rfl) ?_⟩
     clear η σ a; intro a w160 g159 η σ
     refine ⟨.inr ⟨σ.kn.pick [1, 2, 3] (rg 0 7), .inr (σ.kn.pick [] [])⟩, ?_⟩
     refine sAny_all (rs := [3, 6]) (by kernel_rfl) (by simp) ?_
     simp only [List.forall_mem_cons, List.not_mem_nil, false_implies, implies_true, and_true]
     refine ⟨?_, ?_⟩
     ·replace σ := σ.and2 (i := 3) (j := 2) rfl rfl
      replace σ : St w0 _ [bk g159 #[.bool (neg (qn x)), .slice A139 (zl (qn x)) c140, .bool (neg (ql x)), .slice B141 (zl (ql x)) d142] 91, bk g154 #[.bool (neg (qn x)), .slice A145 (dl (qn x)) c146, .bool (neg (qd x)), .slice B147 (dl (qd x)) d148] 108, bk g152 #[.bool (neg (qn x)), .slice A139 (zl (qn x)) c140, .bool (neg (ql x)), .slice B141 (zl (ql x)) d142] 91, bk g136 #[.string ⟨s.toArray⟩, .string ⟨t.toArray⟩] 89, rowS notU 91 4 Bk j dk (fl fK ks), rowS notU 108 4 Bh j dh (fl fH hs)] [FK (A139, c140, B141, d142, x), pfR B147 d148 (qd x), pfR A145 c146 (qn x), pfZ B141 d142 (ql x), pfZ A139 c140 (qn x), pfRow fF FF 2 A0 n0 c0 es0, pfEs FK ks, pfEs FH hs] := σ
      refine ⟨_, rfl, rfl, op_appendS (k := 4) (j := 0) η σ rfl Tryd.underlying105 inf_anvil_ratio_Rat rfl rfl rfl rfl rfl rfl rfl rfl rfl rfl rfl (by unfold maxLen; omega) (by omega) ?_⟩
      clear η σ a; intro a w163 g161 c162 η σ
      rw [show fl fK ks ++ (#[.bool (neg (qn x)), .slice A139 (zl (qn x)) c140, .bool (neg (ql x)), .slice B141 (zl (ql x)) d142] : Array Value).toList = fl fK (ks ++ [(A139, c140, B141, d142, x)]) from fl_snoc (f := fK) ks (A139, c140, B141, d142, x)] at σ
      replace σ := σ.snocEs (e := (A139, c140, B141, d142, x)) (i := 6) (j := 0) rfl rfl
      refine ⟨.inr ⟨σ.kn.pick [1, 2, 3] (rg 2 7), .inr (σ.kn.pick [] [])⟩, ?_⟩
      refine sAny_one (i := 6) (by kernel_rfl) rfl rfl (op_buildSlice (z := 4) (pv := #[(0, .agg #[.bool (neg (qn x)), .slice A145 (dl (qn x)) c146, .bool (neg (qd x)), .slice B147 (dl (qd x)) d148])]) (c := #[.bool (neg (qn x)), .slice A145 (dl (qn x)) c146, .bool (neg (qd x)), .slice B147 (dl (qd x)) d148]) η σ rfl Tryd.underlying106 (ty_anvil_anvilref03_Rat.size) zero_anvil_anvilref03_Rat (by decide) (by decide) rfl (by kernel_rfl) ?_)
      clear η σ a; intro a w165 g164 η σ
      refine ⟨.inr ⟨σ.kn.pick [2, 3, 4] (rg 2 7), .inr (σ.kn.pick [] [])⟩, ?_⟩
      rw [← hT]
      exact hN166 _ _ _ (by kernel_rfl) ⟨g159, g161, c162, g164, η.sub ⟨rfl, rfl, rfl, rfl, rfl, rfl, rfl, rfl, rfl, rfl, rfl, rfl, rfl, rfl, rfl, rfl, rfl, rfl, rfl, rfl, rfl, rfl, rfl, rfl, trivial⟩, σ.pick [0, 1, 2, 3, 4, 5, 6] [0, 1, 2, 3, 4, 5, 6, 7, 8] (by decide)⟩
     ·refine ⟨_, rfl, rfl, op_buildSlice (z := 4) (pv := #[(0, .agg #[.bool (neg (qn x)), .slice A145 (dl (qn x)) c146, .bool (neg (qd x)), .slice B147 (dl (qd x)) d148])]) (c := #[.bool (neg (qn x)), .slice A145 (dl (qn x)) c146, .bool (neg (qd x)), .slice B147 (dl (qd x)) d148]) η σ rfl Tryd.underlying106 (ty_anvil_anvilref03_Rat.size) zero_anvil_anvilref03_Rat (by decide) (by decide) rfl (by kernel_rfl) ?_⟩
      clear η σ a; intro a w172 g171 η σ
      refine ⟨.inr ⟨σ.kn.pick [2, 3, 4] (rg 0 7), .inr (σ.kn.pick [] [])⟩, ?_⟩
      rw [← hT]
      exact hN173 _ _ _ (by kernel_rfl) ⟨g159, g171, η.sub ⟨rfl, rfl, rfl, rfl, rfl, rfl, rfl, rfl, rfl, rfl, rfl, rfl, rfl, rfl, rfl, rfl, rfl, rfl, rfl, rfl, rfl, rfl, rfl, rfl, rfl, trivial⟩, σ.pick [0, 1, 2, 3, 4, 5, 6] [0, 1, 2, 3, 4, 5, 6] (by decide)⟩
    ·refine ⟨_, rfl, rfl, op_buildSlice (z := 4) (pv := #[(0, .agg #[.bool (neg (qn x)), .slice A145 (dl (qn x)) c146, .bool (neg (qd x)), .slice B147 (dl (qd x)) d148])]) (c := #[.bool (neg (qn x)), .slice A145 (dl (qn x)) c146, .bool (neg (qd x)), .slice B147 (dl (qd x)) d148]) η σ rfl Tryd.underlying106 (ty_anvil_anvilref03_Rat.size) zero_anvil_anvilref03_Rat (by decide) (by decide) rfl (by kernel_rfl) ?_⟩
     clear η σ a; intro a w179 g178 η σ
     refine ⟨.inr ⟨σ.kn.pick [1, 2, 3] (rg 0 7), .inr (σ.kn.pick [] [])⟩, ?_⟩
     refine sAny_one (i := 2) (by kernel_rfl) rfl rfl (op_buildSlice (z := 4) (pv := #[(0, .agg #[.bool (neg (qn x)), .slice A139 (zl (qn x)) c140, .bool (neg (ql x)), .slice B141 (zl (ql x)) d142])]) (c := #[.bool (neg (qn x)), .slice A139 (zl (qn x)) c140, .bool (neg (ql x)), .slice B141 (zl (ql x)) d142]) η σ rfl Tryd.underlying105 (ty_anvil_ratio_Rat.size) zero_anvil_ratio_Rat (by decide) (by decide) rfl (by kernel_rfl) ?_)
     clear η σ a; intro a w181 g180 η σ
     refine ⟨.inr ⟨σ.kn.pick [2, 3, 4] (rg 0 7), .inr (σ.kn.pick [] [])⟩, ?_⟩
     rw [← hT]
     exact hN173 _ _ _ (by kernel_rfl) ⟨g180, g178, η.sub ⟨rfl, rfl, rfl, rfl, rfl, rfl, rfl, rfl, rfl, rfl, rfl, rfl, rfl, rfl, rfl, rfl, rfl, rfl, rfl, rfl, rfl, rfl, rfl, rfl, rfl, trivial⟩, σ.pick [1, 0, 2, 3, 4, 5, 6] [0, 1, 2, 3, 4, 5, 6] (by decide)⟩
   clear η σ a
   rintro a w182 ⟨g159, g161, c162, g164, g168, c169, η, σ⟩
   refine bl_n (th_n (region_seq ?_))
   revert a
   refine sA (v := .int .i64 (j + 1 : Nat)) rfl (fun _ η => rn_add η rfl rfl (by rw [IntWalk.i64_in _ (by omega)]; omega)) ?_
   refine mA rfl rfl ?_
   intro a η
   refine wpList_nil ?_
   exact th_n ⟨_, (by omega), ⟨j + 1, (some ⟨g161, 0, none⟩), c162, (ks ++ [(A139, c140, B141, d142, x)]), (some ⟨g168, 0, none⟩), c169, (hs ++ [(A145, c146, B147, d148, x)]), rfl, η.sub ⟨rfl, rfl, rfl, rfl, rfl, rfl, trivial⟩, σ.pick [5, 6] [8, 2, 0] (by decide), (by omega), (by rw [List.length_append, hkl]; rfl), (by rw [List.length_append, hhl]; rfl), (by rw [List.map_append, List.map_append, hkh]; rfl), (kq_step hkq hx)⟩⟩
  ·exfalso; have q := of_decide_eq_false hc135; have := (List.getElem?_eq_some_iff.1 he0).1; omega
theorem rmany_law {A0 : Option Addr} {n0 c0 : Nat} {es0 : List FE} {w0 : World} (h0 : (pfRow fF FF 2 A0 n0 c0 es0).P w0) :
  Calls Tryd.prog 11 #[.slice A0 n0 c0] w0 fun e w' => e = .returned (.bool true) ∧ Below w0.heap.size w0 w' := by
 rcases Nat.lt_or_ge 12 n0 with h | h
 ·exact rmany_many h0 h
 by_cases hl : ∃ e ∈ es0, Lg e
 ·exact rmany_yes h0 hl
 have hs : ∀ e ∈ es0, ¬ Lg e := fun e he hx => hl ⟨e, he, hx⟩
 exact rmany_s h0 h hs
end Go.Proofs.YtegglooojlheoaaDoor.W
