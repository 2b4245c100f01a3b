/- Rows of fractions; all over one denominator: plain laws. No condition. -/
import Derived.Test.YtegglooojlheoaaDoorM48
import Derived.Test.YtegglooojlheoaaDoorM36
import Derived.Test.YtegglooojlheoaaDoorM15

set_option maxRecDepth 100000
set_option maxHeartbeats 16000000
namespace Go.Proofs.YtegglooojlheoaaDoor.W
open Go.RowKit Anv Go.Lib
abbrev KE := Option Addr × Nat × Option Addr × Nat × Rat
abbrev kr (e : KE) : Rat := e.2.2.2.2
def fK (e : KE) : List Value := [.bool (neg (qn e.2.2.2.2)), .slice e.1 (zl (qn e.2.2.2.2)) e.2.1, .bool (neg (ql e.2.2.2.2)), .slice e.2.2.1 (zl (ql e.2.2.2.2)) e.2.2.2.1]
def FK (e : KE) : PF := pfAnd (pfZ e.1 e.2.1 (qn e.2.2.2.2)) (pfZ e.2.2.1 e.2.2.2.1 (ql e.2.2.2.2))
theorem fK_len (e : KE) : (fK e).length = 4 := rfl
def fH (e : KE) : List Value := [.bool (neg (qn e.2.2.2.2)), .slice e.1 (dl (qn e.2.2.2.2)) e.2.1, .bool (neg (qd e.2.2.2.2)), .slice e.2.2.1 (dl (qd e.2.2.2.2)) e.2.2.2.1]
def FH (e : KE) : PF := pfAnd (pfR e.1 e.2.1 (qn e.2.2.2.2)) (pfR e.2.2.1 e.2.2.2.1 (qd e.2.2.2.2))
theorem fH_len (e : KE) : (fH e).length = 4 := rfl
section
variable {w w0 : World} {own ps : List PF} {i j k : Nat} {p q : PF}
theorem St.and2 (h : St w0 w own ps) (hi : ps[i]? = some p) (hj : ps[j]? = some q) : St w0 w own (pfAnd p q :: ps) :=
 h.addP _ ⟨h.pat hi, h.pat hj⟩ fun o ho b h1 h2 => h2.elim (h.apart _ (List.mem_of_getElem? hi) o ho b h1) (h.apart _ (List.mem_of_getElem? hj) o ho b h1)
theorem St.split2 (h : St w0 w own ps) (hk : ps[k]? = some (pfAnd p q)) : St w0 w own (p :: q :: ps) :=
 (h.addP q (h.pat hk).2 fun o ho b h1 h2 => h.apart _ (List.mem_of_getElem? hk) o ho b h1 (.inr h2)).addP p (h.pat hk).1 fun o ho b h1 h2 => h.apart _ (List.mem_of_getElem? hk) o ho b h1 (.inl h2)
end
section
variable {P : Program} {N : Nat} {dq : List Deferred} {a : Act} {l : List (Nat × Value)} {w : World} {d : Nat} {ty : TypeId} {pos : String} {af : Array Edge} {gd : Option (Nat × Bool)}
theorem rn_loadEn {α : Type} {f : α → List Value} {x : Operand} {T i o m n c z p : Nat} {A : Option Addr} {es : List α} {e : α} {v : Array Value} (h : EnvD dq N a l) (hT : TAgg P T m) (hx : evl l x = some (.pointer (some ⟨Go.Proofs.YtegglooojlheoaaDoor.ab A, ao A + p, none⟩))) (hp : i * z + o = p) (hz : ∀ e, (f e).length = z) (ho : o + m ≤ z) (hr : Rd z w A n c (fl f es)) (hn : i < n) (he : es[i]? = some e) (hv : (((f e).drop o).take m).toArray = v) :
  (execOp a.eval ⟨some d, .load T x, ty, pos, af, gd⟩).run P w = .ok (.value (.agg v)) w := by
 subst hp hv
 have hl : (((f e).drop o).take m).length = m := by
  have := hz e
  rw [List.length_take, List.length_drop]; omega
 refine rn_loadr (cs := ((f e).drop o).take m) h hT hx (fun j v hv => ?_) hl
 have hj : j < m := by
  have := (List.getElem?_eq_some_iff.1 hv).1
  rwa [hl] at this
 rw [List.getElem?_take_of_lt hj, List.getElem?_drop] at hv
 have hm := mul_lt_row (z := z) hn (show o + j < z by omega)
 rw [show ao A + (i * z + o) + j = ao A + (i * z + (o + j)) by omega, hr.at hm, fl_at hz he (by omega), hv]
end
def smQ (rs : List Rat) : Rat := rs.foldl (· + ·) 0
theorem smQ_step {rs : List Rat} {j : Nat} {r : Rat} (h : rs[j]? = some r) : smQ (rs.take (j + 1)) = smQ (rs.take j) + r := by
 rw [smQ, take_one h, List.foldl_append]; rfl
theorem kr_at {es : List KE} {rs : List Rat} {j : Nat} {A B : Option Addr} {c d : Nat} {r : Rat} (hr : es.map kr = rs) (h : es[j]? = some (A, c, B, d, r)) : rs[j]? = some r := by
 rw [← hr, List.getElem?_map, h]; rfl
def cmS (d : Int) (r : Rat) : Int := d * (qd r / ((Int.gcd d (qd r) : Nat) : Int))
def cmD (rs : List Rat) : Int := rs.foldl cmS 1
def cmN (D : Int) (rs : List Rat) : List Int := rs.map fun r => qn r * (D / qd r)
theorem cmD_step {rs : List Rat} {j : Nat} {r : Rat} (h : rs[j]? = some r) : cmD (rs.take (j + 1)) = cmS (cmD (rs.take j)) r := by
 rw [cmD, take_one h, List.foldl_append]; rfl
theorem cmS_pos {d : Int} (hd : 0 < d) (r : Rat) : 0 < cmS d r := by
 have h1 := qd_pos r
 have hg : 0 < ((Int.gcd d (qd r) : Nat) : Int) := by
  have := gcd_ne (n := d) (d := qd r) (by omega)
  omega
 have h2 : ((Int.gcd d (qd r) : Nat) : Int) ≤ qd r := Int.le_of_dvd h1 (Int.gcd_dvd_right d (qd r))
 exact Int.mul_pos hd (Int.ediv_pos_of_pos_of_dvd h1 (by omega) (Int.gcd_dvd_right d (qd r)))
theorem cmS_dvd (d : Int) (r : Rat) : d ∣ cmS d r := ⟨_, rfl⟩
theorem cmS_den (d : Int) (r : Rat) : qd r ∣ cmS d r := by
 obtain ⟨x, hx⟩ := Int.gcd_dvd_left d (qd r)
 obtain ⟨y, hy⟩ := Int.gcd_dvd_right d (qd r)
 have hg := gcd_ne (n := d) (d := qd r) (qd_ne r)
 refine ⟨x, ?_⟩
 unfold cmS
 generalize ((Int.gcd d (qd r) : Nat) : Int) = G at hx hy hg ⊢
 rw [hy, Int.mul_ediv_cancel_left _ hg, hx]
 rw [Int.mul_assoc, Int.mul_comm x y, ← Int.mul_assoc]
theorem cmD_fold (rs : List Rat) : ∀ d : Int, 0 < d → 0 < rs.foldl cmS d ∧ d ∣ rs.foldl cmS d ∧ ∀ r ∈ rs, qd r ∣ rs.foldl cmS d := by
 induction rs with
 | nil => intro d hd; exact ⟨hd, Int.dvd_refl d, fun r h => by cases h⟩
 | cons r rs ih =>
  intro d hd
  obtain ⟨h1, h2, h3⟩ := ih (cmS d r) (cmS_pos hd r)
  refine ⟨h1, Int.dvd_trans (cmS_dvd d r) h2, fun x hx => ?_⟩
  rcases List.mem_cons.1 hx with rfl | hx
  ·exact Int.dvd_trans (cmS_den d x) h2
  ·exact h3 x hx
theorem cmD_dvd {rs : List Rat} {r : Rat} (h : r ∈ rs) : qd r ∣ cmD rs := (cmD_fold rs 1 (by decide)).2.2 r h
theorem cmD_mod {rs : List Rat} {r : Rat} (h : r ∈ rs) : cmD rs % qd r = 0 := Int.emod_eq_zero_of_dvd (cmD_dvd h)
theorem cmN_step {rs : List Rat} {os : List NE} {D : Int} {j : Nat} {r : Rat} {A : Option Addr} {c : Nat} (ho : os.map zz = cmN D (rs.take j)) (h : rs[j]? = some r) : (os ++ [(A, c, qn r * (D / qd r))]).map zz = cmN D (rs.take (j + 1)) := by
 rw [List.map_append, ho, cmN, cmN, take_one h, List.map_append]; rfl
theorem cmN_at {rs : List Rat} {D : Int} {j : Nat} {r : Rat} (h : rs[j]? = some r) : (cmN D rs)[j]? = some (qn r * (D / qd r)) := by
 rw [cmN, List.getElem?_map, h]; rfl
theorem zz_at {es : List NE} {zs : List Int} {j : Nat} {z : Int} (hz : es.map zz = zs) (h : zs[j]? = some z) : ∃ A c, es[j]? = some (A, c, z) := by
 rw [← hz, List.getElem?_map] at h
 obtain ⟨⟨A, c, x⟩, he, hx⟩ := Option.map_eq_some_iff.1 h
 cases hx
 exact ⟨A, c, he⟩
theorem kr_of {es : List KE} {rs : List Rat} {j : Nat} {r : Rat} (hr : es.map kr = rs) (h : rs[j]? = some r) : ∃ A c B d, es[j]? = some (A, c, B, d, r) := by
 rw [← hr, List.getElem?_map] at h
 obtain ⟨⟨A, c, B, d, x⟩, he, hx⟩ := Option.map_eq_some_iff.1 h
 cases hx
 exact ⟨A, c, B, d, he⟩
theorem sum_q {A0 : Option Addr} {n0 c0 : Nat} {es0 : List KE} {rs : List Rat} {w0 : World} (h0 : (pfRow fK FK 4 A0 n0 c0 es0).P w0) (hrs : es0.map kr = rs) (hq : ∀ r ∈ rs, Qs 400 r) (hn : n0 ≤ 12) :
  Calls Tryd.prog 75 #[.slice A0 n0 c0] w0 fun e w' => ∃ v, e = .returned v ∧ QAt w' v (smQ rs) ∧ Below w0.heap.size w0 w' := by
 refine enter Tryd.func75 rfl Tryd.ntmps75 rfl ?_
 intro a η σ
 have hlen0 := h0.2.1
 have hrl : rs.length = n0 := by rw [← hrs, List.length_map, hlen0]
 replace σ := σ.argRow h0
 clear h0
 refine wp_seq (region_seq ?_)
 refine seq_step rfl (op_alloc (c := #[.bool (neg (qn 0)), .slice none (zl (qn 0)) 0, .bool (neg (ql 0)), .slice none (zl (ql 0)) 0]) η σ rfl zero_anvil_ratio_Rat qcells ?_)
 clear η σ a; intro a w52 g51 η σ
 refine wpList_nil (th_n (wp_seq (region_seq ?_)))
 refine seq_step rfl (op_alloc (c := #[.bool (neg (qn 0)), .slice none (zl (qn 0)) 0, .bool (neg (ql 0)), .slice none (zl (ql 0)) 0]) η σ rfl zero_anvil_ratio_Rat qcells ?_)
 clear η σ a; intro a w54 g53 η σ
 refine wpList_nil (th_n (wp_seq (wp_seq ?_)))
 replace σ := (σ.addZ (show ZIn _ none 0 (qn 0) from zin_none _) ⟨nou_bk rfl, nou_bk rfl, trivial⟩).addZ (show ZIn _ none 0 (ql 0) from zin_none _) ⟨nou_bk rfl, nou_bk rfl, trivial⟩
 replace σ : St w0 _ [bk g53 #[.bool (neg (qn 0)), .slice none (zl (qn 0)) 0, .bool (neg (ql 0)), .slice none (zl (ql 0)) 0] 91, bk g51 #[.bool (neg (qn 0)), .slice none (zl (qn 0)) 0, .bool (neg (ql 0)), .slice none (zl (ql 0)) 0] 91] [pfZ none 0 (ql 0), pfZ none 0 (qn 0), pfRow fK FK 4 A0 n0 c0 es0] := σ
 refine region_seq ?_
 revert a
 refine mA rfl rfl ?_
 refine sA (v := .int .i64 (n0 : Nat)) rfl (fun _ η => rn_len η Tryd.underlying105 rfl) ?_
 refine mA rfl rfl ?_
 intro a η
 refine wpList_nil (th_n (wp_block ?_))
 refine wp_loop_ghost (fun mz a w => ∃ (j : Nat) (S : Rat) (As : Option Addr) (cs : Nat) (Bs : Option Addr) (ds : Nat), n0 - j = mz ∧ Env 17 a [(2, .pointer (some ⟨g51, 0, none⟩)), (6, .slice A0 n0 c0), (7, .int .i64 (n0 : Nat)), (3, .pointer (some ⟨g53, 0, none⟩)), (8, .int .i64 (j : Nat))] ∧ St w0 w [bk g53 #[.bool (neg (qn S)), .slice As (zl (qn S)) cs, .bool (neg (ql S)), .slice Bs (zl (ql S)) ds] 91, bk g51 #[.bool (neg (qn 0)), .slice none (zl (qn 0)) 0, .bool (neg (ql 0)), .slice none (zl (ql 0)) 0] 91] [pfRow fK FK 4 A0 n0 c0 es0, pfZ As cs (qn S), pfZ Bs ds (ql S)] ∧ j ≤ n0 ∧ S = smQ (rs.take j) ∧ Qs (401 * j + 1) S) _ ⟨0, 0, none, 0, none, 0, rfl, η.sub ⟨rfl, rfl, rfl, rfl, rfl, trivial⟩, σ.pick [0, 1] [2, 1, 0] (by decide), (Nat.zero_le _), rfl, (qs_zero.mono (by omega))⟩ ?_
 clear η σ a
 rintro mz a w55 ⟨j, S, As, cs, Bs, ds, rfl, η, σ, hj, hS, hsr⟩
 refine wp_seq (region_seq ?_)
 refine sv (v := .bool (decide (((j : Nat) : Int) < ((n0 : Nat) : Int)))) η rfl (rn_bin η rfl rfl rfl) ?_
 clear η a; intro a η
 refine wpList_nil (th_n (wp_seq ?_))
 refine if_split η rfl (fun hc56 => ?_) (fun hc56 => ?_)
 ·have hlt : j < n0 := by have := of_decide_eq_true hc56; omega
  obtain ⟨⟨A, c, B, d, r⟩, he0⟩ : ∃ e, es0[j]? = some e := ⟨_, List.getElem?_eq_getElem (by omega)⟩
  replace σ := σ.elem (k := 0) rfl he0
  replace σ := σ.split2 (k := 0) rfl
  replace σ : St w0 _ [bk g53 #[.bool (neg (qn S)), .slice As (zl (qn S)) cs, .bool (neg (ql S)), .slice Bs (zl (ql S)) ds] 91, bk g51 #[.bool (neg (qn 0)), .slice none (zl (qn 0)) 0, .bool (neg (ql 0)), .slice none (zl (ql 0)) 0] 91] [pfZ A c (qn r), pfZ B d (ql r), FK (A, c, B, d, r), pfRow fK FK 4 A0 n0 c0 es0, pfZ As cs (qn S), pfZ Bs ds (ql S)] := σ
  have hrj := kr_at hrs he0
  have hrm : r ∈ rs := List.mem_of_getElem? hrj
  have hse := hq r hrm
  have hnr := hse.n
  have hdr := hse.d
  have hlr := hse.l
  refine wp_skip (th_n (wp_seq (wp_block (wp_seq (region_seq ?_)))))
  revert a
  refine sA (v := .pointer (some ⟨ab A0, ao A0 + j * 4, none⟩)) rfl (fun _ η => rn_idxR (i := j) η Tryd.underlying105 (ty_anvil_ratio_Rat.size) rfl rfl (by omega) rfl (show (pfRow fK FK 4 A0 n0 c0 es0).P _ from (σ.pat (k := 3) rfl)).1) ?_
  refine sA (v := .agg #[.bool (neg (qn r)), .slice A (zl (qn r)) c, .bool (neg (ql r)), .slice B (zl (ql r)) d]) rfl (fun _ η => rn_loadE (i := j) (e := (A, c, B, d, r)) η ty_anvil_ratio_Rat rfl rfl fK_len (show (pfRow fK FK 4 A0 n0 c0 es0).P _ from (σ.pat (k := 3) rfl)).1 (by omega) he0 rfl) ?_
  intro a η
  refine seq_step rfl (op_alloc (c := #[.bool (neg (qn 0)), .slice none (zl (qn 0)) 0, .bool (neg (ql 0)), .slice none (zl (ql 0)) 0]) η σ rfl zero_anvil_ratio_Rat qcells ?_)
  clear η σ a; intro a w58 g57 η σ
  refine seq_step rfl (op_store (k := 0) (c' := #[.bool (neg (qn r)), .slice A (zl (qn r)) c, .bool (neg (ql r)), .slice B (zl (ql r)) d]) η σ (ty_anvil_ratio_Rat.size) rfl rfl rfl rfl (by simp) rfl rfl ?_)
  clear η σ a; intro a w59 η σ
  refine wpList_nil (th_n (region_seq ?_))
  revert a
  refine sA (v := .agg #[.bool (neg (qn S)), .slice As (zl (qn S)) cs, .bool (neg (ql S)), .slice Bs (zl (ql S)) ds]) rfl (fun _ η => rn_load0 η ty_anvil_ratio_Rat rfl (σ.oat (k := 1) rfl) rfl) ?_
  refine sA (v := .agg #[.bool (neg (qn r)), .slice A (zl (qn r)) c, .bool (neg (ql r)), .slice B (zl (ql r)) d]) rfl (fun _ η => rn_load0 η ty_anvil_ratio_Rat rfl (σ.oat (k := 0) rfl) rfl) ?_
  intro a η
  refine seq_step rfl (op_call η rfl Tryd.call58 rfl (add_q (x := S) (y := r) (show ZIn _ As cs (qn S) from σ.pat (k := 4) rfl) (show ZIn _ Bs ds (ql S) from σ.pat (k := 5) rfl) (show ZIn _ A c (qn r) from σ.pat (k := 0) rfl) (show ZIn _ B d (ql r) from σ.pat (k := 1) rfl) hsr hse (by omega)) ?_)
  rintro e w66 ⟨_, rfl, ⟨A60, c61, B62, d63, rfl, hz64, hz65⟩, hb⟩
  refine ⟨_, rfl, ?_⟩
  clear η a; intro a η
  replace σ := ((σ.call hb).addZ hz64 ⟨nou_bk rfl, nou_bk rfl, nou_bk rfl, trivial⟩).addZ hz65 ⟨nou_bk rfl, nou_bk rfl, nou_bk rfl, trivial⟩
  clear hz64 hz65
  clear hb
  refine seq_step rfl (op_store (k := 1) (c' := #[.bool (neg (qn (S + r))), .slice A60 (zl (qn (S + r))) c61, .bool (neg (ql (S + r))), .slice B62 (zl (ql (S + r))) d63]) η σ (ty_anvil_ratio_Rat.size) rfl rfl rfl rfl (by simp) rfl rfl ?_)
  clear η σ a; intro a w67 η σ
  refine wpList_nil (bl_n (th_n (region_seq ?_)))
  revert a
  refine sA (v := .int .i64 (j + 1 : Nat)) rfl (fun _ η => rn_add η rfl rfl (by rw [IntWalk.i64_in _ (by omega)]; omega)) ?_
  refine mA rfl rfl ?_
  intro a η
  refine wpList_nil ?_
  exact th_n ⟨_, (by omega), ⟨j + 1, S + r, A60, c61, B62, d63, rfl, η.sub ⟨rfl, rfl, rfl, rfl, rfl, trivial⟩, σ.pick [1, 2] [5, 1, 0] (by decide), (by omega), (by rw [smQ_step hrj, ← hS]), ((hsr.add hse).mono (by omega))⟩⟩
 ·have hje : n0 ≤ j := by have := of_decide_eq_false hc56; omega
  rw [List.take_of_length_le (by omega)] at hS
  subst hS
  refine wp_exit (th_x (th_x (bl_x (th_n (wp_seq (region_seq ?_))))))
  refine sv (v := .agg #[.bool (neg (qn (smQ rs))), .slice As (zl (qn (smQ rs))) cs, .bool (neg (ql (smQ rs))), .slice Bs (zl (ql (smQ rs))) ds]) η rfl (rn_load0 η ty_anvil_ratio_Rat rfl (σ.oat (k := 0) rfl) rfl) ?_
  clear η a; intro a η
  refine seq_step rfl (op_store (k := 1) (c' := #[.bool (neg (qn (smQ rs))), .slice As (zl (qn (smQ rs))) cs, .bool (neg (ql (smQ rs))), .slice Bs (zl (ql (smQ rs))) ds]) η σ (ty_anvil_ratio_Rat.size) rfl rfl rfl rfl (by simp) rfl rfl ?_)
  clear η σ a; intro a w68 η σ
  refine wpList_nil (th_n (wp_ret ?_))
  refine leave η (res1 Tryd.results75 (RV.cell η ty_anvil_ratio_Rat rfl (σ.oat (k := 1) rfl) rfl)) ?_
  exact ⟨_, rfl, q_at rfl rfl (σ.pat (k := 1) rfl) (σ.pat (k := 2) rfl), σ.below⟩
theorem sum_y {A0 : Option Addr} {n0 c0 : Nat} {es0 : List KE} {rs : List Rat} {w0 : World} (h0 : (pfRow fH FH 4 A0 n0 c0 es0).P w0) (hrs : es0.map kr = rs) (hq : ∀ r ∈ rs, Qs 400 r) (hn : n0 ≤ 12) :
  Calls Tryd.prog 76 #[.slice A0 n0 c0] w0 fun e w' => ∃ v, e = .returned v ∧ YAt w' v (smQ rs) ∧ Below w0.heap.size w0 w' := by
 refine enter Tryd.func76 rfl Tryd.ntmps76 rfl ?_
 intro a η σ
 have hlen0 := h0.2.1
 have hrl : rs.length = n0 := by rw [← hrs, List.length_map, hlen0]
 replace σ := σ.argRow h0
 clear h0
 refine wp_seq (region_seq ?_)
 refine seq_step rfl (op_alloc (c := #[.bool false, .slice none 0 0, .bool false, .slice none 0 0]) η σ rfl zero_anvil_anvilref03_Rat rfl ?_)
 clear η σ a; intro a w52 g51 η σ
 refine wpList_nil (th_n (wp_seq (region_seq ?_)))
 refine seq_step rfl (op_call η rfl Tryd.call126 rfl (zero_y) ?_)
 rintro e w59 ⟨_, rfl, ⟨A53, c54, B55, d56, rfl, hz57, hz58⟩, hb⟩
 refine ⟨_, rfl, ?_⟩
 clear η a; intro a η
 replace σ := ((σ.call hb).addR hz57 ⟨nou_bk rfl, trivial⟩).addR hz58 ⟨nou_bk rfl, trivial⟩
 clear hz57 hz58
 clear hb
 refine seq_step rfl (op_alloc (c := #[.bool false, .slice none 0 0, .bool false, .slice none 0 0]) η σ rfl zero_anvil_anvilref03_Rat rfl ?_)
 clear η σ a; intro a w61 g60 η σ
 refine seq_step rfl (op_store (k := 0) (c' := #[.bool (neg (qn 0)), .slice A53 (dl (qn 0)) c54, .bool (neg (qd 0)), .slice B55 (dl (qd 0)) d56]) η σ (ty_anvil_anvilref03_Rat.size) rfl rfl rfl rfl (by simp) rfl rfl ?_)
 clear η σ a; intro a w62 η σ
 refine wpList_nil (th_n (wp_seq (wp_seq (region_seq ?_))))
 refine sv (v := .int .i64 0) η rfl (rn_assign η rfl) ?_
 clear η a; intro a η
 refine wpList_nil (th_n (wp_block ?_))
 refine wp_loop_ghost (fun mz a w => ∃ (j : Nat) (S : Rat) (As : Option Addr) (cs : Nat) (Bs : Option Addr) (ds : Nat), n0 - j = mz ∧ Env 19 a [(0, .slice A0 n0 c0), (2, .pointer (some ⟨g51, 0, none⟩)), (3, .pointer (some ⟨g60, 0, none⟩)), (4, .int .i64 (j : Nat))] ∧ St w0 w [bk g60 #[.bool (neg (qn S)), .slice As (dl (qn S)) cs, .bool (neg (qd S)), .slice Bs (dl (qd S)) ds] 108, bk g51 #[.bool false, .slice none 0 0, .bool false, .slice none 0 0] 108] [pfRow fH FH 4 A0 n0 c0 es0, pfR As cs (qn S), pfR Bs ds (qd S)] ∧ j ≤ n0 ∧ S = smQ (rs.take j) ∧ Qs (401 * j + 1) S) _ ⟨0, 0, A53, c54, B55, d56, rfl, η.sub ⟨rfl, rfl, rfl, rfl, trivial⟩, σ.pick [0, 1] [2, 1, 0] (by decide), (Nat.zero_le _), rfl, (qs_zero.mono (by omega))⟩ ?_
 clear η σ a
 rintro mz a w63 ⟨j, S, As, cs, Bs, ds, rfl, η, σ, hj, hS, hsr⟩
 refine wp_seq (wp_seq (region_seq ?_))
 revert a
 refine mA rfl rfl ?_
 refine mA rfl rfl ?_
 refine sA (v := .int .i64 (n0 : Nat)) rfl (fun _ η => rn_len η Tryd.underlying106 rfl) ?_
 refine sA (v := .bool (decide (((j : Nat) : Int) < ((n0 : Nat) : Int)))) rfl (fun _ η => rn_bin η rfl rfl rfl) ?_
 intro a η
 refine wpList_nil (th_n ?_)
 refine if_split η rfl (fun hc64 => ?_) (fun hc64 => ?_)
 ·have hlt : j < n0 := by have := of_decide_eq_true hc64; omega
  obtain ⟨⟨A, c, B, d, r⟩, he0⟩ : ∃ e, es0[j]? = some e := ⟨_, List.getElem?_eq_getElem (by omega)⟩
  replace σ := σ.elem (k := 0) rfl he0
  replace σ := σ.split2 (k := 0) rfl
  replace σ : St w0 _ [bk g60 #[.bool (neg (qn S)), .slice As (dl (qn S)) cs, .bool (neg (qd S)), .slice Bs (dl (qd S)) ds] 108, bk g51 #[.bool false, .slice none 0 0, .bool false, .slice none 0 0] 108] [pfR A c (qn r), pfR B d (qd r), FH (A, c, B, d, r), pfRow fH FH 4 A0 n0 c0 es0, pfR As cs (qn S), pfR Bs ds (qd S)] := σ
  have hrj := kr_at hrs he0
  have hrm : r ∈ rs := List.mem_of_getElem? hrj
  have hse := hq r hrm
  have hnr := hse.n
  have hdr := hse.d
  have hlr := hse.l
  refine wp_skip (th_n (wp_seq (wp_block ?_)))
  refine region_any (n := 7) (Sk [bk g51 #[.bool false, .slice none 0 0, .bool false, .slice none 0 0] 108] [pfR A c (qn r), pfR B d (qd r), FH (A, c, B, d, r), pfRow fH FH 4 A0 n0 c0 es0, pfR As cs (qn S), pfR Bs ds (qd S)] [6] [bk g60 #[.bool (neg (qn S)), .slice As (dl (qn S)) cs, .bool (neg (qd S)), .slice Bs (dl (qd S)) ds] 108]) mixed rfl η σ ?_
  clear η σ; intro w65 η σ
  refine sAny_take (i := 0) [5, 6] (fun w' => w'.heap[g60]? = some (.cells #[.bool (neg (qn S)), .slice As (dl (qn S)) cs, .bool (neg (qd S)), .slice Bs (dl (qd S)) ds] 108 (0, 0))) (v := .agg #[.bool (neg (qn S)), .slice As (dl (qn S)) cs, .bool (neg (qd S)), .slice Bs (dl (qd S)) ds]) rfl (by kernel_rfl) (fun _ _ _ h => h) (fun _ _ hj hS => (hS.two rfl hj).oat (k := 0) rfl) η rfl (σ.oat (k := 0) rfl) (fun w' hg => rn_load0 η ty_anvil_anvilref03_Rat rfl hg rfl) ?_
  clear η a; intro a η
  refine tM (i := 1) (rg 3 4) rfl (by kernel_rfl) (fun _ _ _ h => h) η rfl rfl ?_
  clear η a; intro a η
  refine tM (i := 2) (rg 3 4) rfl (by kernel_rfl) (fun _ _ _ h => h) η rfl rfl ?_
  clear η a; intro a η
  refine sAny_take (i := 3) [4, 5, 6] (fun w' => (pfRow fH FH 4 A0 n0 c0 es0).P w') (v := .pointer (some ⟨ab A0, ao A0 + j * 4, none⟩)) rfl (by kernel_rfl) (fun _ _ _ h => h) (fun _ _ _ hS => hS.1.pat (k := 3) rfl) η rfl (σ.pat (k := 3) rfl) (fun w' hg => rn_idxR (i := j) η Tryd.underlying106 (ty_anvil_anvilref03_Rat.size) rfl rfl (by omega) rfl (show (pfRow fH FH 4 A0 n0 c0 es0).P _ from hg).1) ?_
  clear η a; intro a η
  refine sAny_take (i := 4) [5, 6] (fun w' => (pfRow fH FH 4 A0 n0 c0 es0).P w') (v := .agg #[.bool (neg (qn r)), .slice A (dl (qn r)) c, .bool (neg (qd r)), .slice B (dl (qd r)) d]) rfl (by kernel_rfl) (fun _ _ _ h => h) (fun _ _ _ hS => hS.1.pat (k := 3) rfl) η rfl (σ.pat (k := 3) rfl) (fun w' hg => rn_loadE (i := j) (e := (A, c, B, d, r)) η ty_anvil_anvilref03_Rat rfl rfl fH_len (show (pfRow fH FH 4 A0 n0 c0 es0).P _ from hg).1 (by omega) he0 rfl) ?_
  clear η a; intro a η
  refine sAny_one (i := 5) (by kernel_rfl) rfl rfl (op_call η rfl Tryd.call127 rfl (add_y (x := S) (y := r) (show RIn _ As cs (qn S) from σ.pat (k := 4) rfl) (show RIn _ Bs ds (qd S) from σ.pat (k := 5) rfl) (show RIn _ A c (qn r) from σ.pat (k := 0) rfl) (show RIn _ B d (qd r) from σ.pat (k := 1) rfl) hsr hse (by omega)) ?_)
  rintro e w72 ⟨_, rfl, ⟨A66, c67, B68, d69, rfl, hz70, hz71⟩, hb⟩
  refine ⟨_, rfl, ?_⟩
  clear η a; intro a η
  replace σ := ((σ.call hb).addR hz70 ⟨nou_bk rfl, nou_bk rfl, trivial⟩).addR hz71 ⟨nou_bk rfl, nou_bk rfl, trivial⟩
  clear hz70 hz71
  clear hb
  refine ⟨.inr ⟨σ.kn.pick [1] (rg 2 6), .inr (σ.kn.pick [0] [])⟩, ?_⟩
  refine sAny_one (i := 6) (by kernel_rfl) rfl rfl (op_store (k := 0) (c' := #[.bool (neg (qn (S + r))), .slice A66 (dl (qn (S + r))) c67, .bool (neg (qd (S + r))), .slice B68 (dl (qd (S + r))) d69]) η σ (ty_anvil_anvilref03_Rat.size) rfl rfl rfl rfl (by simp) rfl rfl ?_)
  clear η σ a; intro a w73 η σ
  refine ⟨.inr ⟨σ.kn.pick [1] (rg 2 6), .inl rfl⟩, ?_⟩
  refine sAny_done (by kernel_rfl) ?_ _
  refine bl_n (th_n (region_seq ?_))
  revert a
  refine mA rfl rfl ?_
  refine sA (v := .int .i64 (j + 1 : Nat)) rfl (fun _ η => rn_add η rfl rfl (by rw [IntWalk.i64_in _ (by omega)]; omega)) ?_
  refine aA rfl rfl ?_
  intro a η
  refine wpList_nil ?_
  exact th_n ⟨_, (by omega), ⟨j + 1, S + r, A66, c67, B68, d69, rfl, η.sub ⟨rfl, rfl, rfl, rfl, trivial⟩, σ.pick [0, 1] [5, 1, 0] (by decide), (by omega), (by rw [smQ_step hrj, ← hS]), ((hsr.add hse).mono (by omega))⟩⟩
 ·have hje : n0 ≤ j := by have := of_decide_eq_false hc64; omega
  rw [List.take_of_length_le (by omega)] at hS
  subst hS
  refine wp_exit (th_x (th_x (bl_x (th_n (wp_seq (region_seq ?_))))))
  refine sv (v := .agg #[.bool (neg (qn (smQ rs))), .slice As (dl (qn (smQ rs))) cs, .bool (neg (qd (smQ rs))), .slice Bs (dl (qd (smQ rs))) ds]) η rfl (rn_load0 η ty_anvil_anvilref03_Rat rfl (σ.oat (k := 0) rfl) rfl) ?_
  clear η a; intro a η
  refine seq_step rfl (op_store (k := 1) (c' := #[.bool (neg (qn (smQ rs))), .slice As (dl (qn (smQ rs))) cs, .bool (neg (qd (smQ rs))), .slice Bs (dl (qd (smQ rs))) ds]) η σ (ty_anvil_anvilref03_Rat.size) rfl rfl rfl rfl (by simp) rfl rfl ?_)
  clear η σ a; intro a w74 η σ
  refine wpList_nil (th_n (wp_ret ?_))
  refine leave η (res1 Tryd.results76 (RV.cell η ty_anvil_anvilref03_Rat rfl (σ.oat (k := 1) rfl) rfl)) ?_
  exact ⟨_, rfl, y_at rfl rfl (σ.pat (k := 1) rfl) (σ.pat (k := 2) rfl), σ.below⟩
def ZRowC (B : Nat) (w : World) (v : Value) (n : Nat) (zs : List Int) : Prop := ∃ A c es, v = .slice A n c ∧ NewRow notU 36 2 fN FN B w A n c es ∧ es.length = n ∧ es.map zz = zs ∧ (n = 0 → A = none)
def MRowC (B : Nat) (w : World) (v : Value) (n : Nat) (zs : List Int) : Prop := ∃ A c es, v = .slice A n c ∧ NewRow notU 39 2 fM FM B w A n c es ∧ es.length = n ∧ es.map zz = zs ∧ (n = 0 → A = none)
theorem cmS_sz (D : Int) (r : Rat) : zl (cmS D r) ≤ zl D + zl (qd r) := by
 have h1 := zl_mul D (qd r / ((Int.gcd D (qd r) : Nat) : Int))
 have h2 := zl_ediv (qd r) ((Int.gcd D (qd r) : Nat) : Int)
 unfold cmS
 omega
theorem common_q {A0 : Option Addr} {n0 c0 : Nat} {es0 : List KE} {rs : List Rat} {w0 : World} (h0 : (pfRow fK FK 4 A0 n0 c0 es0).P w0) (hrs : es0.map kr = rs) (hq : ∀ r ∈ rs, Qs 400 r) (hn : n0 ≤ 12) :
  Calls Tryd.prog 70 #[.slice A0 n0 c0] w0 fun e w' => ∃ v u, e = .returned (.tuple #[v, u]) ∧ ZRowC w0.heap.size w' v n0 (cmN (cmD rs) rs) ∧ ZAt w' u (cmD rs) ∧ Below w0.heap.size w0 w' := by
 have h1z : zl 1 ≤ 1 := nl_le_of_lt (by decide)
 refine enter Tryd.func70 rfl Tryd.ntmps70 rfl ?_
 intro a η σ
 have hlen0 := h0.2.1
 have hrl : rs.length = n0 := by rw [← hrs, List.length_map, hlen0]
 replace σ := σ.argRow h0
 clear h0
 refine wp_seq (region_seq ?_)
 refine sv (v := .slice none 0 0) η rfl (rn_assign η rfl) ?_
 clear η a; intro a η
 refine seq_step rfl (op_alloc (c := #[.bool (neg 0), .slice none (zl 0) 0]) η σ rfl zero_anvil_integer_Int zcells ?_)
 clear η σ a; intro a w52 g51 η σ
 refine wpList_nil (th_n (wp_seq (region_seq ?_)))
 refine seq_step rfl (op_call η rfl Tryd.call43 rfl (of_z (n := (1 : Int)) (by decide) (by decide)) ?_)
 rintro e w56 ⟨_, rfl, ⟨A53, c54, rfl, hz55⟩, hb⟩
 refine ⟨_, rfl, ?_⟩
 clear η a; intro a η
 replace σ := (σ.call hb).addZ hz55 ⟨nou_bk rfl, trivial⟩
 clear hz55
 clear hb
 refine seq_step rfl (op_alloc (c := #[.bool (neg 0), .slice none (zl 0) 0]) η σ rfl zero_anvil_integer_Int zcells ?_)
 clear η σ a; intro a w58 g57 η σ
 refine seq_step rfl (op_store (k := 0) (c' := #[.bool (neg 1), .slice A53 (zl 1) c54]) η σ (ty_anvil_integer_Int.size) rfl rfl rfl rfl (by simp) rfl rfl ?_)
 clear η σ a; intro a w59 η σ
 refine wpList_nil (th_n (wp_seq (wp_seq (region_seq ?_))))
 revert a
 refine mA rfl rfl ?_
 refine sA (v := .int .i64 (n0 : Nat)) rfl (fun _ η => rn_len η Tryd.underlying105 rfl) ?_
 refine mA rfl rfl ?_
 intro a η
 refine wpList_nil (th_n (wp_block ?_))
 refine wp_loop_ghost (fun mz a w => ∃ (j : Nat) (D : Int) (Ad : Option Addr) (cd : Nat), n0 - j = mz ∧ Env 62 a [(0, .slice A0 n0 c0), (3, .pointer (some ⟨g51, 0, none⟩)), (17, .slice A0 n0 c0), (18, .int .i64 (n0 : Nat)), (4, .pointer (some ⟨g57, 0, none⟩)), (19, .int .i64 (j : Nat))] ∧ St w0 w [bk g57 #[.bool (neg D), .slice Ad (zl D) cd] 36, bk g51 #[.bool (neg 0), .slice none (zl 0) 0] 36] [pfRow fK FK 4 A0 n0 c0 es0, pfZ Ad cd D] ∧ j ≤ n0 ∧ D = cmD (rs.take j) ∧ zl D ≤ 400 * j + 1 ∧ 0 < D) _ ⟨0, 1, A53, c54, rfl, η.sub ⟨rfl, rfl, rfl, rfl, rfl, rfl, trivial⟩, σ.pick [0, 1] [1, 0] (by decide), (Nat.zero_le _), rfl, (nl_le_of_lt (by decide)), (by decide)⟩ ?_
 clear η σ a
 rintro mz a w60 ⟨j, D, Ad, cd, rfl, η, σ, hj, hD, hDz, hDp⟩
 refine wp_seq (region_seq ?_)
 refine sv (v := .bool (decide (((j : Nat) : Int) < ((n0 : Nat) : Int)))) η rfl (rn_bin η rfl rfl rfl) ?_
 clear η a; intro a η
 refine wpList_nil (th_n (wp_seq ?_))
 refine if_split η rfl (fun hc61 => ?_) (fun hc61 => ?_)
 ·have hlt : j < n0 := by have := of_decide_eq_true hc61; omega
  obtain ⟨⟨A, c, B, d, r⟩, he0⟩ : ∃ e, es0[j]? = some e := ⟨_, List.getElem?_eq_getElem (by omega)⟩
  replace σ := σ.elem (k := 0) rfl he0
  replace σ := σ.split2 (k := 0) rfl
  replace σ : St w0 _ [bk g57 #[.bool (neg D), .slice Ad (zl D) cd] 36, bk g51 #[.bool (neg 0), .slice none (zl 0) 0] 36] [pfZ A c (qn r), pfZ B d (ql r), FK (A, c, B, d, r), pfRow fK FK 4 A0 n0 c0 es0, pfZ Ad cd D] := σ
  have hrj := kr_at hrs he0
  have hrm : r ∈ rs := List.mem_of_getElem? hrj
  have hse := hq r hrm
  have hnr := hse.n
  have hdr := hse.d
  have hlr := hse.l
  have hpr := qd_pos r
  have hg0 := gcd_ne (n := D) (d := qd r) (qd_ne r)
  have hgs := gcd_zq D (qd r)
  have hqs := zl_ediv (qd r) ((Int.gcd D (qd r) : Nat) : Int)
  refine wp_skip (th_n (wp_seq (wp_block (wp_seq (region_seq ?_)))))
  revert a
  refine sA (v := .pointer (some ⟨ab A0, ao A0 + j * 4, none⟩)) rfl (fun _ η => rn_idxR (i := j) η Tryd.underlying105 (ty_anvil_ratio_Rat.size) rfl rfl (by omega) rfl (show (pfRow fK FK 4 A0 n0 c0 es0).P _ from (σ.pat (k := 3) rfl)).1) ?_
  refine sA (v := .agg #[.bool (neg (qn r)), .slice A (zl (qn r)) c, .bool (neg (ql r)), .slice B (zl (ql r)) d]) rfl (fun _ η => rn_loadE (i := j) (e := (A, c, B, d, r)) η ty_anvil_ratio_Rat rfl rfl fK_len (show (pfRow fK FK 4 A0 n0 c0 es0).P _ from (σ.pat (k := 3) rfl)).1 (by omega) he0 rfl) ?_
  intro a η
  refine seq_step rfl (op_alloc (c := #[.bool (neg (qn 0)), .slice none (zl (qn 0)) 0, .bool (neg (ql 0)), .slice none (zl (ql 0)) 0]) η σ rfl zero_anvil_ratio_Rat qcells ?_)
  clear η σ a; intro a w63 g62 η σ
  refine seq_step rfl (op_store (k := 0) (c' := #[.bool (neg (qn r)), .slice A (zl (qn r)) c, .bool (neg (ql r)), .slice B (zl (ql r)) d]) η σ (ty_anvil_ratio_Rat.size) rfl rfl rfl rfl (by simp) rfl rfl ?_)
  clear η σ a; intro a w64 η σ
  refine wpList_nil (th_n (wp_seq ?_))
  refine cut (fun a w => ∃ (A82 : Option Addr) (c83 : Nat) (A85 : Option Addr) (c86 g89 g93 : Nat), Env 62 a [(0, .slice A0 n0 c0), (3, .pointer (some ⟨g51, 0, none⟩)), (17, .slice A0 n0 c0), (18, .int .i64 (n0 : Nat)), (4, .pointer (some ⟨g57, 0, none⟩)), (19, .int .i64 (j : Nat)), (20, .bool (decide (((j : Nat) : Int) < ((n0 : Nat) : Int)))), (21, .pointer (some ⟨ab A0, ao A0 + j * 4, none⟩)), (22, .agg #[.bool (neg (qn r)), .slice A (zl (qn r)) c, .bool (neg (ql r)), .slice B (zl (ql r)) d]), (6, .pointer (some ⟨g62, 0, none⟩)), (7, .pointer (some ⟨g89, 0, none⟩))] ∧ St w0 w [bk g93 #[.bool (neg ((qd r) % ((Int.gcd D (qd r) : Nat) : Int))), .slice A85 (zl ((qd r) % ((Int.gcd D (qd r) : Nat) : Int))) c86] 36, bk g89 #[.bool (neg ((qd r) / ((Int.gcd D (qd r) : Nat) : Int))), .slice A82 (zl ((qd r) / ((Int.gcd D (qd r) : Nat) : Int))) c83] 36, bk g62 #[.bool (neg (qn r)), .slice A (zl (qn r)) c, .bool (neg (ql r)), .slice B (zl (ql r)) d] 91, bk g57 #[.bool (neg D), .slice Ad (zl D) cd] 36, bk g51 #[.bool (neg 0), .slice none (zl 0) 0] 36] [pfZ A85 c86 ((qd r) % ((Int.gcd D (qd r) : Nat) : Int)), pfZ A82 c83 ((qd r) / ((Int.gcd D (qd r) : Nat) : Int)), pfZ A c (qn r), pfZ B d (ql r), FK (A, c, B, d, r), pfRow fK FK 4 A0 n0 c0 es0, pfZ Ad cd D]) ?_ ?_
  ·refine region_any (n := 16) (Sk [bk g62 #[.bool (neg (qn r)), .slice A (zl (qn r)) c, .bool (neg (ql r)), .slice B (zl (ql r)) d] 91, bk g57 #[.bool (neg D), .slice Ad (zl D) cd] 36, bk g51 #[.bool (neg 0), .slice none (zl 0) 0] 36] [pfZ A c (qn r), pfZ B d (ql r), FK (A, c, B, d, r), pfRow fK FK 4 A0 n0 c0 es0, pfZ Ad cd D] [13, 14] []) mixed rfl η σ ?_
   clear η σ; intro w65 η σ
   refine sAny_gen fun T hT => ?_
   have hN95 : ∀ (L : Array Bool) (a : Act) (w : World), L = #[true, true, true, true, true, true, true, true, true, true, true, true, true, false, false, false] → (∃ (A82 : Option Addr) (c83 : Nat) (A85 : Option Addr) (c86 g89 g93 : Nat), Env 62 a [(0, .slice A0 n0 c0), (3, .pointer (some ⟨g51, 0, none⟩)), (17, .slice A0 n0 c0), (18, .int .i64 (n0 : Nat)), (4, .pointer (some ⟨g57, 0, none⟩)), (19, .int .i64 (j : Nat)), (20, .bool (decide (((j : Nat) : Int) < ((n0 : Nat) : Int)))), (21, .pointer (some ⟨ab A0, ao A0 + j * 4, none⟩)), (22, .agg #[.bool (neg (qn r)), .slice A (zl (qn r)) c, .bool (neg (ql r)), .slice B (zl (ql r)) d]), (6, .pointer (some ⟨g62, 0, none⟩)), (31, .agg #[.bool (neg ((qd r) / ((Int.gcd D (qd r) : Nat) : Int))), .slice A82 (zl ((qd r) / ((Int.gcd D (qd r) : Nat) : Int))) c83]), (32, .agg #[.bool (neg ((qd r) % ((Int.gcd D (qd r) : Nat) : Int))), .slice A85 (zl ((qd r) % ((Int.gcd D (qd r) : Nat) : Int))) c86]), (33, .int .i64 0), (7, .pointer (some ⟨g89, 0, none⟩)), (8, .pointer (some ⟨g93, 0, none⟩))] ∧ St w0 w [bk g93 #[.bool (neg 0), .slice none (zl 0) 0] 36, bk g89 #[.bool (neg 0), .slice none (zl 0) 0] 36, bk g62 #[.bool (neg (qn r)), .slice A (zl (qn r)) c, .bool (neg (ql r)), .slice B (zl (ql r)) d] 91, bk g57 #[.bool (neg D), .slice Ad (zl D) cd] 36, bk g51 #[.bool (neg 0), .slice none (zl 0) 0] 36] [pfZ A85 c86 ((qd r) % ((Int.gcd D (qd r) : Nat) : Int)), pfZ A82 c83 ((qd r) / ((Int.gcd D (qd r) : Nat) : Int)), pfZ A c (qn r), pfZ B d (ql r), FK (A, c, B, d, r), pfRow fK FK 4 A0 n0 c0 es0, pfZ Ad cd D]) → T 3 L a w := by
    rintro _ a w96 rfl ⟨A82, c83, A85, c86, g89, g93, η, σ⟩
    rw [hT]
    refine sAny_one (i := 13) (by kernel_rfl) rfl rfl (op_store (k := 1) (c' := #[.bool (neg ((qd r) / ((Int.gcd D (qd r) : Nat) : Int))), .slice A82 (zl ((qd r) / ((Int.gcd D (qd r) : Nat) : Int))) c83]) η σ (ty_anvil_integer_Int.size) rfl rfl rfl rfl (by simp) rfl rfl ?_)
    clear η σ a; intro a w97 η σ
    refine ⟨.inr ⟨σ.kn.pick [2, 3, 4] (rg 2 5), .inl rfl⟩, ?_⟩
    refine sAny_one (i := 14) (by kernel_rfl) rfl rfl (op_store (k := 0) (c' := #[.bool (neg ((qd r) % ((Int.gcd D (qd r) : Nat) : Int))), .slice A85 (zl ((qd r) % ((Int.gcd D (qd r) : Nat) : Int))) c86]) η σ (ty_anvil_integer_Int.size) rfl rfl rfl rfl (by simp) rfl rfl ?_)
    clear η σ a; intro a w98 η σ
    refine ⟨.inr ⟨σ.kn.pick [2, 3, 4] (rg 2 5), .inl rfl⟩, ?_⟩
    refine tA (i := 15) [] (v := .int .i64 0) rfl (by kernel_rfl) (fun _ _ _ h => h) η rfl (fun _ => rn_assign η rfl) ?_
    clear η a; intro a η
    refine sAny_done (by kernel_rfl) ?_ _
    exact th_n ⟨A82, c83, A85, c86, g89, g93, η.sub ⟨rfl, rfl, rfl, rfl, rfl, rfl, rfl, rfl, rfl, rfl, rfl, trivial⟩, σ.pick [0, 1, 2, 3, 4] [0, 1, 2, 3, 4, 5, 6] (by decide)⟩
   have hN91 : ∀ (L : Array Bool) (a : Act) (w : World), L = #[true, true, true, true, true, true, true, true, true, true, true, true, false, false, false, false] → (∃ (A82 : Option Addr) (c83 : Nat) (A85 : Option Addr) (c86 g89 : Nat), Env 62 a [(0, .slice A0 n0 c0), (3, .pointer (some ⟨g51, 0, none⟩)), (17, .slice A0 n0 c0), (18, .int .i64 (n0 : Nat)), (4, .pointer (some ⟨g57, 0, none⟩)), (19, .int .i64 (j : Nat)), (20, .bool (decide (((j : Nat) : Int) < ((n0 : Nat) : Int)))), (21, .pointer (some ⟨ab A0, ao A0 + j * 4, none⟩)), (22, .agg #[.bool (neg (qn r)), .slice A (zl (qn r)) c, .bool (neg (ql r)), .slice B (zl (ql r)) d]), (6, .pointer (some ⟨g62, 0, none⟩)), (31, .agg #[.bool (neg ((qd r) / ((Int.gcd D (qd r) : Nat) : Int))), .slice A82 (zl ((qd r) / ((Int.gcd D (qd r) : Nat) : Int))) c83]), (32, .agg #[.bool (neg ((qd r) % ((Int.gcd D (qd r) : Nat) : Int))), .slice A85 (zl ((qd r) % ((Int.gcd D (qd r) : Nat) : Int))) c86]), (33, .int .i64 0), (7, .pointer (some ⟨g89, 0, none⟩))] ∧ St w0 w [bk g89 #[.bool (neg 0), .slice none (zl 0) 0] 36, bk g62 #[.bool (neg (qn r)), .slice A (zl (qn r)) c, .bool (neg (ql r)), .slice B (zl (ql r)) d] 91, bk g57 #[.bool (neg D), .slice Ad (zl D) cd] 36, bk g51 #[.bool (neg 0), .slice none (zl 0) 0] 36] [pfZ A85 c86 ((qd r) % ((Int.gcd D (qd r) : Nat) : Int)), pfZ A82 c83 ((qd r) / ((Int.gcd D (qd r) : Nat) : Int)), pfZ A c (qn r), pfZ B d (ql r), FK (A, c, B, d, r), pfRow fK FK 4 A0 n0 c0 es0, pfZ Ad cd D]) → T 4 L a w := by
    rintro _ a w92 rfl ⟨A82, c83, A85, c86, g89, η, σ⟩
    rw [hT]
    refine sAny_one (i := 12) (by kernel_rfl) rfl rfl (op_alloc (c := #[.bool (neg 0), .slice none (zl 0) 0]) η σ rfl zero_anvil_integer_Int zcells ?_)
    clear η σ a; intro a w94 g93 η σ
    refine ⟨.inr ⟨σ.kn.pick [2, 3, 4] (rg 2 5), .inr (σ.kn.pick [] [])⟩, ?_⟩
    rw [← hT]
    exact hN95 _ _ _ (by kernel_rfl) ⟨A82, c83, A85, c86, g89, g93, η.sub ⟨rfl, rfl, rfl, rfl, rfl, rfl, rfl, rfl, rfl, rfl, rfl, rfl, rfl, rfl, rfl, trivial⟩, σ.pick [0, 1, 2, 3, 4] [0, 1, 2, 3, 4, 5, 6] (by decide)⟩
   have hN101 : ∀ (L : Array Bool) (a : Act) (w : World), L = #[true, true, true, true, true, true, true, true, true, true, true, false, true, false, false, false] → (∃ (A82 : Option Addr) (c83 : Nat) (A85 : Option Addr) (c86 g99 : Nat), Env 62 a [(0, .slice A0 n0 c0), (3, .pointer (some ⟨g51, 0, none⟩)), (17, .slice A0 n0 c0), (18, .int .i64 (n0 : Nat)), (4, .pointer (some ⟨g57, 0, none⟩)), (19, .int .i64 (j : Nat)), (20, .bool (decide (((j : Nat) : Int) < ((n0 : Nat) : Int)))), (21, .pointer (some ⟨ab A0, ao A0 + j * 4, none⟩)), (22, .agg #[.bool (neg (qn r)), .slice A (zl (qn r)) c, .bool (neg (ql r)), .slice B (zl (ql r)) d]), (6, .pointer (some ⟨g62, 0, none⟩)), (31, .agg #[.bool (neg ((qd r) / ((Int.gcd D (qd r) : Nat) : Int))), .slice A82 (zl ((qd r) / ((Int.gcd D (qd r) : Nat) : Int))) c83]), (32, .agg #[.bool (neg ((qd r) % ((Int.gcd D (qd r) : Nat) : Int))), .slice A85 (zl ((qd r) % ((Int.gcd D (qd r) : Nat) : Int))) c86]), (33, .int .i64 0), (8, .pointer (some ⟨g99, 0, none⟩))] ∧ St w0 w [bk g99 #[.bool (neg 0), .slice none (zl 0) 0] 36, bk g62 #[.bool (neg (qn r)), .slice A (zl (qn r)) c, .bool (neg (ql r)), .slice B (zl (ql r)) d] 91, bk g57 #[.bool (neg D), .slice Ad (zl D) cd] 36, bk g51 #[.bool (neg 0), .slice none (zl 0) 0] 36] [pfZ A85 c86 ((qd r) % ((Int.gcd D (qd r) : Nat) : Int)), pfZ A82 c83 ((qd r) / ((Int.gcd D (qd r) : Nat) : Int)), pfZ A c (qn r), pfZ B d (ql r), FK (A, c, B, d, r), pfRow fK FK 4 A0 n0 c0 es0, pfZ Ad cd D]) → T 4 L a w := by
    rintro _ a w102 rfl ⟨A82, c83, A85, c86, g99, η, σ⟩
    rw [hT]
    refine sAny_one (i := 11) (by kernel_rfl) rfl rfl (op_alloc (c := #[.bool (neg 0), .slice none (zl 0) 0]) η σ rfl zero_anvil_integer_Int zcells ?_)
    clear η σ a; intro a w104 g103 η σ
    refine ⟨.inr ⟨σ.kn.pick [2, 3, 4] (rg 2 5), .inr (σ.kn.pick [] [])⟩, ?_⟩
    rw [← hT]
    exact hN95 _ _ _ (by kernel_rfl) ⟨A82, c83, A85, c86, g103, g99, η.sub ⟨rfl, rfl, rfl, rfl, rfl, rfl, rfl, rfl, rfl, rfl, rfl, rfl, rfl, rfl, rfl, trivial⟩, σ.pick [1, 0, 2, 3, 4] [0, 1, 2, 3, 4, 5, 6] (by decide)⟩
   have hN119 : ∀ (L : Array Bool) (a : Act) (w : World), L = #[true, true, true, true, true, true, false, false, false, false, false, true, true, false, false, false] → (∃ (A66 : Option Addr) (c67 : Nat) (A77 : Option Addr) (c78 g105 g117 : Nat), Env 62 a [(0, .slice A0 n0 c0), (3, .pointer (some ⟨g51, 0, none⟩)), (17, .slice A0 n0 c0), (18, .int .i64 (n0 : Nat)), (4, .pointer (some ⟨g57, 0, none⟩)), (19, .int .i64 (j : Nat)), (20, .bool (decide (((j : Nat) : Int) < ((n0 : Nat) : Int)))), (21, .pointer (some ⟨ab A0, ao A0 + j * 4, none⟩)), (22, .agg #[.bool (neg (qn r)), .slice A (zl (qn r)) c, .bool (neg (ql r)), .slice B (zl (ql r)) d]), (6, .pointer (some ⟨g62, 0, none⟩)), (25, .agg #[.bool (neg (qd r)), .slice A66 (zl (qd r)) c67]), (29, .agg #[.bool (neg ((Int.gcd D (qd r) : Nat) : Int)), .slice A77 (zl ((Int.gcd D (qd r) : Nat) : Int)) c78]), (7, .pointer (some ⟨g105, 0, none⟩)), (8, .pointer (some ⟨g117, 0, none⟩))] ∧ St w0 w [bk g117 #[.bool (neg 0), .slice none (zl 0) 0] 36, bk g105 #[.bool (neg 0), .slice none (zl 0) 0] 36, bk g62 #[.bool (neg (qn r)), .slice A (zl (qn r)) c, .bool (neg (ql r)), .slice B (zl (ql r)) d] 91, bk g57 #[.bool (neg D), .slice Ad (zl D) cd] 36, bk g51 #[.bool (neg 0), .slice none (zl 0) 0] 36] [pfZ A77 c78 ((Int.gcd D (qd r) : Nat) : Int), pfZ A66 c67 (qd r), pfZ A c (qn r), pfZ B d (ql r), FK (A, c, B, d, r), pfRow fK FK 4 A0 n0 c0 es0, pfZ Ad cd D]) → T 8 L a w := by
    rintro _ a w120 rfl ⟨A66, c67, A77, c78, g105, g117, η, σ⟩
    rw [hT]
    have hs121 := zl_ediv (qd r) ((Int.gcd D (qd r) : Nat) : Int)
    refine sAny_one (i := 6) (by kernel_rfl) rfl rfl (op_call η rfl Tryd.call117 rfl (divmod_z (x := (qd r)) (y := ((Int.gcd D (qd r) : Nat) : Int)) (show ZIn _ A66 c67 (qd r) from σ.pat (k := 1) rfl) (show ZIn _ A77 c78 ((Int.gcd D (qd r) : Nat) : Int) from σ.pat (k := 0) rfl) (by omega) (by omega) hg0) ?_)
    rintro e w128 ⟨_, _, rfl, ⟨A122, c123, rfl, hz124⟩, ⟨A125, c126, rfl, hz127⟩, hb⟩
    refine ⟨_, rfl, ?_⟩
    clear η a; intro a η
    replace σ := ((σ.call hb).addZ hz124 ⟨nou_bk rfl, nou_bk rfl, nou_bk rfl, nou_bk rfl, nou_bk rfl, trivial⟩).addZ hz127 ⟨nou_bk rfl, nou_bk rfl, nou_bk rfl, nou_bk rfl, nou_bk rfl, trivial⟩
    clear hz124 hz127
    clear hb
    refine ⟨.inr ⟨σ.kn.pick [2, 3, 4] (rg 4 5), .inr (σ.kn.pick [] [])⟩, ?_⟩
    refine tM (i := 7) [8, 9, 10, 13, 14, 15] rfl (by kernel_rfl) (fun _ _ _ h => h) η rfl rfl ?_
    clear η a; intro a η
    refine tA (i := 8) [13, 14, 15] (v := .agg #[.bool (neg ((qd r) / ((Int.gcd D (qd r) : Nat) : Int))), .slice A122 (zl ((qd r) / ((Int.gcd D (qd r) : Nat) : Int))) c123]) rfl (by kernel_rfl) (fun _ _ _ h => h) η rfl (fun _ => rn_extract η rfl rfl) ?_
    clear η a; intro a η
    refine tA (i := 9) [14, 15] (v := .agg #[.bool (neg ((qd r) % ((Int.gcd D (qd r) : Nat) : Int))), .slice A125 (zl ((qd r) % ((Int.gcd D (qd r) : Nat) : Int))) c126]) rfl (by kernel_rfl) (fun _ _ _ h => h) η rfl (fun _ => rn_extract η rfl rfl) ?_
    clear η a; intro a η
    refine tA (i := 10) [15] (v := .int .i64 0) rfl (by kernel_rfl) (fun _ _ _ h => h) η rfl (fun _ => rn_extract η rfl rfl) ?_
    clear η a; intro a η
    rw [← hT]
    exact hN95 _ _ _ (by kernel_rfl) ⟨A122, c123, A125, c126, g105, g117, η.sub ⟨rfl, rfl, rfl, rfl, rfl, rfl, rfl, rfl, rfl, rfl, rfl, rfl, rfl, rfl, rfl, trivial⟩, σ.pick [0, 1, 2, 3, 4] [0, 1, 4, 5, 6, 7, 8] (by decide)⟩
   have hN107 : ∀ (L : Array Bool) (a : Act) (w : World), L = #[true, true, true, true, true, true, false, false, false, false, false, true, false, false, false, false] → (∃ (A66 : Option Addr) (c67 : Nat) (A77 : Option Addr) (c78 g105 : Nat), Env 62 a [(0, .slice A0 n0 c0), (3, .pointer (some ⟨g51, 0, none⟩)), (17, .slice A0 n0 c0), (18, .int .i64 (n0 : Nat)), (4, .pointer (some ⟨g57, 0, none⟩)), (19, .int .i64 (j : Nat)), (20, .bool (decide (((j : Nat) : Int) < ((n0 : Nat) : Int)))), (21, .pointer (some ⟨ab A0, ao A0 + j * 4, none⟩)), (22, .agg #[.bool (neg (qn r)), .slice A (zl (qn r)) c, .bool (neg (ql r)), .slice B (zl (ql r)) d]), (6, .pointer (some ⟨g62, 0, none⟩)), (25, .agg #[.bool (neg (qd r)), .slice A66 (zl (qd r)) c67]), (29, .agg #[.bool (neg ((Int.gcd D (qd r) : Nat) : Int)), .slice A77 (zl ((Int.gcd D (qd r) : Nat) : Int)) c78]), (7, .pointer (some ⟨g105, 0, none⟩))] ∧ St w0 w [bk g105 #[.bool (neg 0), .slice none (zl 0) 0] 36, bk g62 #[.bool (neg (qn r)), .slice A (zl (qn r)) c, .bool (neg (ql r)), .slice B (zl (ql r)) d] 91, bk g57 #[.bool (neg D), .slice Ad (zl D) cd] 36, bk g51 #[.bool (neg 0), .slice none (zl 0) 0] 36] [pfZ A77 c78 ((Int.gcd D (qd r) : Nat) : Int), pfZ A66 c67 (qd r), pfZ A c (qn r), pfZ B d (ql r), FK (A, c, B, d, r), pfRow fK FK 4 A0 n0 c0 es0, pfZ Ad cd D]) → T 9 L a w := by
    rintro _ a w108 rfl ⟨A66, c67, A77, c78, g105, η, σ⟩
    rw [hT]
    refine sAny_all (rs := [6, 12]) (by kernel_rfl) (by simp) ?_
    simp only [List.forall_mem_cons, List.not_mem_nil, false_implies, implies_true, and_true]
    refine ⟨?_, ?_⟩
    ·have hs109 := zl_ediv (qd r) ((Int.gcd D (qd r) : Nat) : Int)
     refine ⟨_, rfl, rfl, op_call η rfl Tryd.call117 rfl (divmod_z (x := (qd r)) (y := ((Int.gcd D (qd r) : Nat) : Int)) (show ZIn _ A66 c67 (qd r) from σ.pat (k := 1) rfl) (show ZIn _ A77 c78 ((Int.gcd D (qd r) : Nat) : Int) from σ.pat (k := 0) rfl) (by omega) (by omega) hg0) ?_⟩
     rintro e w116 ⟨_, _, rfl, ⟨A110, c111, rfl, hz112⟩, ⟨A113, c114, rfl, hz115⟩, hb⟩
     refine ⟨_, rfl, ?_⟩
     clear η a; intro a η
     replace σ := ((σ.call hb).addZ hz112 ⟨nou_bk rfl, nou_bk rfl, nou_bk rfl, nou_bk rfl, trivial⟩).addZ hz115 ⟨nou_bk rfl, nou_bk rfl, nou_bk rfl, nou_bk rfl, trivial⟩
     clear hz112 hz115
     clear hb
     refine ⟨.inr ⟨σ.kn.pick [1, 2, 3] (rg 4 5), .inr (σ.kn.pick [] [])⟩, ?_⟩
     refine tM (i := 7) [8, 9, 10, 13, 14, 15] rfl (by kernel_rfl) (fun _ _ _ h => h) η rfl rfl ?_
     clear η a; intro a η
     refine tA (i := 8) [13, 14, 15] (v := .agg #[.bool (neg ((qd r) / ((Int.gcd D (qd r) : Nat) : Int))), .slice A110 (zl ((qd r) / ((Int.gcd D (qd r) : Nat) : Int))) c111]) rfl (by kernel_rfl) (fun _ _ _ h => h) η rfl (fun _ => rn_extract η rfl rfl) ?_
     clear η a; intro a η
     refine tA (i := 9) [14, 15] (v := .agg #[.bool (neg ((qd r) % ((Int.gcd D (qd r) : Nat) : Int))), .slice A113 (zl ((qd r) % ((Int.gcd D (qd r) : Nat) : Int))) c114]) rfl (by kernel_rfl) (fun _ _ _ h => h) η rfl (fun _ => rn_extract η rfl rfl) ?_
     clear η a; intro a η
     refine tA (i := 10) [15] (v := .int .i64 0) rfl (by kernel_rfl) (fun _ _ _ h => h) η rfl (fun _ => rn_extract η rfl rfl) ?_
     clear η a; intro a η
     rw [← hT]
     exact hN91 _ _ _ (by kernel_rfl) ⟨A110, c111, A113, c114, g105, η.sub ⟨rfl, rfl, rfl, rfl, rfl, rfl, rfl, rfl, rfl, rfl, rfl, rfl, rfl, rfl, trivial⟩, σ.pick [0, 1, 2, 3] [0, 1, 4, 5, 6, 7, 8] (by decide)⟩
    ·refine ⟨_, rfl, rfl, op_alloc (c := #[.bool (neg 0), .slice none (zl 0) 0]) η σ rfl zero_anvil_integer_Int zcells ?_⟩
     clear η σ a; intro a w118 g117 η σ
     refine ⟨.inr ⟨σ.kn.pick [2, 3, 4] (rg 2 5), .inr (σ.kn.pick [] [])⟩, ?_⟩
     rw [← hT]
     exact hN119 _ _ _ (by kernel_rfl) ⟨A66, c67, A77, c78, g105, g117, η.sub ⟨rfl, rfl, rfl, rfl, rfl, rfl, rfl, rfl, rfl, rfl, rfl, rfl, rfl, rfl, trivial⟩, σ.pick [0, 1, 2, 3, 4] [0, 1, 2, 3, 4, 5, 6] (by decide)⟩
   have hN131 : ∀ (L : Array Bool) (a : Act) (w : World), L = #[true, true, true, true, true, true, false, false, false, false, false, false, true, false, false, false] → (∃ (A66 : Option Addr) (c67 : Nat) (A77 : Option Addr) (c78 g129 : Nat), Env 62 a [(0, .slice A0 n0 c0), (3, .pointer (some ⟨g51, 0, none⟩)), (17, .slice A0 n0 c0), (18, .int .i64 (n0 : Nat)), (4, .pointer (some ⟨g57, 0, none⟩)), (19, .int .i64 (j : Nat)), (20, .bool (decide (((j : Nat) : Int) < ((n0 : Nat) : Int)))), (21, .pointer (some ⟨ab A0, ao A0 + j * 4, none⟩)), (22, .agg #[.bool (neg (qn r)), .slice A (zl (qn r)) c, .bool (neg (ql r)), .slice B (zl (ql r)) d]), (6, .pointer (some ⟨g62, 0, none⟩)), (25, .agg #[.bool (neg (qd r)), .slice A66 (zl (qd r)) c67]), (29, .agg #[.bool (neg ((Int.gcd D (qd r) : Nat) : Int)), .slice A77 (zl ((Int.gcd D (qd r) : Nat) : Int)) c78]), (8, .pointer (some ⟨g129, 0, none⟩))] ∧ St w0 w [bk g129 #[.bool (neg 0), .slice none (zl 0) 0] 36, bk g62 #[.bool (neg (qn r)), .slice A (zl (qn r)) c, .bool (neg (ql r)), .slice B (zl (ql r)) d] 91, bk g57 #[.bool (neg D), .slice Ad (zl D) cd] 36, bk g51 #[.bool (neg 0), .slice none (zl 0) 0] 36] [pfZ A77 c78 ((Int.gcd D (qd r) : Nat) : Int), pfZ A66 c67 (qd r), pfZ A c (qn r), pfZ B d (ql r), FK (A, c, B, d, r), pfRow fK FK 4 A0 n0 c0 es0, pfZ Ad cd D]) → T 9 L a w := by
    rintro _ a w132 rfl ⟨A66, c67, A77, c78, g129, η, σ⟩
    rw [hT]
    refine sAny_all (rs := [6, 11]) (by kernel_rfl) (by simp) ?_
    simp only [List.forall_mem_cons, List.not_mem_nil, false_implies, implies_true, and_true]
    refine ⟨?_, ?_⟩
    ·have hs133 := zl_ediv (qd r) ((Int.gcd D (qd r) : Nat) : Int)
     refine ⟨_, rfl, rfl, op_call η rfl Tryd.call117 rfl (divmod_z (x := (qd r)) (y := ((Int.gcd D (qd r) : Nat) : Int)) (show ZIn _ A66 c67 (qd r) from σ.pat (k := 1) rfl) (show ZIn _ A77 c78 ((Int.gcd D (qd r) : Nat) : Int) from σ.pat (k := 0) rfl) (by omega) (by omega) hg0) ?_⟩
     rintro e w140 ⟨_, _, rfl, ⟨A134, c135, rfl, hz136⟩, ⟨A137, c138, rfl, hz139⟩, hb⟩
     refine ⟨_, rfl, ?_⟩
     clear η a; intro a η
     replace σ := ((σ.call hb).addZ hz136 ⟨nou_bk rfl, nou_bk rfl, nou_bk rfl, nou_bk rfl, trivial⟩).addZ hz139 ⟨nou_bk rfl, nou_bk rfl, nou_bk rfl, nou_bk rfl, trivial⟩
     clear hz136 hz139
     clear hb
     refine ⟨.inr ⟨σ.kn.pick [1, 2, 3] (rg 4 5), .inr (σ.kn.pick [] [])⟩, ?_⟩
     refine tM (i := 7) [8, 9, 10, 13, 14, 15] rfl (by kernel_rfl) (fun _ _ _ h => h) η rfl rfl ?_
     clear η a; intro a η
     refine tA (i := 8) [13, 14, 15] (v := .agg #[.bool (neg ((qd r) / ((Int.gcd D (qd r) : Nat) : Int))), .slice A134 (zl ((qd r) / ((Int.gcd D (qd r) : Nat) : Int))) c135]) rfl (by kernel_rfl) (fun _ _ _ h => h) η rfl (fun _ => rn_extract η rfl rfl) ?_
     clear η a; intro a η
     refine tA (i := 9) [14, 15] (v := .agg #[.bool (neg ((qd r) % ((Int.gcd D (qd r) : Nat) : Int))), .slice A137 (zl ((qd r) % ((Int.gcd D (qd r) : Nat) : Int))) c138]) rfl (by kernel_rfl) (fun _ _ _ h => h) η rfl (fun _ => rn_extract η rfl rfl) ?_
     clear η a; intro a η
     refine tA (i := 10) [15] (v := .int .i64 0) rfl (by kernel_rfl) (fun _ _ _ h => h) η rfl (fun _ => rn_extract η rfl rfl) ?_
     clear η a; intro a η
     rw [← hT]
     exact hN101 _ _ _ (by kernel_rfl) ⟨A134, c135, A137, c138, g129, η.sub ⟨rfl, rfl, rfl, rfl, rfl, rfl, rfl, rfl, rfl, rfl, rfl, rfl, rfl, rfl, trivial⟩, σ.pick [0, 1, 2, 3] [0, 1, 4, 5, 6, 7, 8] (by decide)⟩
    ·refine ⟨_, rfl, rfl, op_alloc (c := #[.bool (neg 0), .slice none (zl 0) 0]) η σ rfl zero_anvil_integer_Int zcells ?_⟩
     clear η σ a; intro a w142 g141 η σ
     refine ⟨.inr ⟨σ.kn.pick [2, 3, 4] (rg 2 5), .inr (σ.kn.pick [] [])⟩, ?_⟩
     rw [← hT]
     exact hN119 _ _ _ (by kernel_rfl) ⟨A66, c67, A77, c78, g141, g129, η.sub ⟨rfl, rfl, rfl, rfl, rfl, rfl, rfl, rfl, rfl, rfl, rfl, rfl, rfl, rfl, trivial⟩, σ.pick [1, 0, 2, 3, 4] [0, 1, 2, 3, 4, 5, 6] (by decide)⟩
   have hN154 : ∀ (L : Array Bool) (a : Act) (w : World), L = #[true, true, true, true, true, false, false, false, false, false, false, true, true, false, false, false] → (∃ (A66 : Option Addr) (c67 : Nat) (A71 : Option Addr) (c72 g143 g152 : Nat), Env 62 a [(0, .slice A0 n0 c0), (3, .pointer (some ⟨g51, 0, none⟩)), (17, .slice A0 n0 c0), (18, .int .i64 (n0 : Nat)), (4, .pointer (some ⟨g57, 0, none⟩)), (19, .int .i64 (j : Nat)), (20, .bool (decide (((j : Nat) : Int) < ((n0 : Nat) : Int)))), (21, .pointer (some ⟨ab A0, ao A0 + j * 4, none⟩)), (22, .agg #[.bool (neg (qn r)), .slice A (zl (qn r)) c, .bool (neg (ql r)), .slice B (zl (ql r)) d]), (6, .pointer (some ⟨g62, 0, none⟩)), (26, .agg #[.bool (neg D), .slice Ad (zl D) cd]), (25, .agg #[.bool (neg (qd r)), .slice A66 (zl (qd r)) c67]), (28, .agg #[.bool (neg (qd r)), .slice A71 (zl (qd r)) c72]), (7, .pointer (some ⟨g143, 0, none⟩)), (8, .pointer (some ⟨g152, 0, none⟩))] ∧ St w0 w [bk g152 #[.bool (neg 0), .slice none (zl 0) 0] 36, bk g143 #[.bool (neg 0), .slice none (zl 0) 0] 36, bk g62 #[.bool (neg (qn r)), .slice A (zl (qn r)) c, .bool (neg (ql r)), .slice B (zl (ql r)) d] 91, bk g57 #[.bool (neg D), .slice Ad (zl D) cd] 36, bk g51 #[.bool (neg 0), .slice none (zl 0) 0] 36] [pfZ A71 c72 (qd r), pfZ A66 c67 (qd r), pfZ A c (qn r), pfZ B d (ql r), FK (A, c, B, d, r), pfRow fK FK 4 A0 n0 c0 es0, pfZ Ad cd D]) → T 9 L a w := by
    rintro _ a w155 rfl ⟨A66, c67, A71, c72, g143, g152, η, σ⟩
    rw [hT]
    have hs156 := gcd_zq D (qd r)
    refine sAny_one (i := 5) (by kernel_rfl) rfl rfl (op_call η rfl Tryd.call93 rfl (gcd_z (x := D) (y := (qd r)) (show ZIn _ Ad cd D from σ.pat (k := 6) rfl) (show ZIn _ A71 c72 (qd r) from σ.pat (k := 0) rfl) (by omega) (by omega)) ?_)
    rintro e w160 ⟨_, rfl, ⟨A157, c158, rfl, hz159⟩, hb⟩
    refine ⟨_, rfl, ?_⟩
    clear η a; intro a η
    replace σ := (σ.call hb).addZ hz159 ⟨nou_bk rfl, nou_bk rfl, nou_bk rfl, nou_bk rfl, nou_bk rfl, trivial⟩
    clear hz159
    clear hb
    refine ⟨.inr ⟨σ.kn.pick [2, 3, 4] (rg 3 5), .inr (σ.kn.pick [] [])⟩, ?_⟩
    rw [← hT]
    exact hN119 _ _ _ (by kernel_rfl) ⟨A66, c67, A157, c158, g143, g152, η.sub ⟨rfl, rfl, rfl, rfl, rfl, rfl, rfl, rfl, rfl, rfl, rfl, rfl, rfl, rfl, trivial⟩, σ.pick [0, 1, 2, 3, 4] [0, 2, 3, 4, 5, 6, 7] (by decide)⟩
   have hN145 : ∀ (L : Array Bool) (a : Act) (w : World), L = #[true, true, true, true, true, false, false, false, false, false, false, true, false, false, false, false] → (∃ (A66 : Option Addr) (c67 : Nat) (A71 : Option Addr) (c72 g143 : Nat), Env 62 a [(0, .slice A0 n0 c0), (3, .pointer (some ⟨g51, 0, none⟩)), (17, .slice A0 n0 c0), (18, .int .i64 (n0 : Nat)), (4, .pointer (some ⟨g57, 0, none⟩)), (19, .int .i64 (j : Nat)), (20, .bool (decide (((j : Nat) : Int) < ((n0 : Nat) : Int)))), (21, .pointer (some ⟨ab A0, ao A0 + j * 4, none⟩)), (22, .agg #[.bool (neg (qn r)), .slice A (zl (qn r)) c, .bool (neg (ql r)), .slice B (zl (ql r)) d]), (6, .pointer (some ⟨g62, 0, none⟩)), (26, .agg #[.bool (neg D), .slice Ad (zl D) cd]), (25, .agg #[.bool (neg (qd r)), .slice A66 (zl (qd r)) c67]), (28, .agg #[.bool (neg (qd r)), .slice A71 (zl (qd r)) c72]), (7, .pointer (some ⟨g143, 0, none⟩))] ∧ St w0 w [bk g143 #[.bool (neg 0), .slice none (zl 0) 0] 36, bk g62 #[.bool (neg (qn r)), .slice A (zl (qn r)) c, .bool (neg (ql r)), .slice B (zl (ql r)) d] 91, bk g57 #[.bool (neg D), .slice Ad (zl D) cd] 36, bk g51 #[.bool (neg 0), .slice none (zl 0) 0] 36] [pfZ A71 c72 (qd r), pfZ A66 c67 (qd r), pfZ A c (qn r), pfZ B d (ql r), FK (A, c, B, d, r), pfRow fK FK 4 A0 n0 c0 es0, pfZ Ad cd D]) → T 10 L a w := by
    rintro _ a w146 rfl ⟨A66, c67, A71, c72, g143, η, σ⟩
    rw [hT]
    refine sAny_all (rs := [5, 12]) (by kernel_rfl) (by simp) ?_
    simp only [List.forall_mem_cons, List.not_mem_nil, false_implies, implies_true, and_true]
    refine ⟨?_, ?_⟩
    ·have hs147 := gcd_zq D (qd r)
     refine ⟨_, rfl, rfl, op_call η rfl Tryd.call93 rfl (gcd_z (x := D) (y := (qd r)) (show ZIn _ Ad cd D from σ.pat (k := 6) rfl) (show ZIn _ A71 c72 (qd r) from σ.pat (k := 0) rfl) (by omega) (by omega)) ?_⟩
     rintro e w151 ⟨_, rfl, ⟨A148, c149, rfl, hz150⟩, hb⟩
     refine ⟨_, rfl, ?_⟩
     clear η a; intro a η
     replace σ := (σ.call hb).addZ hz150 ⟨nou_bk rfl, nou_bk rfl, nou_bk rfl, nou_bk rfl, trivial⟩
     clear hz150
     clear hb
     refine ⟨.inr ⟨σ.kn.pick [1, 2, 3] (rg 3 5), .inr (σ.kn.pick [] [])⟩, ?_⟩
     rw [← hT]
     exact hN107 _ _ _ (by kernel_rfl) ⟨A66, c67, A148, c149, g143, η.sub ⟨rfl, rfl, rfl, rfl, rfl, rfl, rfl, rfl, rfl, rfl, rfl, rfl, rfl, trivial⟩, σ.pick [0, 1, 2, 3] [0, 2, 3, 4, 5, 6, 7] (by decide)⟩
    ·refine ⟨_, rfl, rfl, op_alloc (c := #[.bool (neg 0), .slice none (zl 0) 0]) η σ rfl zero_anvil_integer_Int zcells ?_⟩
     clear η σ a; intro a w153 g152 η σ
     refine ⟨.inr ⟨σ.kn.pick [2, 3, 4] (rg 2 5), .inr (σ.kn.pick [] [])⟩, ?_⟩
     rw [← hT]
     exact hN154 _ _ _ (by kernel_rfl) ⟨A66, c67, A71, c72, g143, g152, η.sub ⟨rfl, rfl, rfl, rfl, rfl, rfl, rfl, rfl, rfl, rfl, rfl, rfl, rfl, rfl, rfl, trivial⟩, σ.pick [0, 1, 2, 3, 4] [0, 1, 2, 3, 4, 5, 6] (by decide)⟩
   have hN163 : ∀ (L : Array Bool) (a : Act) (w : World), L = #[true, true, true, true, true, false, false, false, false, false, false, false, true, false, false, false] → (∃ (A66 : Option Addr) (c67 : Nat) (A71 : Option Addr) (c72 g161 : Nat), Env 62 a [(0, .slice A0 n0 c0), (3, .pointer (some ⟨g51, 0, none⟩)), (17, .slice A0 n0 c0), (18, .int .i64 (n0 : Nat)), (4, .pointer (some ⟨g57, 0, none⟩)), (19, .int .i64 (j : Nat)), (20, .bool (decide (((j : Nat) : Int) < ((n0 : Nat) : Int)))), (21, .pointer (some ⟨ab A0, ao A0 + j * 4, none⟩)), (22, .agg #[.bool (neg (qn r)), .slice A (zl (qn r)) c, .bool (neg (ql r)), .slice B (zl (ql r)) d]), (6, .pointer (some ⟨g62, 0, none⟩)), (26, .agg #[.bool (neg D), .slice Ad (zl D) cd]), (25, .agg #[.bool (neg (qd r)), .slice A66 (zl (qd r)) c67]), (28, .agg #[.bool (neg (qd r)), .slice A71 (zl (qd r)) c72]), (8, .pointer (some ⟨g161, 0, none⟩))] ∧ St w0 w [bk g161 #[.bool (neg 0), .slice none (zl 0) 0] 36, bk g62 #[.bool (neg (qn r)), .slice A (zl (qn r)) c, .bool (neg (ql r)), .slice B (zl (ql r)) d] 91, bk g57 #[.bool (neg D), .slice Ad (zl D) cd] 36, bk g51 #[.bool (neg 0), .slice none (zl 0) 0] 36] [pfZ A71 c72 (qd r), pfZ A66 c67 (qd r), pfZ A c (qn r), pfZ B d (ql r), FK (A, c, B, d, r), pfRow fK FK 4 A0 n0 c0 es0, pfZ Ad cd D]) → T 10 L a w := by
    rintro _ a w164 rfl ⟨A66, c67, A71, c72, g161, η, σ⟩
    rw [hT]
    refine sAny_all (rs := [5, 11]) (by kernel_rfl) (by simp) ?_
    simp only [List.forall_mem_cons, List.not_mem_nil, false_implies, implies_true, and_true]
    refine ⟨?_, ?_⟩
    ·have hs165 := gcd_zq D (qd r)
     refine ⟨_, rfl, rfl, op_call η rfl Tryd.call93 rfl (gcd_z (x := D) (y := (qd r)) (show ZIn _ Ad cd D from σ.pat (k := 6) rfl) (show ZIn _ A71 c72 (qd r) from σ.pat (k := 0) rfl) (by omega) (by omega)) ?_⟩
     rintro e w169 ⟨_, rfl, ⟨A166, c167, rfl, hz168⟩, hb⟩
     refine ⟨_, rfl, ?_⟩
     clear η a; intro a η
     replace σ := (σ.call hb).addZ hz168 ⟨nou_bk rfl, nou_bk rfl, nou_bk rfl, nou_bk rfl, trivial⟩
     clear hz168
     clear hb
     refine ⟨.inr ⟨σ.kn.pick [1, 2, 3] (rg 3 5), .inr (σ.kn.pick [] [])⟩, ?_⟩
     rw [← hT]
     exact hN131 _ _ _ (by kernel_rfl) ⟨A66, c67, A166, c167, g161, η.sub ⟨rfl, rfl, rfl, rfl, rfl, rfl, rfl, rfl, rfl, rfl, rfl, rfl, rfl, trivial⟩, σ.pick [0, 1, 2, 3] [0, 2, 3, 4, 5, 6, 7] (by decide)⟩
    ·refine ⟨_, rfl, rfl, op_alloc (c := #[.bool (neg 0), .slice none (zl 0) 0]) η σ rfl zero_anvil_integer_Int zcells ?_⟩
     clear η σ a; intro a w171 g170 η σ
     refine ⟨.inr ⟨σ.kn.pick [2, 3, 4] (rg 2 5), .inr (σ.kn.pick [] [])⟩, ?_⟩
     rw [← hT]
     exact hN154 _ _ _ (by kernel_rfl) ⟨A66, c67, A71, c72, g170, g161, η.sub ⟨rfl, rfl, rfl, rfl, rfl, rfl, rfl, rfl, rfl, rfl, rfl, rfl, rfl, rfl, rfl, trivial⟩, σ.pick [1, 0, 2, 3, 4] [0, 1, 2, 3, 4, 5, 6] (by decide)⟩
   have hN183 : ∀ (L : Array Bool) (a : Act) (w : World), L = #[true, true, true, true, false, false, false, false, false, false, false, true, true, false, false, false] → (∃ (A66 : Option Addr) (c67 g172 g181 : Nat), Env 62 a [(0, .slice A0 n0 c0), (3, .pointer (some ⟨g51, 0, none⟩)), (17, .slice A0 n0 c0), (18, .int .i64 (n0 : Nat)), (4, .pointer (some ⟨g57, 0, none⟩)), (19, .int .i64 (j : Nat)), (20, .bool (decide (((j : Nat) : Int) < ((n0 : Nat) : Int)))), (21, .pointer (some ⟨ab A0, ao A0 + j * 4, none⟩)), (22, .agg #[.bool (neg (qn r)), .slice A (zl (qn r)) c, .bool (neg (ql r)), .slice B (zl (ql r)) d]), (6, .pointer (some ⟨g62, 0, none⟩)), (26, .agg #[.bool (neg D), .slice Ad (zl D) cd]), (27, .agg #[.bool (neg (qn r)), .slice A (zl (qn r)) c, .bool (neg (ql r)), .slice B (zl (ql r)) d]), (25, .agg #[.bool (neg (qd r)), .slice A66 (zl (qd r)) c67]), (7, .pointer (some ⟨g172, 0, none⟩)), (8, .pointer (some ⟨g181, 0, none⟩))] ∧ St w0 w [bk g181 #[.bool (neg 0), .slice none (zl 0) 0] 36, bk g172 #[.bool (neg 0), .slice none (zl 0) 0] 36, bk g62 #[.bool (neg (qn r)), .slice A (zl (qn r)) c, .bool (neg (ql r)), .slice B (zl (ql r)) d] 91, bk g57 #[.bool (neg D), .slice Ad (zl D) cd] 36, bk g51 #[.bool (neg 0), .slice none (zl 0) 0] 36] [pfZ A66 c67 (qd r), pfZ A c (qn r), pfZ B d (ql r), FK (A, c, B, d, r), pfRow fK FK 4 A0 n0 c0 es0, pfZ Ad cd D]) → T 10 L a w := by
    rintro _ a w184 rfl ⟨A66, c67, g172, g181, η, σ⟩
    rw [hT]
    have hs188 := hse.d
    refine sAny_one (i := 4) (by kernel_rfl) rfl rfl (op_call η rfl Tryd.call89 rfl (den_q (x := r) (show ZIn _ A c (qn r) from σ.pat (k := 1) rfl) (show ZIn _ B d (ql r) from σ.pat (k := 2) rfl) hse (by omega)) ?_)
    rintro e w189 ⟨_, rfl, ⟨A185, c186, rfl, hz187⟩, hb⟩
    refine ⟨_, rfl, ?_⟩
    clear η a; intro a η
    replace σ := (σ.call hb).addZ hz187 ⟨nou_bk rfl, nou_bk rfl, nou_bk rfl, nou_bk rfl, nou_bk rfl, trivial⟩
    clear hz187
    clear hb
    refine ⟨.inr ⟨σ.kn.pick [2, 3, 4] (rg 2 5), .inr (σ.kn.pick [] [])⟩, ?_⟩
    rw [← hT]
    exact hN154 _ _ _ (by kernel_rfl) ⟨A66, c67, A185, c186, g172, g181, η.sub ⟨rfl, rfl, rfl, rfl, rfl, rfl, rfl, rfl, rfl, rfl, rfl, rfl, rfl, rfl, rfl, trivial⟩, σ.pick [0, 1, 2, 3, 4] [0, 1, 2, 3, 4, 5, 6] (by decide)⟩
   have hN174 : ∀ (L : Array Bool) (a : Act) (w : World), L = #[true, true, true, true, false, false, false, false, false, false, false, true, false, false, false, false] → (∃ (A66 : Option Addr) (c67 g172 : Nat), Env 62 a [(0, .slice A0 n0 c0), (3, .pointer (some ⟨g51, 0, none⟩)), (17, .slice A0 n0 c0), (18, .int .i64 (n0 : Nat)), (4, .pointer (some ⟨g57, 0, none⟩)), (19, .int .i64 (j : Nat)), (20, .bool (decide (((j : Nat) : Int) < ((n0 : Nat) : Int)))), (21, .pointer (some ⟨ab A0, ao A0 + j * 4, none⟩)), (22, .agg #[.bool (neg (qn r)), .slice A (zl (qn r)) c, .bool (neg (ql r)), .slice B (zl (ql r)) d]), (6, .pointer (some ⟨g62, 0, none⟩)), (26, .agg #[.bool (neg D), .slice Ad (zl D) cd]), (27, .agg #[.bool (neg (qn r)), .slice A (zl (qn r)) c, .bool (neg (ql r)), .slice B (zl (ql r)) d]), (25, .agg #[.bool (neg (qd r)), .slice A66 (zl (qd r)) c67]), (7, .pointer (some ⟨g172, 0, none⟩))] ∧ St w0 w [bk g172 #[.bool (neg 0), .slice none (zl 0) 0] 36, bk g62 #[.bool (neg (qn r)), .slice A (zl (qn r)) c, .bool (neg (ql r)), .slice B (zl (ql r)) d] 91, bk g57 #[.bool (neg D), .slice Ad (zl D) cd] 36, bk g51 #[.bool (neg 0), .slice none (zl 0) 0] 36] [pfZ A66 c67 (qd r), pfZ A c (qn r), pfZ B d (ql r), FK (A, c, B, d, r), pfRow fK FK 4 A0 n0 c0 es0, pfZ Ad cd D]) → T 11 L a w := by
    rintro _ a w175 rfl ⟨A66, c67, g172, η, σ⟩
    rw [hT]
    refine sAny_all (rs := [4, 12]) (by kernel_rfl) (by simp) ?_
    simp only [List.forall_mem_cons, List.not_mem_nil, false_implies, implies_true, and_true]
    refine ⟨?_, ?_⟩
    ·have hs179 := hse.d
     refine ⟨_, rfl, rfl, op_call η rfl Tryd.call89 rfl (den_q (x := r) (show ZIn _ A c (qn r) from σ.pat (k := 1) rfl) (show ZIn _ B d (ql r) from σ.pat (k := 2) rfl) hse (by omega)) ?_⟩
     rintro e w180 ⟨_, rfl, ⟨A176, c177, rfl, hz178⟩, hb⟩
     refine ⟨_, rfl, ?_⟩
     clear η a; intro a η
     replace σ := (σ.call hb).addZ hz178 ⟨nou_bk rfl, nou_bk rfl, nou_bk rfl, nou_bk rfl, trivial⟩
     clear hz178
     clear hb
     refine ⟨.inr ⟨σ.kn.pick [1, 2, 3] (rg 2 5), .inr (σ.kn.pick [] [])⟩, ?_⟩
     rw [← hT]
     exact hN145 _ _ _ (by kernel_rfl) ⟨A66, c67, A176, c177, g172, η.sub ⟨rfl, rfl, rfl, rfl, rfl, rfl, rfl, rfl, rfl, rfl, rfl, rfl, rfl, rfl, trivial⟩, σ.pick [0, 1, 2, 3] [0, 1, 2, 3, 4, 5, 6] (by decide)⟩
    ·refine ⟨_, rfl, rfl, op_alloc (c := #[.bool (neg 0), .slice none (zl 0) 0]) η σ rfl zero_anvil_integer_Int zcells ?_⟩
     clear η σ a; intro a w182 g181 η σ
     refine ⟨.inr ⟨σ.kn.pick [2, 3, 4] (rg 1 5), .inr (σ.kn.pick [] [])⟩, ?_⟩
     rw [← hT]
     exact hN183 _ _ _ (by kernel_rfl) ⟨A66, c67, g172, g181, η.sub ⟨rfl, rfl, rfl, rfl, rfl, rfl, rfl, rfl, rfl, rfl, rfl, rfl, rfl, rfl, rfl, trivial⟩, σ.pick [0, 1, 2, 3, 4] [0, 1, 2, 3, 4, 5] (by decide)⟩
   have hN192 : ∀ (L : Array Bool) (a : Act) (w : World), L = #[true, true, true, true, false, false, false, false, false, false, false, false, true, false, false, false] → (∃ (A66 : Option Addr) (c67 g190 : Nat), Env 62 a [(0, .slice A0 n0 c0), (3, .pointer (some ⟨g51, 0, none⟩)), (17, .slice A0 n0 c0), (18, .int .i64 (n0 : Nat)), (4, .pointer (some ⟨g57, 0, none⟩)), (19, .int .i64 (j : Nat)), (20, .bool (decide (((j : Nat) : Int) < ((n0 : Nat) : Int)))), (21, .pointer (some ⟨ab A0, ao A0 + j * 4, none⟩)), (22, .agg #[.bool (neg (qn r)), .slice A (zl (qn r)) c, .bool (neg (ql r)), .slice B (zl (ql r)) d]), (6, .pointer (some ⟨g62, 0, none⟩)), (26, .agg #[.bool (neg D), .slice Ad (zl D) cd]), (27, .agg #[.bool (neg (qn r)), .slice A (zl (qn r)) c, .bool (neg (ql r)), .slice B (zl (ql r)) d]), (25, .agg #[.bool (neg (qd r)), .slice A66 (zl (qd r)) c67]), (8, .pointer (some ⟨g190, 0, none⟩))] ∧ St w0 w [bk g190 #[.bool (neg 0), .slice none (zl 0) 0] 36, bk g62 #[.bool (neg (qn r)), .slice A (zl (qn r)) c, .bool (neg (ql r)), .slice B (zl (ql r)) d] 91, bk g57 #[.bool (neg D), .slice Ad (zl D) cd] 36, bk g51 #[.bool (neg 0), .slice none (zl 0) 0] 36] [pfZ A66 c67 (qd r), pfZ A c (qn r), pfZ B d (ql r), FK (A, c, B, d, r), pfRow fK FK 4 A0 n0 c0 es0, pfZ Ad cd D]) → T 11 L a w := by
    rintro _ a w193 rfl ⟨A66, c67, g190, η, σ⟩
    rw [hT]
    refine sAny_all (rs := [4, 11]) (by kernel_rfl) (by simp) ?_
    simp only [List.forall_mem_cons, List.not_mem_nil, false_implies, implies_true, and_true]
    refine ⟨?_, ?_⟩
    ·have hs197 := hse.d
     refine ⟨_, rfl, rfl, op_call η rfl Tryd.call89 rfl (den_q (x := r) (show ZIn _ A c (qn r) from σ.pat (k := 1) rfl) (show ZIn _ B d (ql r) from σ.pat (k := 2) rfl) hse (by omega)) ?_⟩
     rintro e w198 ⟨_, rfl, ⟨A194, c195, rfl, hz196⟩, hb⟩
     refine ⟨_, rfl, ?_⟩
     clear η a; intro a η
     replace σ := (σ.call hb).addZ hz196 ⟨nou_bk rfl, nou_bk rfl, nou_bk rfl, nou_bk rfl, trivial⟩
     clear hz196
     clear hb
     refine ⟨.inr ⟨σ.kn.pick [1, 2, 3] (rg 2 5), .inr (σ.kn.pick [] [])⟩, ?_⟩
     rw [← hT]
     exact hN163 _ _ _ (by kernel_rfl) ⟨A66, c67, A194, c195, g190, η.sub ⟨rfl, rfl, rfl, rfl, rfl, rfl, rfl, rfl, rfl, rfl, rfl, rfl, rfl, rfl, trivial⟩, σ.pick [0, 1, 2, 3] [0, 1, 2, 3, 4, 5, 6] (by decide)⟩
    ·refine ⟨_, rfl, rfl, op_alloc (c := #[.bool (neg 0), .slice none (zl 0) 0]) η σ rfl zero_anvil_integer_Int zcells ?_⟩
     clear η σ a; intro a w200 g199 η σ
     refine ⟨.inr ⟨σ.kn.pick [2, 3, 4] (rg 1 5), .inr (σ.kn.pick [] [])⟩, ?_⟩
     rw [← hT]
     exact hN183 _ _ _ (by kernel_rfl) ⟨A66, c67, g199, g190, η.sub ⟨rfl, rfl, rfl, rfl, rfl, rfl, rfl, rfl, rfl, rfl, rfl, rfl, rfl, rfl, rfl, trivial⟩, σ.pick [1, 0, 2, 3, 4] [0, 1, 2, 3, 4, 5] (by decide)⟩
   have hN210 : ∀ (L : Array Bool) (a : Act) (w : World), L = #[true, false, true, true, false, false, false, false, false, false, false, true, true, false, false, false] → (∃ (g201 g208 : Nat), Env 62 a [(0, .slice A0 n0 c0), (3, .pointer (some ⟨g51, 0, none⟩)), (17, .slice A0 n0 c0), (18, .int .i64 (n0 : Nat)), (4, .pointer (some ⟨g57, 0, none⟩)), (19, .int .i64 (j : Nat)), (20, .bool (decide (((j : Nat) : Int) < ((n0 : Nat) : Int)))), (21, .pointer (some ⟨ab A0, ao A0 + j * 4, none⟩)), (22, .agg #[.bool (neg (qn r)), .slice A (zl (qn r)) c, .bool (neg (ql r)), .slice B (zl (ql r)) d]), (6, .pointer (some ⟨g62, 0, none⟩)), (24, .agg #[.bool (neg (qn r)), .slice A (zl (qn r)) c, .bool (neg (ql r)), .slice B (zl (ql r)) d]), (26, .agg #[.bool (neg D), .slice Ad (zl D) cd]), (27, .agg #[.bool (neg (qn r)), .slice A (zl (qn r)) c, .bool (neg (ql r)), .slice B (zl (ql r)) d]), (7, .pointer (some ⟨g201, 0, none⟩)), (8, .pointer (some ⟨g208, 0, none⟩))] ∧ St w0 w [bk g208 #[.bool (neg 0), .slice none (zl 0) 0] 36, bk g201 #[.bool (neg 0), .slice none (zl 0) 0] 36, bk g62 #[.bool (neg (qn r)), .slice A (zl (qn r)) c, .bool (neg (ql r)), .slice B (zl (ql r)) d] 91, bk g57 #[.bool (neg D), .slice Ad (zl D) cd] 36, bk g51 #[.bool (neg 0), .slice none (zl 0) 0] 36] [pfZ A c (qn r), pfZ B d (ql r), FK (A, c, B, d, r), pfRow fK FK 4 A0 n0 c0 es0, pfZ Ad cd D]) → T 11 L a w := by
    rintro _ a w211 rfl ⟨g201, g208, η, σ⟩
    rw [hT]
    have hs215 := hse.d
    refine sAny_one (i := 1) (by kernel_rfl) rfl rfl (op_call η rfl Tryd.call89 rfl (den_q (x := r) (show ZIn _ A c (qn r) from σ.pat (k := 0) rfl) (show ZIn _ B d (ql r) from σ.pat (k := 1) rfl) hse (by omega)) ?_)
    rintro e w216 ⟨_, rfl, ⟨A212, c213, rfl, hz214⟩, hb⟩
    refine ⟨_, rfl, ?_⟩
    clear η a; intro a η
    replace σ := (σ.call hb).addZ hz214 ⟨nou_bk rfl, nou_bk rfl, nou_bk rfl, nou_bk rfl, nou_bk rfl, trivial⟩
    clear hz214
    clear hb
    refine ⟨.inr ⟨σ.kn.pick [2, 3, 4] (rg 1 5), .inr (σ.kn.pick [] [])⟩, ?_⟩
    rw [← hT]
    exact hN183 _ _ _ (by kernel_rfl) ⟨A212, c213, g201, g208, η.sub ⟨rfl, rfl, rfl, rfl, rfl, rfl, rfl, rfl, rfl, rfl, rfl, rfl, rfl, rfl, rfl, trivial⟩, σ.pick [0, 1, 2, 3, 4] [0, 1, 2, 3, 4, 5] (by decide)⟩
   rw [hT]
   refine tL (i := 0) 0 0 [1, 4, 5, 6, 7, 8, 9, 10, 13, 14, 15] rfl (by kernel_rfl) (fun _ _ _ h => h) η rfl ty_anvil_ratio_Rat rfl σ rfl rfl rfl ?_
   clear η a; intro a η
   refine tL (i := 2) 1 1 [5, 6, 7, 8, 9, 10, 13, 14, 15] rfl (by kernel_rfl) (fun _ _ _ h => h) η rfl ty_anvil_integer_Int rfl σ rfl rfl rfl ?_
   clear η a; intro a η
   refine tL (i := 3) 0 0 [4, 5, 6, 7, 8, 9, 10, 13, 14, 15] rfl (by kernel_rfl) (fun _ _ _ h => h) η rfl ty_anvil_ratio_Rat rfl σ rfl rfl rfl ?_
   clear η a; intro a η
   refine sAny_all (rs := [1, 11, 12]) (by kernel_rfl) (by simp) ?_
   simp only [List.forall_mem_cons, List.not_mem_nil, false_implies, implies_true, and_true]
   refine ⟨?_, ?_, ?_⟩
   ·have hs69 := hse.d
    refine ⟨_, rfl, rfl, op_call η rfl Tryd.call89 rfl (den_q (x := r) (show ZIn _ A c (qn r) from σ.pat (k := 0) rfl) (show ZIn _ B d (ql r) from σ.pat (k := 1) rfl) hse (by omega)) ?_⟩
    rintro e w70 ⟨_, rfl, ⟨A66, c67, rfl, hz68⟩, hb⟩
    refine ⟨_, rfl, ?_⟩
    clear η a; intro a η
    replace σ := (σ.call hb).addZ hz68 ⟨nou_bk rfl, nou_bk rfl, nou_bk rfl, trivial⟩
    clear hz68
    clear hb
    refine ⟨.inr ⟨σ.kn.pick [0, 1, 2] (rg 1 5), .inr (σ.kn.pick [] [])⟩, ?_⟩
    refine sAny_all (rs := [4, 11, 12]) (by kernel_rfl) (by simp) ?_
    simp only [List.forall_mem_cons, List.not_mem_nil, false_implies, implies_true, and_true]
    refine ⟨?_, ?_, ?_⟩
    ·have hs74 := hse.d
     refine ⟨_, rfl, rfl, op_call η rfl Tryd.call89 rfl (den_q (x := r) (show ZIn _ A c (qn r) from σ.pat (k := 1) rfl) (show ZIn _ B d (ql r) from σ.pat (k := 2) rfl) hse (by omega)) ?_⟩
     rintro e w75 ⟨_, rfl, ⟨A71, c72, rfl, hz73⟩, hb⟩
     refine ⟨_, rfl, ?_⟩
     clear η a; intro a η
     replace σ := (σ.call hb).addZ hz73 ⟨nou_bk rfl, nou_bk rfl, nou_bk rfl, trivial⟩
     clear hz73
     clear hb
     refine ⟨.inr ⟨σ.kn.pick [0, 1, 2] (rg 2 5), .inr (σ.kn.pick [] [])⟩, ?_⟩
     refine sAny_all (rs := [5, 11, 12]) (by kernel_rfl) (by simp) ?_
     simp only [List.forall_mem_cons, List.not_mem_nil, false_implies, implies_true, and_true]
     refine ⟨?_, ?_, ?_⟩
     ·have hs76 := gcd_zq D (qd r)
      refine ⟨_, rfl, rfl, op_call η rfl Tryd.call93 rfl (gcd_z (x := D) (y := (qd r)) (show ZIn _ Ad cd D from σ.pat (k := 6) rfl) (show ZIn _ A71 c72 (qd r) from σ.pat (k := 0) rfl) (by omega) (by omega)) ?_⟩
      rintro e w80 ⟨_, rfl, ⟨A77, c78, rfl, hz79⟩, hb⟩
      refine ⟨_, rfl, ?_⟩
      clear η a; intro a η
      replace σ := (σ.call hb).addZ hz79 ⟨nou_bk rfl, nou_bk rfl, nou_bk rfl, trivial⟩
      clear hz79
      clear hb
      refine ⟨.inr ⟨σ.kn.pick [0, 1, 2] (rg 3 5), .inr (σ.kn.pick [] [])⟩, ?_⟩
      refine sAny_all (rs := [6, 11, 12]) (by kernel_rfl) (by simp) ?_
      simp only [List.forall_mem_cons, List.not_mem_nil, false_implies, implies_true, and_true]
      refine ⟨?_, ?_, ?_⟩
      ·have hs81 := zl_ediv (qd r) ((Int.gcd D (qd r) : Nat) : Int)
       refine ⟨_, rfl, rfl, op_call η rfl Tryd.call117 rfl (divmod_z (x := (qd r)) (y := ((Int.gcd D (qd r) : Nat) : Int)) (show ZIn _ A66 c67 (qd r) from σ.pat (k := 2) rfl) (show ZIn _ A77 c78 ((Int.gcd D (qd r) : Nat) : Int) from σ.pat (k := 0) rfl) (by omega) (by omega) hg0) ?_⟩
       rintro e w88 ⟨_, _, rfl, ⟨A82, c83, rfl, hz84⟩, ⟨A85, c86, rfl, hz87⟩, hb⟩
       refine ⟨_, rfl, ?_⟩
       clear η a; intro a η
       replace σ := ((σ.call hb).addZ hz84 ⟨nou_bk rfl, nou_bk rfl, nou_bk rfl, trivial⟩).addZ hz87 ⟨nou_bk rfl, nou_bk rfl, nou_bk rfl, trivial⟩
       clear hz84 hz87
       clear hb
       refine ⟨.inr ⟨σ.kn.pick [0, 1, 2] (rg 5 5), .inr (σ.kn.pick [] [])⟩, ?_⟩
       refine tM (i := 7) [8, 9, 10, 13, 14, 15] rfl (by kernel_rfl) (fun _ _ _ h => h) η rfl rfl ?_
       clear η a; intro a η
       refine tA (i := 8) [13, 14, 15] (v := .agg #[.bool (neg ((qd r) / ((Int.gcd D (qd r) : Nat) : Int))), .slice A82 (zl ((qd r) / ((Int.gcd D (qd r) : Nat) : Int))) c83]) rfl (by kernel_rfl) (fun _ _ _ h => h) η rfl (fun _ => rn_extract η rfl rfl) ?_
       clear η a; intro a η
       refine tA (i := 9) [14, 15] (v := .agg #[.bool (neg ((qd r) % ((Int.gcd D (qd r) : Nat) : Int))), .slice A85 (zl ((qd r) % ((Int.gcd D (qd r) : Nat) : Int))) c86]) rfl (by kernel_rfl) (fun _ _ _ h => h) η rfl (fun _ => rn_extract η rfl rfl) ?_
       clear η a; intro a η
       refine tA (i := 10) [15] (v := .int .i64 0) rfl (by kernel_rfl) (fun _ _ _ h => h) η rfl (fun _ => rn_extract η rfl rfl) ?_
       clear η a; intro a η
       refine sAny_all (rs := [11, 12]) (by kernel_rfl) (by simp) ?_
       simp only [List.forall_mem_cons, List.not_mem_nil, false_implies, implies_true, and_true]
       refine ⟨?_, ?_⟩
       ·refine ⟨_, rfl, rfl, op_alloc (c := #[.bool (neg 0), .slice none (zl 0) 0]) η σ rfl zero_anvil_integer_Int zcells ?_⟩
        clear η σ a; intro a w90 g89 η σ
        refine ⟨.inr ⟨σ.kn.pick [1, 2, 3] (rg 5 5), .inr (σ.kn.pick [] [])⟩, ?_⟩
        rw [← hT]
        exact hN91 _ _ _ (by kernel_rfl) ⟨A82, c83, A85, c86, g89, η.sub ⟨rfl, rfl, rfl, rfl, rfl, rfl, rfl, rfl, rfl, rfl, rfl, rfl, rfl, rfl, trivial⟩, σ.pick [0, 1, 2, 3] [0, 1, 5, 6, 7, 8, 9] (by decide)⟩
       ·refine ⟨_, rfl, rfl, op_alloc (c := #[.bool (neg 0), .slice none (zl 0) 0]) η σ rfl zero_anvil_integer_Int zcells ?_⟩
        clear η σ a; intro a w100 g99 η σ
        refine ⟨.inr ⟨σ.kn.pick [1, 2, 3] (rg 5 5), .inr (σ.kn.pick [] [])⟩, ?_⟩
        rw [← hT]
        exact hN101 _ _ _ (by kernel_rfl) ⟨A82, c83, A85, c86, g99, η.sub ⟨rfl, rfl, rfl, rfl, rfl, rfl, rfl, rfl, rfl, rfl, rfl, rfl, rfl, rfl, trivial⟩, σ.pick [0, 1, 2, 3] [0, 1, 5, 6, 7, 8, 9] (by decide)⟩
      ·refine ⟨_, rfl, rfl, op_alloc (c := #[.bool (neg 0), .slice none (zl 0) 0]) η σ rfl zero_anvil_integer_Int zcells ?_⟩
       clear η σ a; intro a w106 g105 η σ
       refine ⟨.inr ⟨σ.kn.pick [1, 2, 3] (rg 3 5), .inr (σ.kn.pick [] [])⟩, ?_⟩
       rw [← hT]
       exact hN107 _ _ _ (by kernel_rfl) ⟨A66, c67, A77, c78, g105, η.sub ⟨rfl, rfl, rfl, rfl, rfl, rfl, rfl, rfl, rfl, rfl, rfl, rfl, rfl, trivial⟩, σ.pick [0, 1, 2, 3] [0, 2, 3, 4, 5, 6, 7] (by decide)⟩
      ·refine ⟨_, rfl, rfl, op_alloc (c := #[.bool (neg 0), .slice none (zl 0) 0]) η σ rfl zero_anvil_integer_Int zcells ?_⟩
       clear η σ a; intro a w130 g129 η σ
       refine ⟨.inr ⟨σ.kn.pick [1, 2, 3] (rg 3 5), .inr (σ.kn.pick [] [])⟩, ?_⟩
       rw [← hT]
       exact hN131 _ _ _ (by kernel_rfl) ⟨A66, c67, A77, c78, g129, η.sub ⟨rfl, rfl, rfl, rfl, rfl, rfl, rfl, rfl, rfl, rfl, rfl, rfl, rfl, trivial⟩, σ.pick [0, 1, 2, 3] [0, 2, 3, 4, 5, 6, 7] (by decide)⟩
     ·refine ⟨_, rfl, rfl, op_alloc (c := #[.bool (neg 0), .slice none (zl 0) 0]) η σ rfl zero_anvil_integer_Int zcells ?_⟩
      clear η σ a; intro a w144 g143 η σ
      refine ⟨.inr ⟨σ.kn.pick [1, 2, 3] (rg 2 5), .inr (σ.kn.pick [] [])⟩, ?_⟩
      rw [← hT]
      exact hN145 _ _ _ (by kernel_rfl) ⟨A66, c67, A71, c72, g143, η.sub ⟨rfl, rfl, rfl, rfl, rfl, rfl, rfl, rfl, rfl, rfl, rfl, rfl, rfl, rfl, trivial⟩, σ.pick [0, 1, 2, 3] [0, 1, 2, 3, 4, 5, 6] (by decide)⟩
     ·refine ⟨_, rfl, rfl, op_alloc (c := #[.bool (neg 0), .slice none (zl 0) 0]) η σ rfl zero_anvil_integer_Int zcells ?_⟩
      clear η σ a; intro a w162 g161 η σ
      refine ⟨.inr ⟨σ.kn.pick [1, 2, 3] (rg 2 5), .inr (σ.kn.pick [] [])⟩, ?_⟩
      rw [← hT]
      exact hN163 _ _ _ (by kernel_rfl) ⟨A66, c67, A71, c72, g161, η.sub ⟨rfl, rfl, rfl, rfl, rfl, rfl, rfl, rfl, rfl, rfl, rfl, rfl, rfl, rfl, trivial⟩, σ.pick [0, 1, 2, 3] [0, 1, 2, 3, 4, 5, 6] (by decide)⟩
    ·refine ⟨_, rfl, rfl, op_alloc (c := #[.bool (neg 0), .slice none (zl 0) 0]) η σ rfl zero_anvil_integer_Int zcells ?_⟩
     clear η σ a; intro a w173 g172 η σ
     refine ⟨.inr ⟨σ.kn.pick [1, 2, 3] (rg 1 5), .inr (σ.kn.pick [] [])⟩, ?_⟩
     rw [← hT]
     exact hN174 _ _ _ (by kernel_rfl) ⟨A66, c67, g172, η.sub ⟨rfl, rfl, rfl, rfl, rfl, rfl, rfl, rfl, rfl, rfl, rfl, rfl, rfl, rfl, trivial⟩, σ.pick [0, 1, 2, 3] [0, 1, 2, 3, 4, 5] (by decide)⟩
    ·refine ⟨_, rfl, rfl, op_alloc (c := #[.bool (neg 0), .slice none (zl 0) 0]) η σ rfl zero_anvil_integer_Int zcells ?_⟩
     clear η σ a; intro a w191 g190 η σ
     refine ⟨.inr ⟨σ.kn.pick [1, 2, 3] (rg 1 5), .inr (σ.kn.pick [] [])⟩, ?_⟩
     rw [← hT]
     exact hN192 _ _ _ (by kernel_rfl) ⟨A66, c67, g190, η.sub ⟨rfl, rfl, rfl, rfl, rfl, rfl, rfl, rfl, rfl, rfl, rfl, rfl, rfl, rfl, trivial⟩, σ.pick [0, 1, 2, 3] [0, 1, 2, 3, 4, 5] (by decide)⟩
   ·refine ⟨_, rfl, rfl, op_alloc (c := #[.bool (neg 0), .slice none (zl 0) 0]) η σ rfl zero_anvil_integer_Int zcells ?_⟩
    clear η σ a; intro a w202 g201 η σ
    refine ⟨.inr ⟨σ.kn.pick [1, 2, 3] (rg 0 5), .inr (σ.kn.pick [] [])⟩, ?_⟩
    refine sAny_all (rs := [1, 12]) (by kernel_rfl) (by simp) ?_
    simp only [List.forall_mem_cons, List.not_mem_nil, false_implies, implies_true, and_true]
    refine ⟨?_, ?_⟩
    ·have hs206 := hse.d
     refine ⟨_, rfl, rfl, op_call η rfl Tryd.call89 rfl (den_q (x := r) (show ZIn _ A c (qn r) from σ.pat (k := 0) rfl) (show ZIn _ B d (ql r) from σ.pat (k := 1) rfl) hse (by omega)) ?_⟩
     rintro e w207 ⟨_, rfl, ⟨A203, c204, rfl, hz205⟩, hb⟩
     refine ⟨_, rfl, ?_⟩
     clear η a; intro a η
     replace σ := (σ.call hb).addZ hz205 ⟨nou_bk rfl, nou_bk rfl, nou_bk rfl, nou_bk rfl, trivial⟩
     clear hz205
     clear hb
     refine ⟨.inr ⟨σ.kn.pick [1, 2, 3] (rg 1 5), .inr (σ.kn.pick [] [])⟩, ?_⟩
     rw [← hT]
     exact hN174 _ _ _ (by kernel_rfl) ⟨A203, c204, g201, η.sub ⟨rfl, rfl, rfl, rfl, rfl, rfl, rfl, rfl, rfl, rfl, rfl, rfl, rfl, rfl, trivial⟩, σ.pick [0, 1, 2, 3] [0, 1, 2, 3, 4, 5] (by decide)⟩
    ·refine ⟨_, rfl, rfl, op_alloc (c := #[.bool (neg 0), .slice none (zl 0) 0]) η σ rfl zero_anvil_integer_Int zcells ?_⟩
     clear η σ a; intro a w209 g208 η σ
     refine ⟨.inr ⟨σ.kn.pick [2, 3, 4] (rg 0 5), .inr (σ.kn.pick [] [])⟩, ?_⟩
     rw [← hT]
     exact hN210 _ _ _ (by kernel_rfl) ⟨g201, g208, η.sub ⟨rfl, rfl, rfl, rfl, rfl, rfl, rfl, rfl, rfl, rfl, rfl, rfl, rfl, rfl, rfl, trivial⟩, σ.pick [0, 1, 2, 3, 4] [0, 1, 2, 3, 4] (by decide)⟩
   ·refine ⟨_, rfl, rfl, op_alloc (c := #[.bool (neg 0), .slice none (zl 0) 0]) η σ rfl zero_anvil_integer_Int zcells ?_⟩
    clear η σ a; intro a w218 g217 η σ
    refine ⟨.inr ⟨σ.kn.pick [1, 2, 3] (rg 0 5), .inr (σ.kn.pick [] [])⟩, ?_⟩
    refine sAny_all (rs := [1, 11]) (by kernel_rfl) (by simp) ?_
    simp only [List.forall_mem_cons, List.not_mem_nil, false_implies, implies_true, and_true]
    refine ⟨?_, ?_⟩
    ·have hs222 := hse.d
     refine ⟨_, rfl, rfl, op_call η rfl Tryd.call89 rfl (den_q (x := r) (show ZIn _ A c (qn r) from σ.pat (k := 0) rfl) (show ZIn _ B d (ql r) from σ.pat (k := 1) rfl) hse (by omega)) ?_⟩
     rintro e w223 ⟨_, rfl, ⟨A219, c220, rfl, hz221⟩, hb⟩
     refine ⟨_, rfl, ?_⟩
     clear η a; intro a η
     replace σ := (σ.call hb).addZ hz221 ⟨nou_bk rfl, nou_bk rfl, nou_bk rfl, nou_bk rfl, trivial⟩
     clear hz221
     clear hb
     refine ⟨.inr ⟨σ.kn.pick [1, 2, 3] (rg 1 5), .inr (σ.kn.pick [] [])⟩, ?_⟩
     rw [← hT]
     exact hN192 _ _ _ (by kernel_rfl) ⟨A219, c220, g217, η.sub ⟨rfl, rfl, rfl, rfl, rfl, rfl, rfl, rfl, rfl, rfl, rfl, rfl, rfl, rfl, trivial⟩, σ.pick [0, 1, 2, 3] [0, 1, 2, 3, 4, 5] (by decide)⟩
    ·refine ⟨_, rfl, rfl, op_alloc (c := #[.bool (neg 0), .slice none (zl 0) 0]) η σ rfl zero_anvil_integer_Int zcells ?_⟩
     clear η σ a; intro a w225 g224 η σ
     refine ⟨.inr ⟨σ.kn.pick [2, 3, 4] (rg 0 5), .inr (σ.kn.pick [] [])⟩, ?_⟩
     rw [← hT]
     exact hN210 _ _ _ (by kernel_rfl) ⟨g224, g217, η.sub ⟨rfl, rfl, rfl, rfl, rfl, rfl, rfl, rfl, rfl, rfl, rfl, rfl, rfl, rfl, rfl, trivial⟩, σ.pick [1, 0, 2, 3, 4] [0, 1, 2, 3, 4] (by decide)⟩
  clear η σ a
  rintro a w226 ⟨A82, c83, A85, c86, g89, g93, η, σ⟩
  refine region_seq ?_
  revert a
  refine sA (v := .agg #[.bool (neg D), .slice Ad (zl D) cd]) rfl (fun _ η => rn_load0 η ty_anvil_integer_Int rfl (σ.oat (k := 3) rfl) rfl) ?_
  refine sA (v := .agg #[.bool (neg ((qd r) / ((Int.gcd D (qd r) : Nat) : Int))), .slice A82 (zl ((qd r) / ((Int.gcd D (qd r) : Nat) : Int))) c83]) rfl (fun _ η => rn_load0 η ty_anvil_integer_Int rfl (σ.oat (k := 1) rfl) rfl) ?_
  intro a η
  have hs227 := zl_mul D ((qd r) / ((Int.gcd D (qd r) : Nat) : Int))
  refine seq_step rfl (op_call η rfl Tryd.call84 rfl (mul_z (x := D) (y := (qd r) / ((Int.gcd D (qd r) : Nat) : Int)) (show ZIn _ Ad cd D from σ.pat (k := 6) rfl) (show ZIn _ A82 c83 ((qd r) / ((Int.gcd D (qd r) : Nat) : Int)) from σ.pat (k := 1) rfl) (by omega) (by omega)) ?_)
  rintro e w231 ⟨_, rfl, ⟨A228, c229, rfl, hz230⟩, hb⟩
  refine ⟨_, rfl, ?_⟩
  clear η a; intro a η
  replace σ := (σ.call hb).addZ hz230 ⟨nou_bk rfl, nou_bk rfl, nou_bk rfl, nou_bk rfl, nou_bk rfl, trivial⟩
  clear hz230
  clear hb
  refine seq_step rfl (op_store (k := 3) (c' := #[.bool (neg (D * ((qd r) / ((Int.gcd D (qd r) : Nat) : Int)))), .slice A228 (zl (D * ((qd r) / ((Int.gcd D (qd r) : Nat) : Int)))) c229]) η σ (ty_anvil_integer_Int.size) rfl rfl rfl rfl (by simp) rfl rfl ?_)
  clear η σ a; intro a w232 η σ
  refine wpList_nil (bl_n (th_n (region_seq ?_)))
  revert a
  refine sA (v := .int .i64 (j + 1 : Nat)) rfl (fun _ η => rn_add η rfl rfl (by rw [IntWalk.i64_in _ (by omega)]; omega)) ?_
  refine mA rfl rfl ?_
  intro a η
  refine wpList_nil ?_
  exact th_n ⟨_, (by omega), ⟨j + 1, D * ((qd r) / ((Int.gcd D (qd r) : Nat) : Int)), A228, c229, rfl, η.sub ⟨rfl, rfl, rfl, rfl, rfl, rfl, trivial⟩, σ.pick [3, 4] [6, 0] (by decide), (by omega), (by rw [cmD_step hrj, ← hD]; rfl), (Nat.le_trans (cmS_sz D r) (by omega)), (cmS_pos hDp r)⟩⟩
 ·have hje : n0 ≤ j := by have := of_decide_eq_false hc61; omega
  rw [List.take_of_length_le (by omega)] at hD
  subst hD
  replace hDz : zl (cmD rs) ≤ 4801 := Nat.le_trans hDz (by omega)
  refine wp_exit (th_x (th_x (bl_x (th_n (wp_seq (region_seq ?_))))))
  refine sv (v := .slice none 0 0) η rfl (rn_assign η rfl) ?_
  clear η a; intro a η
  refine wpList_nil (th_n (wp_seq (wp_seq ?_)))
  replace σ := (σ.addRowS notU 36 2).nilEs FN
  replace σ : St w0 _ [rowS notU 36 2 none 0 0 (fl fN ([])), bk g57 #[.bool (neg (cmD rs)), .slice Ad (zl (cmD rs)) cd] 36, bk g51 #[.bool (neg 0), .slice none (zl 0) 0] 36] [pfEs FN ([]), pfRow fK FK 4 A0 n0 c0 es0, pfZ Ad cd (cmD rs)] := σ
  refine region_seq ?_
  revert a
  refine mA rfl rfl ?_
  refine sA (v := .int .i64 (n0 : Nat)) rfl (fun _ η => rn_len η Tryd.underlying105 rfl) ?_
  refine mA rfl rfl ?_
  intro a η
  refine wpList_nil (th_n (wp_block ?_))
  refine wp_loop_ghost (fun mz a w => ∃ (j : Nat) (Bo : Option Addr) (co : Nat) (os : List NE), n0 - j = mz ∧ Env 62 a [(3, .pointer (some ⟨g51, 0, none⟩)), (38, .slice A0 n0 c0), (39, .int .i64 (n0 : Nat)), (4, .pointer (some ⟨g57, 0, none⟩)), (40, .int .i64 (j : Nat)), (10, .slice Bo j co)] ∧ St w0 w [rowS notU 36 2 Bo j co (fl fN os), bk g57 #[.bool (neg (cmD rs)), .slice Ad (zl (cmD rs)) cd] 36, bk g51 #[.bool (neg 0), .slice none (zl 0) 0] 36] [pfRow fK FK 4 A0 n0 c0 es0, pfZ Ad cd (cmD rs), pfEs FN os] ∧ j ≤ n0 ∧ os.map zz = cmN (cmD rs) (rs.take j) ∧ os.length = j ∧ (j = 0 → Bo = none)) _ ⟨0, none, 0, [], rfl, η.sub ⟨rfl, rfl, rfl, rfl, rfl, rfl, trivial⟩, σ.pick [0, 1, 2] [1, 2, 0] (by decide), (Nat.zero_le _), rfl, rfl, (fun _ => rfl)⟩ ?_
  clear η σ a
  rintro mz a w233 ⟨j, Bo, co, os, rfl, η, σ, hj, hos, hol, hon⟩
  refine wp_seq (region_seq ?_)
  refine sv (v := .bool (decide (((j : Nat) : Int) < ((n0 : Nat) : Int)))) η rfl (rn_bin η rfl rfl rfl) ?_
  clear η a; intro a η
  refine wpList_nil (th_n (wp_seq ?_))
  refine if_split η rfl (fun hc234 => ?_) (fun hc234 => ?_)
  ·have hlt : j < n0 := by have := of_decide_eq_true hc234; omega
   obtain ⟨⟨A, c, B, d, r⟩, he0⟩ : ∃ e, es0[j]? = some e := ⟨_, List.getElem?_eq_getElem (by omega)⟩
   replace σ := σ.elem (k := 0) rfl he0
   replace σ := σ.split2 (k := 0) rfl
   replace σ : St w0 _ [rowS notU 36 2 Bo j co (fl fN os), bk g57 #[.bool (neg (cmD rs)), .slice Ad (zl (cmD rs)) cd] 36, bk g51 #[.bool (neg 0), .slice none (zl 0) 0] 36] [pfZ A c (qn r), pfZ B d (ql r), FK (A, c, B, d, r), pfRow fK FK 4 A0 n0 c0 es0, pfZ Ad cd (cmD rs), pfEs FN os] := σ
   have hrj := kr_at hrs he0
   have hrm : r ∈ rs := List.mem_of_getElem? hrj
   have hse := hq r hrm
   have hnr := hse.n
   have hdr := hse.d
   have hlr := hse.l
   have hpr := qd_pos r
   have hqs := zl_ediv (cmD rs) (qd r)
   have hdm := cmD_mod hrm
   refine wp_skip (th_n (wp_seq (wp_block (wp_seq (region_seq ?_)))))
   revert a
   refine sA (v := .pointer (some ⟨ab A0, ao A0 + j * 4, none⟩)) rfl (fun _ η => rn_idxR (i := j) η Tryd.underlying105 (ty_anvil_ratio_Rat.size) rfl rfl (by omega) rfl (show (pfRow fK FK 4 A0 n0 c0 es0).P _ from (σ.pat (k := 3) rfl)).1) ?_
   refine sA (v := .agg #[.bool (neg (qn r)), .slice A (zl (qn r)) c, .bool (neg (ql r)), .slice B (zl (ql r)) d]) rfl (fun _ η => rn_loadE (i := j) (e := (A, c, B, d, r)) η ty_anvil_ratio_Rat rfl rfl fK_len (show (pfRow fK FK 4 A0 n0 c0 es0).P _ from (σ.pat (k := 3) rfl)).1 (by omega) he0 rfl) ?_
   intro a η
   refine seq_step rfl (op_alloc (c := #[.bool (neg (qn 0)), .slice none (zl (qn 0)) 0, .bool (neg (ql 0)), .slice none (zl (ql 0)) 0]) η σ rfl zero_anvil_ratio_Rat qcells ?_)
   clear η σ a; intro a w236 g235 η σ
   refine seq_step rfl (op_store (k := 0) (c' := #[.bool (neg (qn r)), .slice A (zl (qn r)) c, .bool (neg (ql r)), .slice B (zl (ql r)) d]) η σ (ty_anvil_ratio_Rat.size) rfl rfl rfl rfl (by simp) rfl rfl ?_)
   clear η σ a; intro a w237 η σ
   refine wpList_nil (th_n (wp_seq ?_))
   refine cut (fun a w => ∃ (A245 : Option Addr) (c246 : Nat) (A248 : Option Addr) (c249 g252 g256 : Nat), Env 62 a [(3, .pointer (some ⟨g51, 0, none⟩)), (38, .slice A0 n0 c0), (39, .int .i64 (n0 : Nat)), (4, .pointer (some ⟨g57, 0, none⟩)), (40, .int .i64 (j : Nat)), (10, .slice Bo j co), (41, .bool (decide (((j : Nat) : Int) < ((n0 : Nat) : Int)))), (42, .pointer (some ⟨ab A0, ao A0 + j * 4, none⟩)), (43, .agg #[.bool (neg (qn r)), .slice A (zl (qn r)) c, .bool (neg (ql r)), .slice B (zl (ql r)) d]), (12, .pointer (some ⟨g235, 0, none⟩)), (13, .pointer (some ⟨g252, 0, none⟩))] ∧ St w0 w [bk g256 #[.bool (neg ((cmD rs) % (qd r))), .slice A248 (zl ((cmD rs) % (qd r))) c249] 36, bk g252 #[.bool (neg ((cmD rs) / (qd r))), .slice A245 (zl ((cmD rs) / (qd r))) c246] 36, bk g235 #[.bool (neg (qn r)), .slice A (zl (qn r)) c, .bool (neg (ql r)), .slice B (zl (ql r)) d] 91, rowS notU 36 2 Bo j co (fl fN os), bk g57 #[.bool (neg (cmD rs)), .slice Ad (zl (cmD rs)) cd] 36, bk g51 #[.bool (neg 0), .slice none (zl 0) 0] 36] [pfZ A248 c249 ((cmD rs) % (qd r)), pfZ A245 c246 ((cmD rs) / (qd r)), pfZ A c (qn r), pfZ B d (ql r), FK (A, c, B, d, r), pfRow fK FK 4 A0 n0 c0 es0, pfZ Ad cd (cmD rs), pfEs FN os]) ?_ ?_
   ·refine region_any (n := 13) (Sk [bk g235 #[.bool (neg (qn r)), .slice A (zl (qn r)) c, .bool (neg (ql r)), .slice B (zl (ql r)) d] 91, rowS notU 36 2 Bo j co (fl fN os), bk g57 #[.bool (neg (cmD rs)), .slice Ad (zl (cmD rs)) cd] 36, bk g51 #[.bool (neg 0), .slice none (zl 0) 0] 36] [pfZ A c (qn r), pfZ B d (ql r), FK (A, c, B, d, r), pfRow fK FK 4 A0 n0 c0 es0, pfZ Ad cd (cmD rs), pfEs FN os] [10, 11] []) mixed rfl η σ ?_
    clear η σ; intro w238 η σ
    refine sAny_gen fun T hT => ?_
    have hN258 : ∀ (L : Array Bool) (a : Act) (w : World), L = #[true, true, true, true, true, true, true, true, true, true, false, false, false] → (∃ (A245 : Option Addr) (c246 : Nat) (A248 : Option Addr) (c249 g252 g256 : Nat), Env 62 a [(3, .pointer (some ⟨g51, 0, none⟩)), (38, .slice A0 n0 c0), (39, .int .i64 (n0 : Nat)), (4, .pointer (some ⟨g57, 0, none⟩)), (40, .int .i64 (j : Nat)), (10, .slice Bo j co), (41, .bool (decide (((j : Nat) : Int) < ((n0 : Nat) : Int)))), (42, .pointer (some ⟨ab A0, ao A0 + j * 4, none⟩)), (43, .agg #[.bool (neg (qn r)), .slice A (zl (qn r)) c, .bool (neg (ql r)), .slice B (zl (ql r)) d]), (12, .pointer (some ⟨g235, 0, none⟩)), (49, .agg #[.bool (neg ((cmD rs) / (qd r))), .slice A245 (zl ((cmD rs) / (qd r))) c246]), (50, .agg #[.bool (neg ((cmD rs) % (qd r))), .slice A248 (zl ((cmD rs) % (qd r))) c249]), (51, .int .i64 0), (13, .pointer (some ⟨g252, 0, none⟩)), (14, .pointer (some ⟨g256, 0, none⟩))] ∧ St w0 w [bk g256 #[.bool (neg 0), .slice none (zl 0) 0] 36, bk g252 #[.bool (neg 0), .slice none (zl 0) 0] 36, bk g235 #[.bool (neg (qn r)), .slice A (zl (qn r)) c, .bool (neg (ql r)), .slice B (zl (ql r)) d] 91, rowS notU 36 2 Bo j co (fl fN os), bk g57 #[.bool (neg (cmD rs)), .slice Ad (zl (cmD rs)) cd] 36, bk g51 #[.bool (neg 0), .slice none (zl 0) 0] 36] [pfZ A248 c249 ((cmD rs) % (qd r)), pfZ A245 c246 ((cmD rs) / (qd r)), pfZ A c (qn r), pfZ B d (ql r), FK (A, c, B, d, r), pfRow fK FK 4 A0 n0 c0 es0, pfZ Ad cd (cmD rs), pfEs FN os]) → T 3 L a w := by
     rintro _ a w259 rfl ⟨A245, c246, A248, c249, g252, g256, η, σ⟩
     rw [hT]
     refine sAny_one (i := 10) (by kernel_rfl) rfl rfl (op_store (k := 1) (c' := #[.bool (neg ((cmD rs) / (qd r))), .slice A245 (zl ((cmD rs) / (qd r))) c246]) η σ (ty_anvil_integer_Int.size) rfl rfl rfl rfl (by simp) rfl rfl ?_)
     clear η σ a; intro a w260 η σ
     refine ⟨.inr ⟨σ.kn.pick (rg 2 4) (rg 2 6), .inl rfl⟩, ?_⟩
     refine sAny_one (i := 11) (by kernel_rfl) rfl rfl (op_store (k := 0) (c' := #[.bool (neg ((cmD rs) % (qd r))), .slice A248 (zl ((cmD rs) % (qd r))) c249]) η σ (ty_anvil_integer_Int.size) rfl rfl rfl rfl (by simp) rfl rfl ?_)
     clear η σ a; intro a w261 η σ
     refine ⟨.inr ⟨σ.kn.pick (rg 2 4) (rg 2 6), .inl rfl⟩, ?_⟩
     refine tA (i := 12) [] (v := .int .i64 0) rfl (by kernel_rfl) (fun _ _ _ h => h) η rfl (fun _ => rn_assign η rfl) ?_
     clear η a; intro a η
     refine sAny_done (by kernel_rfl) ?_ _
     exact th_n ⟨A245, c246, A248, c249, g252, g256, η.sub ⟨rfl, rfl, rfl, rfl, rfl, rfl, rfl, rfl, rfl, rfl, rfl, trivial⟩, σ.pick [0, 1, 2, 3, 4, 5] [0, 1, 2, 3, 4, 5, 6, 7] (by decide)⟩
    have hN254 : ∀ (L : Array Bool) (a : Act) (w : World), L = #[true, true, true, true, true, true, true, true, true, false, false, false, false] → (∃ (A245 : Option Addr) (c246 : Nat) (A248 : Option Addr) (c249 g252 : Nat), Env 62 a [(3, .pointer (some ⟨g51, 0, none⟩)), (38, .slice A0 n0 c0), (39, .int .i64 (n0 : Nat)), (4, .pointer (some ⟨g57, 0, none⟩)), (40, .int .i64 (j : Nat)), (10, .slice Bo j co), (41, .bool (decide (((j : Nat) : Int) < ((n0 : Nat) : Int)))), (42, .pointer (some ⟨ab A0, ao A0 + j * 4, none⟩)), (43, .agg #[.bool (neg (qn r)), .slice A (zl (qn r)) c, .bool (neg (ql r)), .slice B (zl (ql r)) d]), (12, .pointer (some ⟨g235, 0, none⟩)), (49, .agg #[.bool (neg ((cmD rs) / (qd r))), .slice A245 (zl ((cmD rs) / (qd r))) c246]), (50, .agg #[.bool (neg ((cmD rs) % (qd r))), .slice A248 (zl ((cmD rs) % (qd r))) c249]), (51, .int .i64 0), (13, .pointer (some ⟨g252, 0, none⟩))] ∧ St w0 w [bk g252 #[.bool (neg 0), .slice none (zl 0) 0] 36, bk g235 #[.bool (neg (qn r)), .slice A (zl (qn r)) c, .bool (neg (ql r)), .slice B (zl (ql r)) d] 91, rowS notU 36 2 Bo j co (fl fN os), bk g57 #[.bool (neg (cmD rs)), .slice Ad (zl (cmD rs)) cd] 36, bk g51 #[.bool (neg 0), .slice none (zl 0) 0] 36] [pfZ A248 c249 ((cmD rs) % (qd r)), pfZ A245 c246 ((cmD rs) / (qd r)), pfZ A c (qn r), pfZ B d (ql r), FK (A, c, B, d, r), pfRow fK FK 4 A0 n0 c0 es0, pfZ Ad cd (cmD rs), pfEs FN os]) → T 4 L a w := by
     rintro _ a w255 rfl ⟨A245, c246, A248, c249, g252, η, σ⟩
     rw [hT]
     refine sAny_one (i := 9) (by kernel_rfl) rfl rfl (op_alloc (c := #[.bool (neg 0), .slice none (zl 0) 0]) η σ rfl zero_anvil_integer_Int zcells ?_)
     clear η σ a; intro a w257 g256 η σ
     refine ⟨.inr ⟨σ.kn.pick (rg 2 4) (rg 2 6), .inr (σ.kn.pick [] [])⟩, ?_⟩
     rw [← hT]
     exact hN258 _ _ _ (by kernel_rfl) ⟨A245, c246, A248, c249, g252, g256, η.sub ⟨rfl, rfl, rfl, rfl, rfl, rfl, rfl, rfl, rfl, rfl, rfl, rfl, rfl, rfl, rfl, trivial⟩, σ.pick [0, 1, 2, 3, 4, 5] [0, 1, 2, 3, 4, 5, 6, 7] (by decide)⟩
    have hN264 : ∀ (L : Array Bool) (a : Act) (w : World), L = #[true, true, true, true, true, true, true, true, false, true, false, false, false] → (∃ (A245 : Option Addr) (c246 : Nat) (A248 : Option Addr) (c249 g262 : Nat), Env 62 a [(3, .pointer (some ⟨g51, 0, none⟩)), (38, .slice A0 n0 c0), (39, .int .i64 (n0 : Nat)), (4, .pointer (some ⟨g57, 0, none⟩)), (40, .int .i64 (j : Nat)), (10, .slice Bo j co), (41, .bool (decide (((j : Nat) : Int) < ((n0 : Nat) : Int)))), (42, .pointer (some ⟨ab A0, ao A0 + j * 4, none⟩)), (43, .agg #[.bool (neg (qn r)), .slice A (zl (qn r)) c, .bool (neg (ql r)), .slice B (zl (ql r)) d]), (12, .pointer (some ⟨g235, 0, none⟩)), (49, .agg #[.bool (neg ((cmD rs) / (qd r))), .slice A245 (zl ((cmD rs) / (qd r))) c246]), (50, .agg #[.bool (neg ((cmD rs) % (qd r))), .slice A248 (zl ((cmD rs) % (qd r))) c249]), (51, .int .i64 0), (14, .pointer (some ⟨g262, 0, none⟩))] ∧ St w0 w [bk g262 #[.bool (neg 0), .slice none (zl 0) 0] 36, bk g235 #[.bool (neg (qn r)), .slice A (zl (qn r)) c, .bool (neg (ql r)), .slice B (zl (ql r)) d] 91, rowS notU 36 2 Bo j co (fl fN os), bk g57 #[.bool (neg (cmD rs)), .slice Ad (zl (cmD rs)) cd] 36, bk g51 #[.bool (neg 0), .slice none (zl 0) 0] 36] [pfZ A248 c249 ((cmD rs) % (qd r)), pfZ A245 c246 ((cmD rs) / (qd r)), pfZ A c (qn r), pfZ B d (ql r), FK (A, c, B, d, r), pfRow fK FK 4 A0 n0 c0 es0, pfZ Ad cd (cmD rs), pfEs FN os]) → T 4 L a w := by
     rintro _ a w265 rfl ⟨A245, c246, A248, c249, g262, η, σ⟩
     rw [hT]
     refine sAny_one (i := 8) (by kernel_rfl) rfl rfl (op_alloc (c := #[.bool (neg 0), .slice none (zl 0) 0]) η σ rfl zero_anvil_integer_Int zcells ?_)
     clear η σ a; intro a w267 g266 η σ
     refine ⟨.inr ⟨σ.kn.pick (rg 2 4) (rg 2 6), .inr (σ.kn.pick [] [])⟩, ?_⟩
     rw [← hT]
     exact hN258 _ _ _ (by kernel_rfl) ⟨A245, c246, A248, c249, g266, g262, η.sub ⟨rfl, rfl, rfl, rfl, rfl, rfl, rfl, rfl, rfl, rfl, rfl, rfl, rfl, rfl, rfl, trivial⟩, σ.pick [1, 0, 2, 3, 4, 5] [0, 1, 2, 3, 4, 5, 6, 7] (by decide)⟩
    have hN282 : ∀ (L : Array Bool) (a : Act) (w : World), L = #[true, true, true, false, false, false, false, false, true, true, false, false, false] → (∃ (A239 : Option Addr) (c240 g268 g280 : Nat), Env 62 a [(3, .pointer (some ⟨g51, 0, none⟩)), (38, .slice A0 n0 c0), (39, .int .i64 (n0 : Nat)), (4, .pointer (some ⟨g57, 0, none⟩)), (40, .int .i64 (j : Nat)), (10, .slice Bo j co), (41, .bool (decide (((j : Nat) : Int) < ((n0 : Nat) : Int)))), (42, .pointer (some ⟨ab A0, ao A0 + j * 4, none⟩)), (43, .agg #[.bool (neg (qn r)), .slice A (zl (qn r)) c, .bool (neg (ql r)), .slice B (zl (ql r)) d]), (12, .pointer (some ⟨g235, 0, none⟩)), (45, .agg #[.bool (neg (cmD rs)), .slice Ad (zl (cmD rs)) cd]), (47, .agg #[.bool (neg (qd r)), .slice A239 (zl (qd r)) c240]), (13, .pointer (some ⟨g268, 0, none⟩)), (14, .pointer (some ⟨g280, 0, none⟩))] ∧ St w0 w [bk g280 #[.bool (neg 0), .slice none (zl 0) 0] 36, bk g268 #[.bool (neg 0), .slice none (zl 0) 0] 36, bk g235 #[.bool (neg (qn r)), .slice A (zl (qn r)) c, .bool (neg (ql r)), .slice B (zl (ql r)) d] 91, rowS notU 36 2 Bo j co (fl fN os), bk g57 #[.bool (neg (cmD rs)), .slice Ad (zl (cmD rs)) cd] 36, bk g51 #[.bool (neg 0), .slice none (zl 0) 0] 36] [pfZ A239 c240 (qd r), pfZ A c (qn r), pfZ B d (ql r), FK (A, c, B, d, r), pfRow fK FK 4 A0 n0 c0 es0, pfZ Ad cd (cmD rs), pfEs FN os]) → T 8 L a w := by
     rintro _ a w283 rfl ⟨A239, c240, g268, g280, η, σ⟩
     rw [hT]
     have hs284 := zl_ediv (cmD rs) (qd r)
     refine sAny_one (i := 3) (by kernel_rfl) rfl rfl (op_call η rfl Tryd.call117 rfl (divmod_z (x := (cmD rs)) (y := (qd r)) (show ZIn _ Ad cd (cmD rs) from σ.pat (k := 5) rfl) (show ZIn _ A239 c240 (qd r) from σ.pat (k := 0) rfl) (by omega) (by omega) (qd_ne r)) ?_)
     rintro e w291 ⟨_, _, rfl, ⟨A285, c286, rfl, hz287⟩, ⟨A288, c289, rfl, hz290⟩, hb⟩
     refine ⟨_, rfl, ?_⟩
     clear η a; intro a η
     replace σ := ((σ.call hb).addZ hz287 ⟨nou_bk rfl, nou_bk rfl, nou_bk rfl, nou_rowS, nou_bk rfl, nou_bk rfl, trivial⟩).addZ hz290 ⟨nou_bk rfl, nou_bk rfl, nou_bk rfl, nou_rowS, nou_bk rfl, nou_bk rfl, trivial⟩
     clear hz287 hz290
     clear hb
     refine ⟨.inr ⟨σ.kn.pick (rg 2 4) (rg 3 6), .inr (σ.kn.pick [] [])⟩, ?_⟩
     refine tM (i := 4) [5, 6, 7, 10, 11, 12] rfl (by kernel_rfl) (fun _ _ _ h => h) η rfl rfl ?_
     clear η a; intro a η
     refine tA (i := 5) [10, 11, 12] (v := .agg #[.bool (neg ((cmD rs) / (qd r))), .slice A285 (zl ((cmD rs) / (qd r))) c286]) rfl (by kernel_rfl) (fun _ _ _ h => h) η rfl (fun _ => rn_extract η rfl rfl) ?_
     clear η a; intro a η
     refine tA (i := 6) [11, 12] (v := .agg #[.bool (neg ((cmD rs) % (qd r))), .slice A288 (zl ((cmD rs) % (qd r))) c289]) rfl (by kernel_rfl) (fun _ _ _ h => h) η rfl (fun _ => rn_extract η rfl rfl) ?_
     clear η a; intro a η
     refine tA (i := 7) [12] (v := .int .i64 0) rfl (by kernel_rfl) (fun _ _ _ h => h) η rfl (fun _ => rn_extract η rfl rfl) ?_
     clear η a; intro a η
     rw [← hT]
     exact hN258 _ _ _ (by kernel_rfl) ⟨A285, c286, A288, c289, g268, g280, η.sub ⟨rfl, rfl, rfl, rfl, rfl, rfl, rfl, rfl, rfl, rfl, rfl, rfl, rfl, rfl, rfl, trivial⟩, σ.pick [0, 1, 2, 3, 4, 5] [0, 1, 3, 4, 5, 6, 7, 8] (by decide)⟩
    have hN270 : ∀ (L : Array Bool) (a : Act) (w : World), L = #[true, true, true, false, false, false, false, false, true, false, false, false, false] → (∃ (A239 : Option Addr) (c240 g268 : Nat), Env 62 a [(3, .pointer (some ⟨g51, 0, none⟩)), (38, .slice A0 n0 c0), (39, .int .i64 (n0 : Nat)), (4, .pointer (some ⟨g57, 0, none⟩)), (40, .int .i64 (j : Nat)), (10, .slice Bo j co), (41, .bool (decide (((j : Nat) : Int) < ((n0 : Nat) : Int)))), (42, .pointer (some ⟨ab A0, ao A0 + j * 4, none⟩)), (43, .agg #[.bool (neg (qn r)), .slice A (zl (qn r)) c, .bool (neg (ql r)), .slice B (zl (ql r)) d]), (12, .pointer (some ⟨g235, 0, none⟩)), (45, .agg #[.bool (neg (cmD rs)), .slice Ad (zl (cmD rs)) cd]), (47, .agg #[.bool (neg (qd r)), .slice A239 (zl (qd r)) c240]), (13, .pointer (some ⟨g268, 0, none⟩))] ∧ St w0 w [bk g268 #[.bool (neg 0), .slice none (zl 0) 0] 36, bk g235 #[.bool (neg (qn r)), .slice A (zl (qn r)) c, .bool (neg (ql r)), .slice B (zl (ql r)) d] 91, rowS notU 36 2 Bo j co (fl fN os), bk g57 #[.bool (neg (cmD rs)), .slice Ad (zl (cmD rs)) cd] 36, bk g51 #[.bool (neg 0), .slice none (zl 0) 0] 36] [pfZ A239 c240 (qd r), pfZ A c (qn r), pfZ B d (ql r), FK (A, c, B, d, r), pfRow fK FK 4 A0 n0 c0 es0, pfZ Ad cd (cmD rs), pfEs FN os]) → T 9 L a w := by
     rintro _ a w271 rfl ⟨A239, c240, g268, η, σ⟩
     rw [hT]
     refine sAny_all (rs := [3, 9]) (by kernel_rfl) (by simp) ?_
     simp only [List.forall_mem_cons, List.not_mem_nil, false_implies, implies_true, and_true]
     refine ⟨?_, ?_⟩
     ·have hs272 := zl_ediv (cmD rs) (qd r)
      refine ⟨_, rfl, rfl, op_call η rfl Tryd.call117 rfl (divmod_z (x := (cmD rs)) (y := (qd r)) (show ZIn _ Ad cd (cmD rs) from σ.pat (k := 5) rfl) (show ZIn _ A239 c240 (qd r) from σ.pat (k := 0) rfl) (by omega) (by omega) (qd_ne r)) ?_⟩
      rintro e w279 ⟨_, _, rfl, ⟨A273, c274, rfl, hz275⟩, ⟨A276, c277, rfl, hz278⟩, hb⟩
      refine ⟨_, rfl, ?_⟩
      clear η a; intro a η
      replace σ := ((σ.call hb).addZ hz275 ⟨nou_bk rfl, nou_bk rfl, nou_rowS, nou_bk rfl, nou_bk rfl, trivial⟩).addZ hz278 ⟨nou_bk rfl, nou_bk rfl, nou_rowS, nou_bk rfl, nou_bk rfl, trivial⟩
      clear hz275 hz278
      clear hb
      refine ⟨.inr ⟨σ.kn.pick (rg 1 4) (rg 3 6), .inr (σ.kn.pick [] [])⟩, ?_⟩
      refine tM (i := 4) [5, 6, 7, 10, 11, 12] rfl (by kernel_rfl) (fun _ _ _ h => h) η rfl rfl ?_
      clear η a; intro a η
      refine tA (i := 5) [10, 11, 12] (v := .agg #[.bool (neg ((cmD rs) / (qd r))), .slice A273 (zl ((cmD rs) / (qd r))) c274]) rfl (by kernel_rfl) (fun _ _ _ h => h) η rfl (fun _ => rn_extract η rfl rfl) ?_
      clear η a; intro a η
      refine tA (i := 6) [11, 12] (v := .agg #[.bool (neg ((cmD rs) % (qd r))), .slice A276 (zl ((cmD rs) % (qd r))) c277]) rfl (by kernel_rfl) (fun _ _ _ h => h) η rfl (fun _ => rn_extract η rfl rfl) ?_
      clear η a; intro a η
      refine tA (i := 7) [12] (v := .int .i64 0) rfl (by kernel_rfl) (fun _ _ _ h => h) η rfl (fun _ => rn_extract η rfl rfl) ?_
      clear η a; intro a η
      rw [← hT]
      exact hN254 _ _ _ (by kernel_rfl) ⟨A273, c274, A276, c277, g268, η.sub ⟨rfl, rfl, rfl, rfl, rfl, rfl, rfl, rfl, rfl, rfl, rfl, rfl, rfl, rfl, trivial⟩, σ.pick [0, 1, 2, 3, 4] [0, 1, 3, 4, 5, 6, 7, 8] (by decide)⟩
     ·refine ⟨_, rfl, rfl, op_alloc (c := #[.bool (neg 0), .slice none (zl 0) 0]) η σ rfl zero_anvil_integer_Int zcells ?_⟩
      clear η σ a; intro a w281 g280 η σ
      refine ⟨.inr ⟨σ.kn.pick (rg 2 4) (rg 1 6), .inr (σ.kn.pick [] [])⟩, ?_⟩
      rw [← hT]
      exact hN282 _ _ _ (by kernel_rfl) ⟨A239, c240, g268, g280, η.sub ⟨rfl, rfl, rfl, rfl, rfl, rfl, rfl, rfl, rfl, rfl, rfl, rfl, rfl, rfl, trivial⟩, σ.pick [0, 1, 2, 3, 4, 5] [0, 1, 2, 3, 4, 5, 6] (by decide)⟩
    have hN294 : ∀ (L : Array Bool) (a : Act) (w : World), L = #[true, true, true, false, false, false, false, false, false, true, false, false, false] → (∃ (A239 : Option Addr) (c240 g292 : Nat), Env 62 a [(3, .pointer (some ⟨g51, 0, none⟩)), (38, .slice A0 n0 c0), (39, .int .i64 (n0 : Nat)), (4, .pointer (some ⟨g57, 0, none⟩)), (40, .int .i64 (j : Nat)), (10, .slice Bo j co), (41, .bool (decide (((j : Nat) : Int) < ((n0 : Nat) : Int)))), (42, .pointer (some ⟨ab A0, ao A0 + j * 4, none⟩)), (43, .agg #[.bool (neg (qn r)), .slice A (zl (qn r)) c, .bool (neg (ql r)), .slice B (zl (ql r)) d]), (12, .pointer (some ⟨g235, 0, none⟩)), (45, .agg #[.bool (neg (cmD rs)), .slice Ad (zl (cmD rs)) cd]), (47, .agg #[.bool (neg (qd r)), .slice A239 (zl (qd r)) c240]), (14, .pointer (some ⟨g292, 0, none⟩))] ∧ St w0 w [bk g292 #[.bool (neg 0), .slice none (zl 0) 0] 36, bk g235 #[.bool (neg (qn r)), .slice A (zl (qn r)) c, .bool (neg (ql r)), .slice B (zl (ql r)) d] 91, rowS notU 36 2 Bo j co (fl fN os), bk g57 #[.bool (neg (cmD rs)), .slice Ad (zl (cmD rs)) cd] 36, bk g51 #[.bool (neg 0), .slice none (zl 0) 0] 36] [pfZ A239 c240 (qd r), pfZ A c (qn r), pfZ B d (ql r), FK (A, c, B, d, r), pfRow fK FK 4 A0 n0 c0 es0, pfZ Ad cd (cmD rs), pfEs FN os]) → T 9 L a w := by
     rintro _ a w295 rfl ⟨A239, c240, g292, η, σ⟩
     rw [hT]
     refine sAny_all (rs := [3, 8]) (by kernel_rfl) (by simp) ?_
     simp only [List.forall_mem_cons, List.not_mem_nil, false_implies, implies_true, and_true]
     refine ⟨?_, ?_⟩
     ·have hs296 := zl_ediv (cmD rs) (qd r)
      refine ⟨_, rfl, rfl, op_call η rfl Tryd.call117 rfl (divmod_z (x := (cmD rs)) (y := (qd r)) (show ZIn _ Ad cd (cmD rs) from σ.pat (k := 5) rfl) (show ZIn _ A239 c240 (qd r) from σ.pat (k := 0) rfl) (by omega) (by omega) (qd_ne r)) ?_⟩
      rintro e w303 ⟨_, _, rfl, ⟨A297, c298, rfl, hz299⟩, ⟨A300, c301, rfl, hz302⟩, hb⟩
      refine ⟨_, rfl, ?_⟩
      clear η a; intro a η
      replace σ := ((σ.call hb).addZ hz299 ⟨nou_bk rfl, nou_bk rfl, nou_rowS, nou_bk rfl, nou_bk rfl, trivial⟩).addZ hz302 ⟨nou_bk rfl, nou_bk rfl, nou_rowS, nou_bk rfl, nou_bk rfl, trivial⟩
      clear hz299 hz302
      clear hb
      refine ⟨.inr ⟨σ.kn.pick (rg 1 4) (rg 3 6), .inr (σ.kn.pick [] [])⟩, ?_⟩
      refine tM (i := 4) [5, 6, 7, 10, 11, 12] rfl (by kernel_rfl) (fun _ _ _ h => h) η rfl rfl ?_
      clear η a; intro a η
      refine tA (i := 5) [10, 11, 12] (v := .agg #[.bool (neg ((cmD rs) / (qd r))), .slice A297 (zl ((cmD rs) / (qd r))) c298]) rfl (by kernel_rfl) (fun _ _ _ h => h) η rfl (fun _ => rn_extract η rfl rfl) ?_
      clear η a; intro a η
      refine tA (i := 6) [11, 12] (v := .agg #[.bool (neg ((cmD rs) % (qd r))), .slice A300 (zl ((cmD rs) % (qd r))) c301]) rfl (by kernel_rfl) (fun _ _ _ h => h) η rfl (fun _ => rn_extract η rfl rfl) ?_
      clear η a; intro a η
      refine tA (i := 7) [12] (v := .int .i64 0) rfl (by kernel_rfl) (fun _ _ _ h => h) η rfl (fun _ => rn_extract η rfl rfl) ?_
      clear η a; intro a η
      rw [← hT]
      exact hN264 _ _ _ (by kernel_rfl) ⟨A297, c298, A300, c301, g292, η.sub ⟨rfl, rfl, rfl, rfl, rfl, rfl, rfl, rfl, rfl, rfl, rfl, rfl, rfl, rfl, trivial⟩, σ.pick [0, 1, 2, 3, 4] [0, 1, 3, 4, 5, 6, 7, 8] (by decide)⟩
     ·refine ⟨_, rfl, rfl, op_alloc (c := #[.bool (neg 0), .slice none (zl 0) 0]) η σ rfl zero_anvil_integer_Int zcells ?_⟩
      clear η σ a; intro a w305 g304 η σ
      refine ⟨.inr ⟨σ.kn.pick (rg 2 4) (rg 1 6), .inr (σ.kn.pick [] [])⟩, ?_⟩
      rw [← hT]
      exact hN282 _ _ _ (by kernel_rfl) ⟨A239, c240, g304, g292, η.sub ⟨rfl, rfl, rfl, rfl, rfl, rfl, rfl, rfl, rfl, rfl, rfl, rfl, rfl, rfl, trivial⟩, σ.pick [1, 0, 2, 3, 4, 5] [0, 1, 2, 3, 4, 5, 6] (by decide)⟩
    have hN315 : ∀ (L : Array Bool) (a : Act) (w : World), L = #[true, true, false, false, false, false, false, false, true, true, false, false, false] → (∃ (g306 g313 : Nat), Env 62 a [(3, .pointer (some ⟨g51, 0, none⟩)), (38, .slice A0 n0 c0), (39, .int .i64 (n0 : Nat)), (4, .pointer (some ⟨g57, 0, none⟩)), (40, .int .i64 (j : Nat)), (10, .slice Bo j co), (41, .bool (decide (((j : Nat) : Int) < ((n0 : Nat) : Int)))), (42, .pointer (some ⟨ab A0, ao A0 + j * 4, none⟩)), (43, .agg #[.bool (neg (qn r)), .slice A (zl (qn r)) c, .bool (neg (ql r)), .slice B (zl (ql r)) d]), (12, .pointer (some ⟨g235, 0, none⟩)), (45, .agg #[.bool (neg (cmD rs)), .slice Ad (zl (cmD rs)) cd]), (46, .agg #[.bool (neg (qn r)), .slice A (zl (qn r)) c, .bool (neg (ql r)), .slice B (zl (ql r)) d]), (13, .pointer (some ⟨g306, 0, none⟩)), (14, .pointer (some ⟨g313, 0, none⟩))] ∧ St w0 w [bk g313 #[.bool (neg 0), .slice none (zl 0) 0] 36, bk g306 #[.bool (neg 0), .slice none (zl 0) 0] 36, bk g235 #[.bool (neg (qn r)), .slice A (zl (qn r)) c, .bool (neg (ql r)), .slice B (zl (ql r)) d] 91, rowS notU 36 2 Bo j co (fl fN os), bk g57 #[.bool (neg (cmD rs)), .slice Ad (zl (cmD rs)) cd] 36, bk g51 #[.bool (neg 0), .slice none (zl 0) 0] 36] [pfZ A c (qn r), pfZ B d (ql r), FK (A, c, B, d, r), pfRow fK FK 4 A0 n0 c0 es0, pfZ Ad cd (cmD rs), pfEs FN os]) → T 9 L a w := by
     rintro _ a w316 rfl ⟨g306, g313, η, σ⟩
     rw [hT]
     have hs320 := hse.d
     refine sAny_one (i := 2) (by kernel_rfl) rfl rfl (op_call η rfl Tryd.call89 rfl (den_q (x := r) (show ZIn _ A c (qn r) from σ.pat (k := 0) rfl) (show ZIn _ B d (ql r) from σ.pat (k := 1) rfl) hse (by omega)) ?_)
     rintro e w321 ⟨_, rfl, ⟨A317, c318, rfl, hz319⟩, hb⟩
     refine ⟨_, rfl, ?_⟩
     clear η a; intro a η
     replace σ := (σ.call hb).addZ hz319 ⟨nou_bk rfl, nou_bk rfl, nou_bk rfl, nou_rowS, nou_bk rfl, nou_bk rfl, trivial⟩
     clear hz319
     clear hb
     refine ⟨.inr ⟨σ.kn.pick (rg 2 4) (rg 1 6), .inr (σ.kn.pick [] [])⟩, ?_⟩
     rw [← hT]
     exact hN282 _ _ _ (by kernel_rfl) ⟨A317, c318, g306, g313, η.sub ⟨rfl, rfl, rfl, rfl, rfl, rfl, rfl, rfl, rfl, rfl, rfl, rfl, rfl, rfl, trivial⟩, σ.pick [0, 1, 2, 3, 4, 5] [0, 1, 2, 3, 4, 5, 6] (by decide)⟩
    rw [hT]
    refine tL (i := 0) 2 2 [3, 4, 5, 6, 7, 10, 11, 12] rfl (by kernel_rfl) (fun _ _ _ h => h) η rfl ty_anvil_integer_Int rfl σ rfl rfl rfl ?_
    clear η a; intro a η
    refine tL (i := 1) 0 0 [2, 3, 4, 5, 6, 7, 10, 11, 12] rfl (by kernel_rfl) (fun _ _ _ h => h) η rfl ty_anvil_ratio_Rat rfl σ rfl rfl rfl ?_
    clear η a; intro a η
    refine sAny_all (rs := [2, 8, 9]) (by kernel_rfl) (by simp) ?_
    simp only [List.forall_mem_cons, List.not_mem_nil, false_implies, implies_true, and_true]
    refine ⟨?_, ?_, ?_⟩
    ·have hs242 := hse.d
     refine ⟨_, rfl, rfl, op_call η rfl Tryd.call89 rfl (den_q (x := r) (show ZIn _ A c (qn r) from σ.pat (k := 0) rfl) (show ZIn _ B d (ql r) from σ.pat (k := 1) rfl) hse (by omega)) ?_⟩
     rintro e w243 ⟨_, rfl, ⟨A239, c240, rfl, hz241⟩, hb⟩
     refine ⟨_, rfl, ?_⟩
     clear η a; intro a η
     replace σ := (σ.call hb).addZ hz241 ⟨nou_bk rfl, nou_rowS, nou_bk rfl, nou_bk rfl, trivial⟩
     clear hz241
     clear hb
     refine ⟨.inr ⟨σ.kn.pick (rg 0 4) (rg 1 6), .inr (σ.kn.pick [] [])⟩, ?_⟩
     refine sAny_all (rs := [3, 8, 9]) (by kernel_rfl) (by simp) ?_
     simp only [List.forall_mem_cons, List.not_mem_nil, false_implies, implies_true, and_true]
     refine ⟨?_, ?_, ?_⟩
     ·have hs244 := zl_ediv (cmD rs) (qd r)
      refine ⟨_, rfl, rfl, op_call η rfl Tryd.call117 rfl (divmod_z (x := (cmD rs)) (y := (qd r)) (show ZIn _ Ad cd (cmD rs) from σ.pat (k := 5) rfl) (show ZIn _ A239 c240 (qd r) from σ.pat (k := 0) rfl) (by omega) (by omega) (qd_ne r)) ?_⟩
      rintro e w251 ⟨_, _, rfl, ⟨A245, c246, rfl, hz247⟩, ⟨A248, c249, rfl, hz250⟩, hb⟩
      refine ⟨_, rfl, ?_⟩
      clear η a; intro a η
      replace σ := ((σ.call hb).addZ hz247 ⟨nou_bk rfl, nou_rowS, nou_bk rfl, nou_bk rfl, trivial⟩).addZ hz250 ⟨nou_bk rfl, nou_rowS, nou_bk rfl, nou_bk rfl, trivial⟩
      clear hz247 hz250
      clear hb
      refine ⟨.inr ⟨σ.kn.pick (rg 0 4) (rg 3 6), .inr (σ.kn.pick [] [])⟩, ?_⟩
      refine tM (i := 4) [5, 6, 7, 10, 11, 12] rfl (by kernel_rfl) (fun _ _ _ h => h) η rfl rfl ?_
      clear η a; intro a η
      refine tA (i := 5) [10, 11, 12] (v := .agg #[.bool (neg ((cmD rs) / (qd r))), .slice A245 (zl ((cmD rs) / (qd r))) c246]) rfl (by kernel_rfl) (fun _ _ _ h => h) η rfl (fun _ => rn_extract η rfl rfl) ?_
      clear η a; intro a η
      refine tA (i := 6) [11, 12] (v := .agg #[.bool (neg ((cmD rs) % (qd r))), .slice A248 (zl ((cmD rs) % (qd r))) c249]) rfl (by kernel_rfl) (fun _ _ _ h => h) η rfl (fun _ => rn_extract η rfl rfl) ?_
      clear η a; intro a η
      refine tA (i := 7) [12] (v := .int .i64 0) rfl (by kernel_rfl) (fun _ _ _ h => h) η rfl (fun _ => rn_extract η rfl rfl) ?_
      clear η a; intro a η
      refine sAny_all (rs := [8, 9]) (by kernel_rfl) (by simp) ?_
      simp only [List.forall_mem_cons, List.not_mem_nil, false_implies, implies_true, and_true]
      refine ⟨?_, ?_⟩
      ·refine ⟨_, rfl, rfl, op_alloc (c := #[.bool (neg 0), .slice none (zl 0) 0]) η σ rfl zero_anvil_integer_Int zcells ?_⟩
       clear η σ a; intro a w253 g252 η σ
       refine ⟨.inr ⟨σ.kn.pick (rg 1 4) (rg 3 6), .inr (σ.kn.pick [] [])⟩, ?_⟩
       rw [← hT]
       exact hN254 _ _ _ (by kernel_rfl) ⟨A245, c246, A248, c249, g252, η.sub ⟨rfl, rfl, rfl, rfl, rfl, rfl, rfl, rfl, rfl, rfl, rfl, rfl, rfl, rfl, trivial⟩, σ.pick [0, 1, 2, 3, 4] [0, 1, 3, 4, 5, 6, 7, 8] (by decide)⟩
      ·refine ⟨_, rfl, rfl, op_alloc (c := #[.bool (neg 0), .slice none (zl 0) 0]) η σ rfl zero_anvil_integer_Int zcells ?_⟩
       clear η σ a; intro a w263 g262 η σ
       refine ⟨.inr ⟨σ.kn.pick (rg 1 4) (rg 3 6), .inr (σ.kn.pick [] [])⟩, ?_⟩
       rw [← hT]
       exact hN264 _ _ _ (by kernel_rfl) ⟨A245, c246, A248, c249, g262, η.sub ⟨rfl, rfl, rfl, rfl, rfl, rfl, rfl, rfl, rfl, rfl, rfl, rfl, rfl, rfl, trivial⟩, σ.pick [0, 1, 2, 3, 4] [0, 1, 3, 4, 5, 6, 7, 8] (by decide)⟩
     ·refine ⟨_, rfl, rfl, op_alloc (c := #[.bool (neg 0), .slice none (zl 0) 0]) η σ rfl zero_anvil_integer_Int zcells ?_⟩
      clear η σ a; intro a w269 g268 η σ
      refine ⟨.inr ⟨σ.kn.pick (rg 1 4) (rg 1 6), .inr (σ.kn.pick [] [])⟩, ?_⟩
      rw [← hT]
      exact hN270 _ _ _ (by kernel_rfl) ⟨A239, c240, g268, η.sub ⟨rfl, rfl, rfl, rfl, rfl, rfl, rfl, rfl, rfl, rfl, rfl, rfl, rfl, trivial⟩, σ.pick [0, 1, 2, 3, 4] [0, 1, 2, 3, 4, 5, 6] (by decide)⟩
     ·refine ⟨_, rfl, rfl, op_alloc (c := #[.bool (neg 0), .slice none (zl 0) 0]) η σ rfl zero_anvil_integer_Int zcells ?_⟩
      clear η σ a; intro a w293 g292 η σ
      refine ⟨.inr ⟨σ.kn.pick (rg 1 4) (rg 1 6), .inr (σ.kn.pick [] [])⟩, ?_⟩
      rw [← hT]
      exact hN294 _ _ _ (by kernel_rfl) ⟨A239, c240, g292, η.sub ⟨rfl, rfl, rfl, rfl, rfl, rfl, rfl, rfl, rfl, rfl, rfl, rfl, rfl, trivial⟩, σ.pick [0, 1, 2, 3, 4] [0, 1, 2, 3, 4, 5, 6] (by decide)⟩
    ·refine ⟨_, rfl, rfl, op_alloc (c := #[.bool (neg 0), .slice none (zl 0) 0]) η σ rfl zero_anvil_integer_Int zcells ?_⟩
     clear η σ a; intro a w307 g306 η σ
     refine ⟨.inr ⟨σ.kn.pick (rg 1 4) (rg 0 6), .inr (σ.kn.pick [] [])⟩, ?_⟩
     refine sAny_all (rs := [2, 9]) (by kernel_rfl) (by simp) ?_
     simp only [List.forall_mem_cons, List.not_mem_nil, false_implies, implies_true, and_true]
     refine ⟨?_, ?_⟩
     ·have hs311 := hse.d
      refine ⟨_, rfl, rfl, op_call η rfl Tryd.call89 rfl (den_q (x := r) (show ZIn _ A c (qn r) from σ.pat (k := 0) rfl) (show ZIn _ B d (ql r) from σ.pat (k := 1) rfl) hse (by omega)) ?_⟩
      rintro e w312 ⟨_, rfl, ⟨A308, c309, rfl, hz310⟩, hb⟩
      refine ⟨_, rfl, ?_⟩
      clear η a; intro a η
      replace σ := (σ.call hb).addZ hz310 ⟨nou_bk rfl, nou_bk rfl, nou_rowS, nou_bk rfl, nou_bk rfl, trivial⟩
      clear hz310
      clear hb
      refine ⟨.inr ⟨σ.kn.pick (rg 1 4) (rg 1 6), .inr (σ.kn.pick [] [])⟩, ?_⟩
      rw [← hT]
      exact hN270 _ _ _ (by kernel_rfl) ⟨A308, c309, g306, η.sub ⟨rfl, rfl, rfl, rfl, rfl, rfl, rfl, rfl, rfl, rfl, rfl, rfl, rfl, trivial⟩, σ.pick [0, 1, 2, 3, 4] [0, 1, 2, 3, 4, 5, 6] (by decide)⟩
     ·refine ⟨_, rfl, rfl, op_alloc (c := #[.bool (neg 0), .slice none (zl 0) 0]) η σ rfl zero_anvil_integer_Int zcells ?_⟩
      clear η σ a; intro a w314 g313 η σ
      refine ⟨.inr ⟨σ.kn.pick (rg 2 4) (rg 0 6), .inr (σ.kn.pick [] [])⟩, ?_⟩
      rw [← hT]
      exact hN315 _ _ _ (by kernel_rfl) ⟨g306, g313, η.sub ⟨rfl, rfl, rfl, rfl, rfl, rfl, rfl, rfl, rfl, rfl, rfl, rfl, rfl, rfl, trivial⟩, σ.pick [0, 1, 2, 3, 4, 5] [0, 1, 2, 3, 4, 5] (by decide)⟩
    ·refine ⟨_, rfl, rfl, op_alloc (c := #[.bool (neg 0), .slice none (zl 0) 0]) η σ rfl zero_anvil_integer_Int zcells ?_⟩
     clear η σ a; intro a w323 g322 η σ
     refine ⟨.inr ⟨σ.kn.pick (rg 1 4) (rg 0 6), .inr (σ.kn.pick [] [])⟩, ?_⟩
     refine sAny_all (rs := [2, 8]) (by kernel_rfl) (by simp) ?_
     simp only [List.forall_mem_cons, List.not_mem_nil, false_implies, implies_true, and_true]
     refine ⟨?_, ?_⟩
     ·have hs327 := hse.d
      refine ⟨_, rfl, rfl, op_call η rfl Tryd.call89 rfl (den_q (x := r) (show ZIn _ A c (qn r) from σ.pat (k := 0) rfl) (show ZIn _ B d (ql r) from σ.pat (k := 1) rfl) hse (by omega)) ?_⟩
      rintro e w328 ⟨_, rfl, ⟨A324, c325, rfl, hz326⟩, hb⟩
      refine ⟨_, rfl, ?_⟩
      clear η a; intro a η
      replace σ := (σ.call hb).addZ hz326 ⟨nou_bk rfl, nou_bk rfl, nou_rowS, nou_bk rfl, nou_bk rfl, trivial⟩
      clear hz326
      clear hb
      refine ⟨.inr ⟨σ.kn.pick (rg 1 4) (rg 1 6), .inr (σ.kn.pick [] [])⟩, ?_⟩
      rw [← hT]
      exact hN294 _ _ _ (by kernel_rfl) ⟨A324, c325, g322, η.sub ⟨rfl, rfl, rfl, rfl, rfl, rfl, rfl, rfl, rfl, rfl, rfl, rfl, rfl, trivial⟩, σ.pick [0, 1, 2, 3, 4] [0, 1, 2, 3, 4, 5, 6] (by decide)⟩
     ·refine ⟨_, rfl, rfl, op_alloc (c := #[.bool (neg 0), .slice none (zl 0) 0]) η σ rfl zero_anvil_integer_Int zcells ?_⟩
      clear η σ a; intro a w330 g329 η σ
      refine ⟨.inr ⟨σ.kn.pick (rg 2 4) (rg 0 6), .inr (σ.kn.pick [] [])⟩, ?_⟩
      rw [← hT]
      exact hN315 _ _ _ (by kernel_rfl) ⟨g329, g322, η.sub ⟨rfl, rfl, rfl, rfl, rfl, rfl, rfl, rfl, rfl, rfl, rfl, rfl, rfl, rfl, trivial⟩, σ.pick [1, 0, 2, 3, 4, 5] [0, 1, 2, 3, 4, 5] (by decide)⟩
   clear η σ a
   rintro a w331 ⟨A245, c246, A248, c249, g252, g256, η, σ⟩
   refine region_seq ?_
   revert a
   refine mA rfl rfl ?_
   refine sA (v := .pointer (some ⟨g235, 0, none⟩)) rfl (fun _ η => rn_fieldAddr η fd_anvil_ratio_Rat_0 (ty_anvil_integer_Int.size) (by decide) rfl) ?_
   refine sA (v := .agg #[.bool (neg (qn r)), .slice A (zl (qn r)) c]) rfl (fun _ η => rn_load η ty_anvil_integer_Int rfl (σ.oat (k := 2) rfl) rfl rfl) ?_
   refine sA (v := .agg #[.bool (neg ((cmD rs) / (qd r))), .slice A245 (zl ((cmD rs) / (qd r))) c246]) rfl (fun _ η => rn_load0 η ty_anvil_integer_Int rfl (σ.oat (k := 1) rfl) rfl) ?_
   intro a η
   have hs332 := zl_mul (qn r) ((cmD rs) / (qd r))
   refine seq_step rfl (op_call η rfl Tryd.call84 rfl (mul_z (x := (qn r)) (y := (cmD rs) / (qd r)) (show ZIn _ A c (qn r) from σ.pat (k := 2) rfl) (show ZIn _ A245 c246 ((cmD rs) / (qd r)) from σ.pat (k := 1) rfl) (by omega) (by omega)) ?_)
   rintro e w336 ⟨_, rfl, ⟨A333, c334, rfl, hz335⟩, hb⟩
   refine ⟨_, rfl, ?_⟩
   clear η a; intro a η
   replace σ := (σ.call hb).addZ hz335 ⟨nou_bk rfl, nou_bk rfl, nou_bk rfl, nou_rowS, nou_bk rfl, nou_bk rfl, trivial⟩
   clear hz335
   clear hb
   refine seq_step rfl (op_buildSlice (z := 2) (pv := #[(0, .agg #[.bool (neg ((qn r) * ((cmD rs) / (qd r)))), .slice A333 (zl ((qn r) * ((cmD rs) / (qd r)))) c334])]) (c := #[.bool (neg ((qn r) * ((cmD rs) / (qd r)))), .slice A333 (zl ((qn r) * ((cmD rs) / (qd r)))) c334]) η σ rfl Tryd.underlying30 (ty_anvil_integer_Int.size) zero_anvil_integer_Int (by decide) (by decide) rfl (by kernel_rfl) ?_)
   clear η σ a; intro a w338 g337 η σ
   refine seq_step rfl (op_appendS (k := 4) (j := 0) η σ rfl Tryd.underlying30 inf_anvil_integer_Int rfl rfl rfl rfl rfl rfl rfl rfl rfl rfl rfl (by unfold maxLen; omega) (by omega) ?_)
   clear η σ a; intro a w341 g339 c340 η σ
   rw [show fl fN os ++ (#[.bool (neg ((qn r) * ((cmD rs) / (qd r)))), .slice A333 (zl ((qn r) * ((cmD rs) / (qd r)))) c334] : Array Value).toList = fl fN (os ++ [(A333, c334, ((qn r) * ((cmD rs) / (qd r))))]) from fl_snoc (f := fN) os (A333, c334, ((qn r) * ((cmD rs) / (qd r))))] at σ
   replace σ := σ.snocEs (e := (A333, c334, ((qn r) * ((cmD rs) / (qd r))))) (i := 8) (j := 0) rfl rfl
   refine sv (v := .slice (some ⟨g339, 0, none⟩) (j + 1) c340) η rfl (rn_assign η rfl) ?_
   clear η a; intro a η
   refine wpList_nil (bl_n (th_n (region_seq ?_)))
   revert a
   refine sA (v := .int .i64 (j + 1 : Nat)) rfl (fun _ η => rn_add η rfl rfl (by rw [IntWalk.i64_in _ (by omega)]; omega)) ?_
   refine mA rfl rfl ?_
   intro a η
   refine wpList_nil ?_
   exact th_n ⟨_, (by omega), ⟨j + 1, (some ⟨g339, 0, none⟩), c340, (os ++ [(A333, c334, ((qn r) * ((cmD rs) / (qd r))))]), rfl, η.sub ⟨rfl, rfl, rfl, rfl, rfl, rfl, trivial⟩, σ.pick [4, 5, 6] [7, 8, 0] (by decide), (by omega), (cmN_step hos hrj), (by rw [List.length_append, hol]; rfl), (fun h => absurd h (Nat.succ_ne_zero _))⟩⟩
  ·have hje : n0 ≤ j := by have := of_decide_eq_false hc234; omega
   obtain rfl : j = n0 := by omega
   rw [List.take_of_length_le (by omega)] at hos
   refine wp_exit (th_x (th_x (bl_x (th_n (wp_seq ?_)))))
   refine region_any (n := 4) (Sk [rowS notU 36 2 Bo j co (fl fN os), bk g57 #[.bool (neg (cmD rs)), .slice Ad (zl (cmD rs)) cd] 36] [pfRow fK FK 4 A0 j c0 es0, pfZ Ad cd (cmD rs), pfEs FN os] [3] []) mixed rfl η σ ?_
   clear η σ; intro w342 η σ
   refine tM (i := 0) [2, 3] rfl (by kernel_rfl) (fun _ _ _ h => h) η rfl rfl ?_
   clear η a; intro a η
   refine tL (i := 1) 1 1 [3] rfl (by kernel_rfl) (fun _ _ _ h => h) η rfl ty_anvil_integer_Int rfl σ rfl rfl rfl ?_
   clear η a; intro a η
   refine tA (i := 2) [3] (v := .slice Bo j co) rfl (by kernel_rfl) (fun _ _ _ h => h) η rfl (fun _ => rn_assign η rfl) ?_
   clear η a; intro a η
   refine sAny_one (i := 3) (by kernel_rfl) rfl rfl (op_store (k := 2) (c' := #[.bool (neg (cmD rs)), .slice Ad (zl (cmD rs)) cd]) η σ (ty_anvil_integer_Int.size) rfl rfl rfl rfl (by simp) rfl rfl ?_)
   clear η σ a; intro a w343 η σ
   refine ⟨.inr ⟨σ.kn.pick [0, 1] [0, 1, 2], .inl rfl⟩, ?_⟩
   refine sAny_done (by kernel_rfl) ?_ _
   refine th_n (wp_ret ?_)
   refine leave η (res2 Tryd.results70 (RV.tmp η rfl) (RV.cell η ty_anvil_integer_Int rfl (σ.oat (k := 2) rfl) rfl)) ?_
   exact ⟨_, _, rfl, ⟨_, _, _, rfl, σ.newRow (k := 0) (j := 2) rfl rfl, hol, hos, hon⟩, z_at rfl (σ.pat (k := 1) rfl), σ.below⟩
theorem common_y {A0 : Option Addr} {n0 c0 : Nat} {es0 : List KE} {rs : List Rat} {w0 : World} (h0 : (pfRow fH FH 4 A0 n0 c0 es0).P w0) (hrs : es0.map kr = rs) (hq : ∀ r ∈ rs, Qs 400 r) (hn : n0 ≤ 12) :
  Calls Tryd.prog 71 #[.slice A0 n0 c0] w0 fun e w' => ∃ v u, e = .returned (.tuple #[v, u]) ∧ MRowC w0.heap.size w' v n0 (cmN (cmD rs) rs) ∧ RAt w' u (cmD rs) ∧ Below w0.heap.size w0 w' := by
 have h1z : zl 1 ≤ 1 := nl_le_of_lt (by decide)
 refine enter Tryd.func71 rfl Tryd.ntmps71 rfl ?_
 intro a η σ
 have hlen0 := h0.2.1
 have hrl : rs.length = n0 := by rw [← hrs, List.length_map, hlen0]
 replace σ := σ.argRow h0
 clear h0
 refine wp_seq (region_seq ?_)
 refine sv (v := .slice none 0 0) η rfl (rn_assign η rfl) ?_
 clear η a; intro a η
 refine seq_step rfl (op_alloc (c := #[.bool (neg 0), .slice none (dl 0) 0]) η σ rfl zero_anvil_anvilref02_Int rcells ?_)
 clear η σ a; intro a w52 g51 η σ
 refine wpList_nil (th_n (wp_seq (region_seq ?_)))
 refine seq_step rfl (op_call η rfl Tryd.call29 rfl (of_r (n := (1 : Int)) (by decide) (by decide)) ?_)
 rintro e w56 ⟨_, rfl, ⟨A53, c54, rfl, hz55⟩, hb⟩
 refine ⟨_, rfl, ?_⟩
 clear η a; intro a η
 replace σ := (σ.call hb).addR hz55 ⟨nou_bk rfl, trivial⟩
 clear hz55
 clear hb
 refine seq_step rfl (op_alloc (c := #[.bool (neg 0), .slice none (dl 0) 0]) η σ rfl zero_anvil_anvilref02_Int rcells ?_)
 clear η σ a; intro a w58 g57 η σ
 refine seq_step rfl (op_store (k := 0) (c' := #[.bool (neg 1), .slice A53 (dl 1) c54]) η σ (ty_anvil_anvilref02_Int.size) rfl rfl rfl rfl (by simp) rfl rfl ?_)
 clear η σ a; intro a w59 η σ
 refine wpList_nil (th_n (wp_seq (wp_seq (region_seq ?_))))
 refine sv (v := .int .i64 0) η rfl (rn_assign η rfl) ?_
 clear η a; intro a η
 refine wpList_nil (th_n (wp_block ?_))
 refine wp_loop_ghost (fun mz a w => ∃ (j : Nat) (D : Int) (Ad : Option Addr) (cd : Nat), n0 - j = mz ∧ Env 66 a [(0, .slice A0 n0 c0), (3, .pointer (some ⟨g51, 0, none⟩)), (4, .pointer (some ⟨g57, 0, none⟩)), (5, .int .i64 (j : Nat))] ∧ St w0 w [bk g57 #[.bool (neg D), .slice Ad (dl D) cd] 39, bk g51 #[.bool (neg 0), .slice none (dl 0) 0] 39] [pfRow fH FH 4 A0 n0 c0 es0, pfR Ad cd D] ∧ j ≤ n0 ∧ D = cmD (rs.take j) ∧ zl D ≤ 400 * j + 1 ∧ 0 < D) _ ⟨0, 1, A53, c54, rfl, η.sub ⟨rfl, rfl, rfl, rfl, trivial⟩, σ.pick [0, 1] [1, 0] (by decide), (Nat.zero_le _), rfl, (nl_le_of_lt (by decide)), (by decide)⟩ ?_
 clear η σ a
 rintro mz a w60 ⟨j, D, Ad, cd, rfl, η, σ, hj, hD, hDz, hDp⟩
 refine wp_seq (wp_seq (region_seq ?_))
 revert a
 refine mA rfl rfl ?_
 refine mA rfl rfl ?_
 refine sA (v := .int .i64 (n0 : Nat)) rfl (fun _ η => rn_len η Tryd.underlying106 rfl) ?_
 refine sA (v := .bool (decide (((j : Nat) : Int) < ((n0 : Nat) : Int)))) rfl (fun _ η => rn_bin η rfl rfl rfl) ?_
 intro a η
 refine wpList_nil (th_n ?_)
 refine if_split η rfl (fun hc61 => ?_) (fun hc61 => ?_)
 ·have hlt : j < n0 := by have := of_decide_eq_true hc61; omega
  obtain ⟨⟨A, c, B, d, r⟩, he0⟩ : ∃ e, es0[j]? = some e := ⟨_, List.getElem?_eq_getElem (by omega)⟩
  replace σ := σ.elem (k := 0) rfl he0
  replace σ := σ.split2 (k := 0) rfl
  replace σ : St w0 _ [bk g57 #[.bool (neg D), .slice Ad (dl D) cd] 39, bk g51 #[.bool (neg 0), .slice none (dl 0) 0] 39] [pfR A c (qn r), pfR B d (qd r), FH (A, c, B, d, r), pfRow fH FH 4 A0 n0 c0 es0, pfR Ad cd D] := σ
  have hrj := kr_at hrs he0
  have hrm : r ∈ rs := List.mem_of_getElem? hrj
  have hse := hq r hrm
  have hnr := hse.n
  have hdr := hse.d
  have hlr := hse.l
  have hpr := qd_pos r
  have enr := dl_zl (qn r)
  have edr := dl_zl (qd r)
  have hg0 := gcd_ne (n := D) (d := qd r) (qd_ne r)
  have hgs := gcd_zq D (qd r)
  have edD := dl_zl D
  have hgd := gcd_dl' D (qd r)
  have hqs := dl_ediv (qd r) ((Int.gcd D (qd r) : Nat) : Int)
  refine wp_skip (th_n (wp_seq (wp_block (wp_seq ?_))))
  refine cut (fun a w => ∃ (A69 : Option Addr) (c70 g73 : Nat), Env 66 a [(0, .slice A0 n0 c0), (3, .pointer (some ⟨g51, 0, none⟩)), (4, .pointer (some ⟨g57, 0, none⟩)), (5, .int .i64 (j : Nat)), (13, .int .i64 (j : Nat)), (14, .slice A0 n0 c0), (15, .int .i64 (n0 : Nat)), (16, .bool (decide (((j : Nat) : Int) < ((n0 : Nat) : Int)))), (6, .pointer (some ⟨g73, 0, none⟩))] ∧ St w0 w [bk g73 #[.bool (neg ((qd r) / ((Int.gcd D (qd r) : Nat) : Int))), .slice A69 (dl ((qd r) / ((Int.gcd D (qd r) : Nat) : Int))) c70] 39, bk g57 #[.bool (neg D), .slice Ad (dl D) cd] 39, bk g51 #[.bool (neg 0), .slice none (dl 0) 0] 39] [pfR A69 c70 ((qd r) / ((Int.gcd D (qd r) : Nat) : Int)), pfR A c (qn r), pfR B d (qd r), FH (A, c, B, d, r), pfRow fH FH 4 A0 n0 c0 es0, pfR Ad cd D]) ?_ ?_
  ·refine region_any (n := 19) (Sk [bk g57 #[.bool (neg D), .slice Ad (dl D) cd] 39, bk g51 #[.bool (neg 0), .slice none (dl 0) 0] 39] [pfR A c (qn r), pfR B d (qd r), FH (A, c, B, d, r), pfRow fH FH 4 A0 n0 c0 es0, pfR Ad cd D] [17] []) mixed rfl η σ ?_
   clear η σ; intro w62 η σ
   refine sAny_gen fun T hT => ?_
   have hN75 : ∀ (L : Array Bool) (a : Act) (w : World), L = #[true, true, true, true, true, true, true, true, true, true, true, true, true, true, true, true, true, false, false] → (∃ (A69 : Option Addr) (c70 g73 : Nat), Env 66 a [(0, .slice A0 n0 c0), (3, .pointer (some ⟨g51, 0, none⟩)), (4, .pointer (some ⟨g57, 0, none⟩)), (5, .int .i64 (j : Nat)), (13, .int .i64 (j : Nat)), (14, .slice A0 n0 c0), (15, .int .i64 (n0 : Nat)), (16, .bool (decide (((j : Nat) : Int) < ((n0 : Nat) : Int)))), (33, .agg #[.bool (neg ((qd r) / ((Int.gcd D (qd r) : Nat) : Int))), .slice A69 (dl ((qd r) / ((Int.gcd D (qd r) : Nat) : Int))) c70]), (34, .bool true), (6, .pointer (some ⟨g73, 0, none⟩))] ∧ St w0 w [bk g73 #[.bool (neg 0), .slice none (dl 0) 0] 39, bk g57 #[.bool (neg D), .slice Ad (dl D) cd] 39, bk g51 #[.bool (neg 0), .slice none (dl 0) 0] 39] [pfR A69 c70 ((qd r) / ((Int.gcd D (qd r) : Nat) : Int)), pfR A c (qn r), pfR B d (qd r), FH (A, c, B, d, r), pfRow fH FH 4 A0 n0 c0 es0, pfR Ad cd D]) → T 2 L a w := by
    rintro _ a w76 rfl ⟨A69, c70, g73, η, σ⟩
    rw [hT]
    refine sAny_one (i := 17) (by kernel_rfl) rfl rfl (op_store (k := 0) (c' := #[.bool (neg ((qd r) / ((Int.gcd D (qd r) : Nat) : Int))), .slice A69 (dl ((qd r) / ((Int.gcd D (qd r) : Nat) : Int))) c70]) η σ (ty_anvil_anvilref02_Int.size) rfl rfl rfl rfl (by simp) rfl rfl ?_)
    clear η σ a; intro a w77 η σ
    refine ⟨.inr ⟨σ.kn.pick [1, 2] (rg 1 5), .inl rfl⟩, ?_⟩
    refine tA (i := 18) [] (v := .bool true) rfl (by kernel_rfl) (fun _ _ _ h => h) η rfl (fun _ => rn_assign η rfl) ?_
    clear η a; intro a η
    refine sAny_done (by kernel_rfl) ?_ _
    exact th_n ⟨A69, c70, g73, η.sub ⟨rfl, rfl, rfl, rfl, rfl, rfl, rfl, rfl, rfl, trivial⟩, σ.pick [0, 1, 2] [0, 1, 2, 3, 4, 5] (by decide)⟩
   have hN80 : ∀ (L : Array Bool) (a : Act) (w : World), L = #[true, true, true, true, true, true, true, true, true, true, true, true, false, false, false, false, true, false, false] → (∃ (A64 : Option Addr) (c65 g78 : Nat), Env 66 a [(0, .slice A0 n0 c0), (3, .pointer (some ⟨g51, 0, none⟩)), (4, .pointer (some ⟨g57, 0, none⟩)), (5, .int .i64 (j : Nat)), (13, .int .i64 (j : Nat)), (14, .slice A0 n0 c0), (15, .int .i64 (n0 : Nat)), (16, .bool (decide (((j : Nat) : Int) < ((n0 : Nat) : Int)))), (24, .agg #[.bool (neg (qd r)), .slice B (dl (qd r)) d]), (31, .agg #[.bool (neg ((Int.gcd D (qd r) : Nat) : Int)), .slice A64 (dl ((Int.gcd D (qd r) : Nat) : Int)) c65]), (6, .pointer (some ⟨g78, 0, none⟩))] ∧ St w0 w [bk g78 #[.bool (neg 0), .slice none (dl 0) 0] 39, bk g57 #[.bool (neg D), .slice Ad (dl D) cd] 39, bk g51 #[.bool (neg 0), .slice none (dl 0) 0] 39] [pfR A64 c65 ((Int.gcd D (qd r) : Nat) : Int), pfR A c (qn r), pfR B d (qd r), FH (A, c, B, d, r), pfRow fH FH 4 A0 n0 c0 es0, pfR Ad cd D]) → T 6 L a w := by
    rintro _ a w81 rfl ⟨A64, c65, g78, η, σ⟩
    rw [hT]
    have hs82 := dl_ediv (qd r) ((Int.gcd D (qd r) : Nat) : Int)
    refine sAny_one (i := 12) (by kernel_rfl) rfl rfl (op_call η rfl Tryd.call122 rfl (over_r (x := (qd r)) (y := ((Int.gcd D (qd r) : Nat) : Int)) (show RIn _ B d (qd r) from σ.pat (k := 2) rfl) (show RIn _ A64 c65 ((Int.gcd D (qd r) : Nat) : Int) from σ.pat (k := 0) rfl) (by omega) (by omega) hg0 (gcd_mod_r _ _)) ?_)
    rintro e w86 ⟨_, rfl, ⟨A83, c84, rfl, hz85⟩, hb⟩
    refine ⟨_, rfl, ?_⟩
    clear η a; intro a η
    replace σ := (σ.call hb).addR hz85 ⟨nou_bk rfl, nou_bk rfl, nou_bk rfl, trivial⟩
    clear hz85
    clear hb
    refine ⟨.inr ⟨σ.kn.pick [1, 2] (rg 2 5), .inr (σ.kn.pick [] [])⟩, ?_⟩
    refine tM (i := 13) [14, 15, 17, 18] rfl (by kernel_rfl) (fun _ _ _ h => h) η rfl rfl ?_
    clear η a; intro a η
    refine tA (i := 14) [17, 18] (v := .agg #[.bool (neg ((qd r) / ((Int.gcd D (qd r) : Nat) : Int))), .slice A83 (dl ((qd r) / ((Int.gcd D (qd r) : Nat) : Int))) c84]) rfl (by kernel_rfl) (fun _ _ _ h => h) η rfl (fun _ => rn_extract η rfl rfl) ?_
    clear η a; intro a η
    refine tA (i := 15) [18] (v := .bool true) rfl (by kernel_rfl) (fun _ _ _ h => h) η rfl (fun _ => rn_extract η rfl rfl) ?_
    clear η a; intro a η
    rw [← hT]
    exact hN75 _ _ _ (by kernel_rfl) ⟨A83, c84, g78, η.sub ⟨rfl, rfl, rfl, rfl, rfl, rfl, rfl, rfl, rfl, rfl, rfl, trivial⟩, σ.pick [0, 1, 2] [0, 2, 3, 4, 5, 6] (by decide)⟩
   rw [hT]
   refine tM (i := 0) [2, 3, 4, 12, 13, 14, 15, 17, 18] rfl (by kernel_rfl) (fun _ _ _ h => h) η rfl rfl ?_
   clear η a; intro a η
   refine tM (i := 1) [2, 3, 4, 12, 13, 14, 15, 17, 18] rfl (by kernel_rfl) (fun _ _ _ h => h) η rfl rfl ?_
   clear η a; intro a η
   refine sAny_take (i := 2) [3, 4, 12, 13, 14, 15, 17, 18] (fun w' => (pfRow fH FH 4 A0 n0 c0 es0).P w') (v := .pointer (some ⟨ab A0, ao A0 + j * 4, none⟩)) rfl (by kernel_rfl) (fun _ _ _ h => h) (fun _ _ _ hS => hS.1.pat (k := 3) rfl) η rfl (σ.pat (k := 3) rfl) (fun w' hg => rn_idxR (i := j) η Tryd.underlying106 (ty_anvil_anvilref03_Rat.size) rfl rfl (by omega) rfl (show (pfRow fH FH 4 A0 n0 c0 es0).P _ from hg).1) ?_
   clear η a; intro a η
   refine tA (i := 3) [4, 12, 13, 14, 15, 17, 18] (v := .pointer (some ⟨ab A0, ao A0 + j * 4 + 2, none⟩)) rfl (by kernel_rfl) (fun _ _ _ h => h) η rfl (fun _ => rn_fieldAddr η fd_anvil_anvilref03_Rat_1 (ty_anvil_anvilref02_Int.size) (by decide) rfl) ?_
   clear η a; intro a η
   refine sAny_take (i := 4) [12, 13, 14, 15, 17, 18] (fun w' => (pfRow fH FH 4 A0 n0 c0 es0).P w') (v := .agg #[.bool (neg (qd r)), .slice B (dl (qd r)) d]) rfl (by kernel_rfl) (fun _ _ _ h => h) (fun _ _ _ hS => hS.1.pat (k := 3) rfl) η rfl (σ.pat (k := 3) rfl) (fun w' hg => rn_loadEn (i := j) (o := 2) (e := (A, c, B, d, r)) η ty_anvil_anvilref02_Int rfl rfl fH_len (by decide) (show (pfRow fH FH 4 A0 n0 c0 es0).P _ from hg).1 (by omega) he0 rfl) ?_
   clear η a; intro a η
   refine tL (i := 5) 0 0 [11, 12, 13, 14, 15, 17, 18] rfl (by kernel_rfl) (fun _ _ _ h => h) η rfl ty_anvil_anvilref02_Int rfl σ rfl rfl rfl ?_
   clear η a; intro a η
   refine tM (i := 6) [8, 9, 10, 11, 12, 13, 14, 15, 17, 18] rfl (by kernel_rfl) (fun _ _ _ h => h) η rfl rfl ?_
   clear η a; intro a η
   refine tM (i := 7) [8, 9, 10, 11, 12, 13, 14, 15, 17, 18] rfl (by kernel_rfl) (fun _ _ _ h => h) η rfl rfl ?_
   clear η a; intro a η
   refine sAny_take (i := 8) [9, 10, 11, 12, 13, 14, 15, 17, 18] (fun w' => (pfRow fH FH 4 A0 n0 c0 es0).P w') (v := .pointer (some ⟨ab A0, ao A0 + j * 4, none⟩)) rfl (by kernel_rfl) (fun _ _ _ h => h) (fun _ _ _ hS => hS.1.pat (k := 3) rfl) η rfl (σ.pat (k := 3) rfl) (fun w' hg => rn_idxR (i := j) η Tryd.underlying106 (ty_anvil_anvilref03_Rat.size) rfl rfl (by omega) rfl (show (pfRow fH FH 4 A0 n0 c0 es0).P _ from hg).1) ?_
   clear η a; intro a η
   refine tA (i := 9) [10, 11, 12, 13, 14, 15, 17, 18] (v := .pointer (some ⟨ab A0, ao A0 + j * 4 + 2, none⟩)) rfl (by kernel_rfl) (fun _ _ _ h => h) η rfl (fun _ => rn_fieldAddr η fd_anvil_anvilref03_Rat_1 (ty_anvil_anvilref02_Int.size) (by decide) rfl) ?_
   clear η a; intro a η
   refine sAny_take (i := 10) [11, 12, 13, 14, 15, 17, 18] (fun w' => (pfRow fH FH 4 A0 n0 c0 es0).P w') (v := .agg #[.bool (neg (qd r)), .slice B (dl (qd r)) d]) rfl (by kernel_rfl) (fun _ _ _ h => h) (fun _ _ _ hS => hS.1.pat (k := 3) rfl) η rfl (σ.pat (k := 3) rfl) (fun w' hg => rn_loadEn (i := j) (o := 2) (e := (A, c, B, d, r)) η ty_anvil_anvilref02_Int rfl rfl fH_len (by decide) (show (pfRow fH FH 4 A0 n0 c0 es0).P _ from hg).1 (by omega) he0 rfl) ?_
   clear η a; intro a η
   refine sAny_all (rs := [11, 16]) (by kernel_rfl) (by simp) ?_
   simp only [List.forall_mem_cons, List.not_mem_nil, false_implies, implies_true, and_true]
   refine ⟨?_, ?_⟩
   ·have hs63 := gcd_dl' D (qd r)
    refine ⟨_, rfl, rfl, op_call η rfl Tryd.call123 rfl (gcd_r (x := D) (y := (qd r)) (show RIn _ Ad cd D from σ.pat (k := 4) rfl) (show RIn _ B d (qd r) from σ.pat (k := 1) rfl) (by omega) (by omega)) ?_⟩
    rintro e w67 ⟨_, rfl, ⟨A64, c65, rfl, hz66⟩, hb⟩
    refine ⟨_, rfl, ?_⟩
    clear η a; intro a η
    replace σ := (σ.call hb).addR hz66 ⟨nou_bk rfl, nou_bk rfl, trivial⟩
    clear hz66
    clear hb
    refine ⟨.inr ⟨σ.kn.pick [0, 1] (rg 1 5), .inr (σ.kn.pick [] [])⟩, ?_⟩
    refine sAny_all (rs := [12, 16]) (by kernel_rfl) (by simp) ?_
    simp only [List.forall_mem_cons, List.not_mem_nil, false_implies, implies_true, and_true]
    refine ⟨?_, ?_⟩
    ·have hs68 := dl_ediv (qd r) ((Int.gcd D (qd r) : Nat) : Int)
     refine ⟨_, rfl, rfl, op_call η rfl Tryd.call122 rfl (over_r (x := (qd r)) (y := ((Int.gcd D (qd r) : Nat) : Int)) (show RIn _ B d (qd r) from σ.pat (k := 2) rfl) (show RIn _ A64 c65 ((Int.gcd D (qd r) : Nat) : Int) from σ.pat (k := 0) rfl) (by omega) (by omega) hg0 (gcd_mod_r _ _)) ?_⟩
     rintro e w72 ⟨_, rfl, ⟨A69, c70, rfl, hz71⟩, hb⟩
     refine ⟨_, rfl, ?_⟩
     clear η a; intro a η
     replace σ := (σ.call hb).addR hz71 ⟨nou_bk rfl, nou_bk rfl, trivial⟩
     clear hz71
     clear hb
     refine ⟨.inr ⟨σ.kn.pick [0, 1] (rg 2 5), .inr (σ.kn.pick [] [])⟩, ?_⟩
     refine tM (i := 13) [14, 15, 17, 18] rfl (by kernel_rfl) (fun _ _ _ h => h) η rfl rfl ?_
     clear η a; intro a η
     refine tA (i := 14) [17, 18] (v := .agg #[.bool (neg ((qd r) / ((Int.gcd D (qd r) : Nat) : Int))), .slice A69 (dl ((qd r) / ((Int.gcd D (qd r) : Nat) : Int))) c70]) rfl (by kernel_rfl) (fun _ _ _ h => h) η rfl (fun _ => rn_extract η rfl rfl) ?_
     clear η a; intro a η
     refine tA (i := 15) [18] (v := .bool true) rfl (by kernel_rfl) (fun _ _ _ h => h) η rfl (fun _ => rn_extract η rfl rfl) ?_
     clear η a; intro a η
     refine sAny_one (i := 16) (by kernel_rfl) rfl rfl (op_alloc (c := #[.bool (neg 0), .slice none (dl 0) 0]) η σ rfl zero_anvil_anvilref02_Int rcells ?_)
     clear η σ a; intro a w74 g73 η σ
     refine ⟨.inr ⟨σ.kn.pick [1, 2] (rg 2 5), .inr (σ.kn.pick [] [])⟩, ?_⟩
     rw [← hT]
     exact hN75 _ _ _ (by kernel_rfl) ⟨A69, c70, g73, η.sub ⟨rfl, rfl, rfl, rfl, rfl, rfl, rfl, rfl, rfl, rfl, rfl, trivial⟩, σ.pick [0, 1, 2] [0, 2, 3, 4, 5, 6] (by decide)⟩
    ·refine ⟨_, rfl, rfl, op_alloc (c := #[.bool (neg 0), .slice none (dl 0) 0]) η σ rfl zero_anvil_anvilref02_Int rcells ?_⟩
     clear η σ a; intro a w79 g78 η σ
     refine ⟨.inr ⟨σ.kn.pick [1, 2] (rg 1 5), .inr (σ.kn.pick [] [])⟩, ?_⟩
     rw [← hT]
     exact hN80 _ _ _ (by kernel_rfl) ⟨A64, c65, g78, η.sub ⟨rfl, rfl, rfl, rfl, rfl, rfl, rfl, rfl, rfl, rfl, rfl, trivial⟩, σ.pick [0, 1, 2] [0, 1, 2, 3, 4, 5] (by decide)⟩
   ·refine ⟨_, rfl, rfl, op_alloc (c := #[.bool (neg 0), .slice none (dl 0) 0]) η σ rfl zero_anvil_anvilref02_Int rcells ?_⟩
    clear η σ a; intro a w88 g87 η σ
    refine ⟨.inr ⟨σ.kn.pick [1, 2] (rg 0 5), .inr (σ.kn.pick [] [])⟩, ?_⟩
    have hs89 := gcd_dl' D (qd r)
    refine sAny_one (i := 11) (by kernel_rfl) rfl rfl (op_call η rfl Tryd.call123 rfl (gcd_r (x := D) (y := (qd r)) (show RIn _ Ad cd D from σ.pat (k := 4) rfl) (show RIn _ B d (qd r) from σ.pat (k := 1) rfl) (by omega) (by omega)) ?_)
    rintro e w93 ⟨_, rfl, ⟨A90, c91, rfl, hz92⟩, hb⟩
    refine ⟨_, rfl, ?_⟩
    clear η a; intro a η
    replace σ := (σ.call hb).addR hz92 ⟨nou_bk rfl, nou_bk rfl, nou_bk rfl, trivial⟩
    clear hz92
    clear hb
    refine ⟨.inr ⟨σ.kn.pick [1, 2] (rg 1 5), .inr (σ.kn.pick [] [])⟩, ?_⟩
    rw [← hT]
    exact hN80 _ _ _ (by kernel_rfl) ⟨A90, c91, g87, η.sub ⟨rfl, rfl, rfl, rfl, rfl, rfl, rfl, rfl, rfl, rfl, rfl, trivial⟩, σ.pick [0, 1, 2] [0, 1, 2, 3, 4, 5] (by decide)⟩
  clear η σ a
  rintro a w94 ⟨A69, c70, g73, η, σ⟩
  refine region_seq ?_
  revert a
  refine sA (v := .agg #[.bool (neg D), .slice Ad (dl D) cd]) rfl (fun _ η => rn_load0 η ty_anvil_anvilref02_Int rfl (σ.oat (k := 1) rfl) rfl) ?_
  refine sA (v := .agg #[.bool (neg ((qd r) / ((Int.gcd D (qd r) : Nat) : Int))), .slice A69 (dl ((qd r) / ((Int.gcd D (qd r) : Nat) : Int))) c70]) rfl (fun _ η => rn_load0 η ty_anvil_anvilref02_Int rfl (σ.oat (k := 0) rfl) rfl) ?_
  intro a η
  have hs95 := dl_mul D ((qd r) / ((Int.gcd D (qd r) : Nat) : Int))
  refine seq_step rfl (op_call η rfl Tryd.call105 rfl (mul_r (x := D) (y := (qd r) / ((Int.gcd D (qd r) : Nat) : Int)) (show RIn _ Ad cd D from σ.pat (k := 5) rfl) (show RIn _ A69 c70 ((qd r) / ((Int.gcd D (qd r) : Nat) : Int)) from σ.pat (k := 0) rfl) (by omega) (by omega)) ?_)
  rintro e w99 ⟨_, rfl, ⟨A96, c97, rfl, hz98⟩, hb⟩
  refine ⟨_, rfl, ?_⟩
  clear η a; intro a η
  replace σ := (σ.call hb).addR hz98 ⟨nou_bk rfl, nou_bk rfl, nou_bk rfl, trivial⟩
  clear hz98
  clear hb
  refine seq_step rfl (op_store (k := 1) (c' := #[.bool (neg (D * ((qd r) / ((Int.gcd D (qd r) : Nat) : Int)))), .slice A96 (dl (D * ((qd r) / ((Int.gcd D (qd r) : Nat) : Int)))) c97]) η σ (ty_anvil_anvilref02_Int.size) rfl rfl rfl rfl (by simp) rfl rfl ?_)
  clear η σ a; intro a w100 η σ
  refine wpList_nil (bl_n (th_n (region_seq ?_)))
  revert a
  refine mA rfl rfl ?_
  refine sA (v := .int .i64 (j + 1 : Nat)) rfl (fun _ η => rn_add η rfl rfl (by rw [IntWalk.i64_in _ (by omega)]; omega)) ?_
  refine aA rfl rfl ?_
  intro a η
  refine wpList_nil ?_
  exact th_n ⟨_, (by omega), ⟨j + 1, D * ((qd r) / ((Int.gcd D (qd r) : Nat) : Int)), A96, c97, rfl, η.sub ⟨rfl, rfl, rfl, rfl, trivial⟩, σ.pick [1, 2] [5, 0] (by decide), (by omega), (by rw [cmD_step hrj, ← hD]; rfl), (Nat.le_trans (cmS_sz D r) (by omega)), (cmS_pos hDp r)⟩⟩
 ·have hje : n0 ≤ j := by have := of_decide_eq_false hc61; omega
  rw [List.take_of_length_le (by omega)] at hD
  subst hD
  replace hDz : zl (cmD rs) ≤ 4801 := Nat.le_trans hDz (by omega)
  have edD := dl_zl (cmD rs)
  refine wp_exit (th_x (th_x (bl_x (th_n (wp_seq (region_seq ?_))))))
  refine sv (v := .slice none 0 0) η rfl (rn_assign η rfl) ?_
  clear η a; intro a η
  refine wpList_nil (th_n (wp_seq (wp_seq ?_)))
  replace σ := (σ.addRowS notU 39 2).nilEs FM
  replace σ : St w0 _ [rowS notU 39 2 none 0 0 (fl fM ([])), bk g57 #[.bool (neg (cmD rs)), .slice Ad (dl (cmD rs)) cd] 39, bk g51 #[.bool (neg 0), .slice none (dl 0) 0] 39] [pfEs FM ([]), pfRow fH FH 4 A0 n0 c0 es0, pfR Ad cd (cmD rs)] := σ
  refine region_seq ?_
  refine sv (v := .int .i64 0) η rfl (rn_assign η rfl) ?_
  clear η a; intro a η
  refine wpList_nil (th_n (wp_block ?_))
  refine wp_loop_ghost (fun mz a w => ∃ (j : Nat) (Bo : Option Addr) (co : Nat) (os : List NE), n0 - j = mz ∧ Env 66 a [(0, .slice A0 n0 c0), (3, .pointer (some ⟨g51, 0, none⟩)), (4, .pointer (some ⟨g57, 0, none⟩)), (9, .int .i64 (j : Nat)), (8, .slice Bo j co)] ∧ St w0 w [rowS notU 39 2 Bo j co (fl fM os), bk g57 #[.bool (neg (cmD rs)), .slice Ad (dl (cmD rs)) cd] 39, bk g51 #[.bool (neg 0), .slice none (dl 0) 0] 39] [pfRow fH FH 4 A0 n0 c0 es0, pfR Ad cd (cmD rs), pfEs FM os] ∧ j ≤ n0 ∧ os.map zz = cmN (cmD rs) (rs.take j) ∧ os.length = j ∧ (j = 0 → Bo = none)) _ ⟨0, none, 0, [], rfl, η.sub ⟨rfl, rfl, rfl, rfl, rfl, trivial⟩, σ.pick [0, 1, 2] [1, 2, 0] (by decide), (Nat.zero_le _), rfl, rfl, (fun _ => rfl)⟩ ?_
  clear η σ a
  rintro mz a w101 ⟨j, Bo, co, os, rfl, η, σ, hj, hos, hol, hon⟩
  refine wp_seq (wp_seq (region_seq ?_))
  revert a
  refine mA rfl rfl ?_
  refine mA rfl rfl ?_
  refine sA (v := .int .i64 (n0 : Nat)) rfl (fun _ η => rn_len η Tryd.underlying106 rfl) ?_
  refine sA (v := .bool (decide (((j : Nat) : Int) < ((n0 : Nat) : Int)))) rfl (fun _ η => rn_bin η rfl rfl rfl) ?_
  intro a η
  refine wpList_nil (th_n ?_)
  refine if_split η rfl (fun hc102 => ?_) (fun hc102 => ?_)
  ·have hlt : j < n0 := by have := of_decide_eq_true hc102; omega
   obtain ⟨⟨A, c, B, d, r⟩, he0⟩ : ∃ e, es0[j]? = some e := ⟨_, List.getElem?_eq_getElem (by omega)⟩
   replace σ := σ.elem (k := 0) rfl he0
   replace σ := σ.split2 (k := 0) rfl
   replace σ : St w0 _ [rowS notU 39 2 Bo j co (fl fM os), bk g57 #[.bool (neg (cmD rs)), .slice Ad (dl (cmD rs)) cd] 39, bk g51 #[.bool (neg 0), .slice none (dl 0) 0] 39] [pfR A c (qn r), pfR B d (qd r), FH (A, c, B, d, r), pfRow fH FH 4 A0 n0 c0 es0, pfR Ad cd (cmD rs), pfEs FM os] := σ
   have hrj := kr_at hrs he0
   have hrm : r ∈ rs := List.mem_of_getElem? hrj
   have hse := hq r hrm
   have hnr := hse.n
   have hdr := hse.d
   have hlr := hse.l
   have hpr := qd_pos r
   have enr := dl_zl (qn r)
   have edr := dl_zl (qd r)
   have hqs := dl_ediv (cmD rs) (qd r)
   have hdm := cmD_mod hrm
   refine wp_skip (th_n (wp_seq (wp_block (wp_seq ?_))))
   refine cut (fun a w => ∃ (A105 : Option Addr) (c106 g109 : Nat), Env 66 a [(0, .slice A0 n0 c0), (3, .pointer (some ⟨g51, 0, none⟩)), (4, .pointer (some ⟨g57, 0, none⟩)), (9, .int .i64 (j : Nat)), (8, .slice Bo j co), (38, .int .i64 (j : Nat)), (39, .slice A0 n0 c0), (40, .int .i64 (n0 : Nat)), (41, .bool (decide (((j : Nat) : Int) < ((n0 : Nat) : Int)))), (10, .pointer (some ⟨g109, 0, none⟩))] ∧ St w0 w [bk g109 #[.bool (neg ((cmD rs) / (qd r))), .slice A105 (dl ((cmD rs) / (qd r))) c106] 39, rowS notU 39 2 Bo j co (fl fM os), bk g57 #[.bool (neg (cmD rs)), .slice Ad (dl (cmD rs)) cd] 39, bk g51 #[.bool (neg 0), .slice none (dl 0) 0] 39] [pfR A105 c106 ((cmD rs) / (qd r)), pfR A c (qn r), pfR B d (qd r), FH (A, c, B, d, r), pfRow fH FH 4 A0 n0 c0 es0, pfR Ad cd (cmD rs), pfEs FM os]) ?_ ?_
   ·refine region_any (n := 13) (Sk [rowS notU 39 2 Bo j co (fl fM os), bk g57 #[.bool (neg (cmD rs)), .slice Ad (dl (cmD rs)) cd] 39, bk g51 #[.bool (neg 0), .slice none (dl 0) 0] 39] [pfR A c (qn r), pfR B d (qd r), FH (A, c, B, d, r), pfRow fH FH 4 A0 n0 c0 es0, pfR Ad cd (cmD rs), pfEs FM os] [11] []) mixed rfl η σ ?_
    clear η σ; intro w103 η σ
    refine sAny_gen fun T hT => ?_
    have hN111 : ∀ (L : Array Bool) (a : Act) (w : World), L = #[true, true, true, true, true, true, true, true, true, true, true, false, false] → (∃ (A105 : Option Addr) (c106 g109 : Nat), Env 66 a [(0, .slice A0 n0 c0), (3, .pointer (some ⟨g51, 0, none⟩)), (4, .pointer (some ⟨g57, 0, none⟩)), (9, .int .i64 (j : Nat)), (8, .slice Bo j co), (38, .int .i64 (j : Nat)), (39, .slice A0 n0 c0), (40, .int .i64 (n0 : Nat)), (41, .bool (decide (((j : Nat) : Int) < ((n0 : Nat) : Int)))), (52, .agg #[.bool (neg ((cmD rs) / (qd r))), .slice A105 (dl ((cmD rs) / (qd r))) c106]), (53, .bool true), (10, .pointer (some ⟨g109, 0, none⟩))] ∧ St w0 w [bk g109 #[.bool (neg 0), .slice none (dl 0) 0] 39, rowS notU 39 2 Bo j co (fl fM os), bk g57 #[.bool (neg (cmD rs)), .slice Ad (dl (cmD rs)) cd] 39, bk g51 #[.bool (neg 0), .slice none (dl 0) 0] 39] [pfR A105 c106 ((cmD rs) / (qd r)), pfR A c (qn r), pfR B d (qd r), FH (A, c, B, d, r), pfRow fH FH 4 A0 n0 c0 es0, pfR Ad cd (cmD rs), pfEs FM os]) → T 2 L a w := by
     rintro _ a w112 rfl ⟨A105, c106, g109, η, σ⟩
     rw [hT]
     refine sAny_one (i := 11) (by kernel_rfl) rfl rfl (op_store (k := 0) (c' := #[.bool (neg ((cmD rs) / (qd r))), .slice A105 (dl ((cmD rs) / (qd r))) c106]) η σ (ty_anvil_anvilref02_Int.size) rfl rfl rfl rfl (by simp) rfl rfl ?_)
     clear η σ a; intro a w113 η σ
     refine ⟨.inr ⟨σ.kn.pick [1, 2, 3] (rg 1 6), .inl rfl⟩, ?_⟩
     refine tA (i := 12) [] (v := .bool true) rfl (by kernel_rfl) (fun _ _ _ h => h) η rfl (fun _ => rn_assign η rfl) ?_
     clear η a; intro a η
     refine sAny_done (by kernel_rfl) ?_ _
     exact th_n ⟨A105, c106, g109, η.sub ⟨rfl, rfl, rfl, rfl, rfl, rfl, rfl, rfl, rfl, rfl, trivial⟩, σ.pick [0, 1, 2, 3] [0, 1, 2, 3, 4, 5, 6] (by decide)⟩
    rw [hT]
    refine tL (i := 0) 1 1 [6, 7, 8, 9, 11, 12] rfl (by kernel_rfl) (fun _ _ _ h => h) η rfl ty_anvil_anvilref02_Int rfl σ rfl rfl rfl ?_
    clear η a; intro a η
    refine tM (i := 1) [3, 4, 5, 6, 7, 8, 9, 11, 12] rfl (by kernel_rfl) (fun _ _ _ h => h) η rfl rfl ?_
    clear η a; intro a η
    refine tM (i := 2) [3, 4, 5, 6, 7, 8, 9, 11, 12] rfl (by kernel_rfl) (fun _ _ _ h => h) η rfl rfl ?_
    clear η a; intro a η
    refine sAny_take (i := 3) [4, 5, 6, 7, 8, 9, 11, 12] (fun w' => (pfRow fH FH 4 A0 n0 c0 es0).P w') (v := .pointer (some ⟨ab A0, ao A0 + j * 4, none⟩)) rfl (by kernel_rfl) (fun _ _ _ h => h) (fun _ _ _ hS => hS.1.pat (k := 3) rfl) η rfl (σ.pat (k := 3) rfl) (fun w' hg => rn_idxR (i := j) η Tryd.underlying106 (ty_anvil_anvilref03_Rat.size) rfl rfl (by omega) rfl (show (pfRow fH FH 4 A0 n0 c0 es0).P _ from hg).1) ?_
    clear η a; intro a η
    refine tA (i := 4) [5, 6, 7, 8, 9, 11, 12] (v := .pointer (some ⟨ab A0, ao A0 + j * 4 + 2, none⟩)) rfl (by kernel_rfl) (fun _ _ _ h => h) η rfl (fun _ => rn_fieldAddr η fd_anvil_anvilref03_Rat_1 (ty_anvil_anvilref02_Int.size) (by decide) rfl) ?_
    clear η a; intro a η
    refine sAny_take (i := 5) [6, 7, 8, 9, 11, 12] (fun w' => (pfRow fH FH 4 A0 n0 c0 es0).P w') (v := .agg #[.bool (neg (qd r)), .slice B (dl (qd r)) d]) rfl (by kernel_rfl) (fun _ _ _ h => h) (fun _ _ _ hS => hS.1.pat (k := 3) rfl) η rfl (σ.pat (k := 3) rfl) (fun w' hg => rn_loadEn (i := j) (o := 2) (e := (A, c, B, d, r)) η ty_anvil_anvilref02_Int rfl rfl fH_len (by decide) (show (pfRow fH FH 4 A0 n0 c0 es0).P _ from hg).1 (by omega) he0 rfl) ?_
    clear η a; intro a η
    refine sAny_all (rs := [6, 10]) (by kernel_rfl) (by simp) ?_
    simp only [List.forall_mem_cons, List.not_mem_nil, false_implies, implies_true, and_true]
    refine ⟨?_, ?_⟩
    ·have hs104 := dl_ediv (cmD rs) (qd r)
     refine ⟨_, rfl, rfl, op_call η rfl Tryd.call122 rfl (over_r (x := (cmD rs)) (y := (qd r)) (show RIn _ Ad cd (cmD rs) from σ.pat (k := 4) rfl) (show RIn _ B d (qd r) from σ.pat (k := 1) rfl) (by omega) (by omega) (qd_ne r) hdm) ?_⟩
     rintro e w108 ⟨_, rfl, ⟨A105, c106, rfl, hz107⟩, hb⟩
     refine ⟨_, rfl, ?_⟩
     clear η a; intro a η
     replace σ := (σ.call hb).addR hz107 ⟨nou_rowS, nou_bk rfl, nou_bk rfl, trivial⟩
     clear hz107
     clear hb
     refine ⟨.inr ⟨σ.kn.pick [0, 1, 2] (rg 1 6), .inr (σ.kn.pick [] [])⟩, ?_⟩
     refine tM (i := 7) [8, 9, 11, 12] rfl (by kernel_rfl) (fun _ _ _ h => h) η rfl rfl ?_
     clear η a; intro a η
     refine tA (i := 8) [11, 12] (v := .agg #[.bool (neg ((cmD rs) / (qd r))), .slice A105 (dl ((cmD rs) / (qd r))) c106]) rfl (by kernel_rfl) (fun _ _ _ h => h) η rfl (fun _ => rn_extract η rfl rfl) ?_
     clear η a; intro a η
     refine tA (i := 9) [12] (v := .bool true) rfl (by kernel_rfl) (fun _ _ _ h => h) η rfl (fun _ => rn_extract η rfl rfl) ?_
     clear η a; intro a η
     refine sAny_one (i := 10) (by kernel_rfl) rfl rfl (op_alloc (c := #[.bool (neg 0), .slice none (dl 0) 0]) η σ rfl zero_anvil_anvilref02_Int rcells ?_)
     clear η σ a; intro a w110 g109 η σ
     refine ⟨.inr ⟨σ.kn.pick [1, 2, 3] (rg 1 6), .inr (σ.kn.pick [] [])⟩, ?_⟩
     rw [← hT]
     exact hN111 _ _ _ (by kernel_rfl) ⟨A105, c106, g109, η.sub ⟨rfl, rfl, rfl, rfl, rfl, rfl, rfl, rfl, rfl, rfl, rfl, rfl, trivial⟩, σ.pick [0, 1, 2, 3] [0, 1, 2, 3, 4, 5, 6] (by decide)⟩
    ·refine ⟨_, rfl, rfl, op_alloc (c := #[.bool (neg 0), .slice none (dl 0) 0]) η σ rfl zero_anvil_anvilref02_Int rcells ?_⟩
     clear η σ a; intro a w115 g114 η σ
     refine ⟨.inr ⟨σ.kn.pick [1, 2, 3] (rg 0 6), .inr (σ.kn.pick [] [])⟩, ?_⟩
     have hs116 := dl_ediv (cmD rs) (qd r)
     refine sAny_one (i := 6) (by kernel_rfl) rfl rfl (op_call η rfl Tryd.call122 rfl (over_r (x := (cmD rs)) (y := (qd r)) (show RIn _ Ad cd (cmD rs) from σ.pat (k := 4) rfl) (show RIn _ B d (qd r) from σ.pat (k := 1) rfl) (by omega) (by omega) (qd_ne r) hdm) ?_)
     rintro e w120 ⟨_, rfl, ⟨A117, c118, rfl, hz119⟩, hb⟩
     refine ⟨_, rfl, ?_⟩
     clear η a; intro a η
     replace σ := (σ.call hb).addR hz119 ⟨nou_bk rfl, nou_rowS, nou_bk rfl, nou_bk rfl, trivial⟩
     clear hz119
     clear hb
     refine ⟨.inr ⟨σ.kn.pick [1, 2, 3] (rg 1 6), .inr (σ.kn.pick [] [])⟩, ?_⟩
     refine tM (i := 7) [8, 9, 11, 12] rfl (by kernel_rfl) (fun _ _ _ h => h) η rfl rfl ?_
     clear η a; intro a η
     refine tA (i := 8) [11, 12] (v := .agg #[.bool (neg ((cmD rs) / (qd r))), .slice A117 (dl ((cmD rs) / (qd r))) c118]) rfl (by kernel_rfl) (fun _ _ _ h => h) η rfl (fun _ => rn_extract η rfl rfl) ?_
     clear η a; intro a η
     refine tA (i := 9) [12] (v := .bool true) rfl (by kernel_rfl) (fun _ _ _ h => h) η rfl (fun _ => rn_extract η rfl rfl) ?_
     clear η a; intro a η
     rw [← hT]
     exact hN111 _ _ _ (by kernel_rfl) ⟨A117, c118, g114, η.sub ⟨rfl, rfl, rfl, rfl, rfl, rfl, rfl, rfl, rfl, rfl, rfl, rfl, trivial⟩, σ.pick [0, 1, 2, 3] [0, 1, 2, 3, 4, 5, 6] (by decide)⟩
   clear η σ a
   rintro a w121 ⟨A105, c106, g109, η, σ⟩
   refine region_any (n := 11) (Sk [bk g109 #[.bool (neg ((cmD rs) / (qd r))), .slice A105 (dl ((cmD rs) / (qd r))) c106] 39, bk g57 #[.bool (neg (cmD rs)), .slice Ad (dl (cmD rs)) cd] 39, bk g51 #[.bool (neg 0), .slice none (dl 0) 0] 39] [pfR A105 c106 ((cmD rs) / (qd r)), pfR A c (qn r), pfR B d (qd r), FH (A, c, B, d, r), pfRow fH FH 4 A0 n0 c0 es0, pfR Ad cd (cmD rs), pfEs FM os] [] []) mixed rfl η σ ?_
   clear η σ; intro w122 η σ
   refine tM (i := 0) [9, 10] rfl (by kernel_rfl) (fun _ _ _ h => h) η rfl rfl ?_
   clear η a; intro a η
   refine tM (i := 1) [3, 4, 5, 7, 8, 9, 10] rfl (by kernel_rfl) (fun _ _ _ h => h) η rfl rfl ?_
   clear η a; intro a η
   refine tM (i := 2) [3, 4, 5, 7, 8, 9, 10] rfl (by kernel_rfl) (fun _ _ _ h => h) η rfl rfl ?_
   clear η a; intro a η
   refine sAny_take (i := 3) [4, 5, 7, 8, 9, 10] (fun w' => (pfRow fH FH 4 A0 n0 c0 es0).P w') (v := .pointer (some ⟨ab A0, ao A0 + j * 4, none⟩)) rfl (by kernel_rfl) (fun _ _ _ h => h) (fun _ _ _ hS => hS.1.pat (k := 4) rfl) η rfl (σ.pat (k := 4) rfl) (fun w' hg => rn_idxR (i := j) η Tryd.underlying106 (ty_anvil_anvilref03_Rat.size) rfl rfl (by omega) rfl (show (pfRow fH FH 4 A0 n0 c0 es0).P _ from hg).1) ?_
   clear η a; intro a η
   refine tA (i := 4) [5, 7, 8, 9, 10] (v := .pointer (some ⟨ab A0, ao A0 + j * 4 + 0, none⟩)) rfl (by kernel_rfl) (fun _ _ _ h => h) η rfl (fun _ => rn_fieldAddr η fd_anvil_anvilref03_Rat_0 (ty_anvil_anvilref02_Int.size) (by decide) rfl) ?_
   clear η a; intro a η
   refine sAny_take (i := 5) [7, 8, 9, 10] (fun w' => (pfRow fH FH 4 A0 n0 c0 es0).P w') (v := .agg #[.bool (neg (qn r)), .slice A (dl (qn r)) c]) rfl (by kernel_rfl) (fun _ _ _ h => h) (fun _ _ _ hS => hS.1.pat (k := 4) rfl) η rfl (σ.pat (k := 4) rfl) (fun w' hg => rn_loadEn (i := j) (o := 0) (e := (A, c, B, d, r)) η ty_anvil_anvilref02_Int rfl rfl fH_len (by decide) (show (pfRow fH FH 4 A0 n0 c0 es0).P _ from hg).1 (by omega) he0 rfl) ?_
   clear η a; intro a η
   refine tL (i := 6) 0 0 (rg 7 4) rfl (by kernel_rfl) (fun _ _ _ h => h) η rfl ty_anvil_anvilref02_Int rfl σ rfl rfl rfl ?_
   clear η a; intro a η
   have hs123 := dl_mul (qn r) ((cmD rs) / (qd r))
   refine sAny_one (i := 7) (by kernel_rfl) rfl rfl (op_call η rfl Tryd.call105 rfl (mul_r (x := (qn r)) (y := (cmD rs) / (qd r)) (show RIn _ A c (qn r) from σ.pat (k := 1) rfl) (show RIn _ A105 c106 ((cmD rs) / (qd r)) from σ.pat (k := 0) rfl) (by omega) (by omega)) ?_)
   rintro e w127 ⟨_, rfl, ⟨A124, c125, rfl, hz126⟩, hb⟩
   refine ⟨_, rfl, ?_⟩
   clear η a; intro a η
   replace σ := (σ.call hb).addR hz126 ⟨nou_bk rfl, nou_rowS, nou_bk rfl, nou_bk rfl, trivial⟩
   clear hz126
   clear hb
   refine ⟨.inr ⟨σ.kn.pick [0, 2, 3] (rg 1 7), .inr (σ.kn.pick [] [])⟩, ?_⟩
   refine sAny_one (i := 8) (by kernel_rfl) rfl rfl (op_buildSlice (z := 2) (pv := #[(0, .agg #[.bool (neg ((qn r) * ((cmD rs) / (qd r)))), .slice A124 (dl ((qn r) * ((cmD rs) / (qd r)))) c125])]) (c := #[.bool (neg ((qn r) * ((cmD rs) / (qd r)))), .slice A124 (dl ((qn r) * ((cmD rs) / (qd r)))) c125]) η σ rfl Tryd.underlying31 (ty_anvil_anvilref02_Int.size) zero_anvil_anvilref02_Int (by decide) (by decide) rfl (by kernel_rfl) ?_)
   clear η σ a; intro a w129 g128 η σ
   refine ⟨.inr ⟨σ.kn.pick [1, 3, 4] (rg 1 7), .inr (σ.kn.pick [] [])⟩, ?_⟩
   refine sAny_one (i := 9) (by kernel_rfl) rfl rfl (op_appendS (k := 2) (j := 0) η σ rfl Tryd.underlying31 inf_anvil_anvilref02_Int rfl rfl rfl rfl rfl rfl rfl rfl rfl rfl rfl (by unfold maxLen; omega) (by omega) ?_)
   clear η σ a; intro a w132 g130 c131 η σ
   rw [show fl fM os ++ (#[.bool (neg ((qn r) * ((cmD rs) / (qd r)))), .slice A124 (dl ((qn r) * ((cmD rs) / (qd r)))) c125] : Array Value).toList = fl fM (os ++ [(A124, c125, ((qn r) * ((cmD rs) / (qd r))))]) from fl_snoc (f := fM) os (A124, c125, ((qn r) * ((cmD rs) / (qd r))))] at σ
   replace σ := σ.snocEs (e := (A124, c125, ((qn r) * ((cmD rs) / (qd r))))) (i := 7) (j := 0) rfl rfl
   refine ⟨.inr ⟨σ.kn.pick [1, 3, 4] (rg 2 7), .inr (σ.kn.pick [] [])⟩, ?_⟩
   refine tA (i := 10) [] (v := .slice (some ⟨g130, 0, none⟩) (j + 1) c131) rfl (by kernel_rfl) (fun _ _ _ h => h) η rfl (fun _ => rn_assign η rfl) ?_
   clear η a; intro a η
   refine sAny_done (by kernel_rfl) ?_ _
   refine bl_n (th_n (region_seq ?_))
   revert a
   refine mA rfl rfl ?_
   refine sA (v := .int .i64 (j + 1 : Nat)) rfl (fun _ η => rn_add η rfl rfl (by rw [IntWalk.i64_in _ (by omega)]; omega)) ?_
   refine aA rfl rfl ?_
   intro a η
   refine wpList_nil ?_
   exact th_n ⟨_, (by omega), ⟨j + 1, (some ⟨g130, 0, none⟩), c131, (os ++ [(A124, c125, ((qn r) * ((cmD rs) / (qd r))))]), rfl, η.sub ⟨rfl, rfl, rfl, rfl, rfl, trivial⟩, σ.pick [2, 3, 4] [6, 7, 0] (by decide), (by omega), (cmN_step hos hrj), (by rw [List.length_append, hol]; rfl), (fun h => absurd h (Nat.succ_ne_zero _))⟩⟩
  ·have hje : n0 ≤ j := by have := of_decide_eq_false hc102; omega
   obtain rfl : j = n0 := by omega
   rw [List.take_of_length_le (by omega)] at hos
   refine wp_exit (th_x (th_x (bl_x (th_n (wp_seq ?_)))))
   refine region_any (n := 4) (Sk [rowS notU 39 2 Bo j co (fl fM os), bk g57 #[.bool (neg (cmD rs)), .slice Ad (dl (cmD rs)) cd] 39] [pfRow fH FH 4 A0 j c0 es0, pfR Ad cd (cmD rs), pfEs FM os] [3] []) mixed rfl η σ ?_
   clear η σ; intro w133 η σ
   refine tM (i := 0) [2, 3] rfl (by kernel_rfl) (fun _ _ _ h => h) η rfl rfl ?_
   clear η a; intro a η
   refine tL (i := 1) 1 1 [3] rfl (by kernel_rfl) (fun _ _ _ h => h) η rfl ty_anvil_anvilref02_Int rfl σ rfl rfl rfl ?_
   clear η a; intro a η
   refine tA (i := 2) [3] (v := .slice Bo j co) rfl (by kernel_rfl) (fun _ _ _ h => h) η rfl (fun _ => rn_assign η rfl) ?_
   clear η a; intro a η
   refine sAny_one (i := 3) (by kernel_rfl) rfl rfl (op_store (k := 2) (c' := #[.bool (neg (cmD rs)), .slice Ad (dl (cmD rs)) cd]) η σ (ty_anvil_anvilref02_Int.size) rfl rfl rfl rfl (by simp) rfl rfl ?_)
   clear η σ a; intro a w134 η σ
   refine ⟨.inr ⟨σ.kn.pick [0, 1] [0, 1, 2], .inl rfl⟩, ?_⟩
   refine sAny_done (by kernel_rfl) ?_ _
   refine th_n (wp_ret ?_)
   refine leave η (res2 Tryd.results71 (RV.tmp η rfl) (RV.cell η ty_anvil_anvilref02_Int rfl (σ.oat (k := 2) rfl) rfl)) ?_
   exact ⟨_, _, rfl, ⟨_, _, _, rfl, σ.newRow (k := 0) (j := 2) rfl rfl, hol, hos, hon⟩, r_at rfl (σ.pat (k := 1) rfl), σ.below⟩
end Go.Proofs.YtegglooojlheoaaDoor.W
