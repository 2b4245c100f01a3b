/- row.Over, Content, Primitive; the reference's Over, Content, Zero, Primitive. Printed by pv/gen_row9.py. No condition. -/
import Derived.Test.YtegglooojlheoaaDoorM49
import Derived.Test.YtegglooojlheoaaDoorM11
import Derived.Test.YtegglooojlheoaaDoorM36
import Derived.Test.YtegglooojlheoaaDoorM50
import Derived.Test.YtegglooojlheoaaDoorM46
import Derived.Test.YtegglooojlheoaaDoorM22

namespace Go.Proofs.YtegglooojlheoaaDoor.W
open Go.RowKit Anv Go.Lib
def ovr (x y : Int) : Int := if x % y = 0 then x / y else 0
theorem divs_step {es : List NE} {xs : List Int} {j : Nat} {A : Option Addr} {c : Nat} {z m : Int} (hz : es.map zz = xs) (hd : divs m (xs.take j)) (he : es[j]? = some (A, c, z)) (h : z % m = 0) : divs m (xs.take (j + 1)) := by
  rw [ztake_snoc hz he]
  intro x hx
  rcases List.mem_append.1 hx with hx | hx
  · exact hd x hx
  · rw [List.mem_singleton.1 hx]; exact h
end Go.Proofs.YtegglooojlheoaaDoor.W

/- RowSums: the law's walk. Printed by pv/gen_rowA.py. No condition. -/
namespace Go.Proofs.YtegglooojlheoaaDoor.W
open Go.RowKit Anv Go.Lib
theorem Zk.zb {k : Nat} {es : List NE} (h : Zk k (es.map zz)) : ZB k es := h.es rfl
end Go.Proofs.YtegglooojlheoaaDoor.W

/- RowTexts, RowReads: the laws' walks. Printed by pv/gen_rowE.py. No condition. -/
namespace Go.Proofs.YtegglooojlheoaaDoor.W
open Go.RowKit Anv Go.Lib
theorem go_total {s : List UInt8} : ∀ (n p : Nat) (zs : List Int), s.length + 1 - p = n → p ≤ s.length → ∃ r, Go s p zs r := by
  intro n
  induction n using Nat.strongRecOn with
  | _ n ih =>
    intro p zs hn hp
    obtain ⟨q, hq⟩ := seg_ex (s := s) _ p rfl hp
    rcases word_cases (cutw s p q) with ⟨z, hz⟩ | ⟨b, hb⟩
    · rcases Nat.lt_or_ge q s.length with hlt | hge
      · rcases hq.2.2.2 hlt with hc | hc
        · obtain ⟨r, hr⟩ := ih (s.length + 1 - (q + 1)) (by have := hq.1; omega) (q + 1) (zs ++ [z]) rfl (by omega)
          exact ⟨r, .next hq hz hlt hc hr⟩
        · rcases Nat.lt_or_ge (q + 1) s.length with h1 | h1
          · exact ⟨_, .more hq hz hc h1⟩
          · exact ⟨_, .done hq hz hc (by omega)⟩
      · exact ⟨_, seg_fin hq hz (by have := hq.2.1; omega)⟩
    · exact ⟨_, .bad hq hb⟩
theorem rd0_total (s : List UInt8) : ∃ r, Rd0 s r := by
  by_cases hne : s = []
  · exact ⟨_, .no (.inl hne)⟩
  by_cases h0 : (s.getD 0 0).toNat = 91
  · by_cases h1 : 1 < s.length ∧ (s.getD 1 0).toNat = 93
    · rcases Nat.lt_or_ge 2 s.length with h2 | h2
      · exact ⟨_, .tail h0 h1.2 h2⟩
      · exact ⟨_, .void h0 h1.2 (by omega)⟩
    · obtain ⟨r, hr⟩ := go_total (s := s) _ 1 [] rfl (List.length_pos_iff.2 hne)
      exact ⟨r, .go h0 hne h1 hr⟩
  · exact ⟨_, .no (.inr h0)⟩
theorem pre_len (zs : List Int) : 2 * zs.length + 1 ≤ (preT zs).length := by
  unfold preT
  rw [List.length_cons]
  induction zs with
  | nil => simp
  | cons z zs ih =>
    have h := rz_pos (rz_text z)
    rw [List.flatMap_cons, List.length_append, List.length_append, List.length_cons, List.length_cons, List.length_nil]
    omega
theorem row_read_ok {s : List UInt8} {zs : List Int} {n : Nat} {w0 : World} (h : Rd0 s (.inl zs)) (hn : zs.length = n) (hl : s.length < 8193) :
    Calls Tryd.prog 51 #[.string ⟨s.toArray⟩] w0 fun e w' => ∃ v, e = .returned (.tuple #[v, .agg #[.int .i64 0, .int .i64 0]]) ∧ ZRow w0.heap.size w' v n zs ∧ Below w0.heap.size w0 w' := by
  refine (row_read (by omega)).mono fun e w' ⟨hp, hb⟩ => ?_
  rcases hp with ⟨zs', n', v, h1, h2, _, he, hz⟩ | ⟨b, h1, _⟩ | ⟨p, zs', h1, h2, h3, _⟩
  · obtain rfl : zs = zs' := Sum.inl.inj (rd0_det h h1)
    obtain rfl : n = n' := hn.symm.trans h2
    exact ⟨v, he, hz, hb⟩
  · cases rd0_det h h1
  · have h4 := pre_len zs'
    rw [← h3, List.length_take] at h4
    omega
theorem row_read_bad {s : List UInt8} {b : Nat} {w0 : World} (h : Rd0 s (.inr b)) (hl : s.length < 8193) :
    Calls Tryd.prog 51 #[.string ⟨s.toArray⟩] w0 fun e w' => e = .returned (.tuple #[.slice none 0 0, .agg #[.int .i64 6, .int .i64 (b : Nat)]]) ∧ Below w0.heap.size w0 w' := by
  refine (row_read (by omega)).mono fun e w' ⟨hp, hb⟩ => ?_
  rcases hp with ⟨zs', n', v, h1, _⟩ | ⟨c, h1, he⟩ | ⟨p, zs', h1, h2, h3, _⟩
  · cases rd0_det h h1
  · obtain rfl : b = c := Sum.inr.inj (rd0_det h h1)
    exact ⟨he, hb⟩
  · have h4 := pre_len zs'
    rw [← h3, List.length_take] at h4
    omega
theorem ref_read_ok {s : List UInt8} {zs : List Int} {n : Nat} {w0 : World} (h : Rd0 s (.inl zs)) (hn : zs.length = n) (hl : s.length ≤ 65536) :
    Calls Tryd.prog 54 #[.string ⟨s.toArray⟩] w0 fun e w' => ∃ v, e = .returned (.tuple #[v, .int .i64 (-1)]) ∧ MRow w0.heap.size w' v n zs ∧ Below w0.heap.size w0 w' := by
  refine (ref_read hl).mono fun e w' ⟨hp, hb⟩ => ?_
  rcases hp with ⟨zs', n', v, h1, h2, he, hz⟩ | ⟨b, h1, _⟩
  · obtain rfl : zs = zs' := Sum.inl.inj (rd0_det h h1)
    obtain rfl : n = n' := hn.symm.trans h2
    exact ⟨v, he, hz, hb⟩
  · cases rd0_det h h1
theorem ref_read_bad {s : List UInt8} {b : Nat} {w0 : World} (h : Rd0 s (.inr b)) (hl : s.length ≤ 65536) :
    Calls Tryd.prog 54 #[.string ⟨s.toArray⟩] w0 fun e w' => e = .returned (.tuple #[.slice none 0 0, .int .i64 (b : Nat)]) ∧ Below w0.heap.size w0 w' := by
  refine (ref_read hl).mono fun e w' ⟨hp, hb⟩ => ?_
  rcases hp with ⟨zs', n', v, h1, _⟩ | ⟨c, h1, he⟩
  · cases rd0_det h h1
  · obtain rfl : b = c := Sum.inr.inj (rd0_det h h1)
    exact ⟨he, hb⟩
theorem row_text' {A0 : Option Addr} {n0 c0 : Nat} {es0 : List NE} {xs : List Int} {w0 : World} (h0 : (pfRow fN FN 2 A0 n0 c0 es0).P w0) (hz0 : es0.map zz = xs) (hk : Zk 90000 xs) (hn : n0 ≤ 1000000) :
    Calls Tryd.prog 52 #[.slice A0 n0 c0] w0 fun e w' => e = .returned (.string ⟨(textRow xs).toArray⟩) ∧ Below w0.heap.size w0 w' := by
  subst hz0
  exact row_text h0 hk.zb hn
theorem text_flat (zs : List Int) : (textRow zs).length ≤ 2 + (zs.map fun z => (textZ z).length + 1).sum ∧ (zs.map fun z => (textZ z).length).sum ≤ (textRow zs).length ∧ 2 + zs.length ≤ (textRow zs).length + 1 := by
  have h : ∀ l : List Int, ((l.map textZ).flatMap fun t => (32 : UInt8) :: t).length = (l.map fun z => (textZ z).length + 1).sum := by
    intro l
    induction l with
    | nil => rfl
    | cons z l ih => rw [List.map_cons, List.flatMap_cons, List.length_append, List.length_cons, ih]; simp
  have h2 : ∀ l : List Int, (l.map fun z => (textZ z).length).sum ≤ (l.map fun z => (textZ z).length + 1).sum := by
    intro l
    induction l with
    | nil => simp
    | cons z l ih => simp only [List.map_cons, List.sum_cons]; omega
  have h3 : ∀ l : List Int, l.length ≤ (l.map fun z => (textZ z).length + 1).sum := by
    intro l
    induction l with
    | nil => simp
    | cons z l ih => simp only [List.map_cons, List.sum_cons, List.length_cons]; omega
  cases zs with
  | nil => simp [textRow, jn]
  | cons z zs =>
    have e : (textRow (z :: zs)).length = 2 + (textZ z).length + (zs.map fun z => (textZ z).length + 1).sum := by
      simp only [textRow, jn, List.map_cons, List.length_cons, List.length_append, List.length_nil]
      rw [h]
      omega
    have h4 := h2 zs
    have h5 := h3 zs
    simp only [List.map_cons, List.sum_cons, List.length_cons]
    omega
theorem sum_mem {l : List Int} {f : Int → Nat} {z : Int} (h : z ∈ l) : f z ≤ (l.map f).sum := by
  induction l with
  | nil => cases h
  | cons x l ih =>
    rw [List.map_cons, List.sum_cons]
    rcases List.mem_cons.1 h with rfl | h
    · omega
    · have := ih h; omega
theorem text_sizes {s : List UInt8} {zs : List Int} (h : textRow zs = s) : zs.length ≤ s.length ∧ ∀ z ∈ zs, zl z ≤ s.length + 1 := by
  subst h
  obtain ⟨_, h2, h3⟩ := text_flat zs
  refine ⟨by omega, fun z hz => ?_⟩
  have h4 : (textZ z).length ≤ _ := sum_mem (f := fun z => (textZ z).length) hz
  have h5 := rz_zl (rz_text z)
  omega
set_option maxRecDepth 100000 in
set_option maxHeartbeats 4000000 in
theorem rreads_long {s : List UInt8} {w0 : World} (hl : 400 < s.length) (_hm : s.length ≤ maxLen) :
    Calls Tryd.prog 8 #[.string ⟨s.toArray⟩] w0 fun e w' => e = .returned (.bool true) ∧ Below w0.heap.size w0 w' := by
  refine enter Tryd.func8 rfl Tryd.ntmps8 rfl ?_
  intro a henv hst
  refine wp_seq ?_
  refine region_seq ?_
  refine sv (v := .bool false) henv rfl (rn_assign henv rfl) ?_
  clear henv a; intro a henv
  refine wpList_nil ?_
  refine th_n ?_
  refine wp_seq ?_
  refine wp_seq ?_
  refine region_seq ?_
  refine seq_step rfl (op_call henv rfl Tryd.call16 rfl (row_live) ?_)
  rintro e w51 ⟨rfl, hb⟩
  refine ⟨_, rfl, ?_⟩
  clear henv a; intro a henv
  replace hst := hst.call hb
  clear hb
  refine sv (v := .bool false) henv rfl (rn_un henv rfl rfl) ?_
  clear henv a; intro a henv
  refine wpList_nil ?_
  refine th_n ?_
  refine if_f henv rfl (rfl) ?_
  refine wp_skip ?_
  refine th_n ?_
  refine wp_seq ?_
  refine wp_seq ?_
  refine region_seq ?_
  revert a
  refine mA rfl rfl ?_
  refine sA (v := .int .i64 (s.length : Nat)) rfl (fun _ henv => rn_lenS henv Tryd.underlying9 rfl) ?_
  refine sA (v := .bool (decide (((s.length : Nat) : Int) > (400 : Int)))) rfl (fun _ henv => rn_bin henv rfl rfl rfl) ?_
  intro a henv
  rw [show (decide (((s.length : Nat) : Int) > (400 : Int))) = true from (decide_eq_true (by omega))] at henv
  refine wpList_nil ?_
  refine th_n ?_
  refine if_t henv rfl (rfl) ?_
  refine wp_seq ?_
  refine region_seq ?_
  refine sv (v := .bool true) henv rfl (rn_assign henv rfl) ?_
  clear henv a; intro a henv
  refine wpList_nil ?_
  refine th_n ?_
  refine wp_ret ?_
  refine th_r ?_
  refine leave henv (res1 Tryd.results8 (RV.tmp henv rfl)) ?_
  exact ⟨rfl, hst.below⟩
set_option maxRecDepth 100000 in
set_option maxHeartbeats 4000000 in
theorem rreads_bad {s : List UInt8} {w0 : World} {b : Nat} (hl : s.length ≤ 400) (hr : Rd0 s (.inr b)) :
    Calls Tryd.prog 8 #[.string ⟨s.toArray⟩] w0 fun e w' => e = .returned (.bool true) ∧ Below w0.heap.size w0 w' := by
  refine enter Tryd.func8 rfl Tryd.ntmps8 rfl ?_
  intro a henv hst
  refine wp_seq ?_
  refine region_seq ?_
  refine sv (v := .bool false) henv rfl (rn_assign henv rfl) ?_
  clear henv a; intro a henv
  refine wpList_nil ?_
  refine th_n ?_
  refine wp_seq ?_
  refine wp_seq ?_
  refine region_seq ?_
  refine seq_step rfl (op_call henv rfl Tryd.call16 rfl (row_live) ?_)
  rintro e w51 ⟨rfl, hb⟩
  refine ⟨_, rfl, ?_⟩
  clear henv a; intro a henv
  replace hst := hst.call hb
  clear hb
  refine sv (v := .bool false) henv rfl (rn_un henv rfl rfl) ?_
  clear henv a; intro a henv
  refine wpList_nil ?_
  refine th_n ?_
  refine if_f henv rfl (rfl) ?_
  refine wp_skip ?_
  refine th_n ?_
  refine wp_seq ?_
  refine wp_seq ?_
  refine region_seq ?_
  revert a
  refine mA rfl rfl ?_
  refine sA (v := .int .i64 (s.length : Nat)) rfl (fun _ henv => rn_lenS henv Tryd.underlying9 rfl) ?_
  refine sA (v := .bool (decide (((s.length : Nat) : Int) > (400 : Int)))) rfl (fun _ henv => rn_bin henv rfl rfl rfl) ?_
  intro a henv
  rw [show (decide (((s.length : Nat) : Int) > (400 : Int))) = false from (decide_eq_false (by omega))] at henv
  refine wpList_nil ?_
  refine th_n ?_
  refine if_f henv rfl (rfl) ?_
  refine wp_skip ?_
  refine th_n ?_
  refine wp_seq ?_
  refine region_seq ?_
  refine sv (v := .string ⟨s.toArray⟩) henv rfl (rn_move henv rfl) ?_
  clear henv a; intro a henv
  refine seq_step rfl (op_call henv rfl Tryd.call51 rfl (row_read_bad hr (by omega)) ?_)
  rintro e w52 ⟨rfl, hb⟩
  refine ⟨_, rfl, ?_⟩
  clear henv a; intro a henv
  replace hst := hst.call hb
  clear hb
  revert a
  refine mA rfl rfl ?_
  refine sA (v := .slice none 0 0) rfl (fun _ henv => rn_extract henv rfl rfl) ?_
  refine sA (v := .agg #[.int .i64 6, .int .i64 (b : Nat)]) rfl (fun _ henv => rn_extract henv rfl rfl) ?_
  intro a henv
  refine seq_step rfl (op_alloc (c := #[.int .i64 0, .int .i64 0]) henv hst rfl zero_anvil_api_Spot rfl ?_)
  clear henv hst a; intro a w54 g53 henv hst
  refine sv (v := .slice none 0 0) henv rfl (rn_assign henv rfl) ?_
  clear henv a; intro a henv
  refine seq_step rfl (op_store (k := 0) (c' := #[.int .i64 6, .int .i64 (b : Nat)]) henv hst (ty_anvil_api_Spot.size) rfl rfl rfl rfl (by simp) rfl rfl ?_)
  clear henv hst a; intro a w55 henv hst
  refine wpList_nil ?_
  refine th_n ?_
  refine wp_seq ?_
  refine region_seq ?_
  refine sv (v := .string ⟨s.toArray⟩) henv rfl (rn_move henv rfl) ?_
  clear henv a; intro a henv
  refine seq_step rfl (op_call henv rfl Tryd.call54 rfl (ref_read_bad hr (by omega)) ?_)
  rintro e w56 ⟨rfl, hb⟩
  refine ⟨_, rfl, ?_⟩
  clear henv a; intro a henv
  replace hst := hst.call hb
  clear hb
  revert a
  refine mA rfl rfl ?_
  refine sA (v := .slice none 0 0) rfl (fun _ henv => rn_extract henv rfl rfl) ?_
  refine sA (v := .int .i64 (b : Nat)) rfl (fun _ henv => rn_extract henv rfl rfl) ?_
  refine aA rfl rfl ?_
  refine aA rfl rfl ?_
  intro a henv
  refine wpList_nil ?_
  refine th_n ?_
  refine wp_seq ?_
  refine wp_seq ?_
  refine region_seq ?_
  revert a
  refine mA rfl rfl ?_
  refine sA (v := .bool (decide (((b : Nat) : Int) ≥ (0 : Int)))) rfl (fun _ henv => rn_bin henv rfl rfl rfl) ?_
  intro a henv
  rw [show (decide (((b : Nat) : Int) ≥ (0 : Int))) = true from (decide_eq_true (by omega))] at henv
  refine wpList_nil ?_
  refine th_n ?_
  refine if_t henv rfl (rfl) ?_
  refine wp_seq ?_
  refine region_seq ?_
  revert a
  refine mA rfl rfl ?_
  refine sA (v := .int .i64 0) rfl (fun _ henv => rn_len henv Tryd.underlying30 rfl) ?_
  refine sA (v := .bool true) rfl (fun _ henv => rn_bin henv rfl rfl rfl) ?_
  refine mA rfl rfl ?_
  refine gA (v := .pointer (some ⟨g53, 0, none⟩)) rfl rfl rfl rfl (fun _ henv => rn_fieldAddr henv fd_anvil_api_Spot_0 (ty_anvil_api_Errno.size) (by decide) rfl) ?_
  refine gA (v := .int .i64 6) rfl rfl rfl rfl (fun _ henv => rn_load1 henv ty_anvil_api_Errno rfl (hst.oat (k := 0) rfl) rfl) ?_
  refine gA (v := .bool true) rfl rfl rfl rfl (fun _ henv => rn_bin henv rfl rfl rfl) ?_
  refine sA (v := .bool true) rfl (fun _ henv => rn_pick henv rfl rfl) ?_
  refine mA rfl rfl ?_
  refine gA (v := .pointer (some ⟨g53, 1, none⟩)) rfl rfl rfl rfl (fun _ henv => rn_fieldAddr henv fd_anvil_api_Spot_1 (ty_int.size) (by decide) rfl) ?_
  refine gA (v := .int .i64 (b : Nat)) rfl rfl rfl rfl (fun _ henv => rn_load1 henv ty_int rfl (hst.oat (k := 0) rfl) rfl) ?_
  refine gA (v := .int .i64 (b : Nat)) rfl rfl rfl rfl (fun _ henv => rn_move henv rfl) ?_
  refine gA (v := .bool (((b : Nat) : Int) == ((b : Nat) : Int))) rfl rfl rfl rfl (fun _ henv => rn_bin henv rfl rfl rfl) ?_
  intro a henv
  rw [show (((b : Nat) : Int) == ((b : Nat) : Int)) = true from (beq_self_eq_true _)] at henv
  revert a
  refine sA (v := .bool true) rfl (fun _ henv => rn_pick henv rfl rfl) ?_
  refine aA rfl rfl ?_
  intro a henv
  refine wpList_nil ?_
  refine th_n ?_
  refine wp_ret ?_
  refine th_r ?_
  refine leave henv (res1 Tryd.results8 (RV.tmp henv rfl)) ?_
  exact ⟨rfl, hst.below⟩
set_option maxRecDepth 100000 in
set_option maxHeartbeats 4000000 in
theorem rreads_ok {s : List UInt8} {w0 : World} {zs : List Int} (hl : s.length ≤ 400) (hr : Rd0 s (.inl zs)) :
    Calls Tryd.prog 8 #[.string ⟨s.toArray⟩] w0 fun e w' => e = .returned (.bool true) ∧ Below w0.heap.size w0 w' := by
  have hsz := text_sizes (rd_back hr)
  obtain ⟨hcn, hkz⟩ := hsz
  have hkx : Zk 500 zs := fun z hz => Nat.le_trans (hkz z hz) (by omega)
  refine enter Tryd.func8 rfl Tryd.ntmps8 rfl ?_
  intro a henv hst
  refine wp_seq ?_
  refine region_seq ?_
  refine sv (v := .bool false) henv rfl (rn_assign henv rfl) ?_
  clear henv a; intro a henv
  refine wpList_nil ?_
  refine th_n ?_
  refine wp_seq ?_
  refine wp_seq ?_
  refine region_seq ?_
  refine seq_step rfl (op_call henv rfl Tryd.call16 rfl (row_live) ?_)
  rintro e w51 ⟨rfl, hb⟩
  refine ⟨_, rfl, ?_⟩
  clear henv a; intro a henv
  replace hst := hst.call hb
  clear hb
  refine sv (v := .bool false) henv rfl (rn_un henv rfl rfl) ?_
  clear henv a; intro a henv
  refine wpList_nil ?_
  refine th_n ?_
  refine if_f henv rfl (rfl) ?_
  refine wp_skip ?_
  refine th_n ?_
  refine wp_seq ?_
  refine wp_seq ?_
  refine region_seq ?_
  revert a
  refine mA rfl rfl ?_
  refine sA (v := .int .i64 (s.length : Nat)) rfl (fun _ henv => rn_lenS henv Tryd.underlying9 rfl) ?_
  refine sA (v := .bool (decide (((s.length : Nat) : Int) > (400 : Int)))) rfl (fun _ henv => rn_bin henv rfl rfl rfl) ?_
  intro a henv
  rw [show (decide (((s.length : Nat) : Int) > (400 : Int))) = false from (decide_eq_false (by omega))] at henv
  refine wpList_nil ?_
  refine th_n ?_
  refine if_f henv rfl (rfl) ?_
  refine wp_skip ?_
  refine th_n ?_
  refine wp_seq ?_
  refine region_seq ?_
  refine sv (v := .string ⟨s.toArray⟩) henv rfl (rn_move henv rfl) ?_
  clear henv a; intro a henv
  refine seq_step rfl (op_call henv rfl Tryd.call51 rfl (row_read_ok (n := zs.length) hr rfl (by omega)) ?_)
  rintro e w57 ⟨_, rfl, ⟨A52, c53, es54, rfl, hr, hl55, hz56⟩, hb⟩
  refine ⟨_, rfl, ?_⟩
  clear henv a; intro a henv
  replace hst := hst.freshRd hb hr hl55 (ap_N hr.2.1 trivial)
  clear hr
  clear hb
  revert a
  refine mA rfl rfl ?_
  refine sA (v := .slice A52 zs.length c53) rfl (fun _ henv => rn_extract henv rfl rfl) ?_
  refine sA (v := .agg #[.int .i64 0, .int .i64 0]) rfl (fun _ henv => rn_extract henv rfl rfl) ?_
  intro a henv
  refine seq_step rfl (op_alloc (c := #[.int .i64 0, .int .i64 0]) henv hst rfl zero_anvil_api_Spot rfl ?_)
  clear henv hst a; intro a w59 g58 henv hst
  refine sv (v := .slice A52 zs.length c53) henv rfl (rn_assign henv rfl) ?_
  clear henv a; intro a henv
  refine seq_step rfl (op_store (k := 0) (c' := #[.int .i64 0, .int .i64 0]) henv hst (ty_anvil_api_Spot.size) rfl rfl rfl rfl (by simp) rfl rfl ?_)
  clear henv hst a; intro a w60 henv hst
  refine wpList_nil ?_
  refine th_n ?_
  refine wp_seq ?_
  refine region_seq ?_
  refine sv (v := .string ⟨s.toArray⟩) henv rfl (rn_move henv rfl) ?_
  clear henv a; intro a henv
  refine seq_step rfl (op_call henv rfl Tryd.call54 rfl (ref_read_ok (n := zs.length) hr rfl (by omega)) ?_)
  rintro e w66 ⟨_, rfl, ⟨A61, c62, es63, rfl, hr, hl64, hz65⟩, hb⟩
  refine ⟨_, rfl, ?_⟩
  clear henv a; intro a henv
  replace hst := hst.freshRd hb hr hl64 (ap_M hr.2.1 ⟨nou_bk rfl, trivial⟩)
  clear hr
  clear hb
  revert a
  refine mA rfl rfl ?_
  refine sA (v := .slice A61 zs.length c62) rfl (fun _ henv => rn_extract henv rfl rfl) ?_
  refine sA (v := .int .i64 (-1)) rfl (fun _ henv => rn_extract henv rfl rfl) ?_
  refine aA rfl rfl ?_
  refine aA rfl rfl ?_
  intro a henv
  refine wpList_nil ?_
  refine th_n ?_
  refine wp_seq ?_
  refine wp_seq ?_
  refine region_seq ?_
  revert a
  refine mA rfl rfl ?_
  refine sA (v := .bool false) rfl (fun _ henv => rn_bin henv rfl rfl rfl) ?_
  intro a henv
  refine wpList_nil ?_
  refine th_n ?_
  refine if_f henv rfl (rfl) ?_
  refine wp_skip ?_
  refine th_n ?_
  refine wp_seq ?_
  refine region_seq ?_
  revert a
  refine mA rfl rfl ?_
  refine mA rfl rfl ?_
  intro a henv
  refine seq_step rfl (op_call henv rfl Tryd.call27 rfl (row_is (hst.pat (k := 1) rfl) hz56 (hst.pat (k := 0) rfl) hz65 ((hkx.mono (by decide)))) ?_)
  rintro e w67 ⟨rfl, hb⟩
  refine ⟨_, rfl, ?_⟩
  clear henv a; intro a henv
  replace hst := hst.call hb
  clear hb
  revert a
  refine mA rfl rfl ?_
  refine gA (v := .pointer (some ⟨g58, 0, none⟩)) rfl rfl rfl rfl (fun _ henv => rn_fieldAddr henv fd_anvil_api_Spot_0 (ty_anvil_api_Errno.size) (by decide) rfl) ?_
  refine gA (v := .int .i64 0) rfl rfl rfl rfl (fun _ henv => rn_load1 henv ty_anvil_api_Errno rfl (hst.oat (k := 0) rfl) rfl) ?_
  refine gA (v := .bool true) rfl rfl rfl rfl (fun _ henv => rn_bin henv rfl rfl rfl) ?_
  refine sA (v := .bool true) rfl (fun _ henv => rn_pick henv rfl rfl) ?_
  refine mA rfl rfl ?_
  refine gA (v := .pointer (some ⟨g58, 1, none⟩)) rfl rfl rfl rfl (fun _ henv => rn_fieldAddr henv fd_anvil_api_Spot_1 (ty_int.size) (by decide) rfl) ?_
  refine gA (v := .int .i64 0) rfl rfl rfl rfl (fun _ henv => rn_load1 henv ty_int rfl (hst.oat (k := 0) rfl) rfl) ?_
  refine gA (v := .bool true) rfl rfl rfl rfl (fun _ henv => rn_bin henv rfl rfl rfl) ?_
  refine sA (v := .bool true) rfl (fun _ henv => rn_pick henv rfl rfl) ?_
  refine mA rfl rfl ?_
  refine gA (v := .slice A52 zs.length c53) rfl rfl rfl rfl (fun _ henv => rn_move henv rfl) ?_
  intro a henv
  refine seq_g rfl henv rfl rfl (op_call henv rfl Tryd.call52 rfl (row_text' (hst.pat (k := 1) rfl) hz56 ((hkx.mono (by decide))) (by omega)) ?_)
  rintro e w68 ⟨rfl, hb⟩
  refine ⟨_, rfl, ?_⟩
  clear henv a; intro a henv
  replace hst := hst.call hb
  clear hb
  revert a
  refine gA (v := .string ⟨s.toArray⟩) rfl rfl rfl rfl (fun _ henv => rn_move henv rfl) ?_
  refine gA (v := .bool (decide ((textRow zs) = s))) rfl rfl rfl rfl (fun _ henv => rn_eqls (s := (textRow zs)) (t := s) henv rfl rfl) ?_
  intro a henv
  rw [show (decide ((textRow zs) = s)) = true from (decide_eq_true (rd_back hr))] at henv
  revert a
  refine sA (v := .bool true) rfl (fun _ henv => rn_pick henv rfl rfl) ?_
  refine aA rfl rfl ?_
  intro a henv
  refine wpList_nil ?_
  refine th_n ?_
  refine wp_ret ?_
  refine leave henv (res1 Tryd.results8 (RV.tmp henv rfl)) ?_
  exact ⟨rfl, hst.below⟩
theorem rreads_law {s : List UInt8} {w0 : World} (hm : s.length ≤ maxLen) :
    Calls Tryd.prog 8 #[.string ⟨s.toArray⟩] w0 fun e w' => e = .returned (.bool true) ∧ Below w0.heap.size w0 w' := by
  rcases Nat.lt_or_ge 400 s.length with h | h
  · exact rreads_long h hm
  · obtain ⟨r, hr⟩ := rd0_total s
    cases r with
    | inl zs => exact rreads_ok h hr
    | inr b => exact rreads_bad h hr
end Go.Proofs.YtegglooojlheoaaDoor.W
