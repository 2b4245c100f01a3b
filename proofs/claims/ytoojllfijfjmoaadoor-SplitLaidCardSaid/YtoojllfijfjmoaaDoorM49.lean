/- SplitLaid. Printed by pv/gen_sl.py. No condition. -/
import Derived.Test.YtoojllfijfjmoaaDoorM47
import Derived.Test.YtoojllfijfjmoaaDoorM15
import Derived.Test.YtoojllfijfjmoaaDoorM36

namespace Go.Proofs.YtoojllfijfjmoaaDoor.W
open Go.RowKit Anv Go.Lib
set_option maxRecDepth 100000 in
set_option maxHeartbeats 2000000 in
theorem p_mul_nila {A0 A1 : Option Addr} {n0 n1 c0 c1 : Nat} {w0 : World} (h00 : n0 = 0) :
    Calls Tryd.prog 28 #[.slice A0 n0 c0, .slice A1 n1 c1] w0 fun e w' => e = .returned (.tuple #[.slice none 0 0, .int .i64 0]) ∧ Below w0.heap.size w0 w' := by
  refine enter Tryd.func28 rfl Tryd.ntmps28 rfl ?_
  intro a henv hst
  refine wp_seq ?_
  refine region_seq ?_
  revert a
  refine aA rfl rfl ?_
  refine aA rfl rfl ?_
  intro a henv
  refine wpList_nil ?_
  refine th_n ?_
  refine wp_seq ?_
  refine wp_seq ?_
  refine region_seq ?_
  revert a
  refine mA rfl rfl ?_
  refine sA (v := .int .i64 (n0 : Nat)) rfl (fun _ henv => rn_len henv Tryd.underlying24 rfl) ?_
  refine sA (v := .bool (((n0 : Nat) : Int) == (0 : Int))) rfl (fun _ henv => rn_bin henv rfl rfl rfl) ?_
  intro a henv
  rw [show (((n0 : Nat) : Int) == (0 : Int)) = true from (beq_iff_eq.2 (by omega))] at henv
  revert a
  refine mA rfl rfl ?_
  refine kA rfl rfl rfl rfl rfl ?_
  refine kA rfl rfl rfl rfl rfl ?_
  refine kA rfl rfl rfl rfl rfl ?_
  refine sA (v := .bool true) rfl (fun _ henv => rn_pick henv rfl rfl) ?_
  intro a henv
  refine wpList_nil ?_
  refine th_n ?_
  refine if_t henv rfl (rfl) ?_
  refine wp_seq ?_
  refine region_seq ?_
  revert a
  refine aA rfl rfl ?_
  refine aA rfl rfl ?_
  intro a henv
  refine wpList_nil ?_
  refine th_n ?_
  refine wp_ret ?_
  refine th_r ?_
  refine leave henv (res2 Tryd.results28 (RV.tmp henv rfl) (RV.tmp henv rfl)) ?_
  exact ⟨rfl, hst.below⟩
set_option maxRecDepth 100000 in
set_option maxHeartbeats 2000000 in
theorem p_mul_nilb {A0 A1 : Option Addr} {n0 n1 c0 c1 : Nat} {w0 : World} (h00 : 0 < n0) (h01 : n1 = 0) :
    Calls Tryd.prog 28 #[.slice A0 n0 c0, .slice A1 n1 c1] w0 fun e w' => e = .returned (.tuple #[.slice none 0 0, .int .i64 0]) ∧ Below w0.heap.size w0 w' := by
  refine enter Tryd.func28 rfl Tryd.ntmps28 rfl ?_
  intro a henv hst
  refine wp_seq ?_
  refine region_seq ?_
  revert a
  refine aA rfl rfl ?_
  refine aA rfl rfl ?_
  intro a henv
  refine wpList_nil ?_
  refine th_n ?_
  refine wp_seq ?_
  refine wp_seq ?_
  refine region_seq ?_
  revert a
  refine mA rfl rfl ?_
  refine sA (v := .int .i64 (n0 : Nat)) rfl (fun _ henv => rn_len henv Tryd.underlying24 rfl) ?_
  refine sA (v := .bool (((n0 : Nat) : Int) == (0 : Int))) rfl (fun _ henv => rn_bin henv rfl rfl rfl) ?_
  intro a henv
  rw [show (((n0 : Nat) : Int) == (0 : Int)) = false from (beq_eq_false_iff_ne.2 (by omega))] at henv
  revert a
  refine mA rfl rfl ?_
  refine gA (v := .slice A1 n1 c1) rfl rfl rfl rfl (fun _ henv => rn_move henv rfl) ?_
  refine gA (v := .int .i64 (n1 : Nat)) rfl rfl rfl rfl (fun _ henv => rn_len henv Tryd.underlying24 rfl) ?_
  refine gA (v := .bool (((n1 : Nat) : Int) == (0 : Int))) rfl rfl rfl rfl (fun _ henv => rn_bin henv rfl rfl rfl) ?_
  intro a henv
  rw [show (((n1 : Nat) : Int) == (0 : Int)) = true from (beq_iff_eq.2 (by omega))] at henv
  refine sv (v := .bool true) henv rfl (rn_pick henv rfl rfl) ?_
  clear henv a; intro a henv
  refine wpList_nil ?_
  refine th_n ?_
  refine if_t henv rfl (rfl) ?_
  refine wp_seq ?_
  refine region_seq ?_
  revert a
  refine aA rfl rfl ?_
  refine aA rfl rfl ?_
  intro a henv
  refine wpList_nil ?_
  refine th_n ?_
  refine wp_ret ?_
  refine th_r ?_
  refine leave henv (res2 Tryd.results28 (RV.tmp henv rfl) (RV.tmp henv rfl)) ?_
  exact ⟨rfl, hst.below⟩
theorem p_mul_u {A0 A1 : Option Addr} {n0 n1 c0 c1 : Nat} {es0 es1 : List NE} {xs ys : List Int} {w0 : World} (h0 : (pfRow fN FN 2 A0 n0 c0 es0).P w0) (hz0 : es0.map zz = xs) (h1 : (pfRow fN FN 2 A1 n1 c1 es1).P w0) (hz1 : es1.map zz = ys) (hk0 : Zk 1000 xs) (hk1 : Zk 1000 ys) (hn0 : n0 ≤ 300) (hn1 : n1 ≤ 300) :
    Calls Tryd.prog 28 #[.slice A0 n0 c0, .slice A1 n1 c1] w0 fun e w' => ∃ v k, e = .returned (.tuple #[v, .int .i64 (k : Nat)]) ∧ NRow w' v (mulF xs ys).length (mulF xs ys) ∧ Below w0.heap.size w0 w' := by
  have l0 : xs.length = n0 := by rw [← hz0, List.length_map, h0.2.1]
  have l1 : ys.length = n1 := by rw [← hz1, List.length_map, h1.2.1]
  have hnil : (n0 = 0 ∨ n1 = 0) → mulF xs ys = [] := fun h => if_pos (by omega)
  by_cases a : n0 = 0
  · refine (p_mul_nila a).mono fun e w' ⟨he, hb⟩ => ⟨.slice none 0 0, 0, he, ?_, hb⟩
    rw [hnil (.inl a)]
    exact ⟨none, 0, [], rfl, row_nil _ _ _ _, rfl⟩
  · by_cases b : n1 = 0
    · refine (p_mul_nilb (by omega) b).mono fun e w' ⟨he, hb⟩ => ⟨.slice none 0 0, 0, he, ?_, hb⟩
      rw [hnil (.inr b)]
      exact ⟨none, 0, [], rfl, row_nil _ _ _ _, rfl⟩
    · refine (p_mul h0 hz0 h1 hz1 hk0 hk1 (by omega) (by omega) hn0 hn1).mono fun e w' ⟨v, he, ⟨A, c, es, hv, hr, hl, hz⟩, hb⟩ => ⟨v, _, he, ?_, hb⟩
      rw [mulF_len (by omega) (by omega), l0, l1, ← mulF_at l0 l1 (by omega) (by omega)]
      exact ⟨A, c, es, hv, ⟨rowS_rd hr.1, hl, hr.2.1⟩, hz⟩
theorem sp_block_m {n1 n2 k1 k2 m : Nat} {w0 : World} (h1 : n1 ≤ 4096) (h2 : n2 ≤ 4096) (g1 : 1 ≤ k1) (g2 : 1 ≤ k2) (f1 : k1 ≤ 8) (f2 : k2 ≤ 8) (hm : blkN n1 n2 k1 k2 = m) :
    Calls Tryd.prog 20 #[.int .i64 (n1 : Nat), .int .i64 (n2 : Nat), .int .i64 (k1 : Nat), .int .i64 (k2 : Nat)] w0 fun e w' => e = .returned (.tuple #[.int .i64 (m : Nat), .int .i64 0]) ∧ Below w0.heap.size w0 w' := by
  subst hm
  exact sp_block h1 h2 g1 g2 f1 f2
theorem sp_join_u {A0 : Option Addr} {n0 c0 : Nat} {es0 : List LE} {zss : List (List Int)} {zs : List Int} {k m : Nat} {w0 : World} (h0 : (pfRow fL FL 1 A0 n0 c0 es0).P w0) (hz0 : es0.map lz = zss) (hlen : ∀ v ∈ es0, v.2.1 ≤ 8192) (hxk : ∀ v ∈ es0, ∀ x ∈ v.2.2.2, zl (zz x) ≤ 1000) (hn0 : n0 ≤ 15) (hk1 : 1 ≤ k) (hk4 : k ≤ 4096) (hm8 : m ≤ 8192) (hdg : degN (jnN zss k (szN zss k m n0) n0) ≤ m) (hzs : (jnN zss k (szN zss k m n0) n0).take m = zs) :
    Calls Tryd.prog 18 #[.slice A0 n0 c0, .int .i64 (k : Nat), .int .i64 (m : Nat)] w0 fun e w' => ∃ v, e = .returned (.tuple #[v, .int .i64 0]) ∧ NRow w' v m zs ∧ Below w0.heap.size w0 w' := by
  subst hzs
  by_cases h : m = 0
  · subst h
    exact (sp_join_zero h0 hz0 hlen hxk hn0 hk1 hk4 (by omega)).mono fun e w' ⟨he, hb⟩ => ⟨_, he, ⟨none, 0, [], rfl, row_nil _ _ _ _, List.take_zero.symm⟩, hb⟩
  · exact sp_join_ok h0 hz0 hlen hxk hn0 hk1 hk4 hm8 h (by omega)
theorem lrow_at {ps : List LE} {L : List (List Int)} {p n c : Nat} {A : Option Addr} {es : List NE} (ho : ps.map lz = L) (he : ps[p]? = some (A, n, c, es)) : es.map zz = L.getD p [] := by
  rw [← ho, List.getD_eq_getElem?_getD, List.getElem?_map, he]; rfl
theorem rows_le {A : Option Addr} {n c N : Nat} {vs : List LE} {zss : List (List Int)} {w : World} (h : (pfRow fL FL 1 A n c vs).P w) (hz : vs.map lz = zss) (hl : ∀ i, (zss.getD i []).length ≤ N) (hN : N ≤ 8192 := by omega) : ∀ v ∈ vs, v.2.1 ≤ 8192 := fun v hv => by
  obtain ⟨i, hi, e⟩ := List.mem_iff_getElem.1 hv
  have he : vs[i]? = some v := by rw [List.getElem?_eq_getElem hi, e]
  have h1 : v.2.2.2.length = v.2.1 := (h.2.2 v hv).2.1
  have h2 := hl i
  obtain ⟨A', n', c', es'⟩ := v
  rw [← lrow_at hz he, List.length_map] at h2
  simp only at h1 ⊢
  omega
theorem rows_zk {vs : List LE} {zss : List (List Int)} {a : Nat} (hz : vs.map lz = zss) (h : ∀ i, Zc a (zss.getD i [])) (ha : a ≤ 1000) : ∀ v ∈ vs, ∀ x ∈ v.2.2.2, zl (zz x) ≤ 1000 := fun v hv x hx => by
  obtain ⟨i, hi, e⟩ := List.mem_iff_getElem.1 hv
  have he : vs[i]? = some v := by rw [List.getElem?_eq_getElem hi, e]
  obtain ⟨A', n', c', es'⟩ := v
  have h2 := (h i).zk
  rw [← lrow_at hz he] at h2
  exact Nat.le_trans (h2 _ (List.mem_map_of_mem hx)) ha
theorem le_setL {ps : List LE} {k p : Nat} {e : LE} (h : ∀ v ∈ ps, v.2.1 ≤ k) (he : e.2.1 ≤ k) : ∀ v ∈ ps.set p e, v.2.1 ≤ k := fun v hv => by
  rcases List.mem_or_eq_of_mem_set hv with q | q
  · exact h v q
  · rw [q]; exact he
theorem i64_zk {es : List Int} (h : I64 es) : Zk 2 es := fun z hz => i64_zl (h z hz)
theorem mulF_le (xs ys : List Int) : (mulF xs ys).length ≤ xs.length + ys.length := by
  unfold mulF
  split
  · exact Nat.zero_le _
  · rw [mlN_len]; omega
theorem St.addL0 {w0 w : World} {own ps : List PF} (h : St w0 w own ps) (n : Nat) : St w0 w own (pfEs FL (List.replicate n (none, 0, 0, [])) :: ps) :=
  h.addP _ (fun e he => by rw [List.eq_of_mem_replicate he]; exact row_nil _ _ _ _) fun o _ b _ hf => by
    obtain ⟨e, he, hf⟩ := hf
    rw [List.eq_of_mem_replicate he] at hf
    rcases hf with ⟨_, off, q⟩ | ⟨x, q, _⟩
    · cases q
    · cases q
set_option maxRecDepth 100000 in
set_option maxHeartbeats 8000000 in
theorem laid_w0 {A0 A1 : Option Addr} {n0 c0 n1 c1 : Nat} {es0 es1 : List Int} {k1 k2 : Int} {w0 : World} (h0 : (pfRow fI FI 1 A0 n0 c0 es0).P w0) (hI0 : I64 es0) (h1 : (pfRow fI FI 1 A1 n1 c1 es1).P w0) (hI1 : I64 es1) (hw : 60 < n0) :
    Calls Tryd.prog 9 #[.slice A0 n0 c0, .slice A1 n1 c1, .int .i64 k1, .int .i64 k2] w0 fun e w' => e = .returned (.bool true) ∧ Below w0.heap.size w0 w' := by
  refine enter Tryd.func9 rfl Tryd.ntmps9 rfl ?_
  intro a henv hst
  have hlen0 := h0.2.1
  have hbig0 := Nat.le_trans h0.1.cap h0.1.big
  unfold maxLen at hbig0
  replace hst := hst.argRow h0
  clear h0
  have hlen1 := h1.2.1
  have hbig1 := Nat.le_trans h1.1.cap h1.1.big
  unfold maxLen at hbig1
  replace hst := hst.argRow h1
  clear h1
  have hx0 := i64_zk hI0
  have hx1 := i64_zk hI1
  refine wp_seq ?_
  refine region_seq ?_
  refine sv (v := .bool false) henv rfl (rn_assign henv rfl) ?_
  clear henv a; intro a henv
  refine wpList_nil ?_
  refine th_n ?_
  refine wp_seq ?_
  refine wp_seq ?_
  refine region_seq ?_
  refine seq_step rfl (op_call henv rfl Tryd.call10 rfl l_works ?_)
  rintro e w51 ⟨rfl, hb⟩
  refine ⟨_, rfl, ?_⟩
  clear henv a; intro a henv
  replace hst := hst.call hb
  clear hb
  refine sv (v := .bool false) henv rfl (rn_un henv rfl rfl) ?_
  clear henv a; intro a henv
  refine wpList_nil ?_
  refine th_n ?_
  refine if_f henv rfl (rfl) ?_
  refine wp_skip ?_
  refine th_n ?_
  refine wp_seq ?_
  refine wp_seq ?_
  refine region_seq ?_
  revert a
  refine mA rfl rfl ?_
  refine sA (v := .int .i64 (n0 : Nat)) rfl (fun _ henv => rn_len henv Tryd.underlying22 rfl) ?_
  refine sA (v := .bool (decide (((n0 : Nat) : Int) > (60 : Int)))) rfl (fun _ henv => rn_bin henv rfl rfl rfl) ?_
  intro a henv
  rw [show (decide (((n0 : Nat) : Int) > (60 : Int))) = true from (decide_eq_true (by omega))] at henv
  revert a
  refine mA rfl rfl ?_
  refine kA rfl rfl rfl rfl rfl ?_
  refine kA rfl rfl rfl rfl rfl ?_
  refine kA rfl rfl rfl rfl rfl ?_
  refine sA (v := .bool true) rfl (fun _ henv => rn_pick henv rfl rfl) ?_
  intro a henv
  refine wpList_nil ?_
  refine th_n ?_
  refine if_t henv rfl (rfl) ?_
  refine wp_seq ?_
  refine region_seq ?_
  refine sv (v := .bool true) henv rfl (rn_assign henv rfl) ?_
  clear henv a; intro a henv
  refine wpList_nil ?_
  refine th_n ?_
  refine wp_ret ?_
  refine th_r ?_
  refine leave henv (res1 Tryd.results9 (RV.tmp henv rfl)) ?_
  exact ⟨rfl, hst.below⟩
set_option maxRecDepth 100000 in
set_option maxHeartbeats 8000000 in
theorem laid_w1 {A0 A1 : Option Addr} {n0 c0 n1 c1 : Nat} {es0 es1 : List Int} {k1 k2 : Int} {w0 : World} (h0 : (pfRow fI FI 1 A0 n0 c0 es0).P w0) (hI0 : I64 es0) (h1 : (pfRow fI FI 1 A1 n1 c1 es1).P w0) (hI1 : I64 es1) (hw0 : n0 ≤ 60) (hw : 60 < n1) :
    Calls Tryd.prog 9 #[.slice A0 n0 c0, .slice A1 n1 c1, .int .i64 k1, .int .i64 k2] w0 fun e w' => e = .returned (.bool true) ∧ Below w0.heap.size w0 w' := by
  refine enter Tryd.func9 rfl Tryd.ntmps9 rfl ?_
  intro a henv hst
  have hlen0 := h0.2.1
  have hbig0 := Nat.le_trans h0.1.cap h0.1.big
  unfold maxLen at hbig0
  replace hst := hst.argRow h0
  clear h0
  have hlen1 := h1.2.1
  have hbig1 := Nat.le_trans h1.1.cap h1.1.big
  unfold maxLen at hbig1
  replace hst := hst.argRow h1
  clear h1
  have hx0 := i64_zk hI0
  have hx1 := i64_zk hI1
  refine wp_seq ?_
  refine region_seq ?_
  refine sv (v := .bool false) henv rfl (rn_assign henv rfl) ?_
  clear henv a; intro a henv
  refine wpList_nil ?_
  refine th_n ?_
  refine wp_seq ?_
  refine wp_seq ?_
  refine region_seq ?_
  refine seq_step rfl (op_call henv rfl Tryd.call10 rfl l_works ?_)
  rintro e w51 ⟨rfl, hb⟩
  refine ⟨_, rfl, ?_⟩
  clear henv a; intro a henv
  replace hst := hst.call hb
  clear hb
  refine sv (v := .bool false) henv rfl (rn_un henv rfl rfl) ?_
  clear henv a; intro a henv
  refine wpList_nil ?_
  refine th_n ?_
  refine if_f henv rfl (rfl) ?_
  refine wp_skip ?_
  refine th_n ?_
  refine wp_seq ?_
  refine wp_seq ?_
  refine region_seq ?_
  revert a
  refine mA rfl rfl ?_
  refine sA (v := .int .i64 (n0 : Nat)) rfl (fun _ henv => rn_len henv Tryd.underlying22 rfl) ?_
  refine sA (v := .bool (decide (((n0 : Nat) : Int) > (60 : Int)))) rfl (fun _ henv => rn_bin henv rfl rfl rfl) ?_
  intro a henv
  rw [show (decide (((n0 : Nat) : Int) > (60 : Int))) = false from (decide_eq_false (by omega))] at henv
  revert a
  refine mA rfl rfl ?_
  refine gA (v := .slice A1 n1 c1) rfl rfl rfl rfl (fun _ henv => rn_move henv rfl) ?_
  refine gA (v := .int .i64 (n1 : Nat)) rfl rfl rfl rfl (fun _ henv => rn_len henv Tryd.underlying22 rfl) ?_
  refine gA (v := .bool (decide (((n1 : Nat) : Int) > (60 : Int)))) rfl rfl rfl rfl (fun _ henv => rn_bin henv rfl rfl rfl) ?_
  intro a henv
  rw [show (decide (((n1 : Nat) : Int) > (60 : Int))) = true from (decide_eq_true (by omega))] at henv
  refine sv (v := .bool true) henv rfl (rn_pick henv rfl rfl) ?_
  clear henv a; intro a henv
  refine wpList_nil ?_
  refine th_n ?_
  refine if_t henv rfl (rfl) ?_
  refine wp_seq ?_
  refine region_seq ?_
  refine sv (v := .bool true) henv rfl (rn_assign henv rfl) ?_
  clear henv a; intro a henv
  refine wpList_nil ?_
  refine th_n ?_
  refine wp_ret ?_
  refine th_r ?_
  refine leave henv (res1 Tryd.results9 (RV.tmp henv rfl)) ?_
  exact ⟨rfl, hst.below⟩
set_option maxRecDepth 100000 in
set_option maxHeartbeats 8000000 in
theorem laid_bad {A0 A1 : Option Addr} {n0 c0 n1 c1 : Nat} {es0 es1 : List Int} {k1 k2 : Int} {w0 : World} (h0 : (pfRow fI FI 1 A0 n0 c0 es0).P w0) (hI0 : I64 es0) (h1 : (pfRow fI FI 1 A1 n1 c1 es1).P w0) (hI1 : I64 es1) (hw0 : n0 ≤ 60) (hw1 : n1 ≤ 60) (hn : ¬ RP (n0 : Nat) (n1 : Nat) k1 k2) :
    Calls Tryd.prog 9 #[.slice A0 n0 c0, .slice A1 n1 c1, .int .i64 k1, .int .i64 k2] w0 fun e w' => e = .returned (.bool true) ∧ Below w0.heap.size w0 w' := by
  have hn2 := hn
  unfold RP at hn2
  refine enter Tryd.func9 rfl Tryd.ntmps9 rfl ?_
  intro a henv hst
  have hlen0 := h0.2.1
  have hbig0 := Nat.le_trans h0.1.cap h0.1.big
  unfold maxLen at hbig0
  replace hst := hst.argRow h0
  clear h0
  have hlen1 := h1.2.1
  have hbig1 := Nat.le_trans h1.1.cap h1.1.big
  unfold maxLen at hbig1
  replace hst := hst.argRow h1
  clear h1
  have hx0 := i64_zk hI0
  have hx1 := i64_zk hI1
  refine wp_seq ?_
  refine region_seq ?_
  refine sv (v := .bool false) henv rfl (rn_assign henv rfl) ?_
  clear henv a; intro a henv
  refine wpList_nil ?_
  refine th_n ?_
  refine wp_seq ?_
  refine wp_seq ?_
  refine region_seq ?_
  refine seq_step rfl (op_call henv rfl Tryd.call10 rfl l_works ?_)
  rintro e w51 ⟨rfl, hb⟩
  refine ⟨_, rfl, ?_⟩
  clear henv a; intro a henv
  replace hst := hst.call hb
  clear hb
  refine sv (v := .bool false) henv rfl (rn_un henv rfl rfl) ?_
  clear henv a; intro a henv
  refine wpList_nil ?_
  refine th_n ?_
  refine if_f henv rfl (rfl) ?_
  refine wp_skip ?_
  refine th_n ?_
  refine wp_seq ?_
  refine wp_seq ?_
  refine region_seq ?_
  revert a
  refine mA rfl rfl ?_
  refine sA (v := .int .i64 (n0 : Nat)) rfl (fun _ henv => rn_len henv Tryd.underlying22 rfl) ?_
  refine sA (v := .bool (decide (((n0 : Nat) : Int) > (60 : Int)))) rfl (fun _ henv => rn_bin henv rfl rfl rfl) ?_
  intro a henv
  rw [show (decide (((n0 : Nat) : Int) > (60 : Int))) = false from (decide_eq_false (by omega))] at henv
  revert a
  refine mA rfl rfl ?_
  refine gA (v := .slice A1 n1 c1) rfl rfl rfl rfl (fun _ henv => rn_move henv rfl) ?_
  refine gA (v := .int .i64 (n1 : Nat)) rfl rfl rfl rfl (fun _ henv => rn_len henv Tryd.underlying22 rfl) ?_
  refine gA (v := .bool (decide (((n1 : Nat) : Int) > (60 : Int)))) rfl rfl rfl rfl (fun _ henv => rn_bin henv rfl rfl rfl) ?_
  intro a henv
  rw [show (decide (((n1 : Nat) : Int) > (60 : Int))) = false from (decide_eq_false (by omega))] at henv
  refine sv (v := .bool false) henv rfl (rn_pick henv rfl rfl) ?_
  clear henv a; intro a henv
  refine wpList_nil ?_
  refine th_n ?_
  refine if_f henv rfl (rfl) ?_
  refine wp_skip ?_
  refine th_n ?_
  refine wp_seq ?_
  refine region_seq ?_
  refine sv (v := .slice A0 n0 c0) henv rfl (rn_move henv rfl) ?_
  clear henv a; intro a henv
  refine seq_step rfl (op_call henv rfl Tryd.call11 rfl (l_list (hst.pat (k := 1) rfl) hI0 (by omega)) ?_)
  rintro e w57 ⟨_, rfl, ⟨A52, c53, es54, rfl, hr, hl55, hz56⟩, hb⟩
  refine ⟨_, rfl, ?_⟩
  clear henv a; intro a henv
  replace hst := hst.freshRd hb hr hl55 (ap_N hr.2.1 trivial)
  clear hr
  clear hb
  refine sv (v := .slice A1 n1 c1) henv rfl (rn_move henv rfl) ?_
  clear henv a; intro a henv
  refine seq_step rfl (op_call henv rfl Tryd.call11 rfl (l_list (hst.pat (k := 1) rfl) hI1 (by omega)) ?_)
  rintro e w63 ⟨_, rfl, ⟨A58, c59, es60, rfl, hr, hl61, hz62⟩, hb⟩
  refine ⟨_, rfl, ?_⟩
  clear henv a; intro a henv
  replace hst := hst.freshRd hb hr hl61 (ap_N hr.2.1 trivial)
  clear hr
  clear hb
  revert a
  refine aA rfl rfl ?_
  refine aA rfl rfl ?_
  intro a henv
  refine wpList_nil ?_
  refine th_n ?_
  refine wp_seq ?_
  refine region_seq ?_
  revert a
  refine mA rfl rfl ?_
  refine sA (v := .int .i64 (n0 : Nat)) rfl (fun _ henv => rn_len henv Tryd.underlying22 rfl) ?_
  refine mA rfl rfl ?_
  refine sA (v := .int .i64 (n1 : Nat)) rfl (fun _ henv => rn_len henv Tryd.underlying22 rfl) ?_
  refine mA rfl rfl ?_
  refine mA rfl rfl ?_
  intro a henv
  refine seq_step rfl (op_call henv rfl Tryd.call20 rfl (sp_block_bad (n1 := (n0 : Nat)) (n2 := (n1 : Nat)) (k1 := k1) (k2 := k2) hn) ?_)
  rintro e w64 ⟨rfl, hb⟩
  refine ⟨_, rfl, ?_⟩
  clear henv a; intro a henv
  replace hst := hst.call hb
  clear hb
  revert a
  refine mA rfl rfl ?_
  refine sA (v := .int .i64 0) rfl (fun _ henv => rn_extract henv rfl rfl) ?_
  refine sA (v := .int .i64 2) rfl (fun _ henv => rn_extract henv rfl rfl) ?_
  refine aA rfl rfl ?_
  refine aA rfl rfl ?_
  intro a henv
  refine wpList_nil ?_
  refine th_n ?_
  refine wp_seq ?_
  refine wp_seq ?_
  refine region_seq ?_
  revert a
  refine mA rfl rfl ?_
  refine sA (v := .bool true) rfl (fun _ henv => rn_bin henv rfl rfl rfl) ?_
  refine mA rfl rfl ?_
  refine kA rfl rfl rfl rfl rfl ?_
  refine kA rfl rfl rfl rfl rfl ?_
  refine sA (v := .bool true) rfl (fun _ henv => rn_pick henv rfl rfl) ?_
  intro a henv
  refine wpList_nil ?_
  refine th_n ?_
  refine if_t henv rfl (rfl) ?_
  refine wp_seq ?_
  refine region_seq ?_
  revert a
  refine mA rfl rfl ?_
  refine sA (v := .bool false) rfl (fun _ henv => rn_bin henv rfl rfl rfl) ?_
  refine mA rfl rfl ?_
  refine gA (v := .int .i64 k1) rfl rfl rfl rfl (fun _ henv => rn_move henv rfl) ?_
  refine gA (v := .bool (decide (k1 < (1 : Int)))) rfl rfl rfl rfl (fun _ henv => rn_bin henv rfl rfl rfl) ?_
  refine sA (v := .bool (decide (k1 < (1 : Int)))) rfl (fun _ henv => rn_pick henv rfl rfl) ?_
  refine mA rfl rfl ?_
  intro a henv
  rcases bool_em (decide (k1 < (1 : Int))) with hg65 | hg65
  · rw [hg65] at henv
    have hx66 := of_decide_eq_true hg65
    revert a
    refine kA rfl rfl rfl rfl rfl ?_
    refine kA rfl rfl rfl rfl rfl ?_
    refine sA (v := .bool true) rfl (fun _ henv => rn_pick henv rfl rfl) ?_
    refine mA rfl rfl ?_
    refine kA rfl rfl rfl rfl rfl ?_
    refine kA rfl rfl rfl rfl rfl ?_
    refine sA (v := .bool true) rfl (fun _ henv => rn_pick henv rfl rfl) ?_
    refine mA rfl rfl ?_
    refine kA rfl rfl rfl rfl rfl ?_
    refine kA rfl rfl rfl rfl rfl ?_
    refine sA (v := .bool true) rfl (fun _ henv => rn_pick henv rfl rfl) ?_
    refine aA rfl rfl ?_
    intro a henv
    refine wpList_nil ?_
    refine th_n ?_
    refine wp_ret ?_
    refine th_r ?_
    refine leave henv (res1 Tryd.results9 (RV.tmp henv rfl)) ?_
    exact ⟨rfl, hst.below⟩
  · rw [hg65] at henv
    have hx67 := of_decide_eq_false hg65
    revert a
    refine gA (v := .int .i64 k2) rfl rfl rfl rfl (fun _ henv => rn_move henv rfl) ?_
    refine gA (v := .bool (decide (k2 < (1 : Int)))) rfl rfl rfl rfl (fun _ henv => rn_bin henv rfl rfl rfl) ?_
    refine sA (v := .bool (decide (k2 < (1 : Int)))) rfl (fun _ henv => rn_pick henv rfl rfl) ?_
    refine mA rfl rfl ?_
    intro a henv
    rcases bool_em (decide (k2 < (1 : Int))) with hg68 | hg68
    · rw [hg68] at henv
      have hx69 := of_decide_eq_true hg68
      revert a
      refine kA rfl rfl rfl rfl rfl ?_
      refine kA rfl rfl rfl rfl rfl ?_
      refine sA (v := .bool true) rfl (fun _ henv => rn_pick henv rfl rfl) ?_
      refine mA rfl rfl ?_
      refine kA rfl rfl rfl rfl rfl ?_
      refine kA rfl rfl rfl rfl rfl ?_
      refine sA (v := .bool true) rfl (fun _ henv => rn_pick henv rfl rfl) ?_
      refine aA rfl rfl ?_
      intro a henv
      refine wpList_nil ?_
      refine th_n ?_
      refine wp_ret ?_
      refine th_r ?_
      refine leave henv (res1 Tryd.results9 (RV.tmp henv rfl)) ?_
      exact ⟨rfl, hst.below⟩
    · rw [hg68] at henv
      have hx70 := of_decide_eq_false hg68
      revert a
      refine gA (v := .int .i64 k1) rfl rfl rfl rfl (fun _ henv => rn_move henv rfl) ?_
      refine gA (v := .bool (decide (k1 > (8 : Int)))) rfl rfl rfl rfl (fun _ henv => rn_bin henv rfl rfl rfl) ?_
      refine sA (v := .bool (decide (k1 > (8 : Int)))) rfl (fun _ henv => rn_pick henv rfl rfl) ?_
      refine mA rfl rfl ?_
      intro a henv
      rcases bool_em (decide (k1 > (8 : Int))) with hg71 | hg71
      · rw [hg71] at henv
        have hx72 := of_decide_eq_true hg71
        revert a
        refine kA rfl rfl rfl rfl rfl ?_
        refine kA rfl rfl rfl rfl rfl ?_
        refine sA (v := .bool true) rfl (fun _ henv => rn_pick henv rfl rfl) ?_
        refine aA rfl rfl ?_
        intro a henv
        refine wpList_nil ?_
        refine th_n ?_
        refine wp_ret ?_
        refine th_r ?_
        refine leave henv (res1 Tryd.results9 (RV.tmp henv rfl)) ?_
        exact ⟨rfl, hst.below⟩
      · rw [hg71] at henv
        have hx73 := of_decide_eq_false hg71
        revert a
        refine gA (v := .int .i64 k2) rfl rfl rfl rfl (fun _ henv => rn_move henv rfl) ?_
        refine gA (v := .bool (decide (k2 > (8 : Int)))) rfl rfl rfl rfl (fun _ henv => rn_bin henv rfl rfl rfl) ?_
        refine sA (v := .bool (decide (k2 > (8 : Int)))) rfl (fun _ henv => rn_pick henv rfl rfl) ?_
        refine aA rfl rfl ?_
        intro a henv
        refine wpList_nil ?_
        refine th_n ?_
        refine wp_ret ?_
        refine th_r ?_
        refine leave henv (res1 Tryd.results9 (RV.tmp henv rfl)) ?_
        exact ⟨congrArg (fun b => Ending.returned (Value.bool b)) (decide_eq_true (by omega)), hst.below⟩
set_option maxRecDepth 100000 in
set_option maxHeartbeats 8000000 in
theorem laid_empty {A0 A1 : Option Addr} {n0 c0 n1 c1 : Nat} {es0 es1 : List Int} {k1 k2 : Nat} {w0 : World} (h0 : (pfRow fI FI 1 A0 n0 c0 es0).P w0) (hI0 : I64 es0) (h1 : (pfRow fI FI 1 A1 n1 c1 es1).P w0) (hI1 : I64 es1) (_hw0 : n0 ≤ 60) (_hw1 : n1 ≤ 60) (g1 : 1 ≤ k1) (g2 : 1 ≤ k2) (f1 : k1 ≤ 8) (f2 : k2 ≤ 8) (h00 : n0 = 0) (h10 : n1 = 0) :
    Calls Tryd.prog 9 #[.slice A0 n0 c0, .slice A1 n1 c1, .int .i64 (k1 : Nat), .int .i64 (k2 : Nat)] w0 fun e w' => e = .returned (.bool true) ∧ Below w0.heap.size w0 w' := by
  have hb0 := blk_zero (k1 := k1) (k2 := k2) g1 g2 h00 h10
  refine enter Tryd.func9 rfl Tryd.ntmps9 rfl ?_
  intro a henv hst
  have hlen0 := h0.2.1
  have hbig0 := Nat.le_trans h0.1.cap h0.1.big
  unfold maxLen at hbig0
  replace hst := hst.argRow h0
  clear h0
  have hlen1 := h1.2.1
  have hbig1 := Nat.le_trans h1.1.cap h1.1.big
  unfold maxLen at hbig1
  replace hst := hst.argRow h1
  clear h1
  have hx0 := i64_zk hI0
  have hx1 := i64_zk hI1
  refine wp_seq ?_
  refine region_seq ?_
  refine sv (v := .bool false) henv rfl (rn_assign henv rfl) ?_
  clear henv a; intro a henv
  refine wpList_nil ?_
  refine th_n ?_
  refine wp_seq ?_
  refine wp_seq ?_
  refine region_seq ?_
  refine seq_step rfl (op_call henv rfl Tryd.call10 rfl l_works ?_)
  rintro e w51 ⟨rfl, hb⟩
  refine ⟨_, rfl, ?_⟩
  clear henv a; intro a henv
  replace hst := hst.call hb
  clear hb
  refine sv (v := .bool false) henv rfl (rn_un henv rfl rfl) ?_
  clear henv a; intro a henv
  refine wpList_nil ?_
  refine th_n ?_
  refine if_f henv rfl (rfl) ?_
  refine wp_skip ?_
  refine th_n ?_
  refine wp_seq ?_
  refine wp_seq ?_
  refine region_seq ?_
  revert a
  refine mA rfl rfl ?_
  refine sA (v := .int .i64 (n0 : Nat)) rfl (fun _ henv => rn_len henv Tryd.underlying22 rfl) ?_
  refine sA (v := .bool (decide (((n0 : Nat) : Int) > (60 : Int)))) rfl (fun _ henv => rn_bin henv rfl rfl rfl) ?_
  intro a henv
  rw [show (decide (((n0 : Nat) : Int) > (60 : Int))) = false from (decide_eq_false (by omega))] at henv
  revert a
  refine mA rfl rfl ?_
  refine gA (v := .slice A1 n1 c1) rfl rfl rfl rfl (fun _ henv => rn_move henv rfl) ?_
  refine gA (v := .int .i64 (n1 : Nat)) rfl rfl rfl rfl (fun _ henv => rn_len henv Tryd.underlying22 rfl) ?_
  refine gA (v := .bool (decide (((n1 : Nat) : Int) > (60 : Int)))) rfl rfl rfl rfl (fun _ henv => rn_bin henv rfl rfl rfl) ?_
  intro a henv
  rw [show (decide (((n1 : Nat) : Int) > (60 : Int))) = false from (decide_eq_false (by omega))] at henv
  refine sv (v := .bool false) henv rfl (rn_pick henv rfl rfl) ?_
  clear henv a; intro a henv
  refine wpList_nil ?_
  refine th_n ?_
  refine if_f henv rfl (rfl) ?_
  refine wp_skip ?_
  refine th_n ?_
  refine wp_seq ?_
  refine region_seq ?_
  refine sv (v := .slice A0 n0 c0) henv rfl (rn_move henv rfl) ?_
  clear henv a; intro a henv
  refine seq_step rfl (op_call henv rfl Tryd.call11 rfl (l_list (hst.pat (k := 1) rfl) hI0 (by omega)) ?_)
  rintro e w57 ⟨_, rfl, ⟨A52, c53, es54, rfl, hr, hl55, hz56⟩, hb⟩
  refine ⟨_, rfl, ?_⟩
  clear henv a; intro a henv
  replace hst := hst.freshRd hb hr hl55 (ap_N hr.2.1 trivial)
  clear hr
  clear hb
  refine sv (v := .slice A1 n1 c1) henv rfl (rn_move henv rfl) ?_
  clear henv a; intro a henv
  refine seq_step rfl (op_call henv rfl Tryd.call11 rfl (l_list (hst.pat (k := 1) rfl) hI1 (by omega)) ?_)
  rintro e w63 ⟨_, rfl, ⟨A58, c59, es60, rfl, hr, hl61, hz62⟩, hb⟩
  refine ⟨_, rfl, ?_⟩
  clear henv a; intro a henv
  replace hst := hst.freshRd hb hr hl61 (ap_N hr.2.1 trivial)
  clear hr
  clear hb
  revert a
  refine aA rfl rfl ?_
  refine aA rfl rfl ?_
  intro a henv
  refine wpList_nil ?_
  refine th_n ?_
  refine wp_seq ?_
  refine region_seq ?_
  revert a
  refine mA rfl rfl ?_
  refine sA (v := .int .i64 (n0 : Nat)) rfl (fun _ henv => rn_len henv Tryd.underlying22 rfl) ?_
  refine mA rfl rfl ?_
  refine sA (v := .int .i64 (n1 : Nat)) rfl (fun _ henv => rn_len henv Tryd.underlying22 rfl) ?_
  refine mA rfl rfl ?_
  refine mA rfl rfl ?_
  intro a henv
  refine seq_step rfl (op_call henv rfl Tryd.call20 rfl (sp_block_m (m := 0) (n1 := n0) (n2 := n1) (k1 := k1) (k2 := k2) (by omega) (by omega) g1 g2 f1 f2 hb0) ?_)
  rintro e w64 ⟨rfl, hb⟩
  refine ⟨_, rfl, ?_⟩
  clear henv a; intro a henv
  replace hst := hst.call hb
  clear hb
  revert a
  refine mA rfl rfl ?_
  refine sA (v := .int .i64 0) rfl (fun _ henv => rn_extract henv rfl rfl) ?_
  refine sA (v := .int .i64 0) rfl (fun _ henv => rn_extract henv rfl rfl) ?_
  refine aA rfl rfl ?_
  refine aA rfl rfl ?_
  intro a henv
  refine wpList_nil ?_
  refine th_n ?_
  refine wp_seq ?_
  refine wp_seq ?_
  refine region_seq ?_
  revert a
  refine mA rfl rfl ?_
  refine sA (v := .bool false) rfl (fun _ henv => rn_bin henv rfl rfl rfl) ?_
  refine mA rfl rfl ?_
  refine gA (v := .int .i64 0) rfl rfl rfl rfl (fun _ henv => rn_move henv rfl) ?_
  refine gA (v := .bool true) rfl rfl rfl rfl (fun _ henv => rn_bin henv rfl rfl rfl) ?_
  refine sA (v := .bool true) rfl (fun _ henv => rn_pick henv rfl rfl) ?_
  intro a henv
  refine wpList_nil ?_
  refine th_n ?_
  refine if_t henv rfl (rfl) ?_
  refine wp_seq ?_
  refine region_seq ?_
  revert a
  refine mA rfl rfl ?_
  refine sA (v := .bool true) rfl (fun _ henv => rn_bin henv rfl rfl rfl) ?_
  refine mA rfl rfl ?_
  refine kA rfl rfl rfl rfl rfl ?_
  refine kA rfl rfl rfl rfl rfl ?_
  refine sA (v := .bool true) rfl (fun _ henv => rn_pick henv rfl rfl) ?_
  refine mA rfl rfl ?_
  refine kA rfl rfl rfl rfl rfl ?_
  refine kA rfl rfl rfl rfl rfl ?_
  refine sA (v := .bool true) rfl (fun _ henv => rn_pick henv rfl rfl) ?_
  refine mA rfl rfl ?_
  refine kA rfl rfl rfl rfl rfl ?_
  refine kA rfl rfl rfl rfl rfl ?_
  refine sA (v := .bool true) rfl (fun _ henv => rn_pick henv rfl rfl) ?_
  refine mA rfl rfl ?_
  refine kA rfl rfl rfl rfl rfl ?_
  refine kA rfl rfl rfl rfl rfl ?_
  refine sA (v := .bool true) rfl (fun _ henv => rn_pick henv rfl rfl) ?_
  refine aA rfl rfl ?_
  intro a henv
  refine wpList_nil ?_
  refine th_n ?_
  refine wp_ret ?_
  refine th_r ?_
  refine leave henv (res1 Tryd.results9 (RV.tmp henv rfl)) ?_
  exact ⟨rfl, hst.below⟩
set_option maxRecDepth 100000 in
set_option maxHeartbeats 8000000 in
theorem laid_ok {A0 A1 : Option Addr} {n0 c0 n1 c1 : Nat} {es0 es1 : List Int} {k1 k2 m : Nat} {w0 : World} (h0 : (pfRow fI FI 1 A0 n0 c0 es0).P w0) (hI0 : I64 es0) (h1 : (pfRow fI FI 1 A1 n1 c1 es1).P w0) (hI1 : I64 es1) (hw0 : n0 ≤ 60) (hw1 : n1 ≤ 60) (g1 : 1 ≤ k1) (g2 : 1 ≤ k2) (f1 : k1 ≤ 8) (f2 : k2 ≤ 8) (hmb : blkN n0 n1 k1 k2 = m) (hm1 : 1 ≤ m) (hm : m ≤ 60) (hx : n0 ≤ k1 * m) (hy : n1 ≤ k2 * m) :
    Calls Tryd.prog 9 #[.slice A0 n0 c0, .slice A1 n1 c1, .int .i64 (k1 : Nat), .int .i64 (k2 : Nat)] w0 fun e w' => e = .returned (.bool true) ∧ Below w0.heap.size w0 w' := by
  have hk1 : k1 * m ≤ 32768 := mul_le8 f1 (by omega)
  have hk2 : k2 * m ≤ 32768 := mul_le8 f2 (by omega)
  refine enter Tryd.func9 rfl Tryd.ntmps9 rfl ?_
  intro a henv hst
  have hlen0 := h0.2.1
  have hbig0 := Nat.le_trans h0.1.cap h0.1.big
  unfold maxLen at hbig0
  replace hst := hst.argRow h0
  clear h0
  have hlen1 := h1.2.1
  have hbig1 := Nat.le_trans h1.1.cap h1.1.big
  unfold maxLen at hbig1
  replace hst := hst.argRow h1
  clear h1
  have hx0 := i64_zk hI0
  have hx1 := i64_zk hI1
  have hj0 := join_parts hm1 hlen0 hx
  have hj1 := laid_join hm1 g1 g2 (hlen0 ▸ hx : es0.length ≤ k1 * m) (hlen1 ▸ hy : es1.length ≤ k2 * m)
  have hml : (mulF es0 es1).length ≤ 120 := Nat.le_trans (mulF_le es0 es1) (by omega)
  have hmz : Zk 65 (mulF es0 es1) := (mul_zc (m := 60) hx0.zc hx1.zc (by omega)).zk
  refine wp_seq ?_
  refine region_seq ?_
  refine sv (v := .bool false) henv rfl (rn_assign henv rfl) ?_
  clear henv a; intro a henv
  refine wpList_nil ?_
  refine th_n ?_
  refine wp_seq ?_
  refine wp_seq ?_
  refine region_seq ?_
  refine seq_step rfl (op_call henv rfl Tryd.call10 rfl l_works ?_)
  rintro e w51 ⟨rfl, hb⟩
  refine ⟨_, rfl, ?_⟩
  clear henv a; intro a henv
  replace hst := hst.call hb
  clear hb
  refine sv (v := .bool false) henv rfl (rn_un henv rfl rfl) ?_
  clear henv a; intro a henv
  refine wpList_nil ?_
  refine th_n ?_
  refine if_f henv rfl (rfl) ?_
  refine wp_skip ?_
  refine th_n ?_
  refine wp_seq ?_
  refine wp_seq ?_
  refine region_seq ?_
  revert a
  refine mA rfl rfl ?_
  refine sA (v := .int .i64 (n0 : Nat)) rfl (fun _ henv => rn_len henv Tryd.underlying22 rfl) ?_
  refine sA (v := .bool (decide (((n0 : Nat) : Int) > (60 : Int)))) rfl (fun _ henv => rn_bin henv rfl rfl rfl) ?_
  intro a henv
  rw [show (decide (((n0 : Nat) : Int) > (60 : Int))) = false from (decide_eq_false (by omega))] at henv
  revert a
  refine mA rfl rfl ?_
  refine gA (v := .slice A1 n1 c1) rfl rfl rfl rfl (fun _ henv => rn_move henv rfl) ?_
  refine gA (v := .int .i64 (n1 : Nat)) rfl rfl rfl rfl (fun _ henv => rn_len henv Tryd.underlying22 rfl) ?_
  refine gA (v := .bool (decide (((n1 : Nat) : Int) > (60 : Int)))) rfl rfl rfl rfl (fun _ henv => rn_bin henv rfl rfl rfl) ?_
  intro a henv
  rw [show (decide (((n1 : Nat) : Int) > (60 : Int))) = false from (decide_eq_false (by omega))] at henv
  refine sv (v := .bool false) henv rfl (rn_pick henv rfl rfl) ?_
  clear henv a; intro a henv
  refine wpList_nil ?_
  refine th_n ?_
  refine if_f henv rfl (rfl) ?_
  refine wp_skip ?_
  refine th_n ?_
  refine wp_seq ?_
  refine region_seq ?_
  refine sv (v := .slice A0 n0 c0) henv rfl (rn_move henv rfl) ?_
  clear henv a; intro a henv
  refine seq_step rfl (op_call henv rfl Tryd.call11 rfl (l_list (hst.pat (k := 1) rfl) hI0 (by omega)) ?_)
  rintro e w57 ⟨_, rfl, ⟨A52, c53, es54, rfl, hr, hl55, hz56⟩, hb⟩
  refine ⟨_, rfl, ?_⟩
  clear henv a; intro a henv
  replace hst := hst.freshRd hb hr hl55 (ap_N hr.2.1 trivial)
  clear hr
  clear hb
  refine sv (v := .slice A1 n1 c1) henv rfl (rn_move henv rfl) ?_
  clear henv a; intro a henv
  refine seq_step rfl (op_call henv rfl Tryd.call11 rfl (l_list (hst.pat (k := 1) rfl) hI1 (by omega)) ?_)
  rintro e w63 ⟨_, rfl, ⟨A58, c59, es60, rfl, hr, hl61, hz62⟩, hb⟩
  refine ⟨_, rfl, ?_⟩
  clear henv a; intro a henv
  replace hst := hst.freshRd hb hr hl61 (ap_N hr.2.1 trivial)
  clear hr
  clear hb
  revert a
  refine aA rfl rfl ?_
  refine aA rfl rfl ?_
  intro a henv
  refine wpList_nil ?_
  refine th_n ?_
  refine wp_seq ?_
  refine region_seq ?_
  revert a
  refine mA rfl rfl ?_
  refine sA (v := .int .i64 (n0 : Nat)) rfl (fun _ henv => rn_len henv Tryd.underlying22 rfl) ?_
  refine mA rfl rfl ?_
  refine sA (v := .int .i64 (n1 : Nat)) rfl (fun _ henv => rn_len henv Tryd.underlying22 rfl) ?_
  refine mA rfl rfl ?_
  refine mA rfl rfl ?_
  intro a henv
  refine seq_step rfl (op_call henv rfl Tryd.call20 rfl (sp_block_m (m := m) (n1 := n0) (n2 := n1) (k1 := k1) (k2 := k2) (by omega) (by omega) g1 g2 f1 f2 hmb) ?_)
  rintro e w64 ⟨rfl, hb⟩
  refine ⟨_, rfl, ?_⟩
  clear henv a; intro a henv
  replace hst := hst.call hb
  clear hb
  revert a
  refine mA rfl rfl ?_
  refine sA (v := .int .i64 (m : Nat)) rfl (fun _ henv => rn_extract henv rfl rfl) ?_
  refine sA (v := .int .i64 0) rfl (fun _ henv => rn_extract henv rfl rfl) ?_
  refine aA rfl rfl ?_
  refine aA rfl rfl ?_
  intro a henv
  refine wpList_nil ?_
  refine th_n ?_
  refine wp_seq ?_
  refine wp_seq ?_
  refine region_seq ?_
  revert a
  refine mA rfl rfl ?_
  refine sA (v := .bool false) rfl (fun _ henv => rn_bin henv rfl rfl rfl) ?_
  refine mA rfl rfl ?_
  refine gA (v := .int .i64 (m : Nat)) rfl rfl rfl rfl (fun _ henv => rn_move henv rfl) ?_
  refine gA (v := .bool (decide (((m : Nat) : Int) < (1 : Int)))) rfl rfl rfl rfl (fun _ henv => rn_bin henv rfl rfl rfl) ?_
  intro a henv
  rw [show (decide (((m : Nat) : Int) < (1 : Int))) = false from (decide_eq_false (by omega))] at henv
  refine sv (v := .bool false) henv rfl (rn_pick henv rfl rfl) ?_
  clear henv a; intro a henv
  refine wpList_nil ?_
  refine th_n ?_
  refine if_f henv rfl (rfl) ?_
  refine wp_skip ?_
  refine th_n ?_
  refine wp_seq ?_
  refine region_seq ?_
  revert a
  refine mA rfl rfl ?_
  refine mA rfl rfl ?_
  refine mA rfl rfl ?_
  intro a henv
  refine seq_step rfl (op_call henv rfl Tryd.call12 rfl (sp_parts (xs := es0) (k := k1) (m := m) (hst.pat (k := 1) rfl) hz56 (by omega) (by omega) (by omega) (by omega) (by omega) (by omega) (by omega)) ?_)
  rintro e w69 ⟨_, rfl, ⟨A65, c66, vs67, rfl, hp, hz68⟩, hb⟩
  refine ⟨_, rfl, ?_⟩
  clear henv a; intro a henv
  replace hst := (hst.call hb).argRow hp
  clear hp
  clear hb
  revert a
  refine mA rfl rfl ?_
  refine sA (v := .slice A65 k1 c66) rfl (fun _ henv => rn_extract henv rfl rfl) ?_
  refine sA (v := .int .i64 0) rfl (fun _ henv => rn_extract henv rfl rfl) ?_
  refine aA rfl rfl ?_
  refine aA rfl rfl ?_
  intro a henv
  refine wpList_nil ?_
  refine th_n ?_
  refine wp_seq ?_
  refine region_seq ?_
  revert a
  refine mA rfl rfl ?_
  refine mA rfl rfl ?_
  refine mA rfl rfl ?_
  intro a henv
  refine seq_step rfl (op_call henv rfl Tryd.call12 rfl (sp_parts (xs := es1) (k := k2) (m := m) (hst.pat (k := 1) rfl) hz62 (by omega) (by omega) (by omega) (by omega) (by omega) (by omega) (by omega)) ?_)
  rintro e w74 ⟨_, rfl, ⟨A70, c71, vs72, rfl, hp, hz73⟩, hb⟩
  refine ⟨_, rfl, ?_⟩
  clear henv a; intro a henv
  replace hst := (hst.call hb).argRow hp
  clear hp
  clear hb
  revert a
  refine mA rfl rfl ?_
  refine sA (v := .slice A70 k2 c71) rfl (fun _ henv => rn_extract henv rfl rfl) ?_
  refine sA (v := .int .i64 0) rfl (fun _ henv => rn_extract henv rfl rfl) ?_
  refine aA rfl rfl ?_
  refine aA rfl rfl ?_
  intro a henv
  refine wpList_nil ?_
  refine th_n ?_
  refine wp_seq ?_
  refine region_seq ?_
  revert a
  refine mA rfl rfl ?_
  refine mA rfl rfl ?_
  refine mA rfl rfl ?_
  refine sA (v := .int .i64 (n0 : Nat)) rfl (fun _ henv => rn_len henv Tryd.underlying24 rfl) ?_
  intro a henv
  refine seq_step rfl (op_call henv rfl Tryd.call18 rfl (sp_join_u (zs := es0) (zss := (pts es0 m k1)) (k := m) (m := n0) (hst.pat (k := 1) rfl) hz68 (rows_le (hst.pat (k := 1) rfl) hz68 (fun i => Nat.le_trans (pts_lens i) (by omega))) (rows_zk hz68 (pts_zc hx0) (by omega)) (by omega) (by omega) (by omega) (by omega) hj0.1 hj0.2) ?_)
  rintro e w79 ⟨_, rfl, ⟨A75, c76, es77, rfl, hp, hz78⟩, hb⟩
  refine ⟨_, rfl, ?_⟩
  clear henv a; intro a henv
  replace hst := (hst.call hb).argRow hp
  clear hp
  clear hb
  revert a
  refine mA rfl rfl ?_
  refine sA (v := .slice A75 n0 c76) rfl (fun _ henv => rn_extract henv rfl rfl) ?_
  refine sA (v := .int .i64 0) rfl (fun _ henv => rn_extract henv rfl rfl) ?_
  refine aA rfl rfl ?_
  refine aA rfl rfl ?_
  intro a henv
  refine wpList_nil ?_
  refine th_n ?_
  refine wp_seq ?_
  refine wp_seq ?_
  refine region_seq ?_
  revert a
  refine mA rfl rfl ?_
  refine sA (v := .bool false) rfl (fun _ henv => rn_bin henv rfl rfl rfl) ?_
  refine mA rfl rfl ?_
  refine gA (v := .int .i64 0) rfl rfl rfl rfl (fun _ henv => rn_move henv rfl) ?_
  refine gA (v := .bool false) rfl rfl rfl rfl (fun _ henv => rn_bin henv rfl rfl rfl) ?_
  refine sA (v := .bool false) rfl (fun _ henv => rn_pick henv rfl rfl) ?_
  refine mA rfl rfl ?_
  refine gA (v := .int .i64 0) rfl rfl rfl rfl (fun _ henv => rn_move henv rfl) ?_
  refine gA (v := .bool false) rfl rfl rfl rfl (fun _ henv => rn_bin henv rfl rfl rfl) ?_
  refine sA (v := .bool false) rfl (fun _ henv => rn_pick henv rfl rfl) ?_
  refine mA rfl rfl ?_
  refine gA (v := .slice A65 k1 c66) rfl rfl rfl rfl (fun _ henv => rn_move henv rfl) ?_
  refine gA (v := .int .i64 (k1 : Nat)) rfl rfl rfl rfl (fun _ henv => rn_len henv Tryd.underlying26 rfl) ?_
  refine gA (v := .int .i64 (k1 : Nat)) rfl rfl rfl rfl (fun _ henv => rn_move henv rfl) ?_
  refine gA (v := .bool (((k1 : Nat) : Int) != ((k1 : Nat) : Int))) rfl rfl rfl rfl (fun _ henv => rn_bin henv rfl rfl rfl) ?_
  intro a henv
  rw [show (((k1 : Nat) : Int) != ((k1 : Nat) : Int)) = false from (bne_self_eq_false _)] at henv
  revert a
  refine sA (v := .bool false) rfl (fun _ henv => rn_pick henv rfl rfl) ?_
  refine mA rfl rfl ?_
  refine gA (v := .slice A70 k2 c71) rfl rfl rfl rfl (fun _ henv => rn_move henv rfl) ?_
  refine gA (v := .int .i64 (k2 : Nat)) rfl rfl rfl rfl (fun _ henv => rn_len henv Tryd.underlying26 rfl) ?_
  refine gA (v := .int .i64 (k2 : Nat)) rfl rfl rfl rfl (fun _ henv => rn_move henv rfl) ?_
  refine gA (v := .bool (((k2 : Nat) : Int) != ((k2 : Nat) : Int))) rfl rfl rfl rfl (fun _ henv => rn_bin henv rfl rfl rfl) ?_
  intro a henv
  rw [show (((k2 : Nat) : Int) != ((k2 : Nat) : Int)) = false from (bne_self_eq_false _)] at henv
  revert a
  refine sA (v := .bool false) rfl (fun _ henv => rn_pick henv rfl rfl) ?_
  refine mA rfl rfl ?_
  refine gA (v := .slice A75 n0 c76) rfl rfl rfl rfl (fun _ henv => rn_move henv rfl) ?_
  refine gA (v := .slice A52 n0 c53) rfl rfl rfl rfl (fun _ henv => rn_move henv rfl) ?_
  intro a henv
  refine seq_g rfl henv rfl rfl (op_call henv rfl Tryd.call27 rfl (l_alike (xs := es0) (ys := es0) (hst.pat (k := 0) rfl) hz78 (hst.pat (k := 4) rfl) hz56 (hx0.mono (by omega)) (hx0.mono (by omega))) ?_)
  rintro e w80 ⟨rfl, hb⟩
  refine ⟨_, rfl, ?_⟩
  clear henv a; intro a henv
  replace hst := hst.call hb
  clear hb
  rw [show (decide (es0 = es0)) = true from (decide_eq_true rfl)] at henv
  revert a
  refine gA (v := .bool false) rfl rfl rfl rfl (fun _ henv => rn_un henv rfl rfl) ?_
  refine sA (v := .bool false) rfl (fun _ henv => rn_pick henv rfl rfl) ?_
  intro a henv
  refine wpList_nil ?_
  refine th_n ?_
  refine if_f henv rfl (rfl) ?_
  refine wp_skip ?_
  refine th_n ?_
  refine wp_seq ?_
  refine region_seq ?_
  revert a
  refine mA rfl rfl ?_
  refine mA rfl rfl ?_
  refine sA (v := .int .i64 (k1 + k2 : Nat)) rfl (fun _ henv => rn_add henv rfl rfl (by rw [IntWalk.i64_in _ (by omega)]; omega)) ?_
  refine sA (v := .int .i64 ((k1 + k2) - 1 : Nat)) rfl (fun _ henv => rn_sub henv rfl rfl (by rw [IntWalk.i64_in _ (by omega)]; omega)) ?_
  intro a henv
  refine seq_step rfl (op_makeS (f := fL) (e0 := (none, 0, 0, [])) (q := notU) (n := (k1 + k2) - 1) henv hst rfl Tryd.underlying26 inf__integer_Int rfl rfl rfl rfl rfl rfl (by omega) (by unfold maxLen; omega) ?_)
  clear henv hst a; intro a w82 g81 henv hst
  replace hst := hst.addL0 (k1 + k2 - 1)
  replace hst : St w0 _ [rowS notU 24 1 (some ⟨g81, 0, none⟩) ((k1 + k2) - 1) ((k1 + k2) - 1) (fl fL (List.replicate ((k1 + k2) - 1) (none, 0, 0, [])))] [pfEs FL (List.replicate ((k1 + k2) - 1) (none, 0, 0, [])), pfRow fN FN 2 A75 n0 c76 es77, pfRow fL FL 1 A70 k2 c71 vs72, pfRow fL FL 1 A65 k1 c66 vs67, pfRow fN FN 2 A58 n1 c59 es60, pfRow fN FN 2 A52 n0 c53 es54, pfRow fI FI 1 A1 n1 c1 es1, pfRow fI FI 1 A0 n0 c0 es0] := hst
  refine sv (v := .slice (some ⟨g81, 0, none⟩) ((k1 + k2) - 1) ((k1 + k2) - 1)) henv rfl (rn_assign henv rfl) ?_
  clear henv a; intro a henv
  refine wpList_nil ?_
  refine th_n ?_
  refine wp_seq ?_
  refine wp_seq ?_
  refine region_seq ?_
  revert a
  refine mA rfl rfl ?_
  refine sA (v := .int .i64 (k1 : Nat)) rfl (fun _ henv => rn_len henv Tryd.underlying26 rfl) ?_
  refine mA rfl rfl ?_
  intro a henv
  refine wpList_nil ?_
  refine th_n ?_
  refine wp_block ?_
  refine wp_loop_ghost (fun mz a w => ∃ i : Nat, ∃ os : List LE, k1 - i = mz ∧ Env 188 a [(9, .slice A52 n0 c53), (10, .slice A58 n1 c59), (11, .int .i64 (m : Nat)), (13, .slice A65 k1 c66), (15, .slice A70 k2 c71), (19, .slice (some ⟨g81, 0, none⟩) ((k1 + k2) - 1) ((k1 + k2) - 1)), (130, .slice A65 k1 c66), (131, .int .i64 (k1 : Nat)), (132, .int .i64 (i : Nat))] ∧ St w0 w [rowS notU 24 1 (some ⟨g81, 0, none⟩) (k1 + k2 - 1) (k1 + k2 - 1) (fl fL os)] [pfRow fN FN 2 A75 n0 c76 es77, pfRow fL FL 1 A70 k2 c71 vs72, pfRow fL FL 1 A65 k1 c66 vs67, pfRow fN FN 2 A58 n1 c59 es60, pfRow fN FN 2 A52 n0 c53 es54, pfRow fI FI 1 A1 n1 c1 es1, pfRow fI FI 1 A0 n0 c0 es0, pfEs FL os] ∧ i ≤ k1 ∧ os.map lz = (acI (pts es0 m k1) (pts es1 m k2) k2 (k1 + k2 - 1) i) ∧ (∀ v ∈ os, v.2.1 ≤ 120)) _ ⟨0, (List.replicate ((k1 + k2) - 1) (none, 0, 0, [])), rfl, henv.sub ⟨rfl, rfl, rfl, rfl, rfl, rfl, rfl, rfl, rfl, trivial⟩, hst.pick [0] [1, 2, 3, 4, 5, 6, 7, 0] (by decide), (Nat.zero_le _), (by rw [List.map_replicate]; rfl), (fun v hv => by rw [List.eq_of_mem_replicate hv]; exact Nat.zero_le _)⟩ ?_
  clear henv hst a
  rintro mz a w83 ⟨i, os, rfl, henv, hst, hi, ho, hol⟩
  refine wp_seq ?_
  refine region_seq ?_
  refine sv (v := .bool (decide (((i : Nat) : Int) < ((k1 : Nat) : Int)))) henv rfl (rn_bin henv rfl rfl rfl) ?_
  clear henv a; intro a henv
  refine wpList_nil ?_
  refine th_n ?_
  refine wp_seq ?_
  refine if_split henv rfl (fun hc84 => ?_) (fun hc84 => ?_)
  · have hlt0 : i < k1 := by have := of_decide_eq_true hc84; omega
    have hvl := (hst.pat (k := 2) rfl).2.1
    obtain ⟨⟨Aa, na, ca, ea⟩, hea⟩ : ∃ e, vs67[i]? = some e := ⟨_, List.getElem?_eq_getElem (by omega)⟩
    replace hst := hst.elem (k := 2) rfl hea
    replace hst : St w0 _ [rowS notU 24 1 (some ⟨g81, 0, none⟩) (k1 + k2 - 1) (k1 + k2 - 1) (fl fL os)] [pfRow fN FN 2 Aa na ca ea, pfRow fN FN 2 A75 n0 c76 es77, pfRow fL FL 1 A70 k2 c71 vs72, pfRow fL FL 1 A65 k1 c66 vs67, pfRow fN FN 2 A58 n1 c59 es60, pfRow fN FN 2 A52 n0 c53 es54, pfRow fI FI 1 A1 n1 c1 es1, pfRow fI FI 1 A0 n0 c0 es0, pfEs FL os] := hst
    have hlea := (hst.pat (k := 0) rfl).2.1
    have hpa : ea.map zz = (pts es0 m k1).getD i [] := lrow_at hz68 hea
    have hna : na = m := by rw [← hlea, ← List.length_map (f := zz), hpa, pts_at hlt0, partL_len]
    have hza : Zk 1000 (ea.map zz) := (hpa ▸ pts_zc hx0 i : Zc 2 (ea.map zz)).zk.mono (by omega)
    refine wp_skip ?_
    refine th_n ?_
    refine wp_seq ?_
    refine wp_block ?_
    refine wp_seq ?_
    refine region_seq ?_
    revert a
    refine mA rfl rfl ?_
    refine aA rfl rfl ?_
    intro a henv
    refine wpList_nil ?_
    refine th_n ?_
    refine wp_seq ?_
    refine region_seq ?_
    revert a
    refine mA rfl rfl ?_
    refine sA (v := .int .i64 (k2 : Nat)) rfl (fun _ henv => rn_len henv Tryd.underlying26 rfl) ?_
    refine mA rfl rfl ?_
    intro a henv
    refine wpList_nil ?_
    refine th_n ?_
    refine wp_block ?_
    refine wp_loop_ghost (fun mz a w => ∃ j : Nat, ∃ ps : List LE, k2 - j = mz ∧ Env 188 a [(9, .slice A52 n0 c53), (10, .slice A58 n1 c59), (11, .int .i64 (m : Nat)), (13, .slice A65 k1 c66), (15, .slice A70 k2 c71), (19, .slice (some ⟨g81, 0, none⟩) ((k1 + k2) - 1) ((k1 + k2) - 1)), (130, .slice A65 k1 c66), (131, .int .i64 (k1 : Nat)), (132, .int .i64 (i : Nat)), (20, .int .i64 (i : Nat)), (135, .slice A70 k2 c71), (136, .int .i64 (k2 : Nat)), (137, .int .i64 (j : Nat))] ∧ St w0 w [rowS notU 24 1 (some ⟨g81, 0, none⟩) (k1 + k2 - 1) (k1 + k2 - 1) (fl fL ps)] [pfRow fN FN 2 Aa na ca ea, pfRow fN FN 2 A75 n0 c76 es77, pfRow fL FL 1 A70 k2 c71 vs72, pfRow fL FL 1 A65 k1 c66 vs67, pfRow fN FN 2 A58 n1 c59 es60, pfRow fN FN 2 A52 n0 c53 es54, pfRow fI FI 1 A1 n1 c1 es1, pfRow fI FI 1 A0 n0 c0 es0, pfEs FL ps] ∧ j ≤ k2 ∧ ps.map lz = acJ ((pts es0 m k1).getD i []) (pts es1 m k2) i (acI (pts es0 m k1) (pts es1 m k2) k2 (k1 + k2 - 1) i) j ∧ (∀ v ∈ ps, v.2.1 ≤ 120)) _ ⟨0, os, rfl, henv.sub ⟨rfl, rfl, rfl, rfl, rfl, rfl, rfl, rfl, rfl, rfl, rfl, rfl, rfl, trivial⟩, hst.pick [0] [0, 1, 2, 3, 4, 5, 6, 7, 8] (by decide), (Nat.zero_le _), ho, hol⟩ ?_
    clear henv hst a
    rintro mz a w85 ⟨j, ps, rfl, henv, hst, hj, ho2, hol2⟩
    refine wp_seq ?_
    refine region_seq ?_
    refine sv (v := .bool (decide (((j : Nat) : Int) < ((k2 : Nat) : Int)))) henv rfl (rn_bin henv rfl rfl rfl) ?_
    clear henv a; intro a henv
    refine wpList_nil ?_
    refine th_n ?_
    refine wp_seq ?_
    refine if_split henv rfl (fun hc86 => ?_) (fun hc86 => ?_)
    · have hlt : j < k2 := by have := of_decide_eq_true hc86; omega
      have hul := (hst.pat (k := 2) rfl).2.1
      obtain ⟨⟨Ab, nb, cb, eb⟩, heb⟩ : ∃ e, vs72[j]? = some e := ⟨_, List.getElem?_eq_getElem (by omega)⟩
      replace hst := hst.elem (k := 2) rfl heb
      replace hst : St w0 _ [rowS notU 24 1 (some ⟨g81, 0, none⟩) (k1 + k2 - 1) (k1 + k2 - 1) (fl fL ps)] [pfRow fN FN 2 Ab nb cb eb, pfRow fN FN 2 Aa na ca ea, pfRow fN FN 2 A75 n0 c76 es77, pfRow fL FL 1 A70 k2 c71 vs72, pfRow fL FL 1 A65 k1 c66 vs67, pfRow fN FN 2 A58 n1 c59 es60, pfRow fN FN 2 A52 n0 c53 es54, pfRow fI FI 1 A1 n1 c1 es1, pfRow fI FI 1 A0 n0 c0 es0, pfEs FL ps] := hst
      have hleb := (hst.pat (k := 0) rfl).2.1
      have hpb : eb.map zz = (pts es1 m k2).getD j [] := lrow_at hz73 heb
      have hnb : nb = m := by rw [← hleb, ← List.length_map (f := zz), hpb, pts_at hlt, partL_len]
      have hzb : Zk 1000 (eb.map zz) := (hpb ▸ pts_zc hx1 j : Zc 2 (eb.map zz)).zk.mono (by omega)
      have hpl : ps.length = (k1 + k2 - 1) := by rw [← List.length_map (f := lz), ho2, acJ_len, acI_len]
      obtain ⟨⟨Ac, nc, cc, ec⟩, hec⟩ : ∃ e, ps[i + j]? = some e := ⟨_, List.getElem?_eq_getElem (by omega)⟩
      replace hst := hst.elemE (k := 9) rfl hec
      replace hst : St w0 _ [rowS notU 24 1 (some ⟨g81, 0, none⟩) (k1 + k2 - 1) (k1 + k2 - 1) (fl fL ps)] [pfRow fN FN 2 Ac nc cc ec, pfRow fN FN 2 Ab nb cb eb, pfRow fN FN 2 Aa na ca ea, pfRow fN FN 2 A75 n0 c76 es77, pfRow fL FL 1 A70 k2 c71 vs72, pfRow fL FL 1 A65 k1 c66 vs67, pfRow fN FN 2 A58 n1 c59 es60, pfRow fN FN 2 A52 n0 c53 es54, pfRow fI FI 1 A1 n1 c1 es1, pfRow fI FI 1 A0 n0 c0 es0, pfEs FL ps] := hst
      have hlec := (hst.pat (k := 0) rfl).2.1
      have hcl := hlec
      have hpc := lrow_at ho2 hec
      have hzc : Zk 1000 (ec.map zz) := (hpc ▸ laid_zc hx0 hx1 (by omega) (by omega) (by omega) (by omega) : Zc 200 (ec.map zz)).zk.mono (by omega)
      have hnc : nc ≤ 120 := hol2 _ (List.mem_of_getElem? hec)
      have hM : mlN (ea.map zz) (eb.map zz) (na + nb - 1) na = mulF ((pts es0 m k1).getD i []) ((pts es1 m k2).getD j []) := by rw [mulF_at (by rw [List.length_map, hlea]) (by rw [List.length_map, hleb]) (by omega) (by omega), hpa, hpb]
      have hMn := mlN_len (ea.map zz) (eb.map zz) (na + nb - 1) na
      have hzm : Zk 65 (mlN (ea.map zz) (eb.map zz) (na + nb - 1) na) := hM ▸ (mul_zc (m := 60) (pts_zc hx0 i) (pts_zc hx1 j) (Nat.le_trans (pts_lens i) (by omega))).zk
      refine wp_skip ?_
      refine th_n ?_
      refine wp_seq ?_
      refine wp_block ?_
      refine wp_seq ?_
      refine region_seq ?_
      revert a
      refine mA rfl rfl ?_
      refine aA rfl rfl ?_
      intro a henv
      refine wpList_nil ?_
      refine th_n ?_
      refine wp_seq ?_
      refine region_any (n := 14) (Sk [rowS notU 24 1 (some ⟨g81, 0, none⟩) (k1 + k2 - 1) (k1 + k2 - 1) (fl fL ps)] [pfRow fN FN 2 Ac nc cc ec, pfRow fN FN 2 Ab nb cb eb, pfRow fN FN 2 Aa na ca ea, pfRow fN FN 2 A75 n0 c76 es77, pfRow fL FL 1 A70 k2 c71 vs72, pfRow fL FL 1 A65 k1 c66 vs67, pfRow fN FN 2 A58 n1 c59 es60, pfRow fN FN 2 A52 n0 c53 es54, pfRow fI FI 1 A1 n1 c1 es1, pfRow fI FI 1 A0 n0 c0 es0, pfEs FL ps] [] []) mixed rfl henv hst ?_
      clear henv hst; intro w87 henv hst
      refine tM (i := 0) [2, 3, 8, 9, 10, 11, 12, 13] rfl (by kernel_rfl) (fun _ _ _ h => h) henv rfl rfl ?_
      clear henv a; intro a henv
      refine tM (i := 1) [2, 3, 8, 9, 10, 11, 12, 13] rfl (by kernel_rfl) (fun _ _ _ h => h) henv rfl rfl ?_
      clear henv a; intro a henv
      refine sAny_take (i := 2) [3, 8, 9, 10, 11, 12, 13] (fun w' => (pfRow fL FL 1 A65 k1 c66 vs67).P w') (v := .pointer (some ⟨ab A65, ao A65 + i * 1, none⟩)) rfl (by kernel_rfl) (fun _ _ _ h => h) (fun _ _ _ hS => hS.1.pat (k := 5) rfl) henv rfl (hst.pat (k := 5) rfl) (fun w' hg => rn_idxR (i := i) henv Tryd.underlying26 (ty__integer_Int.size) rfl rfl (by omega) rfl (show (pfRow fL FL 1 A65 k1 c66 vs67).P _ from hg).1) ?_
      clear henv a; intro a henv
      refine sAny_take (i := 3) [8, 9, 10, 11, 12, 13] (fun w' => (pfRow fL FL 1 A65 k1 c66 vs67).P w') (v := .slice Aa na ca) rfl (by kernel_rfl) (fun _ _ _ h => h) (fun _ _ _ hS => hS.1.pat (k := 5) rfl) henv rfl (hst.pat (k := 5) rfl) (fun w' hg => rn_loadE1 (i := i) (j := 0) (e := (Aa, na, ca, ea)) henv ty__integer_Int rfl rfl fL_len (by decide) (show (pfRow fL FL 1 A65 k1 c66 vs67).P _ from hg).1 (by omega) hea rfl) ?_
      clear henv a; intro a henv
      refine tM (i := 4) (rg 6 8) rfl (by kernel_rfl) (fun _ _ _ h => h) henv rfl rfl ?_
      clear henv a; intro a henv
      refine tM (i := 5) (rg 6 8) rfl (by kernel_rfl) (fun _ _ _ h => h) henv rfl rfl ?_
      clear henv a; intro a henv
      refine sAny_take (i := 6) [7, 8, 9, 10, 11, 12, 13] (fun w' => (pfRow fL FL 1 A70 k2 c71 vs72).P w') (v := .pointer (some ⟨ab A70, ao A70 + j * 1, none⟩)) rfl (by kernel_rfl) (fun _ _ _ h => h) (fun _ _ _ hS => hS.1.pat (k := 4) rfl) henv rfl (hst.pat (k := 4) rfl) (fun w' hg => rn_idxR (i := j) henv Tryd.underlying26 (ty__integer_Int.size) rfl rfl (by omega) rfl (show (pfRow fL FL 1 A70 k2 c71 vs72).P _ from hg).1) ?_
      clear henv a; intro a henv
      refine sAny_take (i := 7) [8, 9, 10, 11, 12, 13] (fun w' => (pfRow fL FL 1 A70 k2 c71 vs72).P w') (v := .slice Ab nb cb) rfl (by kernel_rfl) (fun _ _ _ h => h) (fun _ _ _ hS => hS.1.pat (k := 4) rfl) henv rfl (hst.pat (k := 4) rfl) (fun w' hg => rn_loadE1 (i := j) (j := 0) (e := (Ab, nb, cb, eb)) henv ty__integer_Int rfl rfl fL_len (by decide) (show (pfRow fL FL 1 A70 k2 c71 vs72).P _ from hg).1 (by omega) heb rfl) ?_
      clear henv a; intro a henv
      refine sAny_one (i := 8) (by kernel_rfl) rfl rfl (op_call henv rfl Tryd.call28 rfl (p_mul (xs := ea.map zz) (ys := eb.map zz) (hst.pat (k := 2) rfl) rfl (hst.pat (k := 1) rfl) rfl hza hzb (by omega) (by omega) (by omega) (by omega)) ?_)
      rintro e w93 ⟨_, rfl, ⟨A88, c89, es90, rfl, hr, hl91, hz92⟩, hb⟩
      refine ⟨_, rfl, ?_⟩
      clear henv a; intro a henv
      replace hst := hst.freshRd hb hr hl91 (ap_N hr.2.1 ⟨nou_rowS, trivial⟩)
      clear hr
      clear hb
      refine ⟨.inr ⟨hst.kn.pick [0] (rg 1 11), .inr (hst.kn.pick [] [])⟩, ?_⟩
      refine tM (i := 9) (rg 10 4) rfl (by kernel_rfl) (fun _ _ _ h => h) henv rfl rfl ?_
      clear henv a; intro a henv
      refine tA (i := 10) [12, 13] (v := .slice A88 (na + nb - 1) c89) rfl (by kernel_rfl) (fun _ _ _ h => h) henv rfl (fun _ => rn_extract henv rfl rfl) ?_
      clear henv a; intro a henv
      refine tA (i := 11) [13] (v := .int .i64 (na * nb : Nat)) rfl (by kernel_rfl) (fun _ _ _ h => h) henv rfl (fun _ => rn_extract henv rfl rfl) ?_
      clear henv a; intro a henv
      refine tA (i := 12) [13] (v := .slice A88 (na + nb - 1) c89) rfl (by kernel_rfl) (fun _ _ _ h => h) henv rfl (fun _ => rn_assign henv rfl) ?_
      clear henv a; intro a henv
      refine tA (i := 13) [] (v := .int .i64 (na * nb : Nat)) rfl (by kernel_rfl) (fun _ _ _ h => h) henv rfl (fun _ => rn_assign henv rfl) ?_
      clear henv a; intro a henv
      refine sAny_done (by kernel_rfl) ?_ _
      refine th_n ?_
      refine region_seq ?_
      revert a
      refine mA rfl rfl ?_
      refine mA rfl rfl ?_
      refine mA rfl rfl ?_
      refine sA (v := .int .i64 (i + j : Nat)) rfl (fun _ henv => rn_add henv rfl rfl (by rw [IntWalk.i64_in _ (by omega)]; omega)) ?_
      refine mA rfl rfl ?_
      refine mA rfl rfl ?_
      refine mA rfl rfl ?_
      refine sA (v := .int .i64 (i + j : Nat)) rfl (fun _ henv => rn_add henv rfl rfl (by rw [IntWalk.i64_in _ (by omega)]; omega)) ?_
      refine sA (v := .pointer (some ⟨ab (some ⟨g81, 0, none⟩), ao (some ⟨g81, 0, none⟩) + (i + j) * 1, none⟩)) rfl (fun _ henv => rn_idxR (i := i + j) henv Tryd.underlying26 (ty__integer_Int.size) rfl rfl (by omega) rfl (rowS_rd (hst.owns (k := 0) rfl))) ?_
      refine sA (v := .slice Ac nc cc) rfl (fun _ henv => rn_loadE1 (i := i + j) (j := 0) (e := (Ac, nc, cc, ec)) henv ty__integer_Int rfl rfl fL_len (by decide) (rowS_rd (hst.owns (k := 0) rfl)) (by omega) hec rfl) ?_
      refine mA rfl rfl ?_
      intro a henv
      refine seq_step rfl (op_call henv rfl Tryd.call29 rfl (p_add (xs := ec.map zz) (ys := (mlN (ea.map zz) (eb.map zz) (na + nb - 1) na)) (hst.pat (k := 1) rfl) rfl (hst.pat (k := 0) rfl) hz92 hzc (hzm.mono (by omega)) (by omega) (by omega)) ?_)
      rintro e w99 ⟨_, rfl, ⟨A94, c95, es96, rfl, hr, hl97, hz98⟩, hb⟩
      refine ⟨_, rfl, ?_⟩
      clear henv a; intro a henv
      replace hst := hst.freshRd hb hr hl97 (ap_N hr.2.1 ⟨nou_rowS, trivial⟩)
      clear hr
      clear hb
      refine sv (v := .pointer (some ⟨ab (some ⟨g81, 0, none⟩), ao (some ⟨g81, 0, none⟩) + (i + j) * 1, none⟩)) henv rfl (rn_idxR (i := i + j) henv Tryd.underlying26 (ty__integer_Int.size) rfl rfl (by omega) rfl (rowS_rd (hst.owns (k := 0) rfl))) ?_
      clear henv a; intro a henv
      refine seq_step rfl (op_storeW1 (f := fL) (i := i + j) (e := ((A94 : Option Addr), (max nc (na + nb - 1)), c95, es96)) (k := 0) henv hst (ty__integer_Int.size) rfl rfl rfl rfl fL_len (by omega) hpl rfl rfl rfl ?_)
      clear henv hst a; intro a w100 henv hst
      replace hst := hst.setEs (e := ((A94 : Option Addr), (max nc (na + nb - 1)), c95, es96)) (i := 12) (j := 0) rfl rfl (i + j)
      refine wpList_nil ?_
      refine bl_n (th_n ?_)
      refine region_seq ?_
      revert a
      refine sA (v := .int .i64 (j + 1 : Nat)) rfl (fun _ henv => rn_add henv rfl rfl (by rw [IntWalk.i64_in _ (by omega)]; omega)) ?_
      refine mA rfl rfl ?_
      intro a henv
      refine wpList_nil ?_
      exact th_n ⟨_, (by omega), ⟨j + 1, (ps.set (i + j) ((A94 : Option Addr), (max nc (na + nb - 1)), c95, es96)), rfl, henv.sub ⟨rfl, rfl, rfl, rfl, rfl, rfl, rfl, rfl, rfl, rfl, rfl, rfl, rfl, trivial⟩, hst.pick [0] [5, 6, 7, 8, 9, 10, 11, 12, 0] (by decide), (by omega), (ac_step ho2 hec hcl hM hMn hz98), (le_setL hol2 (by show max nc (na + nb - 1) ≤ 120; omega))⟩⟩
    · obtain rfl : k2 = j := by have := of_decide_eq_false hc86; omega
      refine wp_exit ?_
      refine th_x (th_x (bl_x (bl_n (th_n ?_))))
      refine region_seq ?_
      revert a
      refine sA (v := .int .i64 (i + 1 : Nat)) rfl (fun _ henv => rn_add henv rfl rfl (by rw [IntWalk.i64_in _ (by omega)]; omega)) ?_
      refine mA rfl rfl ?_
      intro a henv
      refine wpList_nil ?_
      exact th_n ⟨_, (by omega), ⟨i + 1, ps, rfl, henv.sub ⟨rfl, rfl, rfl, rfl, rfl, rfl, rfl, rfl, rfl, trivial⟩, hst.pick [0] [1, 2, 3, 4, 5, 6, 7, 8] (by decide), (by omega), (by rw [acI]; exact ho2), hol2⟩⟩
  · obtain rfl : k1 = i := by have := of_decide_eq_false hc84; omega
    refine wp_exit ?_
    refine th_x (th_x (bl_x (th_n ?_)))
    refine wp_seq ?_
    have hosl : os.length = (k1 + k2 - 1) := by rw [← List.length_map (f := lz), ho, acI_len]
    replace hst := hst.giveRow (k := 0) (j := 7) rfl rfl hosl
    replace hst : St w0 _ [] [pfRow fL FL 1 (some ⟨g81, 0, none⟩) (k1 + k2 - 1) (k1 + k2 - 1) os, pfRd 1 (some ⟨g81, 0, none⟩) (k1 + k2 - 1) (k1 + k2 - 1) (fl fL os), pfRow fN FN 2 A75 n0 c76 es77, pfRow fL FL 1 A70 k2 c71 vs72, pfRow fL FL 1 A65 k1 c66 vs67, pfRow fN FN 2 A58 n1 c59 es60, pfRow fN FN 2 A52 n0 c53 es54, pfRow fI FI 1 A1 n1 c1 es1, pfRow fI FI 1 A0 n0 c0 es0, pfEs FL os] := hst
    refine region_seq ?_
    revert a
    refine mA rfl rfl ?_
    refine mA rfl rfl ?_
    intro a henv
    refine seq_step rfl (op_call henv rfl Tryd.call28 rfl (p_mul_u (hst.pat (k := 6) rfl) hz56 (hst.pat (k := 5) rfl) hz62 (hx0.mono (by omega)) (hx1.mono (by omega)) (by omega) (by omega)) ?_)
    rintro e w106 ⟨_, kq105, rfl, ⟨A101, c102, es103, rfl, hp, hz104⟩, hb⟩
    refine ⟨_, rfl, ?_⟩
    clear henv a; intro a henv
    replace hst := (hst.call hb).argRow hp
    clear hp
    clear hb
    revert a
    refine mA rfl rfl ?_
    refine sA (v := .slice A101 ((mulF es0 es1).length) c102) rfl (fun _ henv => rn_extract henv rfl rfl) ?_
    refine sA (v := .int .i64 (kq105 : Nat)) rfl (fun _ henv => rn_extract henv rfl rfl) ?_
    refine aA rfl rfl ?_
    refine aA rfl rfl ?_
    intro a henv
    refine wpList_nil ?_
    refine th_n ?_
    refine wp_seq ?_
    refine region_seq ?_
    revert a
    refine mA rfl rfl ?_
    refine mA rfl rfl ?_
    refine mA rfl rfl ?_
    refine sA (v := .int .i64 ((mulF es0 es1).length : Nat)) rfl (fun _ henv => rn_len henv Tryd.underlying24 rfl) ?_
    intro a henv
    refine seq_step rfl (op_call henv rfl Tryd.call18 rfl (sp_join_u (zs := (mulF es0 es1)) (zss := (acI (pts es0 m k1) (pts es1 m k2) k2 (k1 + k2 - 1) k1)) (k := m) (m := (mulF es0 es1).length) (hst.pat (k := 1) rfl) ho (fun v hv => Nat.le_trans (hol v hv) (by omega)) (rows_zk ho (fun s => laid_zc (j := 0) hx0 hx1 (by omega) (by omega) (by omega) (by omega)) (by omega)) (by omega) (by omega) (by omega) (by omega) hj1.1 hj1.2) ?_)
    rintro e w111 ⟨_, rfl, ⟨A107, c108, es109, rfl, hp, hz110⟩, hb⟩
    refine ⟨_, rfl, ?_⟩
    clear henv a; intro a henv
    replace hst := (hst.call hb).argRow hp
    clear hp
    clear hb
    revert a
    refine mA rfl rfl ?_
    refine sA (v := .slice A107 ((mulF es0 es1).length) c108) rfl (fun _ henv => rn_extract henv rfl rfl) ?_
    refine sA (v := .int .i64 0) rfl (fun _ henv => rn_extract henv rfl rfl) ?_
    refine aA rfl rfl ?_
    refine aA rfl rfl ?_
    intro a henv
    refine wpList_nil ?_
    refine th_n ?_
    refine wp_seq ?_
    refine region_seq ?_
    revert a
    refine mA rfl rfl ?_
    refine sA (v := .bool true) rfl (fun _ henv => rn_bin henv rfl rfl rfl) ?_
    refine mA rfl rfl ?_
    refine gA (v := .slice A107 ((mulF es0 es1).length) c108) rfl rfl rfl rfl (fun _ henv => rn_move henv rfl) ?_
    refine gA (v := .slice A101 ((mulF es0 es1).length) c102) rfl rfl rfl rfl (fun _ henv => rn_move henv rfl) ?_
    intro a henv
    refine seq_g rfl henv rfl rfl (op_call henv rfl Tryd.call27 rfl (l_alike (xs := (mulF es0 es1)) (ys := (mulF es0 es1)) (hst.pat (k := 0) rfl) hz110 (hst.pat (k := 1) rfl) hz104 (hmz.mono (by omega)) (hmz.mono (by omega))) ?_)
    rintro e w112 ⟨rfl, hb⟩
    refine ⟨_, rfl, ?_⟩
    clear henv a; intro a henv
    replace hst := hst.call hb
    clear hb
    rw [show (decide ((mulF es0 es1) = (mulF es0 es1))) = true from (decide_eq_true rfl)] at henv
    revert a
    refine sA (v := .bool true) rfl (fun _ henv => rn_pick henv rfl rfl) ?_
    refine aA rfl rfl ?_
    intro a henv
    refine wpList_nil ?_
    refine th_n ?_
    refine wp_ret ?_
    refine leave henv (res1 Tryd.results9 (RV.tmp henv rfl)) ?_
    exact ⟨rfl, hst.below⟩
theorem laid_law {A0 A1 : Option Addr} {n0 c0 n1 c1 : Nat} {es0 es1 : List Int} {k1 k2 : Int} {w0 : World} (h0 : (pfRow fI FI 1 A0 n0 c0 es0).P w0) (hI0 : I64 es0) (h1 : (pfRow fI FI 1 A1 n1 c1 es1).P w0) (hI1 : I64 es1) :
    Calls Tryd.prog 9 #[.slice A0 n0 c0, .slice A1 n1 c1, .int .i64 k1, .int .i64 k2] w0 fun e w' => e = .returned (.bool true) ∧ Below w0.heap.size w0 w' := by
  rcases Nat.lt_or_ge 60 n0 with a0 | a0
  · exact laid_w0 h0 hI0 h1 hI1 a0
  rcases Nat.lt_or_ge 60 n1 with a1 | a1
  · exact laid_w1 h0 hI0 h1 hI1 a0 a1
  by_cases hR : RP (n0 : Nat) (n1 : Nat) k1 k2
  · obtain ⟨_, _, _, _, b1, b2, b3, b4⟩ := hR
    obtain ⟨k1, rfl⟩ := Int.eq_ofNat_of_zero_le (show 0 ≤ k1 by omega)
    obtain ⟨k2, rfl⟩ := Int.eq_ofNat_of_zero_le (show 0 ≤ k2 by omega)
    by_cases hz : n0 = 0 ∧ n1 = 0
    · exact laid_empty h0 hI0 h1 hI1 a0 a1 (by omega) (by omega) (by omega) (by omega) hz.1 hz.2
    · have hg := blk_ge (n1 := n0) (n2 := n1) (k1 := k1) (k2 := k2) (by omega) (by omega)
      have u1 := upN_le (n := n0) (k := k1) (by omega)
      have u2 := upN_le (n := n1) (k := k2) (by omega)
      have hb : blkN n0 n1 k1 k2 ≤ 60 := by unfold blkN; omega
      have hp : 1 ≤ blkN n0 n1 k1 k2 := by
        rcases Nat.eq_zero_or_pos (blkN n0 n1 k1 k2) with q | q
        · rw [q, Nat.mul_zero, Nat.mul_zero] at hg
          omega
        · exact q
      exact laid_ok h0 hI0 h1 hI1 a0 a1 (by omega) (by omega) (by omega) (by omega) rfl hp hb hg.1 hg.2
  · exact laid_bad h0 hI0 h1 hI1 a0 a1 hR
end Go.Proofs.YtoojllfijfjmoaaDoor.W
