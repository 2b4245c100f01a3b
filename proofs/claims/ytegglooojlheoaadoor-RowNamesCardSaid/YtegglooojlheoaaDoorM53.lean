/- RowTexts, RowReads: the laws' walks. Printed by pv/gen_rowE.py. No condition. -/
import Derived.Test.YtegglooojlheoaaDoorM50
import Derived.Test.YtegglooojlheoaaDoorM11
import Derived.Test.YtegglooojlheoaaDoorM52

namespace Go.Proofs.YtegglooojlheoaaDoor.W
open Go.RowKit Anv Go.Lib
theorem pre_len (zs : List Int) : 2 * zs.length + 1 ≤ (preT zs).length := by
  unfold preT
  rw [List.length_cons]
  induction zs with
  | nil => simp
  | cons z zs ih =>
    have h := rz_pos (rz_text z)
    rw [List.flatMap_cons, List.length_append, List.length_append, List.length_cons, List.length_cons, List.length_nil]
    omega
theorem row_text' {A0 : Option Addr} {n0 c0 : Nat} {es0 : List NE} {xs : List Int} {w0 : World} (h0 : (pfRow fN FN 2 A0 n0 c0 es0).P w0) (hz0 : es0.map zz = xs) (hk : Zk 90000 xs) (hn : n0 ≤ 1000000) :
    Calls Tryd.prog 52 #[.slice A0 n0 c0] w0 fun e w' => e = .returned (.string ⟨(textRow xs).toArray⟩) ∧ Below w0.heap.size w0 w' := by
  subst hz0
  exact row_text h0 hk.zb hn
end Go.Proofs.YtegglooojlheoaaDoor.W

/- Rows of bytes that are stored into; long texts of rows. No condition. -/
namespace Go.Proofs.YtegglooojlheoaaDoor.W
open Go.RowKit Anv Go.Lib
def fB (b : UInt8) : List Value := [.int .u8 (b.toNat : Nat)]
def FB (_ : UInt8) : PF := pfT0
theorem fB_len (b : UInt8) : (fB b).length = 1 := rfl
theorem fl_bytes (bs : List UInt8) : fl fB bs = byteCells bs := by
  induction bs with
  | nil => rfl
  | cons b bs ih => rw [fl, ih]; rfl
theorem fl_set1 {α : Type} {f : α → List Value} {e : α} {v : Value} (hz : ∀ e, (f e).length = 1) (hv : f e = [v]) : ∀ (es : List α) (i : Nat), (fl f es).set i v = fl f (es.set i e)
  | [], _ => rfl
  | x :: es, 0 => by
    match h : f x, hz x with
    | [u], _ => rw [fl, h, List.set_cons_zero, fl, hv]; rfl
  | x :: es, i + 1 => by
    match h : f x, hz x with
    | [u], _ => rw [fl, h, List.set_cons_succ, fl, h, ← fl_set1 hz hv es i]; rfl
section
variable {P : Program} {K : Act → World → Prop} {Q : Exit → Act → World → Prop} {N : Nat} {dq : List Deferred} {a : Act} {l : List (Nat × Value)} {w w0 : World} {own ps : List PF}
variable {d : Nat} {ty : TypeId} {pos : String} {af : Array Edge} {gd : Option (Nat × Bool)}
theorem cells_one {v : Value} (h1 : v.oneCell' = true) : v.cells = #[v] := by cases v <;> simp_all [Value.cells, Value.oneCell']
theorem store_one {P : Program} {w : World} {ad : Addr} {u v : Value} (h1 : v.oneCell' = true) (hcl : w.cell? ad = some u) (hf : w.frozen? ad = false) : ((store ad v).run P w) = .ok () (w.setCell ad v) := by
  cases v <;> simp_all [store, Sem.run, Value.oneCell']
theorem op_storeS1 {α : Type} {f : α → List Value} {q : Value → Bool} {T E i n c p k : Nat} {x y : Operand} {A : Option Addr} {es : List α} {e : α} {v : Value} (h : EnvD dq N a l) (hs : St w0 w own ps) (hi : ∃ j, P.info? T = some j ∧ j.size = 1) (hx : evl l x = some (.pointer (some ⟨Go.Proofs.YtegglooojlheoaaDoor.ab A, ao A + p, none⟩))) (hy : evl l y = some v) (hp : i * 1 = p)
    (hk : own[k]? = some (rowS q E 1 A n c (fl f es))) (hz : ∀ e, (f e).length = 1) (hn : i < n) (hl : es.length = n) (hv : f e = [v]) (h1 : v.oneCell' = true) (hq : q v = true)
    (hK : ∀ a' w', EnvD dq N a' l → St w0 w' (own.set k (rowS q E 1 A n c (fl f (es.set i e)))) ps → K a' w') :
    Oper.wp P ⟨none, .store T x y, ty, pos, af, gd⟩ a w K Q := by
  subst hp
  have hP := hs.owns hk
  have hrow : w.ownsRow 0 E 1 (.slice A n c) n (fl f es) := hP.1
  rcases hrow.2 with ⟨e0, hn0⟩ | ⟨g, cap, cur, e0, _, hg, hnc, hcb, hcs, htk⟩
  · omega
  cases e0
  obtain ⟨cur', hg', hcq⟩ := hP.2 g rfl
  rw [hg] at hg'
  cases hg'
  have hx' : evl l x = some (.pointer (some ⟨g, i, none⟩)) := by
    rw [hx]
    show some (Value.pointer (some ⟨g, 0 + i * 1, none⟩)) = _
    rw [Nat.zero_add, Nat.mul_one]
  have hic : i < cur.size := by omega
  obtain ⟨ti, hti, hin⟩ := hi
  have hcl : w.cell? ⟨g, i, none⟩ = some cur[i] := by rw [cell_of_row w _ _ _ _ _ hg]; simp [hic]
  have hf : w.frozen? ⟨g, i, none⟩ = false := by simp [World.frozen?, hg]
  have hvc := cells_one h1
  have hr : (execOp a.eval ⟨none, .store T x y, ty, pos, af, gd⟩).run P w = .ok .skip (w.setCell ⟨g, i, none⟩ v) := by
    simp only [execOp, h.ev hx', h.ev hy, Instr.storeAt, Instr.sureAddr, Sem.run_bind, Sem.run_pure, Result.andThen_ok, storeVar, run_sizeOf ⟨ti, hti, hin⟩, hvc]
    have h0 : (⟨g, i, none⟩ : Addr).add 0 = ⟨g, i, none⟩ := by rw [Addr.add_mid]; rfl
    have hst := store_one (P := P) h1 hcl hf
    simp [storeCells, h0, hst]
  unfold Oper.wp
  rw [hr]
  have hu := setCell_upd (o := i) v hg
  have htl : (cur.setIfInBounds i v).toList = cur.toList.set i v := by simp
  refine hK _ _ (h.put0 _) (hs.step' hk (e' := rowS q E 1 (some ⟨g, 0, none⟩) n c (fl f (es.set i e))) ⟨⟨?_, .inr ⟨g, c, _, rfl, Nat.zero_le _, hu.new, hnc, hcb, by simpa using hcs, ?_⟩⟩, fun g' hg' => ?_⟩ (fun b hb => .inl hb) hu.os hu.tape hu.output (Nat.le_of_eq hu.size.symm) fun b _ hb => hu.old b fun e => hb (congrArg some e.symm))
  · rw [fl_len hz, List.length_set, hl]
  · rw [htl, List.take_set, htk, fl_set1 hz hv]
  · obtain rfl : g = g' := by simpa [Value.ownBlock] using hg'
    refine ⟨_, hu.new, ?_⟩
    rw [htl]
    refine List.all_eq_true.2 fun u hu => ?_
    rcases List.mem_or_eq_of_mem_set hu with h2 | h2
    · exact List.all_eq_true.1 hcq u h2
    · rw [h2]; exact hq
theorem St.bkRow {α : Type} {f : α → List Value} {k g n : Nat} {c : Array Value} {E : TypeId} {es : List α} (h : St w0 w own ps) (hk : own[k]? = some (bk g c E)) (hc : c.toList = fl f es) (hz : ∀ e, (f e).length = 1) (hl : es.length = n) (hm : n ≤ maxLen) (hq : c.toList.all notU = true) : St w0 w (own.set k (rowS notU E 1 (some ⟨g, 0, none⟩) n n (fl f es))) ps := by
  have hg := h.oat hk
  have hsz : c.size = n := by rw [← Array.length_toList, hc, fl_len hz, hl, Nat.mul_one]
  refine h.step' hk ⟨⟨?_, .inr ⟨g, n, c, rfl, Nat.zero_le _, hg, Nat.le_refl _, hm, by omega, ?_⟩⟩, fun g' hg' => ?_⟩ (fun b hb => .inl ?_) rfl rfl rfl (Nat.le_refl _) fun _ _ _ => rfl
  · rw [fl_len hz, hl]
  · rw [hc, List.take_of_length_le (by rw [fl_len hz, hl]; exact Nat.le_refl _)]
  · obtain rfl : g = g' := by simpa [Value.ownBlock] using hg'
    exact ⟨c, hg, hq⟩
  · obtain ⟨a, ha, rfl⟩ := rowS_foot hb
    cases ha
    rfl
end
theorem rowS_str {E n c : Nat} {A : Option Addr} {bs : List UInt8} {w : World} (h : (rowS notU E 1 A n c (fl fB bs)).P w) : w.ownsRow 0 E 1 (.slice A n c) n (byteCells bs) := by
  have h1 : w.ownsRow 0 E 1 (.slice A n c) n (fl fB bs) := h.1
  rwa [fl_bytes] at h1
theorem pre_flat (zs : List Int) : (32 : UInt8) :: (zs.flatMap fun z => textZ z ++ [32]) = (zs.map textZ).flatMap (fun t => (32 : UInt8) :: t) ++ [32] := by
  induction zs with
  | nil => rfl
  | cons z zs ih =>
    rw [List.flatMap_cons, List.map_cons, List.flatMap_cons, List.append_assoc, List.singleton_append, ih]
    simp
theorem pre_jn {zs : List Int} (h : zs ≠ []) : preT zs = 91 :: (jn (zs.map textZ) ++ [32]) := by
  cases zs with
  | nil => exact absurd rfl h
  | cons z zs =>
    unfold preT
    rw [List.flatMap_cons, List.append_assoc, List.singleton_append, pre_flat, List.map_cons, jn, List.append_assoc]
theorem text_one : textZ 1 = [49] := by decide +kernel
theorem pre_rep (n : Nat) : preT (List.replicate n 1 ++ [1]) = preT (List.replicate n 1) ++ [49, 32] := by
  unfold preT
  rw [List.flatMap_append, List.flatMap_cons, text_one]
  rfl
theorem pre_rep_len (n : Nat) : (preT (List.replicate n 1)).length = 1 + 2 * n := by
  induction n with
  | zero => rfl
  | succ n ih =>
    rw [List.replicate_succ', pre_rep, List.length_append, ih]
    simp
    omega
theorem set_last {α : Type} (l : List α) (a b : α) {n : Nat} (h : l.length = n) : (l ++ [a]).set n b = l ++ [b] := by
  subst h
  rw [List.set_append_right _ _ (Nat.le_refl _), Nat.sub_self]
  rfl
theorem pre_set {zs : List Int} {n : Nat} (h : zs ≠ []) (hn : (preT zs).length = n + 1) : (preT zs).set n 93 = textRow zs := by
  have e := pre_jn h
  rw [e, ← List.cons_append] at hn ⊢
  rw [set_last _ _ _ (by simpa using hn)]
  rfl
theorem text_set {zs : List Int} {n : Nat} (h : zs ≠ []) (hn : (preT zs).length = n + 1) : (textRow zs).set n 32 = preT zs := by
  have e := pre_jn h
  rw [e, ← List.cons_append] at hn ⊢
  unfold textRow
  rw [← List.cons_append, set_last _ _ _ (by simpa using hn)]
theorem snoc_last {α : Type} {l m : List α} {a b : α} (h : l ++ [a] = m ++ [b]) : a = b := by
  have := congrArg List.getLast? h
  simpa using this
theorem row_read_full {s : List UInt8} {zs : List Int} {w0 : World} (h : s = textRow zs) (hl : zs.length = 4096) (hs : s.length = 8193) :
    Calls Tryd.prog 51 #[.string ⟨s.toArray⟩] w0 fun e w' => ∃ v, e = .returned (.tuple #[v, .agg #[.int .i64 0, .int .i64 0]]) ∧ ZRow w0.heap.size w' v 4096 zs ∧ Below w0.heap.size w0 w' := by
  have hr : Rd0 s (.inl zs) := h ▸ rd_text zs
  refine (row_read (by omega)).mono fun e w' ⟨hp, hb⟩ => ?_
  rcases hp with ⟨zs', n', v, h1, h2, _, he, hz⟩ | ⟨b, h1, _⟩ | ⟨p, zs', h1, h2, h3, _⟩
  · obtain rfl : zs = zs' := Sum.inl.inj (rd0_det hr h1)
    obtain rfl : 4096 = n' := hl.symm.trans h2
    exact ⟨v, he, hz, hb⟩
  · cases rd0_det hr h1
  · have h4 := pre_len zs'
    rw [← h3, List.length_take] at h4
    rw [List.take_of_length_le (by omega), pre_jn (fun e => by rw [e] at h1; cases h1), h, textRow, ← List.cons_append, ← List.cons_append] at h3
    exact absurd (snoc_last h3) (by decide)
theorem row_read_over {s : List UInt8} {zs : List Int} {w0 : World} (h : s = preT zs ++ [49, 93]) (hl : zs.length = 4096) (hs : (preT zs).length = 8193) :
    Calls Tryd.prog 51 #[.string ⟨s.toArray⟩] w0 fun e w' => e = .returned (.tuple #[.slice none 0 0, .agg #[.int .i64 3, .int .i64 (8193 : Nat)]]) ∧ Below w0.heap.size w0 w' := by
  have hne : zs ≠ [] := fun e => by rw [e] at hl; cases hl
  have hse : s = textRow (zs ++ [1]) := by
    rw [h, pre_jn hne, textRow, List.map_append, List.map_cons, List.map_nil, text_one, jn_snoc _ _ (fun e => hne (List.map_eq_nil_iff.1 e))]
    simp
  have hsl : s.length = 8195 := by rw [h, List.length_append, hs]; rfl
  have hr : Rd0 s (.inl (zs ++ [1])) := hse ▸ rd_text _
  refine (row_read (by omega)).mono fun e w' ⟨hp, hb⟩ => ?_
  rcases hp with ⟨zs', n', v, h1, h2, h3, _⟩ | ⟨b, h1, _⟩ | ⟨p, zs', h1, h2, h3, he⟩
  · have := congrArg List.length (Sum.inl.inj (rd0_det hr h1))
    rw [List.length_append, hl] at this
    simp at this
    omega
  · cases rd0_det hr h1
  · have hne2 : zs' ≠ [] := fun e => by rw [e] at h1; cases h1
    have h4 := pre_len zs'
    rw [← h3, List.length_take] at h4
    have hp : p = 8193 ∨ p = 8194 ∨ p = 8195 := by omega
    rw [pre_jn hne2, ← List.cons_append] at h3
    rcases hp with rfl | rfl | rfl
    · exact ⟨he, hb⟩
    · rw [h, List.take_append, hs, List.take_of_length_le (by omega)] at h3
      exact absurd (snoc_last h3) (by decide)
    · rw [h, List.take_append, hs, List.take_of_length_le (by omega), show ([49, 93] : List UInt8).take (8195 - 8193) = [49] ++ [93] from rfl, ← List.append_assoc] at h3
      exact absurd (snoc_last h3) (by decide)
end Go.Proofs.YtegglooojlheoaaDoor.W

/- RowNames: the law's walk. Printed by pv/gen_rowF.py. No condition. -/
namespace Go.Proofs.YtegglooojlheoaaDoor.W
open Go.RowKit Anv Go.Lib
set_option maxRecDepth 100000 in
set_option maxHeartbeats 4000000 in
theorem rnames_law {w0 : World} :
    Calls Tryd.prog 6 #[] w0 fun e w' => e = .returned (.bool true) ∧ Below w0.heap.size w0 w' := by
  refine enter Tryd.func6 rfl Tryd.ntmps6 rfl ?_
  intro a henv hst
  refine wp_seq ?_
  refine region_seq ?_
  refine sv (v := .bool false) henv rfl (rn_assign henv rfl) ?_
  clear henv a; intro a henv
  refine wpList_nil ?_
  refine th_n ?_
  refine wp_seq ?_
  refine wp_seq ?_
  refine region_seq ?_
  refine seq_step rfl (op_call henv rfl Tryd.call16 rfl (row_live) ?_)
  rintro e w51 ⟨rfl, hb⟩
  refine ⟨_, rfl, ?_⟩
  clear henv a; intro a henv
  replace hst := hst.call hb
  clear hb
  refine sv (v := .bool false) henv rfl (rn_un henv rfl rfl) ?_
  clear henv a; intro a henv
  refine wpList_nil ?_
  refine th_n ?_
  refine if_f henv rfl (rfl) ?_
  refine wp_skip ?_
  refine th_n ?_
  refine wp_seq ?_
  refine region_seq ?_
  refine seq_step rfl (op_buildSlice (z := 1) (pv := #[(0, .int .u8 91)]) (c := #[.int .u8 91]) henv hst rfl Tryd.underlying77 (ty_uint8.size) zero_uint8 (by decide) (by decide) rfl (by kernel_rfl) ?_)
  clear henv hst a; intro a w53 g52 henv hst
  replace hst := hst.bkRow (f := fB) (k := 0) (n := 1) (es := [91]) rfl rfl fB_len rfl (by decide) rfl
  replace hst : St w0 _ [rowS notU 5 1 (some ⟨g52, 0, none⟩) 1 1 (fl fB ([91]))] [] := hst
  refine sv (v := .slice (some ⟨g52, 0, none⟩) 1 1) henv rfl (rn_assign henv rfl) ?_
  clear henv a; intro a henv
  refine wpList_nil ?_
  refine th_n ?_
  refine wp_seq ?_
  refine wp_seq ?_
  refine region_seq ?_
  refine sv (v := .int .i64 0) henv rfl (rn_assign henv rfl) ?_
  clear henv a; intro a henv
  refine wpList_nil ?_
  refine th_n ?_
  refine wp_block ?_
  refine wp_loop_ghost (fun mz a w => ∃ j : Nat, ∃ B : Option Addr, ∃ m : Nat, ∃ c : Nat, ∃ bs : List UInt8, 4096 - j = mz ∧ Env 94 a [(1, .slice B m c), (2, .int .i64 (j : Nat))] ∧ St w0 w [rowS notU 5 1 B m c (fl fB bs)] [] ∧ j ≤ 4096 ∧ m = 1 + 2 * j ∧ bs = preT (List.replicate j 1)) _ ⟨0, (some ⟨g52, 0, none⟩), 1, 1, [91], rfl, henv.sub ⟨rfl, rfl, trivial⟩, hst.pick [0] [] (by decide), (Nat.zero_le _), rfl, rfl⟩ ?_
  clear henv hst a
  rintro mz a w54 ⟨j, B, m, c, bs, rfl, henv, hst, hj, hm, hbs⟩
  refine wp_seq ?_
  refine wp_seq ?_
  refine region_seq ?_
  revert a
  refine mA rfl rfl ?_
  refine sA (v := .bool (decide (((j : Nat) : Int) < (4096 : Int)))) rfl (fun _ henv => rn_bin henv rfl rfl rfl) ?_
  intro a henv
  refine wpList_nil ?_
  refine th_n ?_
  refine if_split henv rfl (fun hc55 => ?_) (fun hc55 => ?_)
  · have hlt : j < 4096 := by have := of_decide_eq_true hc55; omega
    refine wp_skip ?_
    refine th_n ?_
    refine wp_seq ?_
    refine wp_block ?_
    refine region_seq ?_
    refine sv (v := .slice B m c) henv rfl (rn_move henv rfl) ?_
    clear henv a; intro a henv
    refine seq_step rfl (op_buildSlice (z := 1) (pv := #[(0, .int .u8 49), (1, .int .u8 32)]) (c := #[.int .u8 49, .int .u8 32]) henv hst rfl Tryd.underlying77 (ty_uint8.size) zero_uint8 (by decide) (by decide) rfl (by kernel_rfl) ?_)
    clear henv hst a; intro a w57 g56 henv hst
    refine seq_step rfl (op_appendS (k := 1) (j := 0) henv hst rfl Tryd.underlying77 inf_u8 rfl rfl rfl rfl rfl rfl rfl rfl rfl rfl rfl (by unfold maxLen; omega) (by omega) ?_)
    clear henv hst a; intro a w60 g58 c59 henv hst
    rw [show fl fB bs ++ (#[.int .u8 49, .int .u8 32] : Array Value).toList = fl fB (bs ++ [49, 32]) from (fl_app (f := fB) bs [49, 32]).symm] at hst
    refine sv (v := .slice (some ⟨g58, 0, none⟩) (m + 2) c59) henv rfl (rn_assign henv rfl) ?_
    clear henv a; intro a henv
    refine wpList_nil ?_
    refine bl_n (th_n ?_)
    refine region_seq ?_
    revert a
    refine mA rfl rfl ?_
    refine sA (v := .int .i64 (j + 1 : Nat)) rfl (fun _ henv => rn_add henv rfl rfl (by rw [IntWalk.i64_in _ (by omega)]; omega)) ?_
    refine aA rfl rfl ?_
    intro a henv
    refine wpList_nil ?_
    exact th_n ⟨_, (by omega), ⟨j + 1, (some ⟨g58, 0, none⟩), (m + 2), c59, (bs ++ [49, 32]), rfl, henv.sub ⟨rfl, rfl, trivial⟩, hst.pick [1] [] (by decide), (by omega), (by omega), (by rw [hbs, ← pre_rep, ← List.replicate_succ'])⟩⟩
  · obtain rfl : j = 4096 := by have := of_decide_eq_false hc55; omega
    obtain ⟨zs, hzs⟩ : ∃ zs : List Int, zs = List.replicate 4096 1 := ⟨_, rfl⟩
    rw [← hzs] at hbs
    have hzl : zs.length = 4096 := by rw [hzs, List.length_replicate]
    have hpl : (preT zs).length = 8193 := by rw [hzs]; exact pre_rep_len 4096
    have hne : zs ≠ [] := fun e => by rw [e] at hzl; cases hzl
    clear hzs
    replace hm : m = 8193 := hm
    subst hm
    obtain ⟨t1, ht1⟩ : ∃ t, t = textRow zs := ⟨_, rfl⟩
    obtain ⟨t0, ht0⟩ : ∃ t, t = preT zs := ⟨_, rfl⟩
    have hl1 : t1.length = 8193 := by rw [ht1, ← pre_set hne (n := 8192) hpl, List.length_set, hpl]
    have hl0 : t0.length = 8193 := by rw [ht0, hpl]
    have hlb : bs.length = 8193 := by rw [hbs, hpl]
    have hn1 : t1 ≠ [] := fun e => by rw [e] at hl1; cases hl1
    have hn0 : t0 ≠ [] := fun e => by rw [e] at hl0; cases hl0
    refine wp_exit ?_
    refine th_x (th_x (bl_x (th_n ?_)))
    refine wp_seq ?_
    refine region_seq ?_
    revert a
    refine mA rfl rfl ?_
    refine mA rfl rfl ?_
    refine sA (v := .int .i64 8193) rfl (fun _ henv => rn_len henv Tryd.underlying77 rfl) ?_
    refine sA (v := .int .i64 8192) rfl (fun _ henv => rn_bin henv rfl rfl rfl) ?_
    refine sA (v := .pointer (some ⟨ab B, ao B + 8192 * 1, none⟩)) rfl (fun _ henv => rn_idxR (i := 8192) henv Tryd.underlying77 (ty_uint8.size) rfl rfl (by omega) rfl (rowS_rd (hst.owns (k := 0) rfl))) ?_
    intro a henv
    refine seq_step rfl (op_storeS1 (i := 8192) (e := 93) (k := 0) henv hst (ty_uint8.size) rfl rfl rfl rfl fB_len (by omega) hlb rfl rfl rfl ?_)
    clear henv hst a; intro a w61 henv hst
    have hlb2 := hl1
    rw [show bs.set 8192 93 = t1 from (by rw [hbs, ht1]; exact pre_set hne hpl)] at hst
    refine wpList_nil ?_
    replace hlb := hl1
    refine th_n ?_
    refine wp_seq ?_
    refine region_seq ?_
    revert a
    refine mA rfl rfl ?_
    refine sA (v := .string ⟨t1.toArray⟩) rfl (fun _ henv => rn_rowStr henv Tryd.underlying77 Tryd.underlying5 Tryd.underlying9 rfl (rowS_str (hst.owns (k := 0) rfl)) hn1) ?_
    intro a henv
    refine seq_step rfl (op_call henv rfl Tryd.call51 rfl (row_read_full ht1 hzl hl1) ?_)
    rintro e w67 ⟨_, rfl, ⟨A62, c63, es64, rfl, hr, hl65, hz66⟩, hb⟩
    refine ⟨_, rfl, ?_⟩
    clear henv a; intro a henv
    replace hst := hst.freshRd hb hr hl65 (ap_N hr.2.1 ⟨nou_rowS, trivial⟩)
    clear hr
    clear hb
    revert a
    refine mA rfl rfl ?_
    refine sA (v := .slice A62 4096 c63) rfl (fun _ henv => rn_extract henv rfl rfl) ?_
    refine sA (v := .agg #[.int .i64 0, .int .i64 0]) rfl (fun _ henv => rn_extract henv rfl rfl) ?_
    intro a henv
    refine seq_step rfl (op_alloc (c := #[.int .i64 0, .int .i64 0]) henv hst rfl zero_anvil_api_Spot rfl ?_)
    clear henv hst a; intro a w69 g68 henv hst
    refine sv (v := .slice A62 4096 c63) henv rfl (rn_assign henv rfl) ?_
    clear henv a; intro a henv
    refine seq_step rfl (op_store (k := 0) (c' := #[.int .i64 0, .int .i64 0]) henv hst (ty_anvil_api_Spot.size) rfl rfl rfl rfl (by simp) rfl rfl ?_)
    clear henv hst a; intro a w70 henv hst
    refine wpList_nil ?_
    refine th_n ?_
    refine wp_seq ?_
    refine region_seq ?_
    revert a
    refine mA rfl rfl ?_
    refine mA rfl rfl ?_
    refine sA (v := .int .i64 8193) rfl (fun _ henv => rn_len henv Tryd.underlying77 rfl) ?_
    refine sA (v := .int .i64 8192) rfl (fun _ henv => rn_bin henv rfl rfl rfl) ?_
    refine sA (v := .pointer (some ⟨ab B, ao B + 8192 * 1, none⟩)) rfl (fun _ henv => rn_idxR (i := 8192) henv Tryd.underlying77 (ty_uint8.size) rfl rfl (by omega) rfl (rowS_rd (hst.owns (k := 1) rfl))) ?_
    intro a henv
    refine seq_step rfl (op_storeS1 (i := 8192) (e := 32) (k := 1) henv hst (ty_uint8.size) rfl rfl rfl rfl fB_len (by omega) hlb rfl rfl rfl ?_)
    clear henv hst a; intro a w71 henv hst
    rw [show t1.set 8192 32 = t0 from (by rw [ht1, ht0]; exact text_set hne hpl)] at hst
    refine wpList_nil ?_
    refine th_n ?_
    refine wp_seq ?_
    refine region_seq ?_
    revert a
    refine mA rfl rfl ?_
    refine sA (v := .string ⟨t0.toArray⟩) rfl (fun _ henv => rn_rowStr henv Tryd.underlying77 Tryd.underlying5 Tryd.underlying9 rfl (rowS_str (hst.owns (k := 1) rfl)) hn0) ?_
    refine sA (v := .string ⟨(t0 ++ ([49, 93])).toArray⟩) rfl (fun _ henv => rn_catS (s := t0) (t := [49, 93]) henv rfl rfl (by simp only [List.length_append, List.length_cons, List.length_nil]; omega)) ?_
    intro a henv
    refine seq_step rfl (op_call henv rfl Tryd.call51 rfl (row_read_over (by rw [ht0]) hzl hpl) ?_)
    rintro e w72 ⟨rfl, hb⟩
    refine ⟨_, rfl, ?_⟩
    clear henv a; intro a henv
    replace hst := hst.call hb
    clear hb
    revert a
    refine mA rfl rfl ?_
    refine sA (v := .slice none 0 0) rfl (fun _ henv => rn_extract henv rfl rfl) ?_
    refine sA (v := .agg #[.int .i64 3, .int .i64 (8193 : Nat)]) rfl (fun _ henv => rn_extract henv rfl rfl) ?_
    intro a henv
    refine seq_step rfl (op_alloc (c := #[.int .i64 0, .int .i64 0]) henv hst rfl zero_anvil_api_Spot rfl ?_)
    clear henv hst a; intro a w74 g73 henv hst
    refine sv (v := .slice none 0 0) henv rfl (rn_assign henv rfl) ?_
    clear henv a; intro a henv
    refine seq_step rfl (op_store (k := 0) (c' := #[.int .i64 3, .int .i64 (8193 : Nat)]) henv hst (ty_anvil_api_Spot.size) rfl rfl rfl rfl (by simp) rfl rfl ?_)
    clear henv hst a; intro a w75 henv hst
    refine wpList_nil ?_
    refine th_n ?_
    refine wp_seq ?_
    refine region_seq ?_
    refine seq_step rfl (op_makeS (f := fB) (e0 := 0) (q := notU) (n := 65537) henv hst rfl Tryd.underlying77 inf_u8 rfl rfl rfl rfl rfl rfl (by decide) (by decide) ?_)
    clear henv hst a; intro a w77 g76 henv hst
    obtain ⟨ns, hns⟩ : ∃ l : List UInt8, l = List.replicate 65537 0 := ⟨_, rfl⟩
    rw [← hns] at hst
    have hnl : ns.length = 65537 := by rw [hns, List.length_replicate]
    clear hns
    have hnn : ns ≠ [] := fun e => by rw [e] at hnl; cases hnl
    refine sv (v := .string ⟨ns.toArray⟩) henv rfl (rn_rowStr henv Tryd.underlying77 Tryd.underlying5 Tryd.underlying9 rfl (rowS_str (hst.owns (k := 0) rfl)) hnn) ?_
    clear henv a; intro a henv
    refine seq_step rfl (op_call henv rfl Tryd.call51 rfl (row_read_long (by omega) (by unfold maxLen; omega)) ?_)
    rintro e w78 ⟨rfl, hb⟩
    refine ⟨_, rfl, ?_⟩
    clear henv a; intro a henv
    replace hst := hst.call hb
    clear hb
    revert a
    refine mA rfl rfl ?_
    refine sA (v := .slice none 0 0) rfl (fun _ henv => rn_extract henv rfl rfl) ?_
    refine sA (v := .agg #[.int .i64 3, .int .i64 65536]) rfl (fun _ henv => rn_extract henv rfl rfl) ?_
    intro a henv
    refine seq_step rfl (op_alloc (c := #[.int .i64 0, .int .i64 0]) henv hst rfl zero_anvil_api_Spot rfl ?_)
    clear henv hst a; intro a w80 g79 henv hst
    refine sv (v := .slice none 0 0) henv rfl (rn_assign henv rfl) ?_
    clear henv a; intro a henv
    refine seq_step rfl (op_store (k := 0) (c' := #[.int .i64 3, .int .i64 65536]) henv hst (ty_anvil_api_Spot.size) rfl rfl rfl rfl (by simp) rfl rfl ?_)
    clear henv hst a; intro a w81 henv hst
    refine wpList_nil ?_
    refine th_n ?_
    refine wp_seq ?_
    refine region_seq ?_
    revert a
    refine mA rfl rfl ?_
    refine gA (v := .slice A62 4096 c63) rfl rfl rfl rfl (fun _ henv => rn_move henv rfl) ?_
    refine gA (v := .int .i64 4096) rfl rfl rfl rfl (fun _ henv => rn_len henv Tryd.underlying30 rfl) ?_
    refine gA (v := .bool true) rfl rfl rfl rfl (fun _ henv => rn_bin henv rfl rfl rfl) ?_
    refine sA (v := .bool true) rfl (fun _ henv => rn_pick henv rfl rfl) ?_
    refine mA rfl rfl ?_
    refine gA (v := .pointer (some ⟨g68, 0, none⟩)) rfl rfl rfl rfl (fun _ henv => rn_fieldAddr henv fd_anvil_api_Spot_0 (ty_anvil_api_Errno.size) (by decide) rfl) ?_
    refine gA (v := .int .i64 0) rfl rfl rfl rfl (fun _ henv => rn_load1 henv ty_anvil_api_Errno rfl (hst.oat (k := 3) rfl) rfl) ?_
    refine gA (v := .bool true) rfl rfl rfl rfl (fun _ henv => rn_bin henv rfl rfl rfl) ?_
    refine sA (v := .bool true) rfl (fun _ henv => rn_pick henv rfl rfl) ?_
    refine mA rfl rfl ?_
    refine gA (v := .slice none 0 0) rfl rfl rfl rfl (fun _ henv => rn_move henv rfl) ?_
    refine gA (v := .int .i64 0) rfl rfl rfl rfl (fun _ henv => rn_len henv Tryd.underlying30 rfl) ?_
    refine gA (v := .bool true) rfl rfl rfl rfl (fun _ henv => rn_bin henv rfl rfl rfl) ?_
    refine sA (v := .bool true) rfl (fun _ henv => rn_pick henv rfl rfl) ?_
    refine mA rfl rfl ?_
    refine gA (v := .pointer (some ⟨g73, 0, none⟩)) rfl rfl rfl rfl (fun _ henv => rn_fieldAddr henv fd_anvil_api_Spot_0 (ty_anvil_api_Errno.size) (by decide) rfl) ?_
    refine gA (v := .int .i64 3) rfl rfl rfl rfl (fun _ henv => rn_load1 henv ty_anvil_api_Errno rfl (hst.oat (k := 2) rfl) rfl) ?_
    refine gA (v := .bool true) rfl rfl rfl rfl (fun _ henv => rn_bin henv rfl rfl rfl) ?_
    refine sA (v := .bool true) rfl (fun _ henv => rn_pick henv rfl rfl) ?_
    refine mA rfl rfl ?_
    refine gA (v := .pointer (some ⟨g73, 1, none⟩)) rfl rfl rfl rfl (fun _ henv => rn_fieldAddr henv fd_anvil_api_Spot_1 (ty_int.size) (by decide) rfl) ?_
    refine gA (v := .int .i64 (8193 : Nat)) rfl rfl rfl rfl (fun _ henv => rn_load1 henv ty_int rfl (hst.oat (k := 2) rfl) rfl) ?_
    refine gA (v := .slice B 8193 c) rfl rfl rfl rfl (fun _ henv => rn_move henv rfl) ?_
    refine gA (v := .int .i64 8193) rfl rfl rfl rfl (fun _ henv => rn_len henv Tryd.underlying77 rfl) ?_
    refine gA (v := .bool (((8193 : Nat) : Int) == (8193 : Int))) rfl rfl rfl rfl (fun _ henv => rn_bin henv rfl rfl rfl) ?_
    intro a henv
    rw [show (((8193 : Nat) : Int) == (8193 : Int)) = true from (beq_self_eq_true _)] at henv
    revert a
    refine sA (v := .bool true) rfl (fun _ henv => rn_pick henv rfl rfl) ?_
    refine mA rfl rfl ?_
    refine gA (v := .slice none 0 0) rfl rfl rfl rfl (fun _ henv => rn_move henv rfl) ?_
    refine gA (v := .int .i64 0) rfl rfl rfl rfl (fun _ henv => rn_len henv Tryd.underlying30 rfl) ?_
    refine gA (v := .bool true) rfl rfl rfl rfl (fun _ henv => rn_bin henv rfl rfl rfl) ?_
    refine sA (v := .bool true) rfl (fun _ henv => rn_pick henv rfl rfl) ?_
    refine mA rfl rfl ?_
    refine gA (v := .pointer (some ⟨g79, 0, none⟩)) rfl rfl rfl rfl (fun _ henv => rn_fieldAddr henv fd_anvil_api_Spot_0 (ty_anvil_api_Errno.size) (by decide) rfl) ?_
    refine gA (v := .int .i64 3) rfl rfl rfl rfl (fun _ henv => rn_load1 henv ty_anvil_api_Errno rfl (hst.oat (k := 0) rfl) rfl) ?_
    refine gA (v := .bool true) rfl rfl rfl rfl (fun _ henv => rn_bin henv rfl rfl rfl) ?_
    refine sA (v := .bool true) rfl (fun _ henv => rn_pick henv rfl rfl) ?_
    refine mA rfl rfl ?_
    refine gA (v := .pointer (some ⟨g79, 1, none⟩)) rfl rfl rfl rfl (fun _ henv => rn_fieldAddr henv fd_anvil_api_Spot_1 (ty_int.size) (by decide) rfl) ?_
    refine gA (v := .int .i64 65536) rfl rfl rfl rfl (fun _ henv => rn_load1 henv ty_int rfl (hst.oat (k := 0) rfl) rfl) ?_
    refine gA (v := .bool true) rfl rfl rfl rfl (fun _ henv => rn_bin henv rfl rfl rfl) ?_
    refine sA (v := .bool true) rfl (fun _ henv => rn_pick henv rfl rfl) ?_
    refine mA rfl rfl ?_
    intro a henv
    refine seq_g rfl henv rfl rfl (op_call henv rfl Tryd.call52 rfl (row_text' (row_nil fN FN 2 _) (xs := []) rfl (fun _ h => by cases h) (by decide)) ?_)
    rintro e w82 ⟨rfl, hb⟩
    refine ⟨_, rfl, ?_⟩
    clear henv a; intro a henv
    replace hst := hst.call hb
    clear hb
    refine seq_g rfl henv rfl rfl (op_val (v := .bool (decide ((textRow []) = [91, 93]))) henv rfl (rn_eqls (s := (textRow [])) (t := [91, 93]) henv rfl rfl) ?_)
    clear henv a; intro a henv
    rw [show (decide ((textRow []) = [91, 93])) = true from (decide_eq_true rfl)] at henv
    revert a
    refine sA (v := .bool true) rfl (fun _ henv => rn_pick henv rfl rfl) ?_
    refine aA rfl rfl ?_
    intro a henv
    refine wpList_nil ?_
    refine th_n ?_
    refine wp_ret ?_
    refine leave henv (res1 Tryd.results6 (RV.tmp henv rfl)) ?_
    exact ⟨rfl, hst.below⟩
end Go.Proofs.YtegglooojlheoaaDoor.W
