/- A block whose first cells are numbers, written to in place; what a call may change beside it. No condition. -/
import Derived.Test.YtegglooojlheoaaDoorM15
import Derived.ArgAppend
import Derived.Test.YtegglooojlheoaaDoorM1

namespace Go.Proofs.YtegglooojlheoaaDoor
open Go.RowKit Anv
theorem set_mid (pre win post : List Nat) (k i v : Nat) (hk : pre.length = k) (hi : i < win.length) : (pre ++ win ++ post).set (k + i) v = pre ++ win.set i v ++ post := by
  rw [List.append_assoc, ← hk, List.set_append_right _ _ (by omega), Nat.add_sub_cancel_left, List.set_append_left _ _ hi, List.append_assoc]
theorem get_mid (pre win post : List Nat) (k i : Nat) (hk : pre.length = k) (hi : i < win.length) : (pre ++ win ++ post).getD (k + i) 0 = win.getD i 0 := by
  rw [List.append_assoc, ← hk]
  simp [List.getD, List.getElem?_append, hi, show ¬ pre.length + i < pre.length by omega]
def Lst (w : World) (g : Nat) (os : List Nat) : Prop := ∃ cur, w.heap[g]? = some (.cells cur 141 (0, 0)) ∧ ∀ i, i < os.length → cur[i]? = some (.int .u32 (os.getD i 0 : Nat))
section
variable {w w' : World} {g : Nat} {os : List Nat}
theorem Lst.lt (h : Lst w g os) : g < w.heap.size := by
  obtain ⟨cur, h, _⟩ := h
  exact (Array.getElem?_eq_some_iff.1 h).1
theorem Lst.cell (h : Lst w g os) (i : Nat) (hi : i < os.length) : w.cell? ⟨g, i, none⟩ = some (.int .u32 (os.getD i 0 : Nat)) := by
  obtain ⟨cur, h, hc⟩ := h
  rw [cell_of_row w g i _ _ (0, 0) h, hc i hi]
theorem Lst.frozen (h : Lst w g os) (i : Nat) : w.frozen? ⟨g, i, none⟩ = false := by
  obtain ⟨cur, h, _⟩ := h
  simp [World.frozen?, h]
theorem Lst.set (h : Lst w g os) (i v : Nat) : Lst (w.setCell ⟨g, i, none⟩ (.int .u32 (v : Nat))) g (os.set i v) := by
  obtain ⟨cur, h, hc⟩ := h
  refine ⟨cur.setIfInBounds i (.int .u32 (v : Nat)), by simp [World.setCell, Array.getElem?_modify, h], fun j hj => ?_⟩
  rw [List.length_set] at hj
  have h1 := hc j hj
  by_cases hij : i = j
  · subst hij
    rw [dset_eq hj]
    have := (Array.getElem?_eq_some_iff.1 h1).1
    simp [this]
  · rw [dset_ne hij, ← h1]
    simp [hij]
theorem Lst.set' (h : Lst w g os) (i : Nat) (x : Int) (v : Nat) (hv : x = (v : Nat)) : Lst (w.setCell ⟨g, i, none⟩ (.int .u32 x)) g (os.set i v) := by
  rw [hv]; exact h.set i v
theorem Lst.keep (h : Lst w g os) (hb : w'.heap[g]? = w.heap[g]?) : Lst w' g os := by
  obtain ⟨cur, h, hc⟩ := h
  exact ⟨cur, hb.trans h, hc⟩
theorem Lst.below (h : Lst w g os) {B : Nat} (hb : Below B w w') (hg : g < B) : Lst w' g os := h.keep (hb.block g hg)
theorem Lst.take (h : Lst w g os) (n : Nat) : Lst w g (os.take n) := by
  obtain ⟨cur, h, hc⟩ := h
  refine ⟨cur, h, fun i hi => ?_⟩
  rw [List.length_take] at hi
  rw [hc i (by omega)]
  congr 3
  simp [List.getD, show i < n by omega]
theorem Lst.u32 (h : Lst w g os) {pre win post : List Nat} {k n c : Nat} (e : os = pre ++ win ++ post) (hk : pre.length = k) (hn : win.length = n) (hc : n ≤ c) (hm : c ≤ maxLen) (hl : AllLt 4294967296 win) : U32 w (some ⟨g, k, none⟩) n c win :=
  ⟨hn, hc, hm, hl, fun _ => ⟨g, k, rfl, h.lt, fun i hi => by
    rw [h.cell (k + i) (by rw [e]; simp; omega), e, get_mid pre win post k i hk (by omega)]⟩⟩
theorem Lst.whole (h : Lst w g os) {n c : Nat} (hn : os.length = n) (hc : n ≤ c) (hm : c ≤ maxLen) (hl : AllLt 4294967296 os) : U32 w (some ⟨g, 0, none⟩) n c os :=
  h.u32 (pre := []) (post := []) (by simp) rfl hn hc hm hl
end
theorem Own.lst {B : Nat} {w : World} {v : Value} {xs : List Nat} (h : Own B 141 w v xs) (h0 : 0 < xs.length) : ∃ g c, v = .slice (some ⟨g, 0, none⟩) xs.length c ∧ xs.length ≤ c ∧ c ≤ maxLen ∧ B ≤ g ∧ Lst w g xs := by
  obtain ⟨h1, h2⟩ := h
  rcases h2 with ⟨_, hn⟩ | ⟨g, cap, cur, hv, hB, hg, hc, hm, hs, ht⟩
  · omega
  · refine ⟨g, cap, hv, hc, hm, hB, cur, hg, fun i hi => ?_⟩
    have h3 : (cur.toList.take (xs.length * 1))[i]? = (xs.map fun n => Value.int .u32 (n : Nat))[i]? := by rw [ht]
    rw [List.getElem?_take, if_pos (by omega), Array.getElem?_toList] at h3
    rw [h3]
    simp [List.getD, hi]
structure Eff (g : Nat) (w w' : World) : Prop where
  os : w'.os = w.os
  tape : w'.tape = w.tape
  output : w'.output = w.output
  size : w.heap.size ≤ w'.heap.size
  block : ∀ k, k < w.heap.size → k ≠ g → w'.heap[k]? = w.heap[k]?
section
variable {w w' w'' : World} {g : Nat}
theorem Eff.refl (g : Nat) (w : World) : Eff g w w := ⟨rfl, rfl, rfl, Nat.le_refl _, fun _ _ _ => rfl⟩
theorem Eff.trans (h : Eff g w w') (k : Eff g w' w'') : Eff g w w'' :=
  ⟨k.os.trans h.os, k.tape.trans h.tape, k.output.trans h.output, Nat.le_trans h.size k.size, fun i hi hg => (k.block i (Nat.lt_of_lt_of_le hi h.size) hg).trans (h.block i hi hg)⟩
theorem Eff.set (h : Eff g w w') {p : Addr} (hp : p.block = g) (u : Value) : Eff g w (w'.setCell p u) :=
  h.trans ⟨rfl, rfl, rfl, by simp [World.setCell], fun k _ hk => Below.heap_setCell _ _ _ _ (by omega)⟩
theorem Eff.drew (h : Eff g w w') : Eff g w w'.drew := ⟨h.os, h.tape, h.output, h.size, h.block⟩
theorem Eff.drewN (h : Eff g w w') (n : Nat) : Eff g w (w'.drewN n) := ⟨h.os, h.tape, h.output, h.size, h.block⟩
theorem Eff.below {B : Nat} {w0 : World} (h : Eff g w w') (hb : Below B w0 w) (hg : B ≤ g) (hs : B ≤ w.heap.size) : Below B w0 w' :=
  hb.trans ⟨h.os, h.tape, h.output, h.size, fun k hk => h.block k (by omega) (by omega)⟩
theorem Eff.u32 (h : Eff g w w') {A : Option Addr} {n c : Nat} {xs : List Nat} (hx : U32 w A n c xs) (hA : ∀ a, A = some a → a.block ≠ g) : U32 w' A n c xs :=
  ⟨hx.len, hx.cap, hx.big, hx.lt, fun hp => by
    obtain ⟨b, off, rfl, hlt, hc⟩ := hx.cells hp
    have hk := h.block b hlt (hA _ rfl)
    exact ⟨b, off, rfl, Nat.lt_of_lt_of_le hlt h.size, fun i hi => by rw [← hc i hi]; exact World.cell?_of_block hk⟩⟩
theorem Eff.arr (h : Eff g w w') {k : IntKind} {t : TypeId} {g' : Nat} {os : List Nat} (ha : Arr k t w g' os) (hg : g' ≠ g) : Arr k t w' g' os := (h.block g' ha.lt hg).trans ha
end
theorem U32.far {w : World} {b n c : Nat} {xs : List Nat} (h : U32 w (some ⟨b, 0, none⟩) n c xs) {p : Addr} (hp : b ≠ p.block) (u : Value) : U32 (w.setCell p u) (some ⟨b, 0, none⟩) n c xs :=
  ⟨h.len, h.cap, h.big, h.lt, fun h0 => by
    obtain ⟨b', off, e, hlt, hc⟩ := h.cells h0
    cases e
    exact ⟨b, 0, rfl, by simp [World.setCell]; exact hlt, fun i hi => by rw [← hc i hi]; exact World.cell?_of_block (Below.heap_setCell _ _ _ _ hp)⟩⟩
theorem wpList_append_full {P : Program} {ops : Array Oper} {rest : List Oper} {o : Oper} {a : Act} {Q : Exit → Act → World → Prop} (w : World) (hgd : o.guard = none) (s x : Operand) (t : TypeId)
    (ho : o.op = .call { callee := .builtin .append, args := #[s, x], argTypes := #[t, t] })
    (e : TypeId) (bytes : Nat) (ht : P.underlying t = some (.slice e)) (hi : (P.info? e).map (fun i => (i.zero, i.size, i.bytes)) = some (some (.int .u32 0), 1, bytes))
    (b n : Nat) (xs : List Nat) (hU : U32 w (some ⟨b, 0, none⟩) n n xs) (m : Nat) (cs : Array Value) (ys : List Nat) (hcs : cs = nums .u32 ys) (hm : ys.length = m) (hm0 : 0 < m)
    (hs : a.eval s = .slice (some ⟨b, 0, none⟩) n n) (hx : a.eval x = .slice (some ⟨w.heap.size, 0, none⟩) m m)
    (h63 : n + m ≤ maxLen) (hbytes : (n + m) * bytes ≤ 140737488355328)
    (h : ∀ v' w', Own (w.heap.size + 1) e w' v' (xs ++ ys) → Below w.heap.size w w' → w.heap.size + 1 ≤ w'.heap.size → wpList P ops Q rest (a.put o.dst v') w') :
    wpList P ops Q (o :: rest) a (w.alloc (.cells cs e)) := by
  subst hcs
  obtain ⟨i, hi1, hi2⟩ := Option.map_eq_some_iff.1 hi
  simp only [Prod.mk.injEq] at hi2
  obtain ⟨hz, hsz, hby⟩ := hi2
  have hsize : (w.alloc (.cells (nums .u32 ys) e)).heap.size = w.heap.size + 1 := by simp
  obtain ⟨v', w', hrun, r1, r2⟩ := run_append_arg_grows (P := P) (w.alloc (.cells (nums .u32 ys) e)) t o.type e i _ 1 bytes ht hi1 hz hsz hby rfl (by omega) ⟨b, 0, none⟩ n n (xs.map fun n => Value.int .u32 (n : Nat)) (by simp [hU.len])
    (fun j u hj => by
      have hj' : j < n := by
        rcases Nat.lt_or_ge j n with h1 | h1
        · exact h1
        · rw [List.getElem?_eq_none (by rw [List.length_map, hU.len]; exact h1)] at hj; cases hj
      obtain ⟨b', off, hA, hlt, hc⟩ := hU.cells (by omega)
      cases hA
      have e1 : (⟨b, 0, none⟩ : Addr).add j = ⟨b, 0 + j, none⟩ := by unfold Addr.add; split <;> simp_all
      rw [e1, World.cell?_alloc_lt w _ ⟨b, 0 + j, none⟩ hlt, hc j hj', ← hj]
      simp [List.getD, hU.len, hj'])
    ⟨w.heap.size, 0, none⟩ m m (ys.map fun n => Value.int .u32 (n : Nat)) (by simp [hm]) (cells_new w e ys) (by omega) h63 hbytes
  refine wpList_plain hgd fun K hK => ?_
  unfold Oper.wp
  simp [execOp, ho, resolve, invoke, builtin, hs, hx, hrun, Result.andThen]
  refine hK _ _ (h v' w' ?_ ?_ ?_)
  · rw [hsize] at r1
    unfold Own
    rw [List.map_append, List.length_append, hU.len, hm]
    exact r1
  · exact ((Below.refl _ _).alloc (Nat.le_refl _) _).grown r2 (by omega) (fun k hk => by cases hk)
  · have := r2.size; omega
end Go.Proofs.YtegglooojlheoaaDoor

/- limb.less: a multiple taken off, in place. No condition. -/
namespace Go.Proofs.YtegglooojlheoaaDoor
open Go.RowKit Anv
theorem mask32 (S : Nat) (h : S < 18446744073709551616) : bits .and .u64 (S : Int) 4294967295 = ((S % 4294967296 : Nat) : Int) := by
  rw [show (4294967295 : Int) = ((4294967295 : Nat) : Int) from rfl, u64_and_nat S 4294967295 h (by omega)]
  congr 1
  exact Nat.and_two_pow_sub_one_eq_mod S 32
theorem borrow2 (x lo r : Nat) (hx : x < 4294967296) (hlo : lo < 4294967296) (hr : r ≤ 1) : ∃ dd r' : Nat, IntKind.u64.wrap (IntKind.u64.wrap ((x : Int) - lo) - r) % 4294967296 = dd ∧ bits .and .u64 (IntKind.u64.wrap (IntKind.u64.wrap ((x : Int) - lo) - r) / 4294967296) 1 = r' ∧ dd < 4294967296 ∧ r' ≤ 1 ∧ dd + lo + r = x + 4294967296 * r' := by
  rw [IntKind.wrap_u64, IntKind.wrap_u64]
  by_cases h : x < lo + r
  · refine ⟨x + 4294967296 - (lo + r), 1, by omega, ?_, by omega, by omega, by omega⟩
    rw [and_one _ (by omega) (by omega)]
    omega
  · refine ⟨x - (lo + r), 0, by omega, ?_, by omega, by omega, by omega⟩
    rw [and_one _ (by omega) (by omega)]
    omega
def LessPost (w : World) (g m : Nat) (pre post : List Nat) (W T : Nat) (e : Ending) (w' : World) : Prop :=
  ∃ os, ((T ≤ W ∧ e = .returned (.bool false) ∧ val 4294967296 os + T = W) ∨ (W < T ∧ e = .returned (.bool true) ∧ val 4294967296 os + T = W + 4294967296 ^ m)) ∧
    os.length = m ∧ AllLt 4294967296 os ∧ Lst w' g (pre ++ os ++ post) ∧ Eff g w w'
theorem less_win {g k m n c d t : Nat} {A : Option Addr} {pre win post vs : List Nat} {w : World} (hL : Lst w g (pre ++ win ++ post)) (hk : pre.length = k) (hm : win.length = m) (hc : m ≤ c) (hkc : k + c ≤ maxLen)
    (hwl : AllLt 4294967296 win) (hv : U32 w A n d vs) (hA : ∀ a, A = some a → a.block ≠ g) (hn : n + 1 = m) (ht : t < 4294967296) :
    Calls Tryd.prog 170 #[.slice (some ⟨g, k, none⟩) m c, .slice A n d, .int .u64 t] w (LessPost w g m pre post (val 4294967296 win) (t * val 4294967296 vs)) := by
  have HK := Lib.hid (And.intro hk hm)
  have HL := Lib.hid hL
  have HWL := Lib.hid hwl
  have HV := Lib.hid hv
  have HAA := Lib.hid hA
  have hvl := hv.len
  have HVL := Lib.hid hvl
  unfold maxLen at hkc
  clear hk hm hL hwl hv hA hvl
  go_enter Tryd.func170, Tryd.ntmps170
  go_wp2
  go_loopw [7, 8, 13] (fun cy br ix wr => ∃ (i cc r : Nat) (os : List Nat), i ≤ m ∧ ix = .int .i64 i ∧ cy = .int .u64 cc ∧ br = .int .u64 r ∧ cc < 4294967296 ∧ r ≤ 1 ∧
        Hid (os.length = m ∧ AllLt 4294967296 os ∧ (∀ j, i ≤ j → os.getD j 0 = win.getD j 0) ∧ val 4294967296 (os.take i) + t * val 4294967296 (vs.take i) = val 4294967296 (win.take i) + 4294967296 ^ i * (cc + r) ∧ (n < i → cc = 0)) ∧
        Hid (Lst wr g (pre ++ os ++ post)) ∧ Hid (Eff g w wr)) (fun _ _ ix _ => m - (intOf ix).toNat)
  case atStart => exact ⟨0, 0, 0, win, Nat.zero_le _, rfl, rfl, rfl, by omega, by omega, ⟨HK.out.2, HWL.out, fun _ _ => rfl, by simp, fun _ => rfl⟩, HL.out, Eff.refl _ _⟩
  case round =>
    obtain ⟨i, cc, r, os, hi, rfl, rfl, rfl, hcc, hr, HI, HR, HW⟩ := hrel
    by_cases hlt : i < m
    · have hil : i < os.length := by rw [HI.out.1]; exact hlt
      have hcx : wr.cell? ⟨g, k + i, none⟩ = some (.int .u32 ((win.getD i 0 : Nat) : Int)) := by
        rw [HR.out.cell (k + i) (by rw [List.length_append, List.length_append, HK.out.1]; omega), get_mid pre os post k i HK.out.1 hil, HI.out.2.2.1 i (Nat.le_refl _)]
      have hfo := HR.out.frozen (k + i)
      have hxlt := HWL.out.get (by omega) i
      clear hil
      by_cases hlv : i < n
      · obtain ⟨b2, off2, rfl, hbw2, hcs⟩ := (HW.out.u32 HV.out HAA.out).cells (by omega)
        have hcy := hcs i hlv
        have hylt := HV.out.lt.get (by omega) i
        clear hcs
        have hmc := mul_carry 4294967296 cc (vs.getD i 0) t 0 (by omega) hcc hylt ht (by omega)
        rw [Nat.add_zero] at hmc
        have hmk := mask32 (cc + vs.getD i 0 * t) (by omega)
        obtain ⟨dd, r', hb1, hb2, hdd, hr', hde⟩ := borrow2 (win.getD i 0) ((cc + vs.getD i 0 * t) % 4294967296) r hxlt (Nat.mod_lt _ (by omega)) hr
        have HS := fun h => less_step 4294967296 win vs os i t cc r dd r' (by rw [HI.out.1]; exact hlt) h hde
        have HS2 := Lib.hid (HS HI.out.2.2.2.1)
        have HB1 := Lib.hid hb1
        have HB2 := Lib.hid hb2
        rw [Int.natCast_add, Int.natCast_mul] at hmk
        clear HS hb1 hb2 hde
        generalize win.getD i 0 = x at *
        generalize vs.getD i 0 = y at *
        generalize (cc + y * t) % 4294967296 = lo at *
        go_wp2
        go_roundw
        case rel =>
          have h3 := HI.out
          exact ⟨i + 1, (cc + y * t) / 4294967296, r', os.set i dd, by omega, by go_num, int_eq (by rw [Int.natCast_ediv, Int.natCast_add, Int.natCast_mul]; rfl), int_eq HB2.out, by omega, hr', ⟨by rw [List.length_set]; exact h3.1, h3.2.1.set i hdd, fun j hj => by rw [dset_ne (by omega)]; exact h3.2.2.1 j (by omega), HS2.out, fun h => by omega⟩, by rw [← set_mid pre os post k i dd HK.out.1 (by rw [h3.1]; exact hlt)]; exact HR.out.set' _ _ _ HB1.out, HW.out.set rfl _⟩
        case measure => simp [intOf]; omega
      · have hmk := mask32 cc (by omega)
        rw [Nat.mod_eq_of_lt hcc] at hmk
        obtain ⟨dd, r', hb1, hb2, hdd, hr', hde⟩ := borrow2 (win.getD i 0) cc r hxlt hcc hr
        have HS := fun h => less_step 4294967296 win vs os i t cc r dd r' (by rw [HI.out.1]; exact hlt) h (by rw [getD_ge (xs := vs) (by rw [HVL.out]; omega), Nat.zero_mul, Nat.add_zero, Nat.mod_eq_of_lt hcc]; exact hde)
        have HS2 := Lib.hid (HS HI.out.2.2.2.1)
        rw [getD_ge (xs := vs) (by rw [HVL.out]; omega), Nat.zero_mul, Nat.add_zero cc, Nat.div_eq_of_lt hcc] at HS2
        have HB1 := Lib.hid hb1
        have HB2 := Lib.hid hb2
        clear HS hb1 hb2 hde
        generalize win.getD i 0 = x at *
        go_wp2
        go_roundw
        case rel =>
          have h3 := HI.out
          exact ⟨i + 1, 0, r', os.set i dd, by omega, by go_num, int_eq (by omega), int_eq HB2.out, by omega, hr', ⟨by rw [List.length_set]; exact h3.1, h3.2.1.set i hdd, fun j hj => by rw [dset_ne (by omega)]; exact h3.2.2.1 j (by omega), HS2.out, fun _ => rfl⟩, by rw [← set_mid pre os post k i dd HK.out.1 (by rw [h3.1]; exact hlt)]; exact HR.out.set' _ _ _ HB1.out, HW.out.set rfl _⟩
        case measure => simp [intOf]; omega
    · have h3 := HI.out
      obtain rfl : i = m := by omega
      have h4 := h3.2.2.2.1
      have h5 := val_lt h3.2.1
      rw [h3.2.2.2.2 (by omega), Nat.zero_add, List.take_of_length_le (by rw [h3.1]; exact Nat.le_refl _), List.take_of_length_le (by rw [HVL.out]; omega), List.take_of_length_le (by rw [HK.out.2]; exact Nat.le_refl _)] at h4
      rw [h3.1] at h5
      have HF := Lib.hid (And.intro h3.1 (And.intro h3.2.1 (And.intro h4 h5)))
      clear h3 h4 h5 HI
      rcases (show r = 0 ∨ r = 1 by omega) with rfl | rfl
      · go_wp2
        go_ret
        have h := HF.out
        exact ⟨os, .inl ⟨by have := h.2.2.1; omega, rfl, by have := h.2.2.1; omega⟩, h.1, h.2.1, HR.out, HW.out⟩
      · go_wp2
        go_ret
        have h := HF.out
        exact ⟨os, .inr ⟨by have := h.2.2.1; have := h.2.2.2; omega, rfl, by have := h.2.2.1; omega⟩, h.1, h.2.1, HR.out, HW.out⟩
end Go.Proofs.YtegglooojlheoaaDoor
