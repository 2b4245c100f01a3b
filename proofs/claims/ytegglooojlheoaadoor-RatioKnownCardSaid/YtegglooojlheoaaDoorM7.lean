/- Blocks of numbers that the call made itself; a make, as a law that leaves a world without a shape. No condition. -/
import Derived.Test.YtegglooojlheoaaDoorM3
import Derived.Deep.OwnRows
import Derived.Deep.DeepCutAuto
import Derived.Deep.QuietTactic
import Derived.BigQuiet
import Derived.LoopTactic
import Derived.Laws.CopyOwn
import Derived.Test.YtegglooojlheoaaDoorM1

namespace Go.Proofs.YtegglooojlheoaaDoor
open Go.RowKit Anv
def nums (k : IntKind) (os : List Nat) : Array Value := (os.map fun n => Value.int k (n : Nat)).toArray
theorem size_nums (k : IntKind) (os : List Nat) : (nums k os).size = os.length := by simp [nums]
theorem nums_at (k : IntKind) (os : List Nat) (i : Nat) (h : i < os.length) : (nums k os)[i]? = some (.int k (os.getD i 0 : Nat)) := by
  simp [nums, List.getD, h]
theorem nums_set (k : IntKind) (os : List Nat) (i v : Nat) : (nums k os).setIfInBounds i (.int k (v : Nat)) = nums k (os.set i v) := by
  simp [nums, List.map_set]
def Arr (k : IntKind) (t : TypeId) (w : World) (g : Nat) (os : List Nat) : Prop := w.heap[g]? = some (.cells (nums k os) t (0, 0))
section
variable {k : IntKind} {t : TypeId} {w w' : World} {g : Nat} {os : List Nat}
theorem Arr.lt (h : Arr k t w g os) : g < w.heap.size := by
  rcases Nat.lt_or_ge g w.heap.size with hlt | hge
  · exact hlt
  · unfold Arr at h; rw [Array.getElem?_eq_none hge] at h; cases h
theorem Arr.cell (h : Arr k t w g os) (i : Nat) (hi : i < os.length) : w.cell? ⟨g, i, none⟩ = some (.int k (os.getD i 0 : Nat)) := by
  rw [cell_of_row w g i _ t (0, 0) h, nums_at k os i hi]
theorem Arr.frozen (h : Arr k t w g os) (i : Nat) : w.frozen? ⟨g, i, none⟩ = false := by
  unfold Arr at h
  simp [World.frozen?, h]
theorem Arr.alloc (h : Arr k t w g os) (o : Obj) : Arr k t (w.alloc o) g os := (Below.heap_alloc w o g h.lt).trans h
theorem Arr.set (h : Arr k t w g os) (i v : Nat) : Arr k t (w.setCell ⟨g, i, none⟩ (.int k (v : Nat))) g (os.set i v) := by
  unfold Arr at h ⊢
  simp [World.setCell, Array.getElem?_modify, h, nums_set]
theorem Arr.set' (h : Arr k t w g os) (i : Nat) (x : Int) (v : Nat) (hv : x = (v : Nat)) : Arr k t (w.setCell ⟨g, i, none⟩ (.int k x)) g (os.set i v) := by
  rw [hv]; exact h.set i v
theorem Arr.far (h : Arr k t w g os) {p : Addr} (hp : g ≠ p.block) (u : Value) : Arr k t (w.setCell p u) g os := (Below.heap_setCell w p u g hp).trans h
theorem Arr.below {B : Nat} (h : Arr k t w g os) (hb : Below B w w') (hg : g < B) : Arr k t w' g os := (hb.block g hg).trans h
end
theorem Arr.u32 {t : TypeId} {w : World} {g : Nat} {os : List Nat} (h : Arr .u32 t w g os) (hl : AllLt 4294967296 os) {n : Nat} (hn : os.length = n) (hm : n ≤ maxLen) : U32 w (some ⟨g, 0, none⟩) n n os :=
  ⟨hn, Nat.le_refl _, hm, hl, fun _ => ⟨g, 0, rfl, h.lt, fun i hi => by rw [Nat.zero_add]; exact h.cell i (by omega)⟩⟩
theorem made_nums (k : IntKind) (n : Nat) : madeCells #[.int k 0] n = nums k (List.replicate n 0) := by
  apply Array.ext
  · simp [size_madeCells, nums]
  · intro i h1 h2
    simp [madeCells, nums, Nat.mod_one]
theorem wpList_make_nums {P : Program} (w : World) {ops : Array Oper} {rest : List Oper} {o : Oper} {a : Act} {Q : Exit → Act → World → Prop}
    (hg : o.guard = none) (l c : Operand) (t : TypeId) (hop : o.op = Op.makeSlice t l c)
    (e : TypeId) (k : IntKind) (bytes : Nat) (ht : P.underlying t = some (.slice e)) (hi : (P.info? e).map (fun i => (i.zero, i.size, i.bytes)) = some (some (.int k 0), 1, bytes))
    (kl kc : IntKind) (N M : Int) (n : Nat) (hl : a.eval l = .int kl N) (hc : a.eval c = .int kc M) (hN : N = (n : Nat)) (hM : M = (n : Nat)) (hbytes : bytes * n ≤ 281474976710656) (h63 : n ≤ 9223372036854775807)
    (hK : ∀ w1, Arr k e w1 w.heap.size (List.replicate n 0) → Below w.heap.size w w1 → w1.heap.size = w.heap.size + 1 → wpList P ops Q rest (a.put o.dst (.slice (some ⟨w.heap.size, 0, none⟩) n n)) w1) :
    wpList P ops Q (o :: rest) a w := by
  subst hN hM
  obtain ⟨i, hi1, hi2⟩ := Option.map_eq_some_iff.1 hi
  simp only [Prod.mk.injEq] at hi2
  obtain ⟨hz, hs, hb⟩ := hi2
  refine wpList_make_row w hg l c t hop e i _ ht hi1 hz hs rfl kl kc n hl hc (by rw [hb]; exact hbytes) h63 ?_
  refine hK _ ?_ ((Below.refl _ _).alloc (Nat.le_refl _) _) (by simp)
  show (w.alloc _).heap[w.heap.size]? = _
  rw [heap_alloc_new, made_nums]
theorem wpList_copy_nums {P : Program} {w : World} {ops : Array Oper} {rest : List Oper} {o : Oper} {a : Act} {Q : Exit → Act → World → Prop} (hgd : o.guard = none) (d s : Operand) (dT sT : TypeId)
    (ho : o.op = .call { callee := .builtin .copy, args := #[d, s], argTypes := #[dT, sT] }) (elem : TypeId) (hu : P.underlying dT = some (.slice elem)) (hsz : (P.info? elem).map (·.size) = some 1)
    (g n m c : Nat) (A : Option Addr) (os xs : List Nat) (t : TypeId) (hd : a.eval d = .slice (some ⟨g, 0, none⟩) n m) (hs : a.eval s = .slice A n c)
    (hA : Arr .u32 t w g os) (hos : os.length = n) (hx : U32 w A n c xs) (B : Nat) (w0 : World) (hb : Below B w0 w) (hBg : B ≤ g)
    (h : ∀ w', Arr .u32 t w' g xs → Below B w0 w' → wpList P ops Q rest (a.put o.dst (goInt n)) w') :
    wpList P ops Q (o :: rest) a w := by
  have hl : (xs.map fun n => Value.int .u32 (n : Nat)).length = n := by rw [List.length_map, hx.len]
  refine wpList_copy_splice hgd d s dT sT ho elem hu hsz _ _ _ _ _ _ hd hs g 0 (os.map fun n => Value.int .u32 (n : Nat)) t hA (xs.map fun n => Value.int .u32 (n : Nat)) (by rw [hl]; simp) ?_ (by simp [hos, hx.len]) ?_ B w0 hb hBg ?_
  · intro hp
    obtain ⟨b, off, rfl, hbw, hc⟩ := hx.cells (by omega)
    refine ⟨rfl, _, rfl, fun j v hj => ?_⟩
    have hj' : j < n := by
      rcases Nat.lt_or_ge j n with h1 | h1
      · exact h1
      · rw [List.getElem?_eq_none (by rw [hl]; exact h1)] at hj; cases hj
    have e : (⟨b, off, none⟩ : Addr).add j = ⟨b, off + j, none⟩ := by unfold Addr.add; split <;> simp_all
    rw [e, hc j hj', ← hj]
    simp [List.getD, hx.len, hj']
  · intro v hv
    obtain ⟨y, _, rfl⟩ := List.mem_map.1 hv
    rfl
  · intro w' hH hB'
    rw [hl]
    refine h w' ?_ hB'
    have h2 := hH.out
    have e : splice (os.map fun n => Value.int .u32 (n : Nat)) 0 (xs.map fun n => Value.int .u32 (n : Nat)) = xs.map fun n => Value.int .u32 (n : Nat) := by
      simp [splice, hos, hx.len]
    rw [e] at h2
    exact h2
theorem size_u32 : (Tryd.prog.info? 141).map (·.size) = some 1 := by kernel_rfl
theorem info_u32 : (Tryd.prog.info? 141).map (fun i => (i.zero, i.size, i.bytes)) = some (some (.int .u32 0), 1, 4) := by kernel_rfl
end Go.Proofs.YtegglooojlheoaaDoor

/- limb.Add. No condition. -/
namespace Go.Proofs.YtegglooojlheoaaDoor
open Go.RowKit Anv
theorem add_any (A B : Option Addr) (n c m d : Nat) (xs ys : List Nat) (w : World) (h : U32 w A n c xs) (k : U32 w B m d ys) (hn : n ≤ 1000000) (hm : m ≤ 1000000) :
    Calls Tryd.prog 132 #[.slice A n c, .slice B m d] w fun e w' => ∃ v, e = .returned v ∧ NumAt w.heap.size w' v (val 4294967296 xs + val 4294967296 ys) ∧ Below w.heap.size w w' := by
  go_enter Tryd.func132, Tryd.ntmps132
  go_upto_if 13 with fail
  go_cut [0, 1] (fun s0 s1 wx => wx = w ∧ ∃ (A' B' : Option Addr) (n' c' m' d' : Nat) (xs' ys' : List Nat), s0 = .slice A' n' c' ∧ s1 = .slice B' m' d' ∧ Hid (U32 w A' n' c' xs' ∧ U32 w B' m' d' ys') ∧ m' ≤ n' ∧ n' ≤ 1000000 ∧ Hid (val 4294967296 xs' + val 4294967296 ys' = val 4294967296 xs + val 4294967296 ys))
  case first =>
    by_cases hlt : n < m
    · go_wp2
      go_meet
      case rel => exact ⟨rfl, B, A, m, d, n, c, ys, xs, rfl, rfl, ⟨k, h⟩, by omega, by omega, Nat.add_comm _ _⟩
    · go_wp2
      go_meet
      case rel => exact ⟨rfl, A, B, n, c, m, d, xs, ys, rfl, rfl, ⟨h, k⟩, by omega, by omega, rfl⟩
  case rest =>
    obtain ⟨rfl, A', B', n', c', m', d', xs', ys', rfl, rfl, hu, hmn, hn', HS⟩ := hcut
    clear h k hn hm
    go_wp2_with (at_make; refine wpList_make_nums _ rfl _ _ 23 rfl 141 .u32 4 Tryd.underlying23 info_u32 _ _ _ _ (n' + 1) rfl rfl (by omega) (by omega) (by omega) (by omega) ?_; intro w1 hA1 hB1 hz1)
    have HA := Lib.hid hA1
    have HB := Lib.hid hB1
    clear hA1 hB1
    go_loopw [6, 22] (fun cy i wr => ∃ (k cc : Nat) (os : List Nat), k ≤ n' ∧ i = .int .i64 k ∧ cy = .int .u64 cc ∧ cc ≤ 1 ∧
        Hid (os.length = n' + 1 ∧ AllLt 4294967296 os ∧ val 4294967296 (os.take k) + 4294967296 ^ k * cc = val 4294967296 (xs'.take k) + val 4294967296 (ys'.take k)) ∧
        Hid (Arr .u32 141 wr wc.heap.size os) ∧ Hid (Below wc.heap.size wc wr)) (fun _ i _ => n' - (intOf i).toNat)
    case atStart => exact ⟨0, 0, _, Nat.zero_le _, rfl, rfl, by omega, ⟨by simp, AllLt.zeros (by omega) _, by simp⟩, HA.out, HB.out⟩
    case round =>
      obtain ⟨k, cc, os, hk, rfl, rfl, hcc, HI, HR, HW⟩ := hrel
      by_cases hlt : k < n'
      · obtain ⟨b, off, rfl, hbw, hcs⟩ := hu.out.1.cells (by omega)
        have hcx := (HW.out.cell (p := ⟨b, off + k, none⟩) hbw).trans (hcs k hlt)
        have hxlt := hu.out.1.lt.get (by omega) k
        clear hcs
        generalize hx : xs'.getD k 0 = x at hcx hxlt
        have HX := Lib.hid hx
        clear hx
        have hco := HR.out.cell k (by rw [HI.out.1]; omega)
        have hfo := HR.out.frozen k
        by_cases hlm : k < m'
        · obtain ⟨b2, off2, rfl, hbw2, hcs⟩ := hu.out.2.cells (by omega)
          have hcy := (HW.out.cell (p := ⟨b2, off2 + k, none⟩) hbw2).trans (hcs k hlm)
          have hylt := hu.out.2.lt.get (by omega) k
          clear hcs
          generalize hy : ys'.getD k 0 = y at hcy hylt
          have HY := Lib.hid hy
          clear hy
          go_wp2
          go_roundw
          case rel =>
            have h3 := HI.out
            have h4 := add_step 4294967296 xs' ys' os k cc (by omega) h3.2.2
            rw [HX.out, HY.out] at h4
            exact ⟨k + 1, (cc + x + y) / 4294967296, os.set k ((cc + x + y) % 4294967296), by omega, by go_num, int_eq (by omega), by omega, ⟨by simp; exact h3.1, h3.2.1.set k (by omega), h4⟩, HR.out.set' k _ _ (by omega), HW.out.setCell (Nat.le_refl _) _⟩
          case measure => simp [intOf]; omega
        · have hy : ys'.getD k 0 = 0 := getD_ge (by rw [hu.out.2.len]; omega)
          have HY := Lib.hid hy
          clear hy
          go_wp2
          go_roundw
          case rel =>
            have h3 := HI.out
            have h4 := add_step 4294967296 xs' ys' os k cc (by omega) h3.2.2
            rw [HX.out, HY.out, Nat.add_zero] at h4
            exact ⟨k + 1, (cc + x) / 4294967296, os.set k ((cc + x) % 4294967296), by omega, by go_num, int_eq (by omega), by omega, ⟨by simp; exact h3.1, h3.2.1.set k (by omega), h4⟩, HR.out.set' k _ _ (by omega), HW.out.setCell (Nat.le_refl _) _⟩
          case measure => simp [intOf]; omega
      · have hco := HR.out.cell n' (by rw [HI.out.1]; omega)
        have hfo := HR.out.frozen n'
        go_wp2_with fail
        have h3 := HI.out
        obtain rfl : k = n' := by omega
        have hset := HR.out.set k cc
        have hlt' : AllLt 4294967296 (os.set k cc) := h3.2.1.set k (by omega)
        have hU := hset.u32 hlt' (n := k + 1) (by simp; exact h3.1) (by simp only [maxLen]; omega)
        have hv : val 4294967296 (os.set k cc) = val 4294967296 xs + val 4294967296 ys := by
          have h5 := val_set_take 4294967296 os k cc (by omega)
          rw [List.take_of_length_le (by simp; omega), h3.2.2, List.take_of_length_le (by rw [hu.out.1.len]; omega), List.take_of_length_le (by rw [hu.out.2.len]; omega), HS.out] at h5
          exact h5
        have hB2 := HW.out.setCell (p := ⟨wc.heap.size, k, none⟩) (Nat.le_refl _) (.int .u32 (cc : Nat))
        have hT := hU.trim
        rw [hv] at hT
        have hl := tl_L hlt'
        rw [hv] at hl
        refine (trim_any _ _ _ _ _ hU).mono ?_
        rintro e w' ⟨rfl, rfl⟩
        rw [hl] at hT ⊢
        have HT := Lib.hid hT
        have HB2 := Lib.hid hB2
        clear hT hB2 hl hv hU hset h3 hco hfo
        go_wp2
        go_ret
        exact ⟨_, rfl, ⟨_, _, rfl, HT.out, fun a ha => by cases ha; exact Nat.le_refl _⟩, HB2.out⟩
theorem add_num {A B : Option Addr} {n c m d N M : Nat} {w : World} (h : NumIn w A n c N) (k : NumIn w B m d M) (hn : n ≤ 1000000) (hm : m ≤ 1000000) :
    Calls Tryd.prog 132 #[.slice A n c, .slice B m d] w fun e w' => ∃ v, e = .returned v ∧ NumAt w.heap.size w' v (N + M) ∧ Below w.heap.size w w' := by
  obtain ⟨xs, hx, rfl⟩ := h
  obtain ⟨ys, hy, rfl⟩ := k
  exact add_any A B n c m d xs ys w hx hy hn hm
end Go.Proofs.YtegglooojlheoaaDoor

/- limb.Cmp. No condition. -/
namespace Go.Proofs.YtegglooojlheoaaDoor
open Go.RowKit Anv
theorem cmp_num {A B : Option Addr} {n c m d N M : Nat} {w : World} (h : NumIn w A n c N) (h' : NumIn w B m d M) :
    Calls Tryd.prog 108 #[.slice A n c, .slice B m d] w fun e w' => e = .returned (.int .i64 (cmpI N M)) ∧ ∃ q, w' = w.drewN q := by
  go_enter Tryd.func108, Tryd.ntmps108
  go_wp2_with fail
  refine (trim_num _ _ _ _ _ h).mono ?_
  rintro e w' ⟨rfl, hU, rfl⟩
  go_wp2_with fail
  refine (trim_num _ _ _ _ _ h').mono ?_
  rintro e w' ⟨rfl, kU, rfl⟩
  have hbig := hU.big
  have kbig := kU.big
  unfold maxLen at hbig kbig
  by_cases h1 : nl N < nl M
  · go_wp2
    go_ret
    exact ⟨by rw [cmpI_lt (dig_len_lt (by omega) h1)]; rfl, 0, rfl⟩
  · by_cases h2 : nl M < nl N
    · go_wp2
      go_ret
      exact ⟨by rw [cmpI_gt (dig_len_lt (by omega) h2)]; rfl, 0, rfl⟩
    · have h3 : nl N = nl M := by omega
      have H3 := Lib.hid h3
      clear h3
      go_wp2
      go_loopw [5] (fun i wr => ∃ k : Nat, k ≤ nl N ∧ i = .int .i64 ((k : Int) - 1) ∧ Hid ((L N).drop k = (L M).drop k) ∧ Hid (∃ q, wr = w.drewN q)) (fun i _ => (intOf i + 1).toNat)
      case atStart => exact ⟨nl N, Nat.le_refl _, rfl, by show (L N).drop (nl N) = (L M).drop (nl N); rw [drop_all (xs := L N) (n := nl N) (Nat.le_refl _), drop_all (xs := L M) (n := nl N) (by rw [H3.out]; exact Nat.le_refl _)], 0, rfl⟩
      case round =>
        obtain ⟨k, hk, rfl, HD, HQ⟩ := hrel
        obtain ⟨q, rfl⟩ := HQ.out
        rcases k with _ | k
        · go_wp2
          go_ret
          refine ⟨?_, q, rfl⟩
          have h4 := HD.out
          rw [List.drop_zero, List.drop_zero] at h4
          have h5 : N = M := by rw [← val_L N, ← val_L M, h4]
          rw [h5, cmpI_eq]; rfl
        · rw [show (((k + 1 : Nat) : Int) - 1) = (k : Int) from by omega]
          obtain ⟨b, off, rfl, hbw, hcs⟩ := hU.cells (by omega)
          have hcx := hcs k (by omega)
          obtain ⟨b2, off2, rfl, hbw2, hcs2⟩ := kU.cells (by omega)
          have hcy := hcs2 k (by omega)
          clear hcs hcs2
          generalize hx : (L N).getD k 0 = x at hcx
          generalize hy : (L M).getD k 0 = y at hcy
          have HX := Lib.hid hx
          have HY := Lib.hid hy
          clear hx hy
          have hk0 : (0 : Int) ≤ (k : Int) := by omega
          have hk1 : (k : Int) < (nl N : Int) := by omega
          have hk2 : (k : Int) < (nl M : Int) := by omega
          have hkt : ((k : Int)).toNat = k := by omega
          have hlx : k < (L N).length := by show k < nl N; omega
          have hly : k < (L M).length := by show k < nl M; omega
          by_cases hxy : x < y
          · go_wp2_with fail
            go_quiet (fail)
            go_wp2_with fail
            go_ret
            refine ⟨?_, by simp only [World.drewN_drewN]; exact ⟨_, rfl⟩⟩
            rw [cmpI_lt]
            · rfl
            · rw [← val_L N, ← val_L M]
              exact val_lt_of _ _ k (L_lt N) HD.out hlx (by rw [HX.out, HY.out]; exact hxy) hly
          · by_cases hyx : y < x
            · go_wp2_with fail
              go_quiet (fail)
              go_wp2_with fail
              go_quiet (fail)
              go_wp2_with fail
              go_ret
              refine ⟨?_, by simp only [World.drewN_drewN]; exact ⟨_, rfl⟩⟩
              rw [cmpI_gt]
              · rfl
              · rw [← val_L N, ← val_L M]
                exact val_lt_of _ _ k (L_lt M) HD.out.symm hly (by rw [HX.out, HY.out]; exact hyx) hlx
            · go_wp2_with fail
              go_quiet (fail)
              go_wp2_with fail
              go_quiet (fail)
              go_wp2_with fail
              go_roundw
              case rel => exact ⟨k, by omega, rfl, by show (L N).drop k = (L M).drop k; rw [drop_step _ k hlx, drop_step _ k hly, HX.out, HY.out, HD.out, show x = y from by omega], by show ∃ q, _ = _; exact ⟨_, rfl⟩⟩
              case measure => simp [intOf]
theorem cmp_num' {A B : Option Addr} {n c m d N M : Nat} {w : World} (h : NumIn w A n c N) (h' : NumIn w B m d M) :
    Calls Tryd.prog 108 #[.slice A n c, .slice B m d] w fun e w' => e = .returned (.int .i64 (cmpI N M)) ∧ Below w.heap.size w w' := by
  refine (cmp_num h h').mono ?_
  rintro e w' ⟨rfl, q, rfl⟩
  exact ⟨rfl, below_drewN' w q⟩
end Go.Proofs.YtegglooojlheoaaDoor

/- limb.Sub. No condition. -/
namespace Go.Proofs.YtegglooojlheoaaDoor
open Go.RowKit Anv
theorem sub_num {A B : Option Addr} {n c m d N M : Nat} {w : World} (h : NumIn w A n c N) (h' : NumIn w B m d M) (hn : n ≤ 1000000) (hNM : M ≤ N) :
    Calls Tryd.prog 133 #[.slice A n c, .slice B m d] w fun e w' => ∃ v, e = .returned (.tuple #[v, .int .i64 0]) ∧ NumAt w.heap.size w' v (N - M) ∧ Below w.heap.size w w' := by
  have hc0 := cmpI_neg N M
  have hcb := cmpI_bd N M
  have hc1 : ¬ cmpI N M < 0 := by omega
  clear hc0
  go_enter Tryd.func133, Tryd.ntmps133
  go_wp2_with fail
  refine (cmp_num h h').mono ?_
  rintro e w' ⟨rfl, q, rfl⟩
  have HH := Lib.hid (And.intro h h')
  clear h h'
  obtain ⟨xs, hx, hxv⟩ := HH.out.1
  obtain ⟨ys, hy, hyv⟩ := HH.out.2
  have HV := Lib.hid (And.intro hxv hyv)
  clear hxv hyv
  have hsz : (w.drewN q).heap.size = w.heap.size := rfl
  clear hsz
  go_wp2_with (at_make; refine wpList_make_nums _ rfl _ _ 23 rfl 141 .u32 4 Tryd.underlying23 info_u32 _ _ _ _ n rfl rfl (by omega) (by omega) (by omega) (by omega) ?_; intro w1 hA1 hB1 hz1)
  have HA := Lib.hid hA1
  have HB := Lib.hid hB1
  clear hA1 hB1 hz1
  go_loopw [7, 21] (fun cy i wr => ∃ (k r : Nat) (os : List Nat), k ≤ n ∧ i = .int .i64 k ∧ cy = .int .u64 r ∧ r ≤ 1 ∧
        Hid (os.length = n ∧ AllLt 4294967296 os ∧ val 4294967296 (os.take k) + val 4294967296 (ys.take k) = val 4294967296 (xs.take k) + 4294967296 ^ k * r) ∧
        Hid (Arr .u32 141 wr w.heap.size os) ∧ Hid (Below w.heap.size w wr)) (fun _ i _ => n - (intOf i).toNat)
  case atStart => exact ⟨0, 0, _, Nat.zero_le _, rfl, rfl, by omega, ⟨by simp, AllLt.zeros (by omega) _, by simp⟩, HA.out, (below_drewN' w q).trans HB.out⟩
  case round =>
      obtain ⟨k, r, os, hk, rfl, rfl, hr, HI, HR, HW⟩ := hrel
      by_cases hlt : k < n
      · obtain ⟨b, off, rfl, hbw, hcs⟩ := hx.cells (by omega)
        have hcx := (HW.out.cell (p := ⟨b, off + k, none⟩) hbw).trans (hcs k hlt)
        have hxlt := hx.lt.get (by omega) k
        clear hcs
        generalize hx : xs.getD k 0 = x at hcx hxlt
        have HX := Lib.hid hx
        clear hx
        have hco := HR.out.cell k (by rw [HI.out.1]; omega)
        have hfo := HR.out.frozen k
        by_cases hlm : k < m
        · obtain ⟨b2, off2, rfl, hbw2, hcs⟩ := hy.cells (by omega)
          have hcy := (HW.out.cell (p := ⟨b2, off2 + k, none⟩) hbw2).trans (hcs k hlm)
          have hylt := hy.lt.get (by omega) k
          clear hcs
          generalize hy : ys.getD k 0 = y at hcy hylt
          have HY := Lib.hid hy
          clear hy
          by_cases hxy : x < r + y
          · have hb := borrow_yes x (r + y) hxlt (by omega) (by omega)
            rw [show (((r + y : Nat)) : Int) = (r : Int) + y from by omega] at hb
            have HB := Lib.hid hb
            clear hb
            go_wp2
            go_roundw
            case rel =>
              have h3 := HI.out
              have h4 := sub_step 4294967296 xs ys os k r (x + 4294967296 - (r + y)) 1 (by omega) h3.2.2 (by rw [HX.out, HY.out]; omega)
              exact ⟨k + 1, 1, os.set k (x + 4294967296 - (r + y)), by omega, by go_num, int_eq HB.out.1, by omega, ⟨by simp; exact h3.1, h3.2.1.set k (by omega), h4⟩, HR.out.set' k _ _ HB.out.2, HW.out.setCell (Nat.le_refl _) _⟩
            case measure => simp [intOf]; omega
          · have hb := borrow_no x (r + y) hxlt (by omega)
            rw [show (((r + y : Nat)) : Int) = (r : Int) + y from by omega] at hb
            have HB := Lib.hid hb
            clear hb
            go_wp2
            go_roundw
            case rel =>
              have h3 := HI.out
              have h4 := sub_step 4294967296 xs ys os k r (x - (r + y)) 0 (by omega) h3.2.2 (by rw [HX.out, HY.out]; omega)
              exact ⟨k + 1, 0, os.set k (x - (r + y)), by omega, by go_num, int_eq HB.out.1, by omega, ⟨by simp; exact h3.1, h3.2.1.set k (by omega), h4⟩, HR.out.set' k _ _ HB.out.2, HW.out.setCell (Nat.le_refl _) _⟩
            case measure => simp [intOf]; omega
        · have hy : ys.getD k 0 = 0 := getD_ge (by rw [hy.len]; omega)
          have HY := Lib.hid hy
          clear hy
          by_cases hxy : x < r
          · have hb := borrow_yes x r hxlt (by omega) (by omega)
            have HB := Lib.hid hb
            clear hb
            go_wp2
            go_roundw
            case rel =>
              have h3 := HI.out
              have h4 := sub_step 4294967296 xs ys os k r (x + 4294967296 - r) 1 (by omega) h3.2.2 (by rw [HX.out, HY.out]; omega)
              exact ⟨k + 1, 1, os.set k (x + 4294967296 - r), by omega, by go_num, int_eq HB.out.1, by omega, ⟨by simp; exact h3.1, h3.2.1.set k (by omega), h4⟩, HR.out.set' k _ _ HB.out.2, HW.out.setCell (Nat.le_refl _) _⟩
            case measure => simp [intOf]; omega
          · have hb := borrow_no x r hxlt (by omega)
            have HB := Lib.hid hb
            clear hb
            go_wp2
            go_roundw
            case rel =>
              have h3 := HI.out
              have h4 := sub_step 4294967296 xs ys os k r (x - r) 0 (by omega) h3.2.2 (by rw [HX.out, HY.out]; omega)
              exact ⟨k + 1, 0, os.set k (x - r), by omega, by go_num, int_eq HB.out.1, by omega, ⟨by simp; exact h3.1, h3.2.1.set k (by omega), h4⟩, HR.out.set' k _ _ HB.out.2, HW.out.setCell (Nat.le_refl _) _⟩
            case measure => simp [intOf]; omega
      · go_wp2_with fail
        have h3 := HI.out
        obtain rfl : k = n := by omega
        have hU := HR.out.u32 h3.2.1 h3.1 (by simp only [maxLen]; omega)
        have hv : val 4294967296 os = N - M := by
          rw [← HV.out.1, ← HV.out.2]
          exact sub_final xs ys os k r h3.2.1 h3.1 hx.len hx.lt hr h3.2.2 (by rw [HV.out.1, HV.out.2]; exact hNM)
        have hN : NumIn wr (some ⟨w.heap.size, 0, none⟩) k k (N - M) := ⟨os, hU, hv⟩
        refine (trim_num _ _ _ _ _ hN).mono ?_
        rintro e w' ⟨rfl, hT, rfl⟩
        have HT := Lib.hid hT
        clear hT hv hU h3 hN
        go_wp2
        go_ret2
        exact ⟨_, rfl, ⟨_, _, rfl, HT.out, fun a ha => by cases ha; exact Nat.le_refl _⟩, HW.out⟩
end Go.Proofs.YtegglooojlheoaaDoor

/- limb.Mul. No condition. -/
namespace Go.Proofs.YtegglooojlheoaaDoor
open Go.RowKit Anv
theorem mul_any (A B : Option Addr) (n c m d : Nat) (xs ys : List Nat) (w : World) (hx : U32 w A n c xs) (hy : U32 w B m d ys) (hn : n ≤ 1000000) (hm : m ≤ 1000000) :
    Calls Tryd.prog 131 #[.slice A n c, .slice B m d] w fun e w' => ∃ v, e = .returned v ∧ NumAt w.heap.size w' v (val 4294967296 xs * val 4294967296 ys) ∧ Below w.heap.size w w' := by
  go_enter Tryd.func131, Tryd.ntmps131
  go_wp2_with (at_make; refine wpList_make_nums _ rfl _ _ 23 rfl 141 .u32 4 Tryd.underlying23 info_u32 _ _ _ _ (n + m) rfl rfl (by omega) (by omega) (by omega) (by omega) ?_; intro w1 hA1 hB1 hz1)
  have HA := Lib.hid hA1
  have HB := Lib.hid hB1
  clear hA1 hB1 hz1
  go_loopw [19] (fun i wr => ∃ (k : Nat) (os : List Nat), k ≤ n ∧ i = .int .i64 k ∧
        Hid (os.length = n + m ∧ AllLt 4294967296 os ∧ val 4294967296 os = val 4294967296 (xs.take k) * val 4294967296 ys ∧ ∀ j, k + m ≤ j → os.getD j 0 = 0) ∧
        Hid (Arr .u32 141 wr w.heap.size os) ∧ Hid (Below w.heap.size w wr)) (fun i _ => n - (intOf i).toNat)
  case atStart => exact ⟨0, _, Nat.zero_le _, rfl, ⟨by simp, AllLt.zeros (by omega) _, by simp [val_zeros], fun j _ => zeros_getD _ _⟩, HA.out, HB.out⟩
  case round =>
    obtain ⟨k, os, hk, rfl, HI, HR, HW⟩ := hrel
    by_cases hlt : k < n
    · obtain ⟨b, off, rfl, hbw, hcs⟩ := hx.cells (by omega)
      have hcx := (HW.out.cell (p := ⟨b, off + k, none⟩) hbw).trans (hcs k hlt)
      have hxlt := hx.lt.get (by omega) k
      clear hcs
      generalize hx : xs.getD k 0 = x at hcx hxlt
      have HX := Lib.hid hx
      clear hx
      go_wp2
      obtain ⟨wo, rfl⟩ : ∃ wo : World, wo = wr := ⟨_, rfl⟩
      go_loopw [8, 26] (fun cy i wr => ∃ (q cc : Nat) (os : List Nat), q ≤ m ∧ i = .int .i64 q ∧ cy = .int .u64 cc ∧ cc < 4294967296 ∧
        Hid (os.length = n + m ∧ AllLt 4294967296 os ∧ val 4294967296 os + 4294967296 ^ (k + q) * cc = val 4294967296 (xs.take k) * val 4294967296 ys + 4294967296 ^ k * (x * val 4294967296 (ys.take q)) ∧ ∀ j, k + m ≤ j → os.getD j 0 = 0) ∧
        Hid (Arr .u32 141 wr w.heap.size os) ∧ Hid (Below w.heap.size w wr)) (fun _ i _ => m - (intOf i).toNat)
      case atStart => exact ⟨0, 0, os, Nat.zero_le _, rfl, rfl, by omega, ⟨HI.out.1, HI.out.2.1, by simp [HI.out.2.2.1], HI.out.2.2.2⟩, HR.out, HW.out⟩
      case round =>
        clear HI HR HW
        obtain ⟨q, cc, os, hq, rfl, rfl, hcc, HI, HR, HW⟩ := hrel
        by_cases hqm : q < m
        · obtain ⟨b2, off2, rfl, hbw2, hcs⟩ := hy.cells (by omega)
          have hcy := (HW.out.cell (p := ⟨b2, off2 + q, none⟩) hbw2).trans (hcs q hqm)
          have hylt := hy.lt.get (by omega) q
          clear hcs
          generalize hy : ys.getD q 0 = y at hcy hylt
          have HY := Lib.hid hy
          clear hy
          have hco := HR.out.cell (k + q) (by rw [HI.out.1]; omega)
          have hfo := HR.out.frozen (k + q)
          have holt := HI.out.2.1.get (by omega) (k + q)
          generalize ho : os.getD (k + q) 0 = o at hco holt
          have HO := Lib.hid ho
          clear ho
          have hmc := mul_carry 4294967296 cc x y o (by omega) hcc hxlt hylt holt
          go_wp2
          go_roundw
          case rel =>
            have h3 := HI.out
            have h4 := mul_step 4294967296 ys os k q cc x _ (by omega) h3.2.2.1
            rw [HY.out, HO.out] at h4
            exact ⟨q + 1, (cc + x * y + o) / 4294967296, os.set (k + q) ((cc + x * y + o) % 4294967296), by omega, by go_num, int_eq (by omega), by omega, ⟨by simp; exact h3.1, h3.2.1.set _ (by omega), h4, fun j hj => by rw [dset_ne (by omega)]; exact h3.2.2.2 j hj⟩, HR.out.set' _ _ _ (by omega), HW.out.setCell (Nat.le_refl _) _⟩
          case measure => simp [intOf]; omega
        · obtain rfl : q = m := by omega
          have hco := HR.out.cell (k + q) (by rw [HI.out.1]; omega)
          have hfo := HR.out.frozen (k + q)
          rw [HI.out.2.2.2 (k + q) (Nat.le_refl _)] at hco
          go_wp2
          go_roundw
          case rel =>
            have h3 := HI.out
            have h4 := val_set_zero 4294967296 os (k + q) cc (by omega) (h3.2.2.2 _ (Nat.le_refl _))
            have h5 := h3.2.2.1
            rw [List.take_of_length_le (l := ys) (by rw [hy.len]; exact Nat.le_refl _)] at h5
            refine ⟨k + 1, os.set (k + q) cc, by omega, by go_num, ⟨by simp; exact h3.1, h3.2.1.set _ hcc, ?_, fun j hj => by rw [dset_ne (by omega)]; exact h3.2.2.2 j (by omega)⟩, HR.out.set _ _, HW.out.setCell (Nat.le_refl _) _⟩
            rw [h4, h5, val_take_step, HX.out, Nat.add_mul, Nat.mul_assoc]
          case measure => simp [intOf]; omega
    · go_wp2_with fail
      have h3 := HI.out
      obtain rfl : k = n := by omega
      have hU := HR.out.u32 h3.2.1 h3.1 (by simp only [maxLen]; omega)
      have hv : val 4294967296 os = val 4294967296 xs * val 4294967296 ys := by
        rw [h3.2.2.1, List.take_of_length_le (by rw [hx.len]; exact Nat.le_refl _)]
      have hN : NumIn wr (some ⟨w.heap.size, 0, none⟩) (k + m) (k + m) (val 4294967296 xs * val 4294967296 ys) := ⟨os, hU, hv⟩
      refine (trim_num _ _ _ _ _ hN).mono ?_
      rintro e w' ⟨rfl, hT, rfl⟩
      have HT := Lib.hid hT
      clear hT hv hU h3 hN
      go_wp2
      go_ret
      exact ⟨_, rfl, ⟨_, _, rfl, HT.out, fun a ha => by cases ha; exact Nat.le_refl _⟩, HW.out⟩
theorem mul_num {A B : Option Addr} {n c m d N M : Nat} {w : World} (h : NumIn w A n c N) (k : NumIn w B m d M) (hn : n ≤ 1000000) (hm : m ≤ 1000000) :
    Calls Tryd.prog 131 #[.slice A n c, .slice B m d] w fun e w' => ∃ v, e = .returned v ∧ NumAt w.heap.size w' v (N * M) ∧ Below w.heap.size w w' := by
  obtain ⟨xs, hx, rfl⟩ := h
  obtain ⟨ys, hy, rfl⟩ := k
  exact mul_any A B n c m d xs ys w hx hy hn hm
end Go.Proofs.YtegglooojlheoaaDoor

/- limb.Norm. No condition. -/
namespace Go.Proofs.YtegglooojlheoaaDoor
open Go.RowKit Anv
theorem norm_num {A : Option Addr} {n c N : Nat} {w : World} (h : NumIn w A n c N) (hN : nl N ≤ 1000000) :
    Calls Tryd.prog 96 #[.slice A n c] w fun e w' => ∃ v, e = .returned v ∧ NumAt w.heap.size w' v N ∧ Below w.heap.size w w' := by
  go_enter Tryd.func96, Tryd.ntmps96
  go_wp2_with fail
  refine (trim_num _ _ _ _ _ h).mono ?_
  rintro e w' ⟨rfl, hU, rfl⟩
  have HU := Lib.hid hU
  clear hU h
  go_wp2_with (first | (at_make; refine wpList_make_nums _ rfl _ _ 23 rfl 141 .u32 4 Tryd.underlying23 info_u32 _ _ _ _ (nl N) rfl rfl (by omega) (by omega) (by omega) (by omega) ?_; intro w1 hA1 hB1 hz1; have HA := Lib.hid hA1; have HB := Lib.hid hB1; clear hA1 hB1 hz1) | (with_reducible refine wpList_copy_nums rfl (.tmp 9) (.tmp 10) _ _ rfl _ Tryd.underlying23 size_u32 _ _ _ _ _ _ _ _ rfl rfl HA.out (by simp) (HU.out.below HB.out) _ _ HB.out (Nat.le_refl _) ?_; intro w2 hA2 hB2; have HA2 := Lib.hid hA2; have HB2 := Lib.hid hB2; clear hA2 hB2))
  go_ret
  exact ⟨_, rfl, ⟨_, _, rfl, HA2.out.u32 (L_lt N) rfl (by show nl N ≤ _; simp only [maxLen]; omega), fun a ha => by cases ha; exact Nat.le_refl _⟩, HB2.out⟩
end Go.Proofs.YtegglooojlheoaaDoor

/- limb.DivSmall. No condition. -/
namespace Go.Proofs.YtegglooojlheoaaDoor
open Go.RowKit Anv
theorem put_low (x y : Nat) (hx : x < 4294967296) (hy : y < 4294967296) : bits .or .u64 ((y : Int) * 4294967296) (x : Int) = ((y * 4294967296 + x : Nat) : Int) := by
  have h := u64_or_nat (y * 4294967296) x (by omega) (by omega)
  rw [Int.natCast_mul] at h
  rw [show ((4294967296 : Nat) : Int) = 4294967296 from rfl] at h
  rw [h]
  have := or_low 32 y x (by omega)
  rw [show (2 : Nat) ^ 32 = 4294967296 from rfl] at this
  rw [this]
theorem divs_any {A : Option Addr} {n c q : Nat} {xs : List Nat} {w : World} (hx : U32 w A n c xs) (hn : n ≤ 1000000) (hq0 : 0 < q) (hq : q < 4294967296) :
    Calls Tryd.prog 159 #[.slice A n c, .int .u32 q] w fun e w' => ∃ v, e = .returned (.tuple #[v, .int .u32 ((val 4294967296 xs % q : Nat) : Int), .int .i64 0]) ∧ NumAt w.heap.size w' v (val 4294967296 xs / q) ∧ Below w.heap.size w w' := by
  have hq1 : ((q : Int) == 0) = false := by simp; omega
  go_enter Tryd.func159, Tryd.ntmps159
  go_wp2_with (at_make; refine wpList_make_nums _ rfl _ _ 23 rfl 141 .u32 4 Tryd.underlying23 info_u32 _ _ _ _ n rfl rfl (by omega) (by omega) (by omega) (by omega) ?_; intro w1 hA1 hB1 hz1)
  have HA := Lib.hid hA1
  have HB := Lib.hid hB1
  clear hA1 hB1 hz1
  go_loopw [8, 9] (fun rs ix wr => ∃ (k r : Nat) (os : List Nat), k ≤ n ∧ ix = .int .i64 ((k : Int) - 1) ∧ rs = .int .u64 r ∧ r < q ∧
        Hid (os.length = n ∧ AllLt 4294967296 os ∧ val 4294967296 (os.drop k) * q + r = val 4294967296 (xs.drop k)) ∧
        Hid (Arr .u32 141 wr w.heap.size os) ∧ Hid (Below w.heap.size w wr)) (fun _ ix _ => (intOf ix + 1).toNat)
  case atStart => exact ⟨n, 0, _, Nat.le_refl _, rfl, rfl, hq0, ⟨by simp, AllLt.zeros (by omega) _, by rw [drop_all (by simp), drop_all (by rw [hx.len]; exact Nat.le_refl _)]; simp⟩, HA.out, HB.out⟩
  case round =>
    obtain ⟨k, r, os, hk, rfl, rfl, hr, HI, HR, HW⟩ := hrel
    rcases k with _ | k
    · go_wp2_with fail
      have h3 := HI.out
      have hU := HR.out.u32 h3.2.1 h3.1 (by simp only [maxLen]; omega)
      have h4 := h3.2.2
      rw [List.drop_zero, List.drop_zero] at h4
      have h5 := dm_unique (a := val 4294967296 xs) (b := q) (q := val 4294967296 os) (r := r) (by rw [Nat.mul_comm]; omega) hr
      have hN : NumIn wr (some ⟨w.heap.size, 0, none⟩) n n (val 4294967296 xs / q) := ⟨os, hU, h5.1.symm⟩
      have HE := Lib.hid h5.2
      refine (trim_num _ _ _ _ _ hN).mono ?_
      rintro e w' ⟨rfl, hT, rfl⟩
      have HT := Lib.hid hT
      clear hT hU h3 h4 h5 hN
      go_wp2
      refine bodyPost_ret (v := .tuple #[.slice (some ⟨w.heap.size, 0, none⟩) (nl (val 4294967296 xs / q)) (nl (val 4294967296 xs / q)), .int .u32 r, .int .i64 0]) (by simp [results, Tryd.results159, go_sem]) rfl ?_
      exact ⟨_, by rw [HE.out]; rfl, ⟨_, _, rfl, HT.out, fun a ha => by cases ha; exact Nat.le_refl _⟩, HW.out⟩
    · rw [show (((k + 1 : Nat) : Int) - 1) = (k : Int) from by omega]
      obtain ⟨b, off, rfl, hbw, hcs⟩ := hx.cells (by omega)
      have hcx := (HW.out.cell (p := ⟨b, off + k, none⟩) hbw).trans (hcs k (by omega))
      have hxlt := hx.lt.get (by omega) k
      have hfo := HR.out.frozen k
      have hco := HR.out.cell k (by rw [HI.out.1]; omega)
      have hst := divs_step 4294967296 xs os k q r (by rw [HI.out.1]; omega) HI.out.2.2
      have HS := Lib.hid hst
      have hor := put_low (xs.getD k 0) r hxlt (by omega)
      have hdl : (r * 4294967296 + xs.getD k 0) / q < 4294967296 := (Nat.div_lt_iff_lt_mul hq0).2 (by have := Nat.mul_le_mul_right 4294967296 (show r + 1 ≤ q from hr); rw [Nat.mul_comm 4294967296 q]; omega)
      have hml : (r * 4294967296 + xs.getD k 0) % q < q := Nat.mod_lt _ hq0
      clear hcs hst
      have hTb : r * 4294967296 + xs.getD k 0 < 18446744073709551616 := by omega
      generalize hT : r * 4294967296 + xs.getD k 0 = T at *
      clear hT
      generalize xs.getD k 0 = x at *
      have HH := Lib.hid (show IntKind.u64.wrap ((T : Int) / (q : Int)) % 4294967296 = ((T / q : Nat) : Int) by rw [← Int.natCast_ediv, IntKind.wrap_u64]; generalize T / q = Z at *; omega)
      have HM := Lib.hid hml
      have HD := Lib.hid hdl
      clear hml hdl
      have hk0 : (0 : Int) ≤ (k : Int) := by omega
      go_wp2
      go_roundw
      case rel => exact ⟨k, T % q, _, by omega, rfl, rfl, HM.out, ⟨by rw [List.length_set]; exact HI.out.1, HI.out.2.1.set k HD.out, HS.out⟩, HR.out.set' k _ _ HH.out, HW.out.setCell (Nat.le_refl _) _⟩
      case measure => simp [intOf]
theorem divs_num {A : Option Addr} {n c q N : Nat} {w : World} (h : NumIn w A n c N) (hn : n ≤ 1000000) (hq0 : 0 < q) (hq : q < 4294967296) :
    Calls Tryd.prog 159 #[.slice A n c, .int .u32 q] w fun e w' => ∃ v, e = .returned (.tuple #[v, .int .u32 ((N % q : Nat) : Int), .int .i64 0]) ∧ NumAt w.heap.size w' v (N / q) ∧ Below w.heap.size w w' := by
  obtain ⟨xs, hx, rfl⟩ := h
  exact divs_any hx hn hq0 hq
end Go.Proofs.YtegglooojlheoaaDoor

/- limb.Shl. No condition. -/
namespace Go.Proofs.YtegglooojlheoaaDoor
open Go.RowKit Anv
theorem shl_val (x r : Nat) (hx : x < 4294967296) (hr : r < 32) : x * 2 ^ r < 9223372036854775808 := by
  have h1 : 2 ^ r ≤ 2 ^ 31 := Nat.pow_le_pow_right (by omega) (by omega)
  have h2 := Nat.mul_le_mul (show x ≤ 4294967295 by omega) h1
  omega
theorem shl_any (A : Option Addr) (n c : Nat) (xs : List Nat) (s : Nat) (w : World) (hx : U32 w A n c xs) (hn : n ≤ 1000000) (hs : s ≤ 65536) :
    Calls Tryd.prog 161 #[.slice A n c, .int .i64 s] w fun e w' => ∃ g, e = .returned (.tuple #[.slice (some ⟨g, 0, none⟩) (nl (val 4294967296 xs * 2 ^ s)) (nl (val 4294967296 xs * 2 ^ s)), .int .i64 0]) ∧ w.heap.size ≤ g ∧ U32 w' (some ⟨g, 0, none⟩) (nl (val 4294967296 xs * 2 ^ s)) (nl (val 4294967296 xs * 2 ^ s)) (L (val 4294967296 xs * 2 ^ s)) ∧ Below w.heap.size w w' := by
  obtain ⟨d, hd⟩ : ∃ d, d = s / 32 := ⟨_, rfl⟩
  obtain ⟨r, hr⟩ : ∃ r, r = s % 32 := ⟨_, rfl⟩
  have hd1 : (s : Int) / 32 = d := by omega
  have hr1 : (s : Int) % 32 = r := by omega
  have hr2 : r < 32 := by omega
  have hd2 : d ≤ 2048 := by omega
  have HP := Lib.hid (show 2 ^ s = 2 ^ r * 4294967296 ^ d by rw [show (4294967296 : Nat) = 2 ^ 32 from rfl, ← Nat.pow_mul, ← Nat.pow_add]; congr 1; omega)
  clear hd hr
  go_enter Tryd.func161, Tryd.ntmps161
  go_wp2_with (at_make; refine wpList_make_nums _ rfl _ _ 23 rfl 141 .u32 4 Tryd.underlying23 info_u32 _ _ _ _ (n + d + 1) rfl rfl (by omega) (by omega) (by omega) (by omega) ?_; intro w1 hA1 hB1 hz1)
  have HA := Lib.hid hA1
  have HB := Lib.hid hB1
  clear hA1 hB1 hz1
  go_loopw [26] (fun i wr => ∃ (k : Nat) (os : List Nat), k ≤ n ∧ i = .int .i64 k ∧
        Hid (os.length = n + d + 1 ∧ AllLt 4294967296 os ∧ val 4294967296 os = val 4294967296 (xs.take k) * 2 ^ r * 4294967296 ^ d ∧ os.getD (k + d) 0 < 2 ^ r ∧ ∀ j, k + d < j → os.getD j 0 = 0) ∧
        Hid (Arr .u32 141 wr w.heap.size os) ∧ Hid (Below w.heap.size w wr)) (fun i _ => n - (intOf i).toNat)
  case atStart => exact ⟨0, _, Nat.zero_le _, rfl, ⟨by simp, AllLt.zeros (by omega) _, by simp [val_zeros], by rw [zeros_getD]; exact Nat.two_pow_pos r, fun j _ => zeros_getD _ _⟩, HA.out, HB.out⟩
  case round =>
    obtain ⟨k, os, hk, rfl, HI, HR, HW⟩ := hrel
    by_cases hlt : k < n
    · obtain ⟨b, off, rfl, hbw, hcs⟩ := hx.cells (by omega)
      have hcx := (HW.out.cell (p := ⟨b, off + k, none⟩) hbw).trans (hcs k hlt)
      have hxlt := hx.lt.get (by omega) k
      have h3 := HI.out
      have hst := shl_step 4294967296 (2 ^ r) (2 ^ (32 - r)) (by rw [← Nat.pow_add, show r + (32 - r) = 32 by omega]) (Nat.two_pow_pos r) xs os k d hxlt (by omega) h3.2.2.1 h3.2.2.2.1 h3.2.2.2.2 h3.2.1
      have hc1 := HR.out.cell (k + d) (by rw [h3.1]; omega)
      have hf1 := HR.out.frozen (k + d)
      have hc2 := HR.out.cell (k + d + 1) (by rw [h3.1]; omega)
      have hf2 := HR.out.frozen (k + d + 1)
      rw [h3.2.2.2.2 (k + d + 1) (by omega)] at hc2
      have holt := h3.2.1.get (by omega) (k + d)
      have hsh := shl_val (xs.getD k 0) r hxlt hr2
      have hoP := h3.2.2.2.1
      clear hcs h3
      generalize hxx : xs.getD k 0 = x at *
      generalize hoo : os.getD (k + d) 0 = o at *
      clear hxx hoo
      have hw : IntKind.u64.wrap ((x : Int) * 2 ^ r) = ((x * 2 ^ r : Nat) : Int) := by
        have e : (x : Int) * 2 ^ r = ((x * 2 ^ r : Nat) : Int) := by rw [Int.natCast_mul, Int.natCast_pow]; rfl
        rw [e, IntKind.wrap_u64]; omega
      have H1 : bits .or .u32 (o : Int) (IntKind.u64.wrap ((x : Int) * 2 ^ r) % 4294967296) = ((o + x * 2 ^ r % 4294967296 : Nat) : Int) := by
        rw [hw, show ((x * 2 ^ r : Nat) : Int) % 4294967296 = ((x * 2 ^ r % 4294967296 : Nat) : Int) from rfl, u32_or_nat o _ (by omega) (by omega), hst.2.2.2.1, low_or r _ o hoP]
      have H2 : bits .or .u32 0 (IntKind.u64.wrap ((x : Int) * 2 ^ r) / 4294967296 % 4294967296) = ((x * 2 ^ r / 4294967296 : Nat) : Int) := by
        have e : ((x * 2 ^ r : Nat) : Int) / 4294967296 % 4294967296 = ((x * 2 ^ r / 4294967296 : Nat) : Int) := by omega
        have e2 := u32_or_nat 0 (x * 2 ^ r / 4294967296) (by omega) (by omega)
        rw [Nat.zero_or] at e2
        rw [hw, e]
        exact e2
      have HS := Lib.hid hst
      have HH1 := Lib.hid H1
      have HH2 := Lib.hid H2
      clear hst H1 H2 hw hsh hoP
      go_wp2
      go_roundw
      case rel =>
        have h3 := HI.out
        have h4 := HS.out
        refine ⟨k + 1, _, by omega, by go_num, ⟨by rw [List.length_set, List.length_set]; exact h3.1, h4.1, h4.2.1, ?_, fun j hj => ?_⟩, (HR.out.set' _ _ _ HH1.out).set' _ _ _ HH2.out, (HW.out.setCell (Nat.le_refl _) _).setCell (Nat.le_refl _) _⟩
        · rw [show k + 1 + d = k + d + 1 by omega, dset_eq (by rw [List.length_set]; omega)]; exact h4.2.2.1
        · rw [dset_ne (by omega), dset_ne (by omega)]; exact h3.2.2.2.2 j (by omega)
      case measure => simp [intOf]; omega
    · go_wp2_with fail
      have h3 := HI.out
      obtain rfl : k = n := by omega
      have hU := HR.out.u32 h3.2.1 h3.1 (by simp only [maxLen]; omega)
      have hv : val 4294967296 os = val 4294967296 xs * 2 ^ s := by
        rw [h3.2.2.1, List.take_of_length_le (by rw [hx.len]; exact Nat.le_refl _), HP.out, Nat.mul_assoc]
      have hN : NumIn wr (some ⟨w.heap.size, 0, none⟩) (k + d + 1) (k + d + 1) (val 4294967296 xs * 2 ^ s) := ⟨os, hU, hv⟩
      refine (trim_num _ _ _ _ _ hN).mono ?_
      rintro e w' ⟨rfl, hT, rfl⟩
      have HT := Lib.hid hT
      clear hT hv hU h3 hN
      go_wp2
      go_ret2
      exact ⟨_, rfl, Nat.le_refl _, HT.out, HW.out⟩
theorem shl_full {A : Option Addr} {n c N s : Nat} {w : World} (h : NumIn w A n c N) (hn : n ≤ 1000000) (hs : s ≤ 65536) :
    Calls Tryd.prog 161 #[.slice A n c, .int .i64 s] w fun e w' => ∃ g, e = .returned (.tuple #[.slice (some ⟨g, 0, none⟩) (nl (N * 2 ^ s)) (nl (N * 2 ^ s)), .int .i64 0]) ∧ w.heap.size ≤ g ∧ U32 w' (some ⟨g, 0, none⟩) (nl (N * 2 ^ s)) (nl (N * 2 ^ s)) (L (N * 2 ^ s)) ∧ Below w.heap.size w w' := by
  obtain ⟨xs, hx, rfl⟩ := h
  exact shl_any A n c xs s w hx hn hs
end Go.Proofs.YtegglooojlheoaaDoor
