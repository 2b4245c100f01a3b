/- The reference's divide. No condition. -/
import Derived.Test.YtbdngknpngcojaaDoorM29
import Derived.Test.YtbdngknpngcojaaDoorM23
import Derived.BigRegion

namespace Go.Proofs.YtbdngknpngcojaaDoor
open Go.RowKit Anv
theorem one_digit {M : Nat} (h : dn M = 1) : (D M).getD 0 0 = M ∧ M < 65536 := by
  have h1 := val_D M
  have h2 := D_lt M
  have h3 : (D M).length = 1 := h
  obtain ⟨x, hx⟩ := List.length_eq_one_iff.1 h3
  rw [hx] at h1 h2 ⊢
  have := h2.head
  simp at h1
  subst h1
  exact ⟨rfl, this⟩
theorem field_D (b : Bool) (A : Option Addr) (n c : Nat) (w : World) : (Instr.field 95 (.agg #[.bool b, .slice A n c]) 1).run Tryd.prog w = .ok (.slice A n c) w := by kernel_rfl
theorem norm_nat {A : Option Addr} {n c : Nat} {xs : List Nat} {w : World} (h : U32 w A n c xs) (hd : AllLt 65536 xs) :
    Calls Tryd.prog 73 #[.bool false, .slice A n c] w fun e w' => e = .returned (.agg #[.bool false, .slice A (dn (val 65536 xs)) c]) ∧ U32 w' A (dn (val 65536 xs)) c (D (val 65536 xs)) ∧ Below w.heap.size w w' := by
  refine (norm_ref (b := false) h hd).mono ?_
  rintro e w' ⟨rfl, hz, hb⟩
  have e1 : dl (sg false (val 65536 xs)) = dn (val 65536 xs) := sg_dl _ _
  have e2 : neg (sg false (val 65536 xs)) = false := by unfold neg sg; simp
  unfold RIn at hz
  rw [e1, sg_abs] at hz
  rw [e1, e2]
  exact ⟨rfl, hz, hb⟩
theorem new_u32 (w : World) (t : TypeId) {cs : Array Value} (ys : List Nat) (hcs : cs = nums .u32 ys) (hl : AllLt 4294967296 ys) (hm : ys.length ≤ 1000) : U32 (w.alloc (.cells cs t)) (some ⟨w.heap.size, 0, none⟩) ys.length ys.length ys := by
  subst hcs
  have h : Arr .u32 t (w.alloc (.cells (nums .u32 ys) t)) w.heap.size ys := heap_alloc_new w _
  exact h.u32 hl rfl (by simp only [maxLen]; omega)
def DivPost (w : World) (N M : Nat) (e : Ending) (w' : World) : Prop :=
  ∃ A1 c1 A2 c2, e = .returned (.tuple #[.slice A1 (dn (N / M)) c1, .slice A2 (dn (N % M)) c2]) ∧ U32 w' A1 (dn (N / M)) c1 (D (N / M)) ∧ U32 w' A2 (dn (N % M)) c2 (D (N % M)) ∧ Below w.heap.size w w'
theorem divide_one {A B : Option Addr} {c d N M : Nat} {w : World} (hx : U32 w A (dn N) c (D N)) (hy : U32 w B (dn M) d (D M)) (hn : dn N ≤ 1000000) (h1 : dn M = 1) :
    Calls Tryd.prog 72 #[.slice A (dn N) c, .slice B (dn M) d] w (DivPost w N M) := by
  have h2 := one_digit h1
  have hM : M < 65536 := h2.2
  have hM0 : 0 < M := by
    rcases Nat.eq_zero_or_pos M with h | h
    · subst h; rw [dn_zero] at h1; omega
    · exact h
  have hq1 : ((M : Int) == 0) = false := by simp; omega
  rw [h1] at hy ⊢
  obtain ⟨b2, off2, rfl, hbw2, hcs2⟩ := hy.cells (by omega)
  have hcm := hcs2 0 (by omega)
  rw [h2.1, Nat.add_zero] at hcm
  clear h1 h2 hcs2 hy
  go_enter Tryd.func72, Tryd.ntmps72
  go_wp2_with (at_make; refine wpList_make_nums _ rfl _ _ 93 rfl 105 .u32 4 Tryd.underlying93 info_u32 _ _ _ _ (dn N) rfl rfl (by omega) (by omega) (by omega) (by omega) ?_; intro w1 hA1 hB1 hz1)
  have HA := Lib.hid hA1
  have HB := Lib.hid hB1
  clear hA1 hB1 hz1
  go_loopw [7, 8] (fun rs ix wr => ∃ (k r : Nat) (os : List Nat), k ≤ dn N ∧ ix = .int .i64 ((k : Int) - 1) ∧ rs = .int .u64 r ∧ r < M ∧
        Hid (os.length = dn N ∧ AllLt 65536 os ∧ val 65536 (os.drop k) * M + r = val 65536 ((D N).drop k)) ∧
        Hid (Arr .u32 105 wr w.heap.size os) ∧ Hid (Below w.heap.size w wr)) (fun _ ix _ => (intOf ix + 1).toNat)
  case atStart => exact ⟨dn N, 0, _, Nat.le_refl _, rfl, rfl, hM0, ⟨by simp, AllLt.zeros (by omega) _, by rw [drop_all (by simp), drop_all (by exact Nat.le_refl _)]; simp⟩, HA.out, HB.out⟩
  case round =>
    obtain ⟨k, r, os, hk, rfl, rfl, hr, HI, HR, HW⟩ := hrel
    rcases k with _ | k
    · have h3 := HI.out
      have hU := HR.out.u32 (wide h3.2.1) h3.1 (by simp only [maxLen]; omega)
      have h4 := h3.2.2
      rw [List.drop_zero, List.drop_zero, val_D] at h4
      have h5 := dm_unique (a := N) (b := M) (q := val 65536 os) (r := r) (by rw [Nat.mul_comm]; omega) hr
      have HU := Lib.hid hU
      have HD := Lib.hid h3.2.1
      have H5 := Lib.hid h5
      clear h3 h4 h5 hU
      have hfd := field_D
      go_wp2_with fail
      refine (norm_nat HU.out HD.out).mono ?_
      rintro e w2 ⟨rfl, hz1, hb1⟩
      rw [← H5.out.1] at hz1 ⊢
      have HW1 := Lib.hid (thru HW.out hb1)
      have HZ1 := Lib.hid hz1
      clear hz1 hb1
      go_wp2_with fail
      refine (norm_nat (xs := [r]) (new_u32 w2 105 [r] (by simp [nums]) (AllLt.cons (by omega) (AllLt.nil _)) (by simp)) (AllLt.cons (by omega) (AllLt.nil _))).mono ?_
      rintro e w3 ⟨rfl, hz2, hb2⟩
      rw [show val 65536 [r] = N % M by rw [H5.out.2]; simp] at hz2 ⊢
      have hb3 := thru (below1 _ _) hb2
      have HZ3 := Lib.hid (HZ1.out.below hb3)
      have HZ2 := Lib.hid hz2
      have HW3 := Lib.hid (thru HW1.out hb3)
      clear hz2 hb2 hb3
      go_wp2
      go_ret2
      exact ⟨_, _, _, _, rfl, HZ3.out, HZ2.out, HW3.out⟩
    · rw [show (((k + 1 : Nat) : Int) - 1) = (k : Int) from by omega]
      obtain ⟨b, off, rfl, hbw, hcs⟩ := hx.cells (by omega)
      have hcx := (HW.out.cell (p := ⟨b, off + k, none⟩) hbw).trans (hcs k (by omega))
      have hcm2 := (HW.out.cell (p := ⟨b2, off2, none⟩) hbw2).trans hcm
      have hxlt := (D_lt N).get (by omega) k
      have hfo := HR.out.frozen k
      have hco := HR.out.cell k (by rw [HI.out.1]; omega)
      have hst := divs_step 65536 (D N) os k M r (by rw [HI.out.1]; omega) HI.out.2.2
      have HS := Lib.hid hst
      have hdl : (r * 65536 + (D N).getD k 0) / M < 65536 := (Nat.div_lt_iff_lt_mul hM0).2 (by have := Nat.mul_le_mul_right 65536 (show r + 1 ≤ M from hr); rw [Nat.mul_comm 65536 M]; omega)
      have hml : (r * 65536 + (D N).getD k 0) % M < M := Nat.mod_lt _ hM0
      have HM := Lib.hid hml
      have HD := Lib.hid hdl
      clear hcs hst hml hdl
      generalize (D N).getD k 0 = x at *
      have HH := Lib.hid (show ((r : Int) * 65536 + x) / (M : Int) % 4294967296 = (((r * 65536 + x) / M : Nat) : Int) by
        have h := HD.out
        rw [show (r : Int) * 65536 + x = ((r * 65536 + x : Nat) : Int) by omega, ← Int.natCast_ediv]
        generalize (r * 65536 + x) / M = Z at *; omega)
      have HH2 := Lib.hid (show ((r : Int) * 65536 + x) % (M : Int) = (((r * 65536 + x) % M : Nat) : Int) by
        rw [show (r : Int) * 65536 + x = ((r * 65536 + x : Nat) : Int) by omega]; rfl)
      have hk0 : (0 : Int) ≤ (k : Int) := by omega
      go_wp2
      go_roundw
      case rel => exact ⟨k, (r * 65536 + x) % M, _, by omega, rfl, int_eq HH2.out, HM.out, ⟨by rw [List.length_set]; exact HI.out.1, HI.out.2.1.set k HD.out, HS.out⟩, HR.out.set' k _ _ HH.out, HW.out.setCell (Nat.le_refl _) _⟩
      case measure => simp [intOf]
end Go.Proofs.YtbdngknpngcojaaDoor
