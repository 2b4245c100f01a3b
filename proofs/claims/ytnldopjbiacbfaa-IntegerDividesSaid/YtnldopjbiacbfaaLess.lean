/- limb.less: a multiple taken off, in place. No condition. -/
import Derived.Test.YtnldopjbiacbfaaNum2
import Derived.Test.YtnldopjbiacbfaaLst
namespace Go.Proofs.Ytnldopjbiacbfaa
open Go.RowKit Anv

theorem mask32 (S : Nat) (h : S < 18446744073709551616) : bits .and .u64 (S : Int) 4294967295 = ((S % 4294967296 : Nat) : Int) := by
  rw [show (4294967295 : Int) = ((4294967295 : Nat) : Int) from rfl, u64_and_nat S 4294967295 h (by omega)]
  congr 1
  exact Nat.and_two_pow_sub_one_eq_mod S 32

theorem borrow2 (x lo r : Nat) (hx : x < 4294967296) (hlo : lo < 4294967296) (hr : r ≤ 1) : ∃ dd r' : Nat, IntKind.u64.wrap (IntKind.u64.wrap ((x : Int) - lo) - r) % 4294967296 = dd ∧ bits .and .u64 (IntKind.u64.wrap (IntKind.u64.wrap ((x : Int) - lo) - r) / 4294967296) 1 = r' ∧ dd < 4294967296 ∧ r' ≤ 1 ∧ dd + lo + r = x + 4294967296 * r' := by
  rw [IntKind.wrap_u64, IntKind.wrap_u64]
  by_cases h : x < lo + r
  · refine ⟨x + 4294967296 - (lo + r), 1, by omega, ?_, by omega, by omega, by omega⟩
    rw [and_one _ (by omega) (by omega)]
    omega
  · refine ⟨x - (lo + r), 0, by omega, ?_, by omega, by omega, by omega⟩
    rw [and_one _ (by omega) (by omega)]
    omega

/-- What less answers, behind a name. -/
def LessPost (w : World) (g m : Nat) (pre post : List Nat) (W T : Nat) (e : Ending) (w' : World) : Prop :=
  ∃ os, ((T ≤ W ∧ e = .returned (.bool false) ∧ val 4294967296 os + T = W) ∨ (W < T ∧ e = .returned (.bool true) ∧ val 4294967296 os + T = W + 4294967296 ^ m)) ∧
    os.length = m ∧ AllLt 4294967296 os ∧ Lst w' g (pre ++ os ++ post) ∧ Eff g w w'

theorem less_win {g k m n c d t : Nat} {A : Option Addr} {pre win post vs : List Nat} {w : World} (hL : Lst w g (pre ++ win ++ post)) (hk : pre.length = k) (hm : win.length = m) (hc : m ≤ c) (hkc : k + c ≤ maxLen)
    (hwl : AllLt 4294967296 win) (hv : U32 w A n d vs) (hA : ∀ a, A = some a → a.block ≠ g) (hn : n + 1 = m) (ht : t < 4294967296) :
    Calls Try.prog 72 #[.slice (some ⟨g, k, none⟩) m c, .slice A n d, .int .u64 t] w (LessPost w g m pre post (val 4294967296 win) (t * val 4294967296 vs)) := by
  have HK := Lib.hid (And.intro hk hm)
  have HL := Lib.hid hL
  have HWL := Lib.hid hwl
  have HV := Lib.hid hv
  have HAA := Lib.hid hA
  have hvl := hv.len
  have HVL := Lib.hid hvl
  unfold maxLen at hkc
  clear hk hm hL hwl hv hA hvl
  go_enter Try.func72, Try.ntmps72
  go_wp2
  go_loopw [7, 8, 13] (fun cy br ix wr => ∃ (i cc r : Nat) (os : List Nat), i ≤ m ∧ ix = .int .i64 i ∧ cy = .int .u64 cc ∧ br = .int .u64 r ∧ cc < 4294967296 ∧ r ≤ 1 ∧
        Hid (os.length = m ∧ AllLt 4294967296 os ∧ (∀ j, i ≤ j → os.getD j 0 = win.getD j 0) ∧ val 4294967296 (os.take i) + t * val 4294967296 (vs.take i) = val 4294967296 (win.take i) + 4294967296 ^ i * (cc + r) ∧ (n < i → cc = 0)) ∧
        Hid (Lst wr g (pre ++ os ++ post)) ∧ Hid (Eff g w wr)) (fun _ _ ix _ => m - (intOf ix).toNat)
  case atStart => exact ⟨0, 0, 0, win, Nat.zero_le _, rfl, rfl, rfl, by omega, by omega, ⟨HK.out.2, HWL.out, fun _ _ => rfl, by simp, fun _ => rfl⟩, HL.out, Eff.refl _ _⟩
  case round =>
    obtain ⟨i, cc, r, os, hi, rfl, rfl, rfl, hcc, hr, HI, HR, HW⟩ := hrel
    by_cases hlt : i < m
    · have hil : i < os.length := by rw [HI.out.1]; exact hlt
      have hcx : wr.cell? ⟨g, k + i, none⟩ = some (.int .u32 ((win.getD i 0 : Nat) : Int)) := by
        rw [HR.out.cell (k + i) (by rw [List.length_append, List.length_append, HK.out.1]; omega), get_mid pre os post k i HK.out.1 hil, HI.out.2.2.1 i (Nat.le_refl _)]
      have hfo := HR.out.frozen (k + i)
      have hxlt := HWL.out.get (by omega) i
      clear hil
      by_cases hlv : i < n
      · obtain ⟨b2, off2, rfl, hbw2, hcs⟩ := (HW.out.u32 HV.out HAA.out).cells (by omega)
        have hcy := hcs i hlv
        have hylt := HV.out.lt.get (by omega) i
        clear hcs
        have hmc := mul_carry 4294967296 cc (vs.getD i 0) t 0 (by omega) hcc hylt ht (by omega)
        rw [Nat.add_zero] at hmc
        have hmk := mask32 (cc + vs.getD i 0 * t) (by omega)
        obtain ⟨dd, r', hb1, hb2, hdd, hr', hde⟩ := borrow2 (win.getD i 0) ((cc + vs.getD i 0 * t) % 4294967296) r hxlt (Nat.mod_lt _ (by omega)) hr
        have HS := fun h => less_step 4294967296 win vs os i t cc r dd r' (by rw [HI.out.1]; exact hlt) h hde
        have HS2 := Lib.hid (HS HI.out.2.2.2.1)
        have HB1 := Lib.hid hb1
        have HB2 := Lib.hid hb2
        rw [Int.natCast_add, Int.natCast_mul] at hmk
        clear HS hb1 hb2 hde
        generalize win.getD i 0 = x at *
        generalize vs.getD i 0 = y at *
        generalize (cc + y * t) % 4294967296 = lo at *
        go_wp2
        go_roundw
        case rel =>
          have h3 := HI.out
          exact ⟨i + 1, (cc + y * t) / 4294967296, r', os.set i dd, by omega, by go_num, int_eq (by rw [Int.natCast_ediv, Int.natCast_add, Int.natCast_mul]; rfl), int_eq HB2.out, by omega, hr', ⟨by rw [List.length_set]; exact h3.1, h3.2.1.set i hdd, fun j hj => by rw [dset_ne (by omega)]; exact h3.2.2.1 j (by omega), HS2.out, fun h => by omega⟩, by rw [← set_mid pre os post k i dd HK.out.1 (by rw [h3.1]; exact hlt)]; exact HR.out.set' _ _ _ HB1.out, HW.out.set rfl _⟩
        case measure => simp [intOf]; omega
      · have hmk := mask32 cc (by omega)
        rw [Nat.mod_eq_of_lt hcc] at hmk
        obtain ⟨dd, r', hb1, hb2, hdd, hr', hde⟩ := borrow2 (win.getD i 0) cc r hxlt hcc hr
        have HS := fun h => less_step 4294967296 win vs os i t cc r dd r' (by rw [HI.out.1]; exact hlt) h (by rw [getD_ge (xs := vs) (by rw [HVL.out]; omega), Nat.zero_mul, Nat.add_zero, Nat.mod_eq_of_lt hcc]; exact hde)
        have HS2 := Lib.hid (HS HI.out.2.2.2.1)
        rw [getD_ge (xs := vs) (by rw [HVL.out]; omega), Nat.zero_mul, Nat.add_zero cc, Nat.div_eq_of_lt hcc] at HS2
        have HB1 := Lib.hid hb1
        have HB2 := Lib.hid hb2
        clear HS hb1 hb2 hde
        generalize win.getD i 0 = x at *
        go_wp2
        go_roundw
        case rel =>
          have h3 := HI.out
          exact ⟨i + 1, 0, r', os.set i dd, by omega, by go_num, int_eq (by omega), int_eq HB2.out, by omega, hr', ⟨by rw [List.length_set]; exact h3.1, h3.2.1.set i hdd, fun j hj => by rw [dset_ne (by omega)]; exact h3.2.2.1 j (by omega), HS2.out, fun _ => rfl⟩, by rw [← set_mid pre os post k i dd HK.out.1 (by rw [h3.1]; exact hlt)]; exact HR.out.set' _ _ _ HB1.out, HW.out.set rfl _⟩
        case measure => simp [intOf]; omega
    · have h3 := HI.out
      obtain rfl : i = m := by omega
      have h4 := h3.2.2.2.1
      have h5 := val_lt h3.2.1
      rw [h3.2.2.2.2 (by omega), Nat.zero_add, List.take_of_length_le (by rw [h3.1]; exact Nat.le_refl _), List.take_of_length_le (by rw [HVL.out]; omega), List.take_of_length_le (by rw [HK.out.2]; exact Nat.le_refl _)] at h4
      rw [h3.1] at h5
      have HF := Lib.hid (And.intro h3.1 (And.intro h3.2.1 (And.intro h4 h5)))
      clear h3 h4 h5 HI
      rcases (show r = 0 ∨ r = 1 by omega) with rfl | rfl
      · go_wp2
        go_ret
        have h := HF.out
        exact ⟨os, .inl ⟨by have := h.2.2.1; omega, rfl, by have := h.2.2.1; omega⟩, h.1, h.2.1, HR.out, HW.out⟩
      · go_wp2
        go_ret
        have h := HF.out
        exact ⟨os, .inr ⟨by have := h.2.2.1; have := h.2.2.2; omega, rfl, by have := h.2.2.1; omega⟩, h.1, h.2.1, HR.out, HW.out⟩

end Go.Proofs.Ytnldopjbiacbfaa
