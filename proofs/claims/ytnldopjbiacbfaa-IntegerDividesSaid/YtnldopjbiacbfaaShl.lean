/- limb.Shl. No condition. -/
import Derived.Test.YtnldopjbiacbfaaNum2
import Derived.Test.YtnldopjbiacbfaaArr
import Derived.Test.YtnldopjbiacbfaaTrim
namespace Go.Proofs.Ytnldopjbiacbfaa
open Go.RowKit Anv

/-- The value of a shift, as it stands in a walk. -/
theorem shl_val (x r : Nat) (hx : x < 4294967296) (hr : r < 32) : x * 2 ^ r < 9223372036854775808 := by
  have h1 : 2 ^ r ≤ 2 ^ 31 := Nat.pow_le_pow_right (by omega) (by omega)
  have h2 := Nat.mul_le_mul (show x ≤ 4294967295 by omega) h1
  omega

theorem shl_any (A : Option Addr) (n c : Nat) (xs : List Nat) (s : Nat) (w : World) (hx : U32 w A n c xs) (hn : n ≤ 1000000) (hs : s ≤ 65536) :
    Calls Try.prog 67 #[.slice A n c, .int .i64 s] w fun e w' => ∃ g, e = .returned (.tuple #[.slice (some ⟨g, 0, none⟩) (nl (val 4294967296 xs * 2 ^ s)) (nl (val 4294967296 xs * 2 ^ s)), .int .i64 0]) ∧ w.heap.size ≤ g ∧ U32 w' (some ⟨g, 0, none⟩) (nl (val 4294967296 xs * 2 ^ s)) (nl (val 4294967296 xs * 2 ^ s)) (L (val 4294967296 xs * 2 ^ s)) ∧ Below w.heap.size w w' := by
  obtain ⟨d, hd⟩ : ∃ d, d = s / 32 := ⟨_, rfl⟩
  obtain ⟨r, hr⟩ : ∃ r, r = s % 32 := ⟨_, rfl⟩
  have hd1 : (s : Int) / 32 = d := by omega
  have hr1 : (s : Int) % 32 = r := by omega
  have hr2 : r < 32 := by omega
  have hd2 : d ≤ 2048 := by omega
  have HP := Lib.hid (show 2 ^ s = 2 ^ r * 4294967296 ^ d by rw [show (4294967296 : Nat) = 2 ^ 32 from rfl, ← Nat.pow_mul, ← Nat.pow_add]; congr 1; omega)
  clear hd hr
  go_enter Try.func67, Try.ntmps67
  go_wp2_with (at_make; refine wpList_make_nums _ rfl _ _ 22 rfl 74 .u32 4 Try.underlying22 info_u32 _ _ _ _ (n + d + 1) rfl rfl (by omega) (by omega) (by omega) (by omega) ?_; intro w1 hA1 hB1 hz1)
  have HA := Lib.hid hA1
  have HB := Lib.hid hB1
  clear hA1 hB1 hz1
  go_loopw [26] (fun i wr => ∃ (k : Nat) (os : List Nat), k ≤ n ∧ i = .int .i64 k ∧
        Hid (os.length = n + d + 1 ∧ AllLt 4294967296 os ∧ val 4294967296 os = val 4294967296 (xs.take k) * 2 ^ r * 4294967296 ^ d ∧ os.getD (k + d) 0 < 2 ^ r ∧ ∀ j, k + d < j → os.getD j 0 = 0) ∧
        Hid (Arr .u32 74 wr w.heap.size os) ∧ Hid (Below w.heap.size w wr)) (fun i _ => n - (intOf i).toNat)
  case atStart => exact ⟨0, _, Nat.zero_le _, rfl, ⟨by simp, AllLt.zeros (by omega) _, by simp [val_zeros], by rw [zeros_getD]; exact Nat.two_pow_pos r, fun j _ => zeros_getD _ _⟩, HA.out, HB.out⟩
  case round =>
    obtain ⟨k, os, hk, rfl, HI, HR, HW⟩ := hrel
    by_cases hlt : k < n
    · obtain ⟨b, off, rfl, hbw, hcs⟩ := hx.cells (by omega)
      have hcx := (HW.out.cell (p := ⟨b, off + k, none⟩) hbw).trans (hcs k hlt)
      have hxlt := hx.lt.get (by omega) k
      have h3 := HI.out
      have hst := shl_step 4294967296 (2 ^ r) (2 ^ (32 - r)) (by rw [← Nat.pow_add, show r + (32 - r) = 32 by omega]) (Nat.two_pow_pos r) xs os k d hxlt (by omega) h3.2.2.1 h3.2.2.2.1 h3.2.2.2.2 h3.2.1
      have hc1 := HR.out.cell (k + d) (by rw [h3.1]; omega)
      have hf1 := HR.out.frozen (k + d)
      have hc2 := HR.out.cell (k + d + 1) (by rw [h3.1]; omega)
      have hf2 := HR.out.frozen (k + d + 1)
      rw [h3.2.2.2.2 (k + d + 1) (by omega)] at hc2
      have holt := h3.2.1.get (by omega) (k + d)
      have hsh := shl_val (xs.getD k 0) r hxlt hr2
      have hoP := h3.2.2.2.1
      clear hcs h3
      generalize hxx : xs.getD k 0 = x at *
      generalize hoo : os.getD (k + d) 0 = o at *
      clear hxx hoo
      have hw : IntKind.u64.wrap ((x : Int) * 2 ^ r) = ((x * 2 ^ r : Nat) : Int) := by
        have e : (x : Int) * 2 ^ r = ((x * 2 ^ r : Nat) : Int) := by rw [Int.natCast_mul, Int.natCast_pow]; rfl
        rw [e, IntKind.wrap_u64]; omega
      have H1 : bits .or .u32 (o : Int) (IntKind.u64.wrap ((x : Int) * 2 ^ r) % 4294967296) = ((o + x * 2 ^ r % 4294967296 : Nat) : Int) := by
        rw [hw, show ((x * 2 ^ r : Nat) : Int) % 4294967296 = ((x * 2 ^ r % 4294967296 : Nat) : Int) from rfl, u32_or_nat o _ (by omega) (by omega), hst.2.2.2.1, low_or r _ o hoP]
      have H2 : bits .or .u32 0 (IntKind.u64.wrap ((x : Int) * 2 ^ r) / 4294967296 % 4294967296) = ((x * 2 ^ r / 4294967296 : Nat) : Int) := by
        have e : ((x * 2 ^ r : Nat) : Int) / 4294967296 % 4294967296 = ((x * 2 ^ r / 4294967296 : Nat) : Int) := by omega
        have e2 := u32_or_nat 0 (x * 2 ^ r / 4294967296) (by omega) (by omega)
        rw [Nat.zero_or] at e2
        rw [hw, e]
        exact e2
      have HS := Lib.hid hst
      have HH1 := Lib.hid H1
      have HH2 := Lib.hid H2
      clear hst H1 H2 hw hsh hoP
      go_wp2
      go_roundw
      case rel =>
        have h3 := HI.out
        have h4 := HS.out
        refine ⟨k + 1, _, by omega, by go_num, ⟨by rw [List.length_set, List.length_set]; exact h3.1, h4.1, h4.2.1, ?_, fun j hj => ?_⟩, (HR.out.set' _ _ _ HH1.out).set' _ _ _ HH2.out, (HW.out.setCell (Nat.le_refl _) _).setCell (Nat.le_refl _) _⟩
        · rw [show k + 1 + d = k + d + 1 by omega, dset_eq (by rw [List.length_set]; omega)]; exact h4.2.2.1
        · rw [dset_ne (by omega), dset_ne (by omega)]; exact h3.2.2.2.2 j (by omega)
      case measure => simp [intOf]; omega
    · go_wp2_with fail
      have h3 := HI.out
      obtain rfl : k = n := by omega
      have hU := HR.out.u32 h3.2.1 h3.1 (by simp only [maxLen]; omega)
      have hv : val 4294967296 os = val 4294967296 xs * 2 ^ s := by
        rw [h3.2.2.1, List.take_of_length_le (by rw [hx.len]; exact Nat.le_refl _), HP.out, Nat.mul_assoc]
      have hN : NumIn wr (some ⟨w.heap.size, 0, none⟩) (k + d + 1) (k + d + 1) (val 4294967296 xs * 2 ^ s) := ⟨os, hU, hv⟩
      refine (trim_num _ _ _ _ _ hN).mono ?_
      rintro e w' ⟨rfl, hT, rfl⟩
      have HT := Lib.hid hT
      clear hT hv hU h3 hN
      go_wp2
      go_ret2
      exact ⟨_, rfl, Nat.le_refl _, HT.out, HW.out⟩

/-- The result's capacity is its length. -/
theorem shl_full {A : Option Addr} {n c N s : Nat} {w : World} (h : NumIn w A n c N) (hn : n ≤ 1000000) (hs : s ≤ 65536) :
    Calls Try.prog 67 #[.slice A n c, .int .i64 s] w fun e w' => ∃ g, e = .returned (.tuple #[.slice (some ⟨g, 0, none⟩) (nl (N * 2 ^ s)) (nl (N * 2 ^ s)), .int .i64 0]) ∧ w.heap.size ≤ g ∧ U32 w' (some ⟨g, 0, none⟩) (nl (N * 2 ^ s)) (nl (N * 2 ^ s)) (L (N * 2 ^ s)) ∧ Below w.heap.size w w' := by
  obtain ⟨xs, hx, rfl⟩ := h
  exact shl_any A n c xs s w hx hn hs

theorem shl_num {A : Option Addr} {n c N s : Nat} {w : World} (h : NumIn w A n c N) (hn : n ≤ 1000000) (hs : s ≤ 65536) :
    Calls Try.prog 67 #[.slice A n c, .int .i64 s] w fun e w' => ∃ v, e = .returned (.tuple #[v, .int .i64 0]) ∧ NumAt w.heap.size w' v (N * 2 ^ s) ∧ Below w.heap.size w w' := by
  refine (shl_full h hn hs).mono ?_
  rintro e w' ⟨g, rfl, hg, hU, hb⟩
  exact ⟨_, rfl, ⟨_, _, rfl, hU, fun a ha => by cases ha; exact hg⟩, hb⟩

end Go.Proofs.Ytnldopjbiacbfaa
