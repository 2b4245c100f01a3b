/- limb.DivSmall. No condition. -/
import Derived.Test.YtnldopjbiacbfaaNum2
import Derived.Test.YtnldopjbiacbfaaNorm
namespace Go.Proofs.Ytnldopjbiacbfaa
open Go.RowKit Anv

theorem put_low (x y : Nat) (hx : x < 4294967296) (hy : y < 4294967296) : bits .or .u64 ((y : Int) * 4294967296) (x : Int) = ((y * 4294967296 + x : Nat) : Int) := by
  have h := u64_or_nat (y * 4294967296) x (by omega) (by omega)
  rw [Int.natCast_mul] at h
  rw [show ((4294967296 : Nat) : Int) = 4294967296 from rfl] at h
  rw [h]
  have := or_low 32 y x (by omega)
  rw [show (2 : Nat) ^ 32 = 4294967296 from rfl] at this
  rw [this]

theorem divs_any {A : Option Addr} {n c q : Nat} {xs : List Nat} {w : World} (hx : U32 w A n c xs) (hn : n ≤ 1000000) (hq0 : 0 < q) (hq : q < 4294967296) :
    Calls Try.prog 65 #[.slice A n c, .int .u32 q] w fun e w' => ∃ v, e = .returned (.tuple #[v, .int .u32 ((val 4294967296 xs % q : Nat) : Int), .int .i64 0]) ∧ NumAt w.heap.size w' v (val 4294967296 xs / q) ∧ Below w.heap.size w w' := by
  have hq1 : ((q : Int) == 0) = false := by simp; omega
  go_enter Try.func65, Try.ntmps65
  go_wp2_with (at_make; refine wpList_make_nums _ rfl _ _ 22 rfl 74 .u32 4 Try.underlying22 info_u32 _ _ _ _ n rfl rfl (by omega) (by omega) (by omega) (by omega) ?_; intro w1 hA1 hB1 hz1)
  have HA := Lib.hid hA1
  have HB := Lib.hid hB1
  clear hA1 hB1 hz1
  go_loopw [8, 9] (fun rs ix wr => ∃ (k r : Nat) (os : List Nat), k ≤ n ∧ ix = .int .i64 ((k : Int) - 1) ∧ rs = .int .u64 r ∧ r < q ∧
        Hid (os.length = n ∧ AllLt 4294967296 os ∧ val 4294967296 (os.drop k) * q + r = val 4294967296 (xs.drop k)) ∧
        Hid (Arr .u32 74 wr w.heap.size os) ∧ Hid (Below w.heap.size w wr)) (fun _ ix _ => (intOf ix + 1).toNat)
  case atStart => exact ⟨n, 0, _, Nat.le_refl _, rfl, rfl, hq0, ⟨by simp, AllLt.zeros (by omega) _, by rw [drop_all (by simp), drop_all (by rw [hx.len]; exact Nat.le_refl _)]; simp⟩, HA.out, HB.out⟩
  case round =>
    obtain ⟨k, r, os, hk, rfl, rfl, hr, HI, HR, HW⟩ := hrel
    rcases k with _ | k
    · go_wp2_with fail
      have h3 := HI.out
      have hU := HR.out.u32 h3.2.1 h3.1 (by simp only [maxLen]; omega)
      have h4 := h3.2.2
      rw [List.drop_zero, List.drop_zero] at h4
      have h5 := dm_unique (a := val 4294967296 xs) (b := q) (q := val 4294967296 os) (r := r) (by rw [Nat.mul_comm]; omega) hr
      have hN : NumIn wr (some ⟨w.heap.size, 0, none⟩) n n (val 4294967296 xs / q) := ⟨os, hU, h5.1.symm⟩
      have HE := Lib.hid h5.2
      refine (trim_num _ _ _ _ _ hN).mono ?_
      rintro e w' ⟨rfl, hT, rfl⟩
      have HT := Lib.hid hT
      clear hT hU h3 h4 h5 hN
      go_wp2
      refine bodyPost_ret (v := .tuple #[.slice (some ⟨w.heap.size, 0, none⟩) (nl (val 4294967296 xs / q)) (nl (val 4294967296 xs / q)), .int .u32 r, .int .i64 0]) (by simp [results, Try.results65, go_sem]) rfl ?_
      exact ⟨_, by rw [HE.out]; rfl, ⟨_, _, rfl, HT.out, fun a ha => by cases ha; exact Nat.le_refl _⟩, HW.out⟩
    · rw [show (((k + 1 : Nat) : Int) - 1) = (k : Int) from by omega]
      obtain ⟨b, off, rfl, hbw, hcs⟩ := hx.cells (by omega)
      have hcx := (HW.out.cell (p := ⟨b, off + k, none⟩) hbw).trans (hcs k (by omega))
      have hxlt := hx.lt.get (by omega) k
      have hfo := HR.out.frozen k
      have hco := HR.out.cell k (by rw [HI.out.1]; omega)
      have hst := divs_step 4294967296 xs os k q r (by rw [HI.out.1]; omega) HI.out.2.2
      have HS := Lib.hid hst
      have hor := put_low (xs.getD k 0) r hxlt (by omega)
      have hdl : (r * 4294967296 + xs.getD k 0) / q < 4294967296 := (Nat.div_lt_iff_lt_mul hq0).2 (by have := Nat.mul_le_mul_right 4294967296 (show r + 1 ≤ q from hr); rw [Nat.mul_comm 4294967296 q]; omega)
      have hml : (r * 4294967296 + xs.getD k 0) % q < q := Nat.mod_lt _ hq0
      clear hcs hst
      have hTb : r * 4294967296 + xs.getD k 0 < 18446744073709551616 := by omega
      generalize hT : r * 4294967296 + xs.getD k 0 = T at *
      clear hT
      generalize xs.getD k 0 = x at *
      have HH := Lib.hid (show IntKind.u64.wrap ((T : Int) / (q : Int)) % 4294967296 = ((T / q : Nat) : Int) by rw [← Int.natCast_ediv, IntKind.wrap_u64]; generalize T / q = Z at *; omega)
      have HM := Lib.hid hml
      have HD := Lib.hid hdl
      clear hml hdl
      have hk0 : (0 : Int) ≤ (k : Int) := by omega
      go_wp2
      go_roundw
      case rel => exact ⟨k, T % q, _, by omega, rfl, rfl, HM.out, ⟨by rw [List.length_set]; exact HI.out.1, HI.out.2.1.set k HD.out, HS.out⟩, HR.out.set' k _ _ HH.out, HW.out.setCell (Nat.le_refl _) _⟩
      case measure => simp [intOf]

theorem divs_num {A : Option Addr} {n c q N : Nat} {w : World} (h : NumIn w A n c N) (hn : n ≤ 1000000) (hq0 : 0 < q) (hq : q < 4294967296) :
    Calls Try.prog 65 #[.slice A n c, .int .u32 q] w fun e w' => ∃ v, e = .returned (.tuple #[v, .int .u32 ((N % q : Nat) : Int), .int .i64 0]) ∧ NumAt w.heap.size w' v (N / q) ∧ Below w.heap.size w w' := by
  obtain ⟨xs, hx, rfl⟩ := h
  exact divs_any hx hn hq0 hq

end Go.Proofs.Ytnldopjbiacbfaa
