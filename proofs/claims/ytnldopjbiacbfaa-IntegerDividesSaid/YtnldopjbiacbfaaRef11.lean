/- The reference: products. No condition. -/
import Derived.Test.YtnldopjbiacbfaaRef10
namespace Go.Proofs.Ytnldopjbiacbfaa
open Go.RowKit Anv

/-- What stands while a row of a product is laid: T is what was there. -/
def RowInv (ys os : List Nat) (n m k q cc x T : Nat) : Prop :=
  os.length = n + m + 1 ∧ AllLt 65536 os ∧ val 65536 os + 65536 ^ (k + q) * cc = T + 65536 ^ k * (x * val 65536 (ys.take q)) ∧
    (∀ j, k + m + 1 ≤ j → os.getD j 0 = 0) ∧ (q ≤ m → os.getD (k + m) 0 = 0) ∧ (q = m + 1 → cc = 0) ∧ q ≤ m + 1

theorem row_step {ys os : List Nat} {n m k q cc x T o y : Nat} (h : RowInv ys os n m k q cc x T) (hk : k < n) (hcc : cc < 65536) (hx : x < 65536) (hy : y < 65536) (hqm : q < m ∨ q = m ∧ y = 0) (hyy : ys.getD q 0 = y) (ho : os.getD (k + q) 0 = o) :
    RowInv ys (os.set (k + q) ((cc + o + x * y) % 65536)) n m k (q + 1) ((cc + o + x * y) / 65536) x T ∧ (cc + o + x * y) / 65536 < 65536 := by
  obtain ⟨h1, h2, h3, h4, h5, h6, h7⟩ := h
  have h8 := mul_step 65536 ys os k q cc x T (by omega) h3
  rw [hyy, ho] at h8
  have hol : o < 65536 := by rw [← ho]; exact h2.get (by omega) _
  have hmc := mul_carry 65536 cc x y o (by omega) hcc hx hy hol
  have e : cc + x * y + o = cc + o + x * y := by omega
  rw [e] at h8 hmc
  refine ⟨⟨by simpa using h1, h2.set _ (Nat.mod_lt _ (by omega)), h8, fun j hj => by rw [dset_ne (by omega)]; exact h4 j hj, fun hq => ?_, fun hq => ?_, by omega⟩, hmc.1⟩
  · rw [dset_ne (by omega)]; exact h5 (by omega)
  · have hqe : q = m := by omega
    have hy0 : y = 0 := by
      rcases hqm with h | h
      · omega
      · exact h.2
    have ho0 : o = 0 := by rw [← ho, hqe]; exact h5 (by omega)
    subst hy0 ho0
    rw [Nat.mul_zero]
    omega

set_option maxHeartbeats 800000 in
theorem mul_r {A B : Option Addr} {c d : Nat} {x y : Int} {w : World} (hx : RIn w A c x) (hy : RIn w B d y) (hn : dl x ≤ 1000000) (hm : dl y ≤ 1000000) :
    Calls Try.prog 25 #[.agg #[.bool (neg x), .slice A (dl x) c], .agg #[.bool (neg y), .slice B (dl y) d]] w fun e w' => ∃ v, e = .returned v ∧ RAt w' v (x * y) ∧ Below w.heap.size w w' := by
  have HS := Lib.hid (sg_mul x y)
  obtain ⟨n, hxn⟩ : ∃ n, n = dl x := ⟨_, rfl⟩
  obtain ⟨m, hym⟩ : ∃ m, m = dl y := ⟨_, rfl⟩
  obtain ⟨xs, hxs⟩ : ∃ xs, xs = D x.natAbs := ⟨_, rfl⟩
  obtain ⟨ys, hys⟩ : ∃ ys, ys = D y.natAbs := ⟨_, rfl⟩
  have ux : U32 w A n c xs := by rw [hxn, hxs]; exact hx
  have uy : U32 w B m d ys := by rw [hym, hys]; exact hy
  have dx : AllLt 65536 xs := by rw [hxs]; exact D_lt _
  have dy : AllLt 65536 ys := by rw [hys]; exact D_lt _
  have HX := Lib.hid hxs
  have HY := Lib.hid hys
  rw [← hxn, ← hym]
  rw [← hxn] at hn
  rw [← hym] at hm
  clear hx hy hxn hym hxs hys
  go_enter Try.func25, Try.ntmps25
  go_wp2_with (at_make; refine wpList_make_nums _ rfl _ _ 22 rfl 74 .u32 4 Try.underlying22 info_u32 _ _ _ _ (n + m + 1) rfl rfl (by omega) (by omega) (by omega) (by omega) ?_; intro w1 hA1 hB1 hz1)
  obtain ⟨q0, q1, q2, hbw, hs⟩ := boxes3 hB1
  rw [size3] at hA1
  have HA := Lib.hid hA1
  have HQ := Lib.hid (And.intro q0 (And.intro q1 (And.intro q2 hbw)))
  clear hA1 hB1 hz1 q0 q1 q2 hbw hs
  go_loopw [6] (fun i wr => ∃ (k : Nat) (os : List Nat), k ≤ n ∧ i = .int .i64 k ∧
      Hid (os.length = n + m + 1 ∧ AllLt 65536 os ∧ val 65536 os = val 65536 (xs.take k) * val 65536 ys ∧ ∀ j, k + m ≤ j → os.getD j 0 = 0) ∧
      Hid (Arr .u32 74 wr (w.heap.size + 1 + 1 + 1) os) ∧
      Hid (Box2 30 wr w.heap.size (.bool (neg x)) (.slice A n c) ∧ Box2 30 wr (w.heap.size + 1) (.bool (neg y)) (.slice B m d) ∧ Box2 30 wr (w.heap.size + 1 + 1) (.bool false) (.slice none 0 0) ∧ Below w.heap.size w wr)) (fun i _ => n - (intOf i).toNat)
  case atStart => exact ⟨0, _, Nat.zero_le _, rfl, ⟨by simp, AllLt.zeros (by omega) _, by rw [val_zeros]; simp, fun j _ => zeros_getD _ _⟩, HA.out, HQ.out⟩
  case round =>
    clear HA HQ
    obtain ⟨k, os, hk, rfl, HI, HR, HQ⟩ := hrel
    have a01 := HQ.out.1.c1
    have a11 := HQ.out.2.1.c1
    by_cases hlt : k < n
    · go_wp2
      obtain ⟨wo, rfl⟩ : ∃ wo : World, wo = wr := ⟨_, rfl⟩
      have hxlt := dx.get (b := 65536) (by omega) k
      generalize hx : xs.getD k 0 = xk at hxlt
      have HXK := Lib.hid hx
      clear hx
      go_loopw [7, 8] (fun cy j wr => ∃ (q cc : Nat) (os : List Nat), q ≤ m + 1 ∧ j = .int .i64 q ∧ cy = .int .u64 cc ∧ cc < 65536 ∧
          Hid (RowInv ys os n m k q cc xk (val 65536 (xs.take k) * val 65536 ys)) ∧
          Hid (Arr .u32 74 wr (w.heap.size + 1 + 1 + 1) os) ∧
          Hid (Box2 30 wr w.heap.size (.bool (neg x)) (.slice A n c) ∧ Box2 30 wr (w.heap.size + 1) (.bool (neg y)) (.slice B m d) ∧ Box2 30 wr (w.heap.size + 1 + 1) (.bool false) (.slice none 0 0) ∧ Below w.heap.size w wr)) (fun _ j _ => m + 1 - (intOf j).toNat)
      case atStart => exact ⟨0, 0, os, by omega, rfl, rfl, by omega, ⟨HI.out.1, HI.out.2.1, by simp [HI.out.2.2.1], fun j hj => HI.out.2.2.2 j (by omega), fun _ => HI.out.2.2.2 _ (by omega), by omega, by omega⟩, HR.out, HQ.out⟩
      case round =>
        clear HI HR HQ a01 a11
        obtain ⟨q, cc, os, hq, rfl, rfl, hcc, HI, HR, HQ⟩ := hrel
        have a01 := HQ.out.1.c1
        have a11 := HQ.out.2.1.c1
        by_cases hqm : q < m
        · obtain ⟨b1, off1, rfl, hw1, hcs1⟩ := ux.cells (by omega)
          have hcx := (HQ.out.2.2.2.cell (p := ⟨b1, off1 + k, none⟩) hw1).trans (hcs1 k hlt)
          rw [HXK.out] at hcx
          obtain ⟨b2, off2, rfl, hw2, hcs2⟩ := uy.cells (by omega)
          have hcy := (HQ.out.2.2.2.cell (p := ⟨b2, off2 + q, none⟩) hw2).trans (hcs2 q hqm)
          have hylt := dy.get (b := 65536) (by omega) q
          generalize hyq : ys.getD q 0 = yq at hcy hylt
          have HYQ := Lib.hid hyq
          clear hyq hcs1 hcs2
          have hco := HR.out.cell (k + q) (by rw [HI.out.1]; omega)
          have hfo := HR.out.frozen (k + q)
          have holt := HI.out.2.1.get (b := 65536) (by omega) (k + q)
          generalize ho : os.getD (k + q) 0 = o at hco holt
          have HO := Lib.hid ho
          clear ho
          have hst := row_step HI.out hlt hcc hxlt hylt (.inl hqm) HYQ.out HO.out
          have hdlt := hst.2
          have HST := Lib.hid hst.1
          clear hst
          have hxy : xk * yq ≤ 65535 * 65535 := Nat.mul_le_mul (by omega) (by omega)
          have hk0 : (0 : Int) ≤ (k : Int) := by omega
          have hk1 : (k : Int) < (n : Int) := by omega
          have hkt : ((k : Int)).toNat = k := by omega
          have hq0 : (0 : Int) ≤ (q : Int) := by omega
          have hq1 : (q : Int) < (m : Int) := by omega
          have hqt : ((q : Int)).toNat = q := by omega
          go_upto_region 11 with fail
          have v1 : IntKind.u64.wrap ((xk : Int) * yq) = (xk : Int) * yq := IntWalk.u64_in _ (by rw [← Int.natCast_mul]; omega)
          have v2 : IntKind.u64.wrap ((cc : Int) + o + (xk : Int) * yq) = (cc : Int) + o + (xk : Int) * yq := IntWalk.u64_in _ (by rw [← Int.natCast_mul]; omega)
          go_quiet (fail)
          clear v1 v2
          have R' : Arr .u32 74 (wr.drewN nq) (w.heap.size + 1 + 1 + 1) os := HR.out
          have Q' : Hid (Box2 30 (wr.drewN nq) w.heap.size (.bool (neg x)) (.slice (some ⟨b1, off1, none⟩) n c) ∧ Box2 30 (wr.drewN nq) (w.heap.size + 1) (.bool (neg y)) (.slice (some ⟨b2, off2, none⟩) m d) ∧ Box2 30 (wr.drewN nq) (w.heap.size + 1 + 1) (.bool false) (.slice none 0 0) ∧ Below w.heap.size w (wr.drewN nq)) := ⟨HQ.out.1, HQ.out.2.1, HQ.out.2.2.1, bdrewN HQ.out.2.2.2 nq⟩
          have RH := Lib.hid R'
          have hco' : (wr.drewN nq).cell? ⟨w.heap.size + 1 + 1 + 1, k + q, none⟩ = some (.int .u32 o) := hco
          have hfo' : (wr.drewN nq).frozen? ⟨w.heap.size + 1 + 1 + 1, k + q, none⟩ = false := hfo
          clear R' hco hfo hcx hcy a01 a11 HR HQ
          generalize wr.drewN nq = W2 at *
          go_wp2
          go_roundw
          case rel => exact ⟨q + 1, (cc + o + xk * yq) / 65536, os.set (k + q) ((cc + o + xk * yq) % 65536), by omega, by go_num, int_eq (by omega), hdlt, HST.out, RH.out.set' _ _ _ (by omega), Q'.out.1.far (by simp <;> omega) _, Q'.out.2.1.far (by simp <;> omega) _, Q'.out.2.2.1.far (by simp <;> omega) _, Q'.out.2.2.2.setCell (by simp <;> omega) _⟩
          case measure => simp [intOf] <;> omega
        · by_cases hcz : 0 < cc
          · have hqe : q = m := by
              have h7 := HI.out.2.2.2.2.2
              rcases Nat.lt_or_ge m q with h | h
              · have := h7.1 (by omega); omega
              · omega
            subst hqe
            have hco := HR.out.cell (k + q) (by rw [HI.out.1]; omega)
            have hfo := HR.out.frozen (k + q)
            have ho0 := HI.out.2.2.2.2.1 (Nat.le_refl _)
            rw [ho0] at hco
            have hst := row_step (y := 0) HI.out hlt hcc hxlt (by omega) (.inr ⟨rfl, rfl⟩) (getD_ge (by rw [uy.len]; exact Nat.le_refl _)) ho0
            rw [Nat.mul_zero, Nat.add_zero, Nat.add_zero] at hst
            have hdlt := hst.2
            have HST := Lib.hid hst.1
            clear hst ho0
            go_wp2
            go_roundw
            case rel => exact ⟨q + 1, cc / 65536, os.set (k + q) (cc % 65536), by omega, by go_num, int_eq (by omega), hdlt, HST.out, HR.out.set' _ _ _ (by omega), HQ.out.1.far (by simp <;> omega) _, HQ.out.2.1.far (by simp <;> omega) _, HQ.out.2.2.1.far (by simp <;> omega) _, HQ.out.2.2.2.setCell (by simp <;> omega) _⟩
            case measure => simp [intOf] <;> omega
          · go_wp2
            go_roundw
            case rel =>
              have h3 := HI.out
              have hcz' : cc = 0 := by omega
              have hv := h3.2.2.1
              rw [hcz', Nat.mul_zero, Nat.add_zero, List.take_of_length_le (l := ys) (by rw [uy.len]; omega)] at hv
              exact ⟨k + 1, os, by omega, by go_num, ⟨h3.1, h3.2.1, by rw [hv, val_take_step, HXK.out, Nat.add_mul, Nat.mul_assoc], fun j hj => h3.2.2.2.1 j (by omega)⟩, HR.out, HQ.out⟩
            case measure => simp [intOf] <;> omega
    · have h3 := HI.out
      have hv : val 65536 os = x.natAbs * y.natAbs := by
        rw [h3.2.2.1, List.take_of_length_le (by rw [ux.len]; omega), HX.out, HY.out, val_D, val_D]
      have HV := Lib.hid hv
      have hlt' := h3.2.1
      have hU := HR.out.u32 (wide h3.2.1) h3.1 (by simp only [maxLen]; omega)
      have a00 := HQ.out.1.c0
      have a10 := HQ.out.2.1.c0
      clear hv h3
      go_wp2_with fail
      refine (norm_ref hU hlt').mono ?_
      rintro e w2 ⟨rfl, hz, hb⟩
      have t2 := HQ.out.2.2.1.below hb HQ.out.2.2.1.lt
      have hc0 := t2.c0
      have hc1 := t2.c1
      have hf0 := t2.f 0
      have hf1 := t2.f 1
      have hs2 := t2.lt
      rw [HV.out, HS.out] at hz ⊢
      go_wp2
      exact bodyPost_ret (v := .agg #[.bool (neg (x * y)), .slice (some ⟨w.heap.size + 1 + 1 + 1, 0, none⟩) (dl (x * y)) (n + m + 1)]) (by simp [results, Try.results25, go_sem, hc0, hc1]) rfl
        ⟨_, rfl, ⟨_, _, rfl, U32.store2 hz hc0 hc1 _ _⟩, below_store2 (thru HQ.out.2.2.2 hb) (by omega) _ _⟩

end Go.Proofs.Ytnldopjbiacbfaa
