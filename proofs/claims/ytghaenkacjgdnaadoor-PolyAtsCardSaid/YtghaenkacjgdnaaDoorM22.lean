/- How many binary digits a number has: limb.Bits, Bits of both. No condition. -/
import Derived.Test.YtghaenkacjgdnaaDoorM6
import Derived.Test.YtghaenkacjgdnaaDoorM21

namespace Go.Proofs.YtghaenkacjgdnaaDoor
open Go.RowKit Anv
def blen (n : Nat) : Nat := if n = 0 then 0 else n.log2 + 1
theorem blen_zero : blen 0 = 0 := by simp [blen]
theorem blen_pos {n : Nat} (h : n ≠ 0) : 0 < blen n := by unfold blen; rw [if_neg h]; omega
theorem lt_blen (n : Nat) : n < 2 ^ blen n := by
  unfold blen
  split
  · subst_vars; simp
  · exact Nat.lt_log2_self
theorem blen_le {n k : Nat} (h : n < 2 ^ k) : blen n ≤ k := by
  unfold blen
  split
  · omega
  · rename_i h0
    have := (Nat.log2_lt h0).2 h
    omega
theorem blen_shift (x b : Nat) (h : x / 2 ^ b ≠ 0) : blen x = b + blen (x / 2 ^ b) := by
  have hp : 0 < 2 ^ b := Nat.two_pow_pos b
  have hx : x ≠ 0 := by intro h0; subst h0; simp at h
  have h1 := Nat.log2_self_le h
  have h2 : x / 2 ^ b < 2 ^ ((x / 2 ^ b).log2 + 1) := Nat.lt_log2_self
  have e : x.log2 = (x / 2 ^ b).log2 + b := (Nat.log2_eq_iff hx).2
    ⟨by rw [Nat.pow_add]; exact (Nat.le_div_iff_mul_le hp).1 h1, by rw [show (x / 2 ^ b).log2 + b + 1 = ((x / 2 ^ b).log2 + 1) + b by omega, Nat.pow_add]; exact (Nat.div_lt_iff_lt_mul hp).1 h2⟩
  simp only [blen, hx, h, if_false, e]
  omega
theorem blen_half (x : Nat) (h : x ≠ 0) : blen x = 1 + blen (x / 2) := by
  rcases Nat.lt_or_ge x 2 with h1 | h1
  · have : x = 1 := by omega
    subst this
    decide
  · have := blen_shift x 1 (by rw [Nat.pow_one]; omega)
    rw [Nat.pow_one] at this
    exact this
theorem top_of {b : Nat} (hb : 0 < b) {xs : List Nat} (h : AllLt b xs) {n : Nat} (hn : xs.length = n + 1) : val b xs / b ^ n = xs.getD n 0 := by
  have h1 := val_take_succ b xs n (by omega)
  rw [List.take_of_length_le (by omega)] at h1
  have h2 := val_lt (b := b) (xs := xs.take n) (fun x hx => h x (List.mem_of_mem_take hx))
  rw [List.length_take, Nat.min_eq_left (by omega)] at h2
  rw [h1, Nat.add_mul_div_left _ _ (Nat.pow_pos hb), Nat.div_eq_of_lt h2]; omega
theorem top_ne {xs : List Nat} (h : Norm xs) {n : Nat} (hn : xs.length = n + 1) : xs.getD n 0 ≠ 0 := by
  intro h0
  apply h
  rw [List.getLast?_eq_getElem?, hn, Nat.add_sub_cancel]
  rw [List.getD_eq_getElem?_getD] at h0
  rw [List.getElem?_eq_getElem (by omega)] at h0 ⊢
  simpa using h0
theorem blen_top {b k : Nat} (hb : b = 2 ^ k) (h0 : 0 < b) {xs : List Nat} (h : AllLt b xs) (hx : Norm xs) {n : Nat} (hn : xs.length = n + 1) : blen (val b xs) = k * n + blen (xs.getD n 0) := by
  have h1 := top_of h0 h hn
  have h2 := top_ne hx hn
  rw [hb, ← Nat.pow_mul] at h1
  rw [blen_shift (val b xs) (k * n) (by rw [hb, h1]; exact h2), hb, h1]
theorem top_digits (N m : Nat) (h : dn N = m + 1) : blen N = 16 * m + blen ((D N).getD m 0) := by
  have := blen_top (b := 65536) (k := 16) (by decide) (by omega) (D_lt N) (dig_norm (by omega) N) h
  rw [val_D] at this
  exact this
theorem zero_of_nl {N : Nat} (h : nl N = 0) : N = 0 := by
  have h1 := val_L N
  rw [List.length_eq_zero_iff.1 h] at h1
  exact h1.symm
theorem zero_of_dn {N : Nat} (h : dn N = 0) : N = 0 := by
  have h1 := val_D N
  rw [List.length_eq_zero_iff.1 h] at h1
  exact h1.symm
theorem bits_d {A : Option Addr} {c N : Nat} {w : World} (h : U32 w A (dn N) c (D N)) (hN : dn N ≤ 1000000) :
    Calls Tryd.prog 85 #[.slice A (dn N) c] w fun e w' => e = .returned (.int .i64 (blen N)) ∧ w = w' := by
  go_enter Tryd.func85, Tryd.ntmps85
  have ht := top_digits N
  have hz := zero_of_dn (N := N)
  generalize dn N = m at *
  rcases m with _ | m
  · have HZ := Lib.hid (hz rfl)
    clear ht hz h
    go_wp2
    go_ret
    rw [HZ.out, blen_zero]
    exact ⟨rfl, rfl⟩
  · obtain ⟨b, off, rfl, hbw, hcs⟩ := h.cells (by omega)
    have hcell := hcs m (by omega)
    have HT := Lib.hid (ht m rfl)
    have hx : (D N).getD m 0 < 65536 := (D_lt N).get (by omega) m
    clear ht hz hcs h
    generalize (D N).getD m 0 = x at *
    have hx1 : blen x ≤ 16 := blen_le hx
    go_wp2
    go_loop [3, 4] (fun n t => ∃ k y : Nat, n = .int .i64 k ∧ t = .int .u32 y ∧ k ≤ 16000016 ∧ y < 65536 ∧ blen y ≤ 16 ∧ Hid (k + blen y = 16 * m + blen x) ∧ k + blen y ≤ 16000016) (fun n t => (intOf t).toNat)
    case atStart => exact ⟨16 * m, x, by simp, rfl, by omega, hx, hx1, Lib.hid rfl, by omega⟩
    case round =>
      obtain ⟨k, y, rfl, rfl, hk, hy, hy1, HK, hk2⟩ := hrel
      by_cases h0 : y = 0
      · subst h0
        have e := HK.out
        rw [blen_zero, Nat.add_zero] at e
        have E := Lib.hid e
        clear e HK
        go_wp2
        go_ret
        rw [HT.out, ← E.out]
        exact ⟨rfl, rfl⟩
      · have HB := Lib.hid (blen_half y h0)
        have hp := blen_pos h0
        have hb2 : blen (y / 2) ≤ 16 := by have := HB.out; omega
        have hy0 : (0 : Int) < y := by omega
        go_wp2
        go_round
        case rel => exact ⟨k + 1, y / 2, by go_num, by go_num, by omega, by omega, hb2, Lib.hid (by have := HB.out; have := HK.out; omega), by have := HB.out; have := HK.out; omega⟩
        case measure => simp [intOf]; omega
end Go.Proofs.YtghaenkacjgdnaaDoor

/- Powers: anvilref02.Pow. No condition. -/
namespace Go.Proofs.YtghaenkacjgdnaaDoor
open Go.RowKit Anv
theorem dl_one : dl 1 = 1 := by
  unfold dl dn D
  rw [show (1 : Int).natAbs = 1 from rfl, dig_pos (by omega) (by omega)]
  rw [show (1 : Nat) / 65536 = 0 from by omega, dig_zero]
  rfl
theorem pow_r {A : Option Addr} {c n : Nat} {x : Int} {w : World} (h : RIn w A c x) (hn : n ≤ 100) (hx : dl x ≤ 1000) :
    Calls Tryd.prog 53 #[.agg #[.bool (neg x), .slice A (dl x) c], .int .i64 n] w fun e w' => ∃ v, e = .returned v ∧ RAt w' v (x ^ n) ∧ Below w.heap.size w w' := by
  go_enter Tryd.func53, Tryd.ntmps53
  go_wp2_with fail
  refine (of_r (n := 1) (by omega) (by omega)).mono ?_
  rintro e w0 ⟨v, rfl, ⟨A0, c0, rfl, hz0⟩, hb0⟩
  obtain ⟨q0, q1, bw0, hs0⟩ := boxes2 hb0
  clear hb0
  go_wp2
  have t0 := q0.alloc (.cells #[.bool (neg 1), .slice A0 (dl 1) c0] 39)
  have t1 := q1.alloc (.cells #[.bool (neg 1), .slice A0 (dl 1) c0] 39)
  have t2 := Box2.new w0 39 (.bool (neg 1)) (.slice A0 (dl 1) c0)
  have bw1 := bw0.alloc bw0.size (.cells #[.bool (neg 1), .slice A0 (dl 1) c0] 39)
  have hz1 := hz0.below (below1 w0 (.cells #[.bool (neg 1), .slice A0 (dl 1) c0] 39))
  have hx1 := h.below bw1
  have K0 := Lib.hid (And.intro hz1 (And.intro t0 (And.intro t1 (And.intro t2 (And.intro hx1 bw1)))))
  clear t0 t1 t2 bw1 hz1 q0 q1 bw0 hz0 hx1
  go_loopw [6] (fun i wr => ∃ (j : Nat) (s : Int) (B : Option Addr) (d : Nat), j ≤ n ∧ i = .int .i64 j ∧ Hid (s = x ^ j ∧ dl s ≤ j * 1001 + 1) ∧ Hid (RIn wr B d s) ∧
      Hid (Box2 39 wr w.heap.size (.bool (neg x)) (.slice A (dl x) c) ∧ Box2 39 wr (w.heap.size + 1) (.bool false) (.slice none 0 0) ∧ Box2 39 wr w0.heap.size (.bool (neg s)) (.slice B (dl s) d) ∧ RIn wr A c x ∧ Below w.heap.size w wr)) (fun i _ => n - (intOf i).toNat)
  case atStart => exact ⟨0, 1, A0, c0, Nat.zero_le _, rfl, ⟨by simp, by rw [dl_one]; omega⟩, K0.out.1, K0.out.2.1, K0.out.2.2.1, K0.out.2.2.2.1, K0.out.2.2.2.2.1, K0.out.2.2.2.2.2⟩
  case round =>
    clear K0
    obtain ⟨j, s, B, d, hj, rfl, HI, HZ, HQ⟩ := hrel
    by_cases hlt : j < n
    · have a0 := HQ.out.1.c0
      have a1 := HQ.out.1.c1
      have b0 := HQ.out.2.2.1.c0
      have b1 := HQ.out.2.2.1.c1
      have hs : dl s ≤ 1000000 := by have := HI.out.2; have := Nat.mul_le_mul_right 1001 (Nat.le_trans hj hn); omega
      go_wp2_with fail
      refine (mul_r HZ.out HQ.out.2.2.2.1 hs (by omega)).mono ?_
      rintro e w1 ⟨v, rfl, ⟨A2, c2, rfl, hz2⟩, hb1⟩
      have t0 := HQ.out.1.below hb1 HQ.out.1.lt
      have t1 := HQ.out.2.1.below hb1 HQ.out.2.1.lt
      have t2 := HQ.out.2.2.1.below hb1 HQ.out.2.2.1.lt
      have hx2 := HQ.out.2.2.2.1.below hb1
      have bw := thru HQ.out.2.2.2.2 hb1
      clear hb1 a0 a1 b0 b1
      have a0 := t2.c0
      have a1 := t2.c1
      have a2 := t2.f 0
      have a3 := t2.f 1
      have T0 := Lib.hid t0
      have T1 := Lib.hid t1
      have T2 := Lib.hid t2
      have HZ2 := Lib.hid hz2
      have HX2 := Lib.hid hx2
      have BW := Lib.hid bw
      clear t0 t1 t2 hz2 hx2 bw
      go_wp2
      go_roundw
      case rel =>
        have h3 := HI.out
        refine ⟨j + 1, s * x, A2, c2, by omega, by go_num, ⟨by rw [Int.pow_succ, h3.1], by have := dl_mul s x; omega⟩, ?_, T0.out.far2 (by omega) _ _, T1.out.far2 (by omega) _ _, T2.out.put _ _, ?_, below_store2 BW.out (by omega) _ _⟩
        · exact (HZ2.out.store (by rw [a0]; intro q hq; cases hq) _).store (by rw [World.cell?_setCell_other _ _ _ _ (by simp)]; rw [a1]; intro q hq; cases hq) _
        · exact (HX2.out.store (by rw [a0]; intro q hq; cases hq) _).store (by rw [World.cell?_setCell_other _ _ _ _ (by simp)]; rw [a1]; intro q hq; cases hq) _
      case measure => simp [intOf]; omega
    · have a0 := HQ.out.2.1.c0
      have a1 := HQ.out.2.1.c1
      have f0 := HQ.out.2.1.f 0
      have f1 := HQ.out.2.1.f 1
      have b0 := HQ.out.2.2.1.c0
      have b1 := HQ.out.2.2.1.c1
      have e : s = x ^ n := by rw [HI.out.1, show j = n by omega]
      subst e
      go_wp2
      exact bodyPost_ret (v := .agg #[.bool (neg (x ^ n)), .slice B (dl (x ^ n)) d]) (by simp [results, Tryd.results53, go_sem, a0, a1]) rfl ⟨_, rfl, ⟨_, _, rfl, U32.store2 HZ.out a0 a1 _ _⟩, below_store2 HQ.out.2.2.2.2 (by omega) _ _⟩
end Go.Proofs.YtghaenkacjgdnaaDoor

/- Plain arithmetic of quotients and remainders of whole numbers. No program in sight. No condition. -/
namespace Go.Proofs.YtghaenkacjgdnaaDoor
open Go.RowKit Anv
theorem zl_ediv (x y : Int) : zl (x / y) ≤ zl x := nl_mono (Int.natAbs_ediv_le_natAbs x y)
end Go.Proofs.YtghaenkacjgdnaaDoor

/- Plain laws of Bezout's numbers. No program in sight. No condition. -/
namespace Go.Proofs.YtghaenkacjgdnaaDoor
open Go.RowKit Anv
def Ph (x y a b u v : Int) : Prop :=
  (a = x ∧ b = y ∧ u = 1 ∧ v = 0) ∨ (a = y ∧ b = x % y ∧ u = 0 ∧ v = 1) ∨
    ∃ m n : Nat, a = m ∧ b = n ∧ m ≤ y.natAbs ∧ n ≤ y.natAbs ∧ v.natAbs * m + u.natAbs * n ≤ 3 * y.natAbs
structure Bz (x y a b u v : Int) : Prop where
  gcd : Int.gcd a b = Int.gcd x y
  da : y ∣ a - u * x
  db : y ∣ b - v * x
  ub : u.natAbs ≤ 3 * y.natAbs
  vb : v.natAbs ≤ 3 * y.natAbs
  ph : Ph x y a b u v
end Go.Proofs.YtghaenkacjgdnaaDoor

/- Plain laws on powers: how long they are; powers of 0, 1, -1. No program. -/
namespace Go.Proofs.YtghaenkacjgdnaaDoor
open Go.RowKit Anv
theorem zl_pow (x : Int) : ∀ n : Nat, zl (x ^ n) ≤ n * zl x + 1
  | 0 => by rw [Int.pow_zero]; exact Nat.le_trans (nl_le_of_lt (k := 1) (by decide)) (by omega)
  | n + 1 => by
    rw [Int.pow_succ]
    have := zl_mul (x ^ n) x
    have := zl_pow x n
    rw [Nat.add_mul]; omega
end Go.Proofs.YtghaenkacjgdnaaDoor
