/- How many binary digits a number has: limb.Bits, Bits of both. No condition. -/
import Derived.Test.YtghaenkacjgdnaaDoorM16
import Derived.Test.YtghaenkacjgdnaaDoorM19

namespace Go.Proofs.YtghaenkacjgdnaaDoor
open Go.RowKit Anv
def blen (n : Nat) : Nat := if n = 0 then 0 else n.log2 + 1
theorem blen_zero : blen 0 = 0 := by simp [blen]
theorem blen_pos {n : Nat} (h : n ≠ 0) : 0 < blen n := by unfold blen; rw [if_neg h]; omega
theorem lt_blen (n : Nat) : n < 2 ^ blen n := by
  unfold blen
  split
  · subst_vars; simp
  · exact Nat.lt_log2_self
theorem blen_le {n k : Nat} (h : n < 2 ^ k) : blen n ≤ k := by
  unfold blen
  split
  · omega
  · rename_i h0
    have := (Nat.log2_lt h0).2 h
    omega
theorem blen_shift (x b : Nat) (h : x / 2 ^ b ≠ 0) : blen x = b + blen (x / 2 ^ b) := by
  have hp : 0 < 2 ^ b := Nat.two_pow_pos b
  have hx : x ≠ 0 := by intro h0; subst h0; simp at h
  have h1 := Nat.log2_self_le h
  have h2 : x / 2 ^ b < 2 ^ ((x / 2 ^ b).log2 + 1) := Nat.lt_log2_self
  have e : x.log2 = (x / 2 ^ b).log2 + b := (Nat.log2_eq_iff hx).2
    ⟨by rw [Nat.pow_add]; exact (Nat.le_div_iff_mul_le hp).1 h1, by rw [show (x / 2 ^ b).log2 + b + 1 = ((x / 2 ^ b).log2 + 1) + b by omega, Nat.pow_add]; exact (Nat.div_lt_iff_lt_mul hp).1 h2⟩
  simp only [blen, hx, h, if_false, e]
  omega
theorem blen_half (x : Nat) (h : x ≠ 0) : blen x = 1 + blen (x / 2) := by
  rcases Nat.lt_or_ge x 2 with h1 | h1
  · have : x = 1 := by omega
    subst this
    decide
  · have := blen_shift x 1 (by rw [Nat.pow_one]; omega)
    rw [Nat.pow_one] at this
    exact this
theorem bitLen_blen : ∀ (k x : Nat), x ≤ k → x < 18446744073709551616 → Lib.bitLen x = blen x
  | 0, x, h, _ => by
    have : x = 0 := by omega
    subst this; decide
  | k + 1, x, h, hx => by
    by_cases h0 : x = 0
    · subst h0; decide
    · rw [Lib.bitLen_half x h0 hx, blen_half x h0, bitLen_blen k (x / 2) (by omega) (by omega)]
theorem top_of {b : Nat} (hb : 0 < b) {xs : List Nat} (h : AllLt b xs) {n : Nat} (hn : xs.length = n + 1) : val b xs / b ^ n = xs.getD n 0 := by
  have h1 := val_take_succ b xs n (by omega)
  rw [List.take_of_length_le (by omega)] at h1
  have h2 := val_lt (b := b) (xs := xs.take n) (fun x hx => h x (List.mem_of_mem_take hx))
  rw [List.length_take, Nat.min_eq_left (by omega)] at h2
  rw [h1, Nat.add_mul_div_left _ _ (Nat.pow_pos hb), Nat.div_eq_of_lt h2]; omega
theorem top_ne {xs : List Nat} (h : Norm xs) {n : Nat} (hn : xs.length = n + 1) : xs.getD n 0 ≠ 0 := by
  intro h0
  apply h
  rw [List.getLast?_eq_getElem?, hn, Nat.add_sub_cancel]
  rw [List.getD_eq_getElem?_getD] at h0
  rw [List.getElem?_eq_getElem (by omega)] at h0 ⊢
  simpa using h0
theorem blen_top {b k : Nat} (hb : b = 2 ^ k) (h0 : 0 < b) {xs : List Nat} (h : AllLt b xs) (hx : Norm xs) {n : Nat} (hn : xs.length = n + 1) : blen (val b xs) = k * n + blen (xs.getD n 0) := by
  have h1 := top_of h0 h hn
  have h2 := top_ne hx hn
  rw [hb, ← Nat.pow_mul] at h1
  rw [blen_shift (val b xs) (k * n) (by rw [hb, h1]; exact h2), hb, h1]
theorem top_bits (N m : Nat) (h : nl N = m + 1) : blen N = 32 * m + blen ((L N).getD m 0) := by
  have := blen_top (b := 4294967296) (k := 32) (by decide) (by omega) (L_lt N) (dig_norm (by omega) N) h
  rw [val_L] at this
  exact this
theorem top_digits (N m : Nat) (h : dn N = m + 1) : blen N = 16 * m + blen ((D N).getD m 0) := by
  have := blen_top (b := 65536) (k := 16) (by decide) (by omega) (D_lt N) (dig_norm (by omega) N) h
  rw [val_D] at this
  exact this
theorem zero_of_nl {N : Nat} (h : nl N = 0) : N = 0 := by
  have h1 := val_L N
  rw [List.length_eq_zero_iff.1 h] at h1
  exact h1.symm
theorem zero_of_dn {N : Nat} (h : dn N = 0) : N = 0 := by
  have h1 := val_D N
  rw [List.length_eq_zero_iff.1 h] at h1
  exact h1.symm
theorem bits_num {A : Option Addr} {n c N : Nat} {w : World} (h : NumIn w A n c N) (hN : nl N ≤ 1000000) :
    Calls Tryd.prog 95 #[.slice A n c] w fun e w' => e = .returned (.int .i64 (blen N)) ∧ w = w' := by
  go_enter Tryd.func95, Tryd.ntmps95
  go_wp2_with fail
  refine (trim_num A n c N w h).mono ?_
  rintro e w' ⟨rfl, hu, rfl⟩
  have ht := top_bits N
  have hz := zero_of_nl (N := N)
  have hb := hu.big
  generalize nl N = m at *
  rcases m with _ | m
  · have HZ := Lib.hid (hz rfl)
    clear ht hz hu hb h
    go_wp2
    go_ret
    rw [HZ.out, blen_zero]
    exact ⟨rfl, rfl⟩
  · obtain ⟨b, off, rfl, hbw, hcs⟩ := hu.cells (by omega)
    have hcell := hcs m (by omega)
    have HT := Lib.hid (ht m rfl)
    have hx : (L N).getD m 0 < 4294967296 := (L_lt N).get (by omega) m
    clear ht hz hcs hu h
    clear hb
    generalize (L N).getD m 0 = x at *
    have hx1 : blen x ≤ 32 := blen_le hx
    go_wp2_with fail
    refine (len32 (x : Int) _ (by omega) (by omega)).mono ?_
    rintro e w' ⟨rfl, rfl⟩
    have hB := bitLen_blen x x (Nat.le_refl _) (by omega)
    rw [Int.toNat_natCast, hB]
    clear hB
    go_wp2
    go_ret
    rw [HT.out]
    refine ⟨?_, rfl⟩
    exact congrArg (fun z => Ending.returned (.int .i64 z)) (by omega)
theorem bits_z {A : Option Addr} {c : Nat} {z : Int} {w : World} (h : ZIn w A c z) (hN : zl z ≤ 1000000) :
    Calls Tryd.prog 74 #[.agg #[.bool (neg z), .slice A (zl z) c]] w fun e w' => e = .returned (.int .i64 (blen z.natAbs)) ∧ Below w.heap.size w w' := by
  go_enter Tryd.func74, Tryd.ntmps74
  go_wp2_with fail
  refine (bits_num (N := z.natAbs) (h.below (below1 _ _)).num hN).mono ?_
  rintro e w' ⟨rfl, rfl⟩
  go_wp2
  go_ret
  exact ⟨rfl, below1 _ _⟩
theorem bits_d {A : Option Addr} {c N : Nat} {w : World} (h : U32 w A (dn N) c (D N)) (hN : dn N ≤ 1000000) :
    Calls Tryd.prog 85 #[.slice A (dn N) c] w fun e w' => e = .returned (.int .i64 (blen N)) ∧ w = w' := by
  go_enter Tryd.func85, Tryd.ntmps85
  have ht := top_digits N
  have hz := zero_of_dn (N := N)
  generalize dn N = m at *
  rcases m with _ | m
  · have HZ := Lib.hid (hz rfl)
    clear ht hz h
    go_wp2
    go_ret
    rw [HZ.out, blen_zero]
    exact ⟨rfl, rfl⟩
  · obtain ⟨b, off, rfl, hbw, hcs⟩ := h.cells (by omega)
    have hcell := hcs m (by omega)
    have HT := Lib.hid (ht m rfl)
    have hx : (D N).getD m 0 < 65536 := (D_lt N).get (by omega) m
    clear ht hz hcs h
    generalize (D N).getD m 0 = x at *
    have hx1 : blen x ≤ 16 := blen_le hx
    go_wp2
    go_loop [3, 4] (fun n t => ∃ k y : Nat, n = .int .i64 k ∧ t = .int .u32 y ∧ k ≤ 16000016 ∧ y < 65536 ∧ blen y ≤ 16 ∧ Hid (k + blen y = 16 * m + blen x) ∧ k + blen y ≤ 16000016) (fun n t => (intOf t).toNat)
    case atStart => exact ⟨16 * m, x, by simp, rfl, by omega, hx, hx1, Lib.hid rfl, by omega⟩
    case round =>
      obtain ⟨k, y, rfl, rfl, hk, hy, hy1, HK, hk2⟩ := hrel
      by_cases h0 : y = 0
      · subst h0
        have e := HK.out
        rw [blen_zero, Nat.add_zero] at e
        have E := Lib.hid e
        clear e HK
        go_wp2
        go_ret
        rw [HT.out, ← E.out]
        exact ⟨rfl, rfl⟩
      · have HB := Lib.hid (blen_half y h0)
        have hp := blen_pos h0
        have hb2 : blen (y / 2) ≤ 16 := by have := HB.out; omega
        have hy0 : (0 : Int) < y := by omega
        go_wp2
        go_round
        case rel => exact ⟨k + 1, y / 2, by go_num, by go_num, by omega, by omega, hb2, Lib.hid (by have := HB.out; have := HK.out; omega), by have := HB.out; have := HK.out; omega⟩
        case measure => simp [intOf]; omega
end Go.Proofs.YtghaenkacjgdnaaDoor

/- Powers: anvilref02.Pow. No condition. -/
namespace Go.Proofs.YtghaenkacjgdnaaDoor
open Go.RowKit Anv
set_option maxRecDepth 100000 in
theorem pow_big {A : Option Addr} {c b n : Nat} {x : Int} {w : World} (hx : ZIn w A c x) (hN : zl x ≤ 1000) (hn : n ≤ 65536) (hb : blen x.natAbs = b) (hb0 : 2 ≤ b) (he : (n : Int) ≤ (65536 : Int) / b) (hz : ∀ j, j ≤ n → zl (x ^ j) ≤ 1000000) :
    Calls Tryd.prog 41 #[.agg #[.bool (neg x), .slice A (zl x) c], .int .i64 n] w fun r w' => ∃ v, r = .returned (.tuple #[v, .int .i64 0]) ∧ ZAt w' v (x ^ n) ∧ Below w.heap.size w w' := by
  go_enter Tryd.func41, Tryd.ntmps41
  have HB := Lib.hid hb
  have hs0 : x.sign ≠ 0 := by
    intro h
    have := Int.sign_eq_zero_iff_zero.1 h
    subst this
    rw [show (0 : Int).natAbs = 0 from rfl, blen_zero] at hb; omega
  have hs1 : (x.sign == 0) = false := by simpa using hs0
  have hb1 : ((b : Int) == 1) = false := by simp; omega
  have hbi : (0 : Int) < b := by omega
  have HN := Lib.hid hz
  clear hb hz hs0
  go_wp2_with fail
  refine (bits_z (hx.below (below2 _ _ _)) (by omega)).mono ?_
  rintro r w1 ⟨rfl, hb1⟩
  rw [HB.out]
  obtain ⟨q0, q1, bw, hs⟩ := boxes2 hb1
  clear hb1 hs
  have a0 := q0.c0
  have a1 := q0.c1
  go_wp2_with fail
  refine (bits_z (hx.below bw) (by omega)).mono ?_
  rintro r w2 ⟨rfl, hb2⟩
  rw [HB.out]
  replace q0 := q0.below hb2 q0.lt
  replace q1 := q1.below hb2 q1.lt
  replace bw := thru bw hb2
  clear hb2 a0 a1
  go_wp2_with fail
  refine (of_z (n := 1) (by omega) (by omega)).mono ?_
  rintro r w3 ⟨v, rfl, ⟨A0, c0, rfl, hz0⟩, hb3⟩
  have hs3 := (q1.below hb3 q1.lt).lt
  replace q0 := (q0.below hb3 q0.lt).alloc (.cells #[.bool (neg 1), .slice A0 (zl 1) c0] 28)
  replace q1 := (q1.below hb3 q1.lt).alloc (.cells #[.bool (neg 1), .slice A0 (zl 1) c0] 28)
  have q2 := Box2.new w3 28 (.bool (neg 1)) (.slice A0 (zl 1) c0)
  replace bw := (thru bw hb3).alloc (thru bw hb3).size (.cells #[.bool (neg 1), .slice A0 (zl 1) c0] 28)
  replace hz0 := hz0.below (below1 w3 (.cells #[.bool (neg 1), .slice A0 (zl 1) c0] 28))
  clear hb3
  have a0 := q0.c0
  have a1 := q0.c1
  go_wp2_with fail
  refine (sign_z (z := x)).mono ?_
  rintro r w4 ⟨rfl, hb4⟩
  replace q0 := q0.below hb4 q0.lt
  replace q1 := q1.below hb4 q1.lt
  replace q2 := q2.below hb4 q2.lt
  replace bw := thru bw hb4
  replace hz0 := hz0.below hb4
  clear hb4 a0 a1
  have a0 := q0.c0
  have a1 := q0.c1
  go_wp2_with fail
  refine (bits_z (hx.below bw) (by omega)).mono ?_
  rintro r w5 ⟨rfl, hb5⟩
  rw [HB.out]
  replace q0 := q0.below hb5 q0.lt
  replace q1 := q1.below hb5 q1.lt
  replace q2 := q2.below hb5 q2.lt
  replace bw := thru bw hb5
  replace hz0 := hz0.below hb5
  have hx5 := hx.below bw
  clear hb5 a0 a1
  go_wp2
  have K0 := Lib.hid (And.intro hz0 (And.intro q0 (And.intro q1 (And.intro q2 (And.intro hx5 bw)))))
  clear hz0 q0 q1 q2 hx5 bw hs1 hb1 hbi
  go_loopw [1] (fun i wr => ∃ (m j : Nat) (s : Int) (B : Option Addr) (d : Nat), m ≤ n ∧ i = .int .i64 m ∧ Hid (m + j = n ∧ s = x ^ j) ∧ Hid (ZIn wr B d s) ∧
      Hid (Box2 28 wr w.heap.size (.bool (neg x)) (.slice A (zl x) c) ∧ Box2 28 wr (w.heap.size + 1) (.bool false) (.slice none 0 0) ∧ Box2 28 wr w3.heap.size (.bool (neg s)) (.slice B (zl s) d) ∧ ZIn wr A c x ∧ Below w.heap.size w wr)) (fun i _ => (intOf i).toNat)
  case atStart => exact ⟨n, 0, 1, A0, c0, Nat.le_refl _, rfl, ⟨by omega, by simp⟩, K0.out.1, K0.out.2.1, K0.out.2.2.1, K0.out.2.2.2.1, K0.out.2.2.2.2.1, K0.out.2.2.2.2.2⟩
  case round =>
    clear K0
    obtain ⟨m, j, s, B, d, hm, rfl, HI, HZ, HQ⟩ := hrel
    rcases m with _ | m
    · have a0 := HQ.out.2.1.c0
      have a1 := HQ.out.2.1.c1
      have f0 := HQ.out.2.1.f 0
      have f1 := HQ.out.2.1.f 1
      have b0 := HQ.out.2.2.1.c0
      have b1 := HQ.out.2.2.1.c1
      have e : s = x ^ n := by rw [HI.out.2, show j = n by have := HI.out.1; omega]
      subst e
      go_wp2
      exact bodyPost_ret (v := .tuple #[.agg #[.bool (neg (x ^ n)), .slice B (zl (x ^ n)) d], .int .i64 0]) (by simp [results, Tryd.results41, go_sem, a0, a1]) rfl ⟨_, rfl, ⟨_, _, rfl, U32.store2 HZ.out a0 a1 _ _⟩, below_store2 HQ.out.2.2.2.2 (by omega) _ _⟩
    · have a0 := HQ.out.1.c0
      have a1 := HQ.out.1.c1
      have b0 := HQ.out.2.2.1.c0
      have b1 := HQ.out.2.2.1.c1
      have hs : zl s ≤ 1000000 := by rw [HI.out.2]; exact HN.out j (by have := HI.out.1; omega)
      go_wp2_with fail
      refine (mul_z HZ.out HQ.out.2.2.2.1 hs (by omega)).mono ?_
      rintro e w6 ⟨v, rfl, ⟨A2, c2, rfl, hz2⟩, hb1⟩
      have t0 := HQ.out.1.below hb1 HQ.out.1.lt
      have t1 := HQ.out.2.1.below hb1 HQ.out.2.1.lt
      have t2 := HQ.out.2.2.1.below hb1 HQ.out.2.2.1.lt
      have hx2 := HQ.out.2.2.2.1.below hb1
      have bw := thru HQ.out.2.2.2.2 hb1
      have hne : w.heap.size + 1 < w3.heap.size := hs3
      clear hb1 a0 a1 b0 b1
      have a0 := t2.c0
      have a1 := t2.c1
      have a2 := t2.f 0
      have a3 := t2.f 1
      have T0 := Lib.hid t0
      have T1 := Lib.hid t1
      have T2 := Lib.hid t2
      have HZ2 := Lib.hid hz2
      have HX2 := Lib.hid hx2
      have BW := Lib.hid bw
      clear t0 t1 t2 hz2 hx2 bw
      go_wp2
      go_roundw
      case rel =>
        have h3 := HI.out
        refine ⟨m, j + 1, s * x, A2, c2, by omega, by go_num, ⟨by omega, by rw [Int.pow_succ, h3.2]⟩, ?_, T0.out.far2 (by omega) _ _, T1.out.far2 (by omega) _ _, T2.out.put _ _, ?_, below_store2 BW.out (by omega) _ _⟩
        · exact (HZ2.out.store (by rw [a0]; intro q hq; cases hq) _).store (by rw [World.cell?_setCell_other _ _ _ _ (by simp)]; rw [a1]; intro q hq; cases hq) _
        · exact (HX2.out.store (by rw [a0]; intro q hq; cases hq) _).store (by rw [World.cell?_setCell_other _ _ _ _ (by simp)]; rw [a1]; intro q hq; cases hq) _
      case measure => simp [intOf]
end Go.Proofs.YtghaenkacjgdnaaDoor

/- Plain arithmetic of quotients and remainders of whole numbers. No program in sight. No condition. -/
namespace Go.Proofs.YtghaenkacjgdnaaDoor
open Go.RowKit Anv
theorem zl_ediv (x y : Int) : zl (x / y) ≤ zl x := nl_mono (Int.natAbs_ediv_le_natAbs x y)
end Go.Proofs.YtghaenkacjgdnaaDoor

/- Plain laws of Bezout's numbers. No program in sight. No condition. -/
namespace Go.Proofs.YtghaenkacjgdnaaDoor
open Go.RowKit Anv
def Ph (x y a b u v : Int) : Prop :=
  (a = x ∧ b = y ∧ u = 1 ∧ v = 0) ∨ (a = y ∧ b = x % y ∧ u = 0 ∧ v = 1) ∨
    ∃ m n : Nat, a = m ∧ b = n ∧ m ≤ y.natAbs ∧ n ≤ y.natAbs ∧ v.natAbs * m + u.natAbs * n ≤ 3 * y.natAbs
structure Bz (x y a b u v : Int) : Prop where
  gcd : Int.gcd a b = Int.gcd x y
  da : y ∣ a - u * x
  db : y ∣ b - v * x
  ub : u.natAbs ≤ 3 * y.natAbs
  vb : v.natAbs ≤ 3 * y.natAbs
  ph : Ph x y a b u v
end Go.Proofs.YtghaenkacjgdnaaDoor

/- Plain laws on powers: how long they are; powers of 0, 1, -1. No program. -/
namespace Go.Proofs.YtghaenkacjgdnaaDoor
open Go.RowKit Anv
theorem zl_pow (x : Int) : ∀ n : Nat, zl (x ^ n) ≤ n * zl x + 1
  | 0 => by rw [Int.pow_zero]; exact Nat.le_trans (nl_le_of_lt (k := 1) (by decide)) (by omega)
  | n + 1 => by
    rw [Int.pow_succ]
    have := zl_mul (x ^ n) x
    have := zl_pow x n
    rw [Nat.add_mul]; omega
theorem tiny {x : Int} (h : blen x.natAbs ≤ 1) : x = 0 ∨ x = 1 ∨ x = -1 := by
  have h1 := lt_blen x.natAbs
  have h2 : 2 ^ blen x.natAbs ≤ 2 ^ 1 := Nat.pow_le_pow_right (by omega) h
  omega
theorem zero_pow {n : Nat} (h : n ≠ 0) : (0 : Int) ^ n = 0 := by
  obtain ⟨m, rfl⟩ : ∃ m, n = m + 1 := ⟨n - 1, by omega⟩
  rw [Int.pow_succ, Int.mul_zero]
theorem one_pow : ∀ n : Nat, (1 : Int) ^ n = 1
  | 0 => Int.pow_zero _
  | n + 1 => by rw [Int.pow_succ, one_pow n]; rfl
theorem mone_pow : ∀ n : Nat, (-1 : Int) ^ n = if n % 2 = 0 then 1 else -1
  | 0 => rfl
  | n + 1 => by
    rw [Int.pow_succ, mone_pow n]
    by_cases h : n % 2 = 0
    · rw [if_pos h, if_neg (by omega)]; rfl
    · rw [if_neg h, if_pos (by omega)]; rfl
end Go.Proofs.YtghaenkacjgdnaaDoor

/- Powers of 0, 1 and -1 by (Int).Pow. No condition. Printed by tools/gen_pow2.py. -/
namespace Go.Proofs.YtghaenkacjgdnaaDoor
open Go.RowKit Anv
theorem U32.put2 {w : World} {A S : Option Addr} {n c g m k : Nat} {b : Bool} {t : TypeId} {xs : List Nat} (h : U32 w A n c xs) (q : Box2 t w g (.bool b) (.slice S m k)) (u u' : Value) :
    U32 ((w.setCell ⟨g, 0, none⟩ u).setCell ⟨g, 1, none⟩ u') A n c xs :=
  (h.store (p := ⟨g, 0, none⟩) (by rw [q.c0]; intro x hx; cases hx) u).store (p := ⟨g, 1, none⟩) (by rw [World.cell?_setCell_other _ _ _ _ (by simp)]; rw [q.c1]; intro x hx; cases hx) u'
set_option maxRecDepth 100000 in
theorem pow_zero_a {A : Option Addr} {c n : Nat} {x t : Int} {w : World} (hx : ZIn w A c x) (hN : zl x ≤ 1000) (_hn : n ≤ 9223372036854775807) (hb : blen x.natAbs = 0) (hs1 : (x.sign == 0) = true) (h0 : ((n : Int) == 0) = true) (ht : t = 1) :
    Calls Tryd.prog 41 #[.agg #[.bool (neg x), .slice A (zl x) c], .int .i64 n] w fun r w' => ∃ v, r = .returned (.tuple #[v, .int .i64 0]) ∧ ZAt w' v t ∧ Below w.heap.size w w' := by
  subst ht
  go_enter Tryd.func41, Tryd.ntmps41
  have HB := Lib.hid hb
  clear hb
  go_wp2_with fail
  refine (bits_z (hx.below (below2 _ _ _)) (by omega)).mono ?_
  rintro r w1 ⟨rfl, hb1⟩
  rw [HB.out]
  obtain ⟨q0, q1, bw, hs⟩ := boxes2 hb1
  clear hb1 hs
  have a0 := q0.c0
  have a1 := q0.c1
  go_wp2_with fail
  clear a0 a1
  refine (of_z (n := 1) (by omega) (by omega)).mono ?_
  rintro r w3 ⟨v, rfl, ⟨A0, c0, rfl, hz0⟩, hb3⟩
  have hs3 := (q1.below hb3 q1.lt).lt
  replace q0 := (q0.below hb3 q0.lt).alloc (.cells #[.bool (neg 1), .slice A0 (zl 1) c0] 28)
  replace q1 := (q1.below hb3 q1.lt).alloc (.cells #[.bool (neg 1), .slice A0 (zl 1) c0] 28)
  have q2 := Box2.new w3 28 (.bool (neg 1)) (.slice A0 (zl 1) c0)
  replace bw := (thru bw hb3).alloc (thru bw hb3).size (.cells #[.bool (neg 1), .slice A0 (zl 1) c0] 28)
  replace hz0 := hz0.below (below1 w3 (.cells #[.bool (neg 1), .slice A0 (zl 1) c0] 28))
  clear hb3
  have a0 := q0.c0
  have a1 := q0.c1
  go_wp2_with fail
  refine (sign_z (z := x)).mono ?_
  rintro r w4 ⟨rfl, hb4⟩
  replace q0 := q0.below hb4 q0.lt
  replace q1 := q1.below hb4 q1.lt
  replace q2 := q2.below hb4 q2.lt
  replace bw := thru bw hb4
  replace hz0 := hz0.below hb4
  clear hb4 a0 a1
  have a0 := q0.c0
  have a1 := q0.c1
  have hx5 := hx.below bw
  have b0 := q2.c0
  have b1 := q2.c1
  have f0 := q2.f 0
  have f1 := q2.f 1
  have e0 := q1.c0
  have e1 := q1.c1
  have e2 := q1.f 0
  have e3 := q1.f 1
  go_wp2
  exact bodyPost_ret (v := .tuple #[.agg #[.bool (neg 1), .slice A0 (zl 1) c0], .int .i64 0]) (by simp [results, Tryd.results41, go_sem, e0, e1]) rfl ⟨_, rfl, ⟨_, _, rfl, U32.store2 hz0 e0 e1 _ _⟩, below_store2 bw (by omega) _ _⟩
set_option maxRecDepth 100000 in
theorem pow_zero_d {A : Option Addr} {c n : Nat} {x t : Int} {w : World} (hx : ZIn w A c x) (hN : zl x ≤ 1000) (_hn : n ≤ 9223372036854775807) (hb : blen x.natAbs = 0) (hs1 : (x.sign == 0) = true) (h0 : ((n : Int) == 0) = false) (hneg : neg x = false) (ht : t = x) :
    Calls Tryd.prog 41 #[.agg #[.bool (neg x), .slice A (zl x) c], .int .i64 n] w fun r w' => ∃ v, r = .returned (.tuple #[v, .int .i64 0]) ∧ ZAt w' v t ∧ Below w.heap.size w w' := by
  rw [ht]
  clear ht
  have HG := Lib.hid hneg
  clear hneg
  go_enter Tryd.func41, Tryd.ntmps41
  have HB := Lib.hid hb
  clear hb
  go_wp2_with fail
  refine (bits_z (hx.below (below2 _ _ _)) (by omega)).mono ?_
  rintro r w1 ⟨rfl, hb1⟩
  rw [HB.out]
  obtain ⟨q0, q1, bw, hs⟩ := boxes2 hb1
  clear hb1 hs
  have a0 := q0.c0
  have a1 := q0.c1
  go_wp2_with fail
  clear a0 a1
  refine (of_z (n := 1) (by omega) (by omega)).mono ?_
  rintro r w3 ⟨v, rfl, ⟨A0, c0, rfl, hz0⟩, hb3⟩
  have hs3 := (q1.below hb3 q1.lt).lt
  replace q0 := (q0.below hb3 q0.lt).alloc (.cells #[.bool (neg 1), .slice A0 (zl 1) c0] 28)
  replace q1 := (q1.below hb3 q1.lt).alloc (.cells #[.bool (neg 1), .slice A0 (zl 1) c0] 28)
  have q2 := Box2.new w3 28 (.bool (neg 1)) (.slice A0 (zl 1) c0)
  replace bw := (thru bw hb3).alloc (thru bw hb3).size (.cells #[.bool (neg 1), .slice A0 (zl 1) c0] 28)
  replace hz0 := hz0.below (below1 w3 (.cells #[.bool (neg 1), .slice A0 (zl 1) c0] 28))
  clear hb3
  have a0 := q0.c0
  have a1 := q0.c1
  go_wp2_with fail
  refine (sign_z (z := x)).mono ?_
  rintro r w4 ⟨rfl, hb4⟩
  replace q0 := q0.below hb4 q0.lt
  replace q1 := q1.below hb4 q1.lt
  replace q2 := q2.below hb4 q2.lt
  replace bw := thru bw hb4
  replace hz0 := hz0.below hb4
  clear hb4 a0 a1
  have a0 := q0.c0
  have a1 := q0.c1
  have hx5 := hx.below bw
  have b0 := q2.c0
  have b1 := q2.c1
  have f0 := q2.f 0
  have f1 := q2.f 1
  have e0 := q1.c0
  have e1 := q1.c1
  have e2 := q1.f 0
  have e3 := q1.f 1
  have hneg := HG.out
  go_wp2
  have y1 := U32.put2 hx5 q2 (.bool (neg x)) (.slice A (zl x) c)
  have p1 := q1.far2 (k := w3.heap.size) (by omega) (.bool (neg x)) (.slice A (zl x) c)
  have y2 := U32.store2 y1 p1.c0 p1.c1 (.bool (neg x)) (.slice A (zl x) c)
  have bw2 := below_store2 (g := w.heap.size + 1) (below_store2 (g := w3.heap.size) bw (by omega) (.bool (neg x)) (.slice A (zl x) c)) (by omega) (.bool (neg x)) (.slice A (zl x) c)
  have g0 := p1.c0
  have g1 := p1.c1
  rw [HG.out] at y2 bw2 g0 g1
  exact bodyPost_ret (v := .tuple #[.agg #[.bool false, .slice A (zl x) c], .int .i64 0]) (by simp [results, Tryd.results41, go_sem, g0, g1]) rfl ⟨_, rfl, ⟨_, _, by rw [HG.out], y2⟩, bw2⟩
set_option maxRecDepth 100000 in
theorem pow_one_a {A : Option Addr} {c n : Nat} {x t : Int} {w : World} (hx : ZIn w A c x) (hN : zl x ≤ 1000) (hn : n ≤ 65536) (hb : blen x.natAbs = 1) (hs1 : (x.sign == 0) = false) (h0 : ((n : Int) == 0) = true) (ht : t = 1) :
    Calls Tryd.prog 41 #[.agg #[.bool (neg x), .slice A (zl x) c], .int .i64 n] w fun r w' => ∃ v, r = .returned (.tuple #[v, .int .i64 0]) ∧ ZAt w' v t ∧ Below w.heap.size w w' := by
  subst ht
  go_enter Tryd.func41, Tryd.ntmps41
  have HB := Lib.hid hb
  clear hb
  go_wp2_with fail
  refine (bits_z (hx.below (below2 _ _ _)) (by omega)).mono ?_
  rintro r w1 ⟨rfl, hb1⟩
  rw [HB.out]
  obtain ⟨q0, q1, bw, hs⟩ := boxes2 hb1
  clear hb1 hs
  have a0 := q0.c0
  have a1 := q0.c1
  go_wp2_with fail
  refine (bits_z (hx.below bw) (by omega)).mono ?_
  rintro r w2 ⟨rfl, hb2⟩
  rw [HB.out]
  replace q0 := q0.below hb2 q0.lt
  replace q1 := q1.below hb2 q1.lt
  replace bw := thru bw hb2
  clear hb2 a0 a1
  go_wp2_with fail
  refine (of_z (n := 1) (by omega) (by omega)).mono ?_
  rintro r w3 ⟨v, rfl, ⟨A0, c0, rfl, hz0⟩, hb3⟩
  have hs3 := (q1.below hb3 q1.lt).lt
  replace q0 := (q0.below hb3 q0.lt).alloc (.cells #[.bool (neg 1), .slice A0 (zl 1) c0] 28)
  replace q1 := (q1.below hb3 q1.lt).alloc (.cells #[.bool (neg 1), .slice A0 (zl 1) c0] 28)
  have q2 := Box2.new w3 28 (.bool (neg 1)) (.slice A0 (zl 1) c0)
  replace bw := (thru bw hb3).alloc (thru bw hb3).size (.cells #[.bool (neg 1), .slice A0 (zl 1) c0] 28)
  replace hz0 := hz0.below (below1 w3 (.cells #[.bool (neg 1), .slice A0 (zl 1) c0] 28))
  clear hb3
  have a0 := q0.c0
  have a1 := q0.c1
  go_wp2_with fail
  refine (sign_z (z := x)).mono ?_
  rintro r w4 ⟨rfl, hb4⟩
  replace q0 := q0.below hb4 q0.lt
  replace q1 := q1.below hb4 q1.lt
  replace q2 := q2.below hb4 q2.lt
  replace bw := thru bw hb4
  replace hz0 := hz0.below hb4
  clear hb4 a0 a1
  have a0 := q0.c0
  have a1 := q0.c1
  go_wp2_with fail
  refine (bits_z (hx.below bw) (by omega)).mono ?_
  rintro r w5 ⟨rfl, hb5⟩
  rw [HB.out]
  replace q0 := q0.below hb5 q0.lt
  replace q1 := q1.below hb5 q1.lt
  replace q2 := q2.below hb5 q2.lt
  replace bw := thru bw hb5
  replace hz0 := hz0.below hb5
  clear hb5 a0 a1
  have a0 := q0.c0
  have a1 := q0.c1
  have hx5 := hx.below bw
  have b0 := q2.c0
  have b1 := q2.c1
  have f0 := q2.f 0
  have f1 := q2.f 1
  have e0 := q1.c0
  have e1 := q1.c1
  have e2 := q1.f 0
  have e3 := q1.f 1
  go_wp2
  exact bodyPost_ret (v := .tuple #[.agg #[.bool (neg 1), .slice A0 (zl 1) c0], .int .i64 0]) (by simp [results, Tryd.results41, go_sem, e0, e1]) rfl ⟨_, rfl, ⟨_, _, rfl, U32.store2 hz0 e0 e1 _ _⟩, below_store2 bw (by omega) _ _⟩
set_option maxRecDepth 100000 in
theorem pow_one_b {A : Option Addr} {c n : Nat} {x t : Int} {w : World} (hx : ZIn w A c x) (hN : zl x ≤ 1000) (hn : n ≤ 65536) (hb : blen x.natAbs = 1) (hs1 : (x.sign == 0) = false) (h0 : ((n : Int) == 0) = false) (hneg : neg x = true) (h2 : ((n : Int) % 2 == 0) = true) (ht : t = 1) :
    Calls Tryd.prog 41 #[.agg #[.bool (neg x), .slice A (zl x) c], .int .i64 n] w fun r w' => ∃ v, r = .returned (.tuple #[v, .int .i64 0]) ∧ ZAt w' v t ∧ Below w.heap.size w w' := by
  subst ht
  have HG := Lib.hid hneg
  clear hneg
  go_enter Tryd.func41, Tryd.ntmps41
  have HB := Lib.hid hb
  clear hb
  go_wp2_with fail
  refine (bits_z (hx.below (below2 _ _ _)) (by omega)).mono ?_
  rintro r w1 ⟨rfl, hb1⟩
  rw [HB.out]
  obtain ⟨q0, q1, bw, hs⟩ := boxes2 hb1
  clear hb1 hs
  have a0 := q0.c0
  have a1 := q0.c1
  go_wp2_with fail
  refine (bits_z (hx.below bw) (by omega)).mono ?_
  rintro r w2 ⟨rfl, hb2⟩
  rw [HB.out]
  replace q0 := q0.below hb2 q0.lt
  replace q1 := q1.below hb2 q1.lt
  replace bw := thru bw hb2
  clear hb2 a0 a1
  go_wp2_with fail
  refine (of_z (n := 1) (by omega) (by omega)).mono ?_
  rintro r w3 ⟨v, rfl, ⟨A0, c0, rfl, hz0⟩, hb3⟩
  have hs3 := (q1.below hb3 q1.lt).lt
  replace q0 := (q0.below hb3 q0.lt).alloc (.cells #[.bool (neg 1), .slice A0 (zl 1) c0] 28)
  replace q1 := (q1.below hb3 q1.lt).alloc (.cells #[.bool (neg 1), .slice A0 (zl 1) c0] 28)
  have q2 := Box2.new w3 28 (.bool (neg 1)) (.slice A0 (zl 1) c0)
  replace bw := (thru bw hb3).alloc (thru bw hb3).size (.cells #[.bool (neg 1), .slice A0 (zl 1) c0] 28)
  replace hz0 := hz0.below (below1 w3 (.cells #[.bool (neg 1), .slice A0 (zl 1) c0] 28))
  clear hb3
  have a0 := q0.c0
  have a1 := q0.c1
  go_wp2_with fail
  refine (sign_z (z := x)).mono ?_
  rintro r w4 ⟨rfl, hb4⟩
  replace q0 := q0.below hb4 q0.lt
  replace q1 := q1.below hb4 q1.lt
  replace q2 := q2.below hb4 q2.lt
  replace bw := thru bw hb4
  replace hz0 := hz0.below hb4
  clear hb4 a0 a1
  have a0 := q0.c0
  have a1 := q0.c1
  go_wp2_with fail
  refine (bits_z (hx.below bw) (by omega)).mono ?_
  rintro r w5 ⟨rfl, hb5⟩
  rw [HB.out]
  replace q0 := q0.below hb5 q0.lt
  replace q1 := q1.below hb5 q1.lt
  replace q2 := q2.below hb5 q2.lt
  replace bw := thru bw hb5
  replace hz0 := hz0.below hb5
  clear hb5 a0 a1
  have a0 := q0.c0
  have a1 := q0.c1
  have hx5 := hx.below bw
  have b0 := q2.c0
  have b1 := q2.c1
  have f0 := q2.f 0
  have f1 := q2.f 1
  have e0 := q1.c0
  have e1 := q1.c1
  have e2 := q1.f 0
  have e3 := q1.f 1
  have hneg := HG.out
  go_wp2
  exact bodyPost_ret (v := .tuple #[.agg #[.bool (neg 1), .slice A0 (zl 1) c0], .int .i64 0]) (by simp [results, Tryd.results41, go_sem, e0, e1]) rfl ⟨_, rfl, ⟨_, _, rfl, U32.store2 hz0 e0 e1 _ _⟩, below_store2 bw (by omega) _ _⟩
set_option maxRecDepth 100000 in
theorem pow_one_c {A : Option Addr} {c n : Nat} {x t : Int} {w : World} (hx : ZIn w A c x) (hN : zl x ≤ 1000) (hn : n ≤ 65536) (hb : blen x.natAbs = 1) (hs1 : (x.sign == 0) = false) (h0 : ((n : Int) == 0) = false) (hneg : neg x = true) (h2 : ((n : Int) % 2 == 0) = false) (ht : t = x) :
    Calls Tryd.prog 41 #[.agg #[.bool (neg x), .slice A (zl x) c], .int .i64 n] w fun r w' => ∃ v, r = .returned (.tuple #[v, .int .i64 0]) ∧ ZAt w' v t ∧ Below w.heap.size w w' := by
  rw [ht]
  clear ht
  have HG := Lib.hid hneg
  clear hneg
  go_enter Tryd.func41, Tryd.ntmps41
  have HB := Lib.hid hb
  clear hb
  go_wp2_with fail
  refine (bits_z (hx.below (below2 _ _ _)) (by omega)).mono ?_
  rintro r w1 ⟨rfl, hb1⟩
  rw [HB.out]
  obtain ⟨q0, q1, bw, hs⟩ := boxes2 hb1
  clear hb1 hs
  have a0 := q0.c0
  have a1 := q0.c1
  go_wp2_with fail
  refine (bits_z (hx.below bw) (by omega)).mono ?_
  rintro r w2 ⟨rfl, hb2⟩
  rw [HB.out]
  replace q0 := q0.below hb2 q0.lt
  replace q1 := q1.below hb2 q1.lt
  replace bw := thru bw hb2
  clear hb2 a0 a1
  go_wp2_with fail
  refine (of_z (n := 1) (by omega) (by omega)).mono ?_
  rintro r w3 ⟨v, rfl, ⟨A0, c0, rfl, hz0⟩, hb3⟩
  have hs3 := (q1.below hb3 q1.lt).lt
  replace q0 := (q0.below hb3 q0.lt).alloc (.cells #[.bool (neg 1), .slice A0 (zl 1) c0] 28)
  replace q1 := (q1.below hb3 q1.lt).alloc (.cells #[.bool (neg 1), .slice A0 (zl 1) c0] 28)
  have q2 := Box2.new w3 28 (.bool (neg 1)) (.slice A0 (zl 1) c0)
  replace bw := (thru bw hb3).alloc (thru bw hb3).size (.cells #[.bool (neg 1), .slice A0 (zl 1) c0] 28)
  replace hz0 := hz0.below (below1 w3 (.cells #[.bool (neg 1), .slice A0 (zl 1) c0] 28))
  clear hb3
  have a0 := q0.c0
  have a1 := q0.c1
  go_wp2_with fail
  refine (sign_z (z := x)).mono ?_
  rintro r w4 ⟨rfl, hb4⟩
  replace q0 := q0.below hb4 q0.lt
  replace q1 := q1.below hb4 q1.lt
  replace q2 := q2.below hb4 q2.lt
  replace bw := thru bw hb4
  replace hz0 := hz0.below hb4
  clear hb4 a0 a1
  have a0 := q0.c0
  have a1 := q0.c1
  go_wp2_with fail
  refine (bits_z (hx.below bw) (by omega)).mono ?_
  rintro r w5 ⟨rfl, hb5⟩
  rw [HB.out]
  replace q0 := q0.below hb5 q0.lt
  replace q1 := q1.below hb5 q1.lt
  replace q2 := q2.below hb5 q2.lt
  replace bw := thru bw hb5
  replace hz0 := hz0.below hb5
  clear hb5 a0 a1
  have a0 := q0.c0
  have a1 := q0.c1
  have hx5 := hx.below bw
  have b0 := q2.c0
  have b1 := q2.c1
  have f0 := q2.f 0
  have f1 := q2.f 1
  have e0 := q1.c0
  have e1 := q1.c1
  have e2 := q1.f 0
  have e3 := q1.f 1
  have hneg := HG.out
  go_wp2
  have y1 := U32.put2 hx5 q2 (.bool (neg x)) (.slice A (zl x) c)
  have p1 := q1.far2 (k := w3.heap.size) (by omega) (.bool (neg x)) (.slice A (zl x) c)
  have y2 := U32.store2 y1 p1.c0 p1.c1 (.bool (neg x)) (.slice A (zl x) c)
  have bw2 := below_store2 (g := w.heap.size + 1) (below_store2 (g := w3.heap.size) bw (by omega) (.bool (neg x)) (.slice A (zl x) c)) (by omega) (.bool (neg x)) (.slice A (zl x) c)
  have g0 := p1.c0
  have g1 := p1.c1
  rw [HG.out] at y2 bw2 g0 g1
  exact bodyPost_ret (v := .tuple #[.agg #[.bool true, .slice A (zl x) c], .int .i64 0]) (by simp [results, Tryd.results41, go_sem, g0, g1]) rfl ⟨_, rfl, ⟨_, _, by rw [HG.out], y2⟩, bw2⟩
set_option maxRecDepth 100000 in
theorem pow_one_d {A : Option Addr} {c n : Nat} {x t : Int} {w : World} (hx : ZIn w A c x) (hN : zl x ≤ 1000) (hn : n ≤ 65536) (hb : blen x.natAbs = 1) (hs1 : (x.sign == 0) = false) (h0 : ((n : Int) == 0) = false) (hneg : neg x = false) (ht : t = x) :
    Calls Tryd.prog 41 #[.agg #[.bool (neg x), .slice A (zl x) c], .int .i64 n] w fun r w' => ∃ v, r = .returned (.tuple #[v, .int .i64 0]) ∧ ZAt w' v t ∧ Below w.heap.size w w' := by
  rw [ht]
  clear ht
  have HG := Lib.hid hneg
  clear hneg
  go_enter Tryd.func41, Tryd.ntmps41
  have HB := Lib.hid hb
  clear hb
  go_wp2_with fail
  refine (bits_z (hx.below (below2 _ _ _)) (by omega)).mono ?_
  rintro r w1 ⟨rfl, hb1⟩
  rw [HB.out]
  obtain ⟨q0, q1, bw, hs⟩ := boxes2 hb1
  clear hb1 hs
  have a0 := q0.c0
  have a1 := q0.c1
  go_wp2_with fail
  refine (bits_z (hx.below bw) (by omega)).mono ?_
  rintro r w2 ⟨rfl, hb2⟩
  rw [HB.out]
  replace q0 := q0.below hb2 q0.lt
  replace q1 := q1.below hb2 q1.lt
  replace bw := thru bw hb2
  clear hb2 a0 a1
  go_wp2_with fail
  refine (of_z (n := 1) (by omega) (by omega)).mono ?_
  rintro r w3 ⟨v, rfl, ⟨A0, c0, rfl, hz0⟩, hb3⟩
  have hs3 := (q1.below hb3 q1.lt).lt
  replace q0 := (q0.below hb3 q0.lt).alloc (.cells #[.bool (neg 1), .slice A0 (zl 1) c0] 28)
  replace q1 := (q1.below hb3 q1.lt).alloc (.cells #[.bool (neg 1), .slice A0 (zl 1) c0] 28)
  have q2 := Box2.new w3 28 (.bool (neg 1)) (.slice A0 (zl 1) c0)
  replace bw := (thru bw hb3).alloc (thru bw hb3).size (.cells #[.bool (neg 1), .slice A0 (zl 1) c0] 28)
  replace hz0 := hz0.below (below1 w3 (.cells #[.bool (neg 1), .slice A0 (zl 1) c0] 28))
  clear hb3
  have a0 := q0.c0
  have a1 := q0.c1
  go_wp2_with fail
  refine (sign_z (z := x)).mono ?_
  rintro r w4 ⟨rfl, hb4⟩
  replace q0 := q0.below hb4 q0.lt
  replace q1 := q1.below hb4 q1.lt
  replace q2 := q2.below hb4 q2.lt
  replace bw := thru bw hb4
  replace hz0 := hz0.below hb4
  clear hb4 a0 a1
  have a0 := q0.c0
  have a1 := q0.c1
  go_wp2_with fail
  refine (bits_z (hx.below bw) (by omega)).mono ?_
  rintro r w5 ⟨rfl, hb5⟩
  rw [HB.out]
  replace q0 := q0.below hb5 q0.lt
  replace q1 := q1.below hb5 q1.lt
  replace q2 := q2.below hb5 q2.lt
  replace bw := thru bw hb5
  replace hz0 := hz0.below hb5
  clear hb5 a0 a1
  have a0 := q0.c0
  have a1 := q0.c1
  have hx5 := hx.below bw
  have b0 := q2.c0
  have b1 := q2.c1
  have f0 := q2.f 0
  have f1 := q2.f 1
  have e0 := q1.c0
  have e1 := q1.c1
  have e2 := q1.f 0
  have e3 := q1.f 1
  have hneg := HG.out
  go_wp2
  have y1 := U32.put2 hx5 q2 (.bool (neg x)) (.slice A (zl x) c)
  have p1 := q1.far2 (k := w3.heap.size) (by omega) (.bool (neg x)) (.slice A (zl x) c)
  have y2 := U32.store2 y1 p1.c0 p1.c1 (.bool (neg x)) (.slice A (zl x) c)
  have bw2 := below_store2 (g := w.heap.size + 1) (below_store2 (g := w3.heap.size) bw (by omega) (.bool (neg x)) (.slice A (zl x) c)) (by omega) (.bool (neg x)) (.slice A (zl x) c)
  have g0 := p1.c0
  have g1 := p1.c1
  rw [HG.out] at y2 bw2 g0 g1
  exact bodyPost_ret (v := .tuple #[.agg #[.bool false, .slice A (zl x) c], .int .i64 0]) (by simp [results, Tryd.results41, go_sem, g0, g1]) rfl ⟨_, rfl, ⟨_, _, by rw [HG.out], y2⟩, bw2⟩
end Go.Proofs.YtghaenkacjgdnaaDoor
