/- The reference's bit; rows of the call's own, written to and cut. No condition. -/
import Derived.Test.YtbdngknpngcojaaDoorM1
import Derived.Test.YtbdngknpngcojaaDoorM22
import Derived.Test.YtbdngknpngcojaaDoorM19

namespace Go.Proofs.YtbdngknpngcojaaDoor
open Go.RowKit Anv
theorem and_one32 (v : Int) (h : 0 ≤ v) (h2 : v < 4294967296) : bits .and .u32 v 1 = v % 2 := by
  rw [u32_and v 1 h h2 (by omega) (by omega)]
  rw [show (1 : Int).toNat = 1 from rfl, Nat.and_one_is_mod]
  omega
theorem blen_dn (N : Nat) : blen N ≤ 16 * dn N := by
  apply blen_le
  have := lt_dn N
  rwa [show (65536 : Nat) = 2 ^ 16 from rfl, ← Nat.pow_mul] at this
theorem bit_ref {A : Option Addr} {c N k : Nat} {w : World} (h : U32 w A (dn N) c (D N)) (hk : k < 16 * dn N) (hN : dn N ≤ 1000000) :
    Calls Tryd.prog 83 #[.slice A (dn N) c, .int .i64 k] w fun e w' => e = .returned (.int .u32 ((N / 2 ^ k % 2 : Nat) : Int)) ∧ w = w' := by
  have hb := bit16 (D_lt N) k
  rw [val_D] at hb
  obtain ⟨j, hj⟩ : ∃ j, j = k / 16 := ⟨_, rfl⟩
  obtain ⟨r, hr⟩ : ∃ r, r = k % 16 := ⟨_, rfl⟩
  have hj1 : (k : Int) / 16 = j := by omega
  have hr1 : (k : Int) % 16 = r := by omega
  have hr2 : r < 16 := by omega
  have hjn : j < dn N := by omega
  rw [← hj, ← hr] at hb
  have HB := Lib.hid hb
  obtain ⟨b, off, rfl, hbw, hcs⟩ := h.cells (by omega)
  have hcell := hcs j hjn
  have hx : (D N).getD j 0 < 65536 := (D_lt N).get (by omega) j
  clear hb hcs hj hr h
  generalize (D N).getD j 0 = x at *
  have hd : x / 2 ^ r ≤ x := Nat.div_le_self _ _
  have HA := Lib.hid (show bits .and .u32 ((x : Int) / 2 ^ r) 1 = ((x / 2 ^ r % 2 : Nat) : Int) by
    have e : (x : Int) / 2 ^ r = ((x / 2 ^ r : Nat) : Int) := by rw [Int.natCast_ediv, Int.natCast_pow]; rfl
    rw [e]
    generalize x / 2 ^ r = y at *
    rw [and_one32 _ (by omega) (by omega)]
    omega)
  clear hd
  go_enter Tryd.func83, Tryd.ntmps83
  go_wp2
  go_ret
  refine ⟨?_, rfl⟩
  rw [← HB.out, ← HA.out]
  rfl
section
variable {B : Nat} {w : World} {xs : List Nat}
theorem Own.mono {B' : Nat} {v : Value} (h : Own B 105 w v xs) (hb : B' ≤ B) : Own B' 105 w v xs := by
  obtain ⟨h1, h2⟩ := h
  refine ⟨h1, ?_⟩
  rcases h2 with h2 | ⟨g, cap, cur, hv, hB, r⟩
  · exact .inl h2
  · exact .inr ⟨g, cap, cur, hv, by omega, r⟩
theorem Own.set {g n c : Nat} (h : Own B 105 w (.slice (some ⟨g, 0, none⟩) n c) xs) (i v : Nat) : Own B 105 (w.setCell ⟨g, i, none⟩ (.int .u32 (v : Nat))) (.slice (some ⟨g, 0, none⟩) n c) (xs.set i v) := by
  obtain ⟨h1, h2⟩ := h
  refine ⟨by simp, ?_⟩
  rw [List.length_set]
  rcases h2 with ⟨hv, _⟩ | ⟨g', cap, cur, hv, hB, hg, hc, hm, hs, ht⟩
  · cases hv
  · cases hv
    refine .inr ⟨g, c, cur.setIfInBounds i (.int .u32 (v : Nat)), rfl, hB, by simp [World.setCell, Array.getElem?_modify, hg], hc, hm, by simpa using hs, ?_⟩
    rw [Array.toList_setIfInBounds, List.take_set, ht, List.map_set]
theorem Own.set' {g n c : Nat} (h : Own B 105 w (.slice (some ⟨g, 0, none⟩) n c) xs) (i : Nat) (x : Int) (v : Nat) (hv : x = (v : Nat)) : Own B 105 (w.setCell ⟨g, i, none⟩ (.int .u32 x)) (.slice (some ⟨g, 0, none⟩) n c) (xs.set i v) := by
  rw [hv]; exact h.set i v
theorem Own.far {v : Value} (h : Own B 105 w v xs) {p : Addr} (hp : p.block < B) (u : Value) : Own B 105 (w.setCell p u) v xs :=
  ownsRow_setCell_below h hp u
theorem Own.pre {A : Option Addr} {n c m : Nat} (h : Own B 105 w (.slice A n c) xs) (hm : m ≤ n) (hn : xs.length = n) : Own B 105 w (.slice A m c) (xs.take m) := by
  obtain ⟨h1, h2⟩ := h
  have hl : (xs.take m).length = m := by rw [List.length_take]; omega
  refine ⟨by simp, ?_⟩
  rw [hl]
  rcases h2 with ⟨hv, hz⟩ | ⟨g, cap, cur, hv, hB, hg, hc, hmx, hs, ht⟩
  · cases hv
    obtain rfl : m = 0 := by omega
    exact .inl ⟨rfl, rfl⟩
  · cases hv
    refine .inr ⟨g, c, cur, rfl, hB, hg, by omega, hmx, hs, ?_⟩
    rw [List.map_take, ← ht, List.take_take, Nat.min_eq_left (by omega), Nat.mul_one]
end
theorem eq_D {xs : List Nat} (h : AllLt 65536 xs) (hl : xs.length ≤ dn (val 65536 xs)) : xs = D (val 65536 xs) := by
  obtain ⟨n, hn⟩ := trim_spec xs
  rw [trim_eq (by omega) h] at hn
  have := congrArg List.length hn
  rw [List.length_append, List.length_replicate] at this
  have h0 : n = 0 := by
    have e : (dig 65536 (val 65536 xs)).length = dn (val 65536 xs) := rfl
    omega
  subst h0
  show xs = dig 65536 (val 65536 xs)
  simpa using hn
theorem take_D {xs : List Nat} (h : AllLt 65536 xs) : xs.take (dn (val 65536 xs)) = D (val 65536 xs) := by
  obtain ⟨n, hn⟩ := trim_spec xs
  rw [trim_eq (by omega) h] at hn
  conv => lhs; arg 2; rw [hn]
  exact List.take_left' rfl
theorem dn_le_len {xs : List Nat} (h : AllLt 65536 xs) : dn (val 65536 xs) ≤ xs.length := dn_le_of_lt (val_lt h)
end Go.Proofs.YtbdngknpngcojaaDoor
