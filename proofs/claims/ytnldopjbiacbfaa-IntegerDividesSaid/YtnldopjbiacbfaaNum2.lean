/- Plain arithmetic, more: shifts, quotients by more than one digit, bits. No program in sight. No condition. -/
import Derived.Test.YtnldopjbiacbfaaNum
namespace Go.Proofs.Ytnldopjbiacbfaa.Anv

theorem or_low (i a b : Nat) (hb : b < 2 ^ i) : (a * 2 ^ i) ||| b = a * 2 ^ i + b := by
  rw [Nat.mul_comm, ← Nat.two_pow_add_eq_or_of_lt hb]
theorem low_or (i a b : Nat) (hb : b < 2 ^ i) : b ||| (a * 2 ^ i) = b + a * 2 ^ i := by
  rw [Nat.or_comm, or_low i a b hb, Nat.add_comm]

/-- One digit of a number times P: o holds what went up from below. -/
theorem shl_step (b P Q : Nat) (hb : b = P * Q) (hP : 0 < P) (x o : List Nat) (i s : Nat) (hx : x.getD i 0 < b) (hi : i + s + 1 < o.length)
    (hv : val b o = val b (x.take i) * P * b ^ s) (ho : o.getD (i + s) 0 < P) (hz : ∀ j, i + s < j → o.getD j 0 = 0) (hl : AllLt b o) :
    AllLt b ((o.set (i + s) (o.getD (i + s) 0 + x.getD i 0 * P % b)).set (i + s + 1) (x.getD i 0 * P / b)) ∧
    val b ((o.set (i + s) (o.getD (i + s) 0 + x.getD i 0 * P % b)).set (i + s + 1) (x.getD i 0 * P / b)) = val b (x.take (i + 1)) * P * b ^ s ∧
    x.getD i 0 * P / b < P ∧ x.getD i 0 * P % b = (x.getD i 0 % Q) * P ∧ o.getD (i + s) 0 + x.getD i 0 * P % b < b := by
  have e1 : x.getD i 0 * P % b = (x.getD i 0 % Q) * P := by rw [hb, Nat.mul_comm P Q]; exact Nat.mul_mod_mul_right _ _ _
  have hQ : 0 < Q := by
    rcases Nat.eq_zero_or_pos Q with h | h
    · subst h; rw [Nat.mul_zero] at hb; omega
    · exact h
  have e2 : o.getD (i + s) 0 + x.getD i 0 * P % b < b := by
    rw [e1, hb]
    have h1 := Nat.mod_lt (x.getD i 0) hQ
    have h2 : (x.getD i 0 % Q + 1) * P ≤ Q * P := Nat.mul_le_mul_right P h1
    rw [Nat.succ_mul] at h2
    rw [Nat.mul_comm P Q]
    omega
  have e3 : x.getD i 0 * P / b < P := by
    refine (Nat.div_lt_iff_lt_mul (by omega)).2 ?_
    rw [Nat.mul_comm P b]
    exact Nat.mul_lt_mul_of_pos_right hx hP
  have hPb : P ≤ b := by rw [hb]; exact Nat.le_mul_of_pos_right P hQ
  have h1 := val_set b o (i + s) (o.getD (i + s) 0 + x.getD i 0 * P % b) (by omega)
  have h2 := val_set_zero b (o.set (i + s) (o.getD (i + s) 0 + x.getD i 0 * P % b)) (i + s + 1) (x.getD i 0 * P / b) (by simp; omega) (by rw [dset_ne (by omega)]; exact hz _ (by omega))
  refine ⟨(hl.set _ e2).set _ (by omega), ?_, e3, e1, e2⟩
  rw [h2, val_take_step, Nat.add_mul, Nat.add_mul, ← hv]
  have h3 := Nat.mod_add_div (x.getD i 0 * P) b
  have h4 : b ^ (i + s + 1) * (x.getD i 0 * P / b) = b ^ (i + s) * (b * (x.getD i 0 * P / b)) := by rw [Nat.pow_succ, Nat.mul_assoc]
  have h5 : b ^ i * x.getD i 0 * P * b ^ s = b ^ (i + s) * (x.getD i 0 * P) := by rw [Nat.pow_add]; ac_rfl
  rw [h4, h5]
  generalize x.getD i 0 * P = y at *
  generalize o.getD (i + s) 0 = z at *
  have h6 : b ^ (i + s) * y = b ^ (i + s) * (y % b) + b ^ (i + s) * (b * (y / b)) := by rw [← Nat.mul_add, h3]
  rw [Nat.mul_add] at h1
  omega

/-- One digit of a number divided by P. -/
theorem shr_step (b P Q : Nat) (hb : b = P * Q) (hP : 0 < P) (hb0 : 0 < b) (x : List Nat) (i : Nat) (hx : x.getD i 0 < b) :
    val b (x.drop i) / P = (x.getD i 0 + b * x.getD (i + 1) 0) / P % b + b * (val b (x.drop (i + 1)) / P) := by
  have d1 := drop_val b x i
  have d2 := drop_val b x (i + 1)
  have e1 : val b (x.drop i) / P % b = (x.getD i 0 + b * x.getD (i + 1) 0) / P % b := by
    rw [d1, d2, Nat.mul_add, ← Nat.add_assoc]
    have e : b * (b * val b (x.drop (i + 1 + 1))) = P * (b * (Q * val b (x.drop (i + 1 + 1)))) := by
      conv => lhs; arg 1; rw [hb]
      simp [Nat.mul_assoc, Nat.mul_left_comm]
    rw [e, Nat.add_mul_div_left _ _ hP, Nat.add_mul_mod_self_left]
  have e2 : val b (x.drop i) / P / b = val b (x.drop (i + 1)) / P := by
    rw [Nat.div_div_eq_div_mul, Nat.mul_comm, ← Nat.div_div_eq_div_mul, d1, Nat.add_mul_div_left _ _ hb0, Nat.div_eq_of_lt hx, Nat.zero_add]
  have h1 := Nat.mod_add_div (val b (x.drop i) / P) b
  rw [e1, e2] at h1
  exact h1.symm

/-- So far shifted down. -/
theorem shr_next (b P Q : Nat) (hb : b = P * Q) (hP : 0 < P) (hb0 : 0 < b) (x o : List Nat) (i T : Nat) (hi : i < o.length) (hx : x.getD i 0 < b)
    (h : val b (o.take i) + b ^ i * (val b (x.drop i) / P) = T) :
    val b ((o.set i ((x.getD i 0 + b * x.getD (i + 1) 0) / P % b)).take (i + 1)) + b ^ (i + 1) * (val b (x.drop (i + 1)) / P) = T := by
  rw [val_set_take b o i _ hi, Nat.pow_succ, Nat.mul_assoc, Nat.add_assoc, ← Nat.mul_add, ← shr_step b P Q hb hP hb0 x i hx]
  exact h

theorem split2 (b m : Nat) (xs : List Nat) (h : xs.length = m + 2) : val b xs = val b (xs.take m) + b ^ m * (xs.getD m 0 + b * xs.getD (m + 1) 0) := by
  have h1 := val_take_succ b xs (m + 1) (by omega)
  rw [List.take_of_length_le (by omega), val_take_succ b xs m (by omega), Nat.pow_succ] at h1
  rw [h1, Nat.mul_add, Nat.mul_assoc]
  omega
theorem split3 (b m : Nat) (xs : List Nat) (h : xs.length = m + 3) : val b xs = val b (xs.take m) + b ^ m * (xs.getD m 0 + b * (xs.getD (m + 2) 0 * b + xs.getD (m + 1) 0)) := by
  have h1 := val_take_succ b xs (m + 2) (by omega)
  rw [List.take_of_length_le (by omega), val_take_succ b xs (m + 1) (by omega), val_take_succ b xs m (by omega), Nat.pow_succ b (m + 1), Nat.pow_succ b m] at h1
  rw [h1, Nat.mul_add, Nat.mul_add, Nat.mul_add, Nat.mul_comm (xs.getD (m + 2) 0) b]
  simp only [← Nat.mul_assoc]
  omega

/-- How a window stands to what divides: the first guess, and what each test says. -/
structure Guess (b V W H v1 v2 u2 : Nat) : Prop where
  pos : 0 < V
  low : W < b * V
  first : W / V ≤ H / v1
  mend : ∀ g r, g * v1 + r = H → r * b + u2 < g * v2 → W / V + 1 ≤ g
  digit : ∀ g r, g * v1 + r = H → b ≤ r → g < b
  stop : ∀ g r, g * v1 + r = H → W / V ≤ g → g < b → g * v2 ≤ r * b + u2 → g = W / V ∨ g = W / V + 1

theorem guess_of (b m : Nat) (hb : 2 ≤ b) (win vs : List Nat) (hw : win.length = m + 3) (hv : vs.length = m + 2) (hwl : AllLt b win) (hvl : AllLt b vs) (hv1 : 0 < vs.getD (m + 1) 0) (hlow : val b win < b * val b vs) :
    Guess b (val b vs) (val b win) (win.getD (m + 2) 0 * b + win.getD (m + 1) 0) (vs.getD (m + 1) 0) (vs.getD m 0) (win.getD m 0) := by
  have e1 := split2 b m vs hv
  have e2 := split3 b m win hw
  have l1 := val_lt (hvl.take m)
  rw [List.length_take, Nat.min_eq_left (by omega)] at l1
  have l2 := val_lt (hwl.take m)
  rw [List.length_take, Nat.min_eq_left (by omega)] at l2
  have a2 := hwl.get (by omega) m
  have a1 := hwl.get (by omega) (m + 1)
  have c2 := hvl.get (by omega) m
  have hP : 0 < b ^ m := Nat.pow_pos (by omega)
  generalize vs.getD (m + 1) 0 = v1 at *
  generalize vs.getD m 0 = v2 at *
  generalize win.getD m 0 = u2 at *
  generalize win.getD (m + 1) 0 = u1 at *
  generalize win.getD (m + 2) 0 = un at *
  generalize val b (vs.take m) = Vl at *
  generalize val b (win.take m) = Ul at *
  generalize b ^ m = P at *
  have hV0 : 0 < val b vs := by
    rw [e1]
    have := Nat.mul_pos hP (show 0 < v2 + b * v1 from by have := Nat.mul_pos (show 0 < b by omega) hv1; omega)
    omega
  have hq : val b win / val b vs * (Vl + P * (v2 + b * v1)) ≤ Ul + P * (u2 + b * (un * b + u1)) := by
    rw [← e1, ← e2]; exact Nat.div_mul_le_self _ _
  have hun : un ≤ v1 := by
    rcases Nat.lt_or_ge v1 un with h | h
    · exfalso
      rw [e1, e2] at hlow
      have h1 : v2 + b * v1 + 1 ≤ b * (v1 + 1) := by rw [Nat.mul_succ]; omega
      have h2 : Vl + P * (v2 + b * v1) < P * (b * (v1 + 1)) := by
        have := Nat.mul_le_mul_left P h1
        rw [Nat.mul_succ P] at this
        omega
      have h3 : b * (P * (b * (v1 + 1))) ≤ b * (P * (b * un)) := Nat.mul_le_mul_left b (Nat.mul_le_mul_left P (Nat.mul_le_mul_left b h))
      have h4 : b * (P * (b * un)) = P * (b * (un * b)) := by simp [Nat.mul_comm, Nat.mul_left_comm]
      have h5 : P * (b * (un * b)) ≤ P * (u2 + b * (un * b + u1)) := Nat.mul_le_mul_left P (by rw [Nat.mul_add]; omega)
      have h6 : b * (Vl + P * (v2 + b * v1)) < b * (P * (b * (v1 + 1))) := Nat.mul_lt_mul_of_pos_left h2 (by omega)
      omega
    · exact h
  have hbP : b * P ≤ Vl + P * (v2 + b * v1) := by
    have h1 : P * (b * 1) ≤ P * (b * v1) := Nat.mul_le_mul_left P (Nat.mul_le_mul_left b hv1)
    rw [Nat.mul_one, Nat.mul_comm P b] at h1
    rw [Nat.mul_add]; omega
  refine ⟨hV0, hlow, guess_ge b P v1 v2 Vl u2 _ Ul _ hv1 a2 l2 hq, fun g r hr ht => guess_mend b P v1 v2 Vl u2 _ Ul _ g r l2 hr hq ht, fun g r hr hrb => guess_digit b v1 un u1 g r hr hun a1 hrb, fun g r hr h1 h2 h3 => ?_⟩
  refine quot_of (val b win) (val b vs) g hV0 h1 ?_
  rw [e1, e2]
  exact guess_end b P v1 v2 Vl u2 _ Ul g r hbP l1 h2 hr h3

theorem mend_big {b V W g : Nat} (h0 : 0 < V) (h : W < b * V) (hg : b ≤ g) : W / V + 1 ≤ g := by
  have := (Nat.div_lt_iff_lt_mul h0).2 h
  omega

theorem less_no {V W g x : Nat} (h : g = W / V ∨ g = W / V + 1) (h0 : 0 < V) (hx : x + g * V = W) : g = W / V ∧ x = W % V := by
  have h1 := Nat.mod_add_div W V
  have h2 := Nat.mod_lt W h0
  rw [Nat.mul_comm] at h1
  rcases h with h | h
  · subst h
    exact ⟨rfl, by omega⟩
  · subst h
    rw [Nat.succ_mul] at hx
    omega

theorem less_back {V W g x o c B : Nat} (h : g = W / V ∨ g = W / V + 1) (h0 : 0 < V) (hlt : W < g * V) (hx : x + g * V = W + B) (ho : o + B * c = x + V) (hoB : o < B) (hc : c ≤ 1) : g - 1 = W / V ∧ o = W % V := by
  have h1 := Nat.mod_add_div W V
  have h2 := Nat.mod_lt W h0
  rw [Nat.mul_comm] at h1
  rcases h with h | h
  · subst h; omega
  · subst h
    rw [Nat.succ_mul] at hx hlt
    refine ⟨rfl, ?_⟩
    rcases Nat.eq_zero_or_pos c with hc0 | hc0
    · subst hc0; omega
    · obtain rfl : c = 1 := by omega
      omega

theorem quo_win {b V n k : Nat} {pre win post : List Nat} (hb : 2 ≤ b) (hpre : pre.length = k) (hwin : win.length = n + 1) (hwl : AllLt b win) (hV : V < b ^ n)
    (hlt : val b ((pre ++ win ++ post).drop (k + 1)) < V) : val b post = 0 ∧ val b win < b * V := by
  have e1 : (pre ++ win ++ post).drop (k + 1) = win.drop 1 ++ post := by
    rw [List.append_assoc, ← hpre, List.drop_append, List.drop_eq_nil_of_le (by omega), List.nil_append, show pre.length + 1 - pre.length = 1 by omega]
    rw [List.drop_append_of_le_length (by omega)]
  rw [e1, val_append, List.length_drop, hwin, Nat.add_sub_cancel] at hlt
  have hp : val b post = 0 := by
    rcases Nat.eq_zero_or_pos (val b post) with h | h
    · exact h
    · have := Nat.mul_le_mul_left (b ^ n) h
      omega
  refine ⟨hp, ?_⟩
  rw [hp, Nat.mul_zero, Nat.add_zero] at hlt
  have h1 := drop_val b win 0
  rw [List.drop_zero] at h1
  have h2 := hwl.get (by omega) 0
  have h3 := Nat.mul_le_mul_left b (show val b (win.drop (0 + 1)) + 1 ≤ V from hlt)
  rw [Nat.mul_succ] at h3
  omega

theorem quo_step {b V k U : Nat} {pre win win' post qs : List Nat} (hpre : pre.length = k) (hV0 : 0 < V) (hp : val b post = 0) (hq : k < qs.length)
    (hU : val b (pre ++ win ++ post) + V * b ^ (k + 1) * val b (qs.drop (k + 1)) = U) (hw' : val b win' = val b win % V) :
    val b ((pre ++ win' ++ post).drop k) < V ∧ val b (pre ++ win' ++ post) + V * b ^ k * val b ((qs.set k (val b win / V)).drop k) = U := by
  have e1 : (pre ++ win' ++ post).drop k = win' ++ post := by
    rw [List.append_assoc, ← hpre]; simp
  have h2 := Nat.mod_lt (val b win) hV0
  refine ⟨by rw [e1, val_append, hp, hw']; omega, ?_⟩
  rw [drop_val b (qs.set k _) k, drop_set_eq, dset_eq hq]
  rw [val_append, val_append, hp, Nat.mul_zero, Nat.add_zero, hpre, hw']
  rw [val_append, val_append, hp, Nat.mul_zero, Nat.add_zero, hpre] at hU
  have h1 := Nat.mod_add_div (val b win) V
  generalize val b win / V = q at *
  generalize val b win % V = r at *
  rw [← hU, ← h1, Nat.pow_succ, Nat.mul_add (b ^ k) r, Nat.mul_add (V * b ^ k)]
  have e2 : V * b ^ k * q = b ^ k * (V * q) := by ac_rfl
  have e3 : V * b ^ k * (b * val b (qs.drop (k + 1))) = V * (b ^ k * b) * val b (qs.drop (k + 1)) := by ac_rfl
  omega

theorem dm_unique {a b q r : Nat} (h : r + b * q = a) (hr : r < b) : a / b = q ∧ a % b = r := by
  subst h
  exact ⟨by rw [Nat.add_mul_div_left _ _ (by omega), Nat.div_eq_of_lt hr, Nat.zero_add], by rw [Nat.add_mul_mod_self_left, Nat.mod_eq_of_lt hr]⟩

theorem ldiv_yes {T M t : Nat} (h0 : 0 < M) (ht : t ≤ 1) (h : M ≤ 2 * (T % M) + t) : (2 * T + t) / M = 2 * (T / M) + 1 ∧ (2 * T + t) % M = 2 * (T % M) + t - M := by
  have h1 := Nat.mod_add_div T M
  have h2 := Nat.mod_lt T h0
  refine dm_unique ?_ (by omega)
  rw [Nat.mul_add, Nat.mul_left_comm, Nat.mul_one]
  omega
theorem ldiv_no {T M t : Nat} (h : ¬ M ≤ 2 * (T % M) + t) : (2 * T + t) / M = 2 * (T / M) ∧ (2 * T + t) % M = 2 * (T % M) + t := by
  have h1 := Nat.mod_add_div T M
  refine dm_unique ?_ (by omega)
  rw [Nat.mul_left_comm]
  omega

theorem get_val {b : Nat} (hb : 0 < b) : ∀ {xs : List Nat} (_ : AllLt b xs) (i : Nat), xs.getD i 0 = val b xs / b ^ i % b
  | [], _, i => by simp
  | x :: xs, h, 0 => by
    have h1 := h.head
    simp [Nat.mod_eq_of_lt h1]
  | x :: xs, h, i + 1 => by
    have ih := get_val hb h.tail i
    have h1 := h.head
    rw [val_cons, Nat.pow_succ, Nat.mul_comm (b ^ i) b, ← Nat.div_div_eq_div_mul, Nat.add_mul_div_left _ _ hb, Nat.div_eq_of_lt h1, Nat.zero_add, ← ih]
    simp [List.getD]

theorem low_bit (m r : Nat) (hr : r < 16) : m % 65536 / 2 ^ r % 2 = m / 2 ^ r % 2 := by
  have : r = 0 ∨ r = 1 ∨ r = 2 ∨ r = 3 ∨ r = 4 ∨ r = 5 ∨ r = 6 ∨ r = 7 ∨ r = 8 ∨ r = 9 ∨ r = 10 ∨ r = 11 ∨ r = 12 ∨ r = 13 ∨ r = 14 ∨ r = 15 := by omega
  rcases this with rfl | rfl | rfl | rfl | rfl | rfl | rfl | rfl | rfl | rfl | rfl | rfl | rfl | rfl | rfl | rfl
  all_goals (simp only [Nat.reducePow]; omega)

theorem pow16 (k : Nat) : 65536 ^ (k / 16) * 2 ^ (k % 16) = 2 ^ k := by
  rw [show (65536 : Nat) = 2 ^ 16 from rfl, ← Nat.pow_mul, ← Nat.pow_add]
  congr 1
  omega

/-- A bit of a list of digits of 16 bits. -/
theorem bit16 {xs : List Nat} (h : AllLt 65536 xs) (k : Nat) : xs.getD (k / 16) 0 / 2 ^ (k % 16) % 2 = val 65536 xs / 2 ^ k % 2 := by
  rw [get_val (by omega) h, low_bit _ _ (Nat.mod_lt _ (by omega)), Nat.div_div_eq_div_mul, pow16]

/-- A bit is set that was not. -/
theorem set16 {xs : List Nat} (h : AllLt 65536 xs) (k : Nat) (hk : k / 16 < xs.length) (Q : Nat) (hv : val 65536 xs = Q * 2 ^ (k + 1)) :
    xs.getD (k / 16) 0 ||| 2 ^ (k % 16) = xs.getD (k / 16) 0 + 2 ^ (k % 16) ∧ xs.getD (k / 16) 0 + 2 ^ (k % 16) < 65536 ∧ val 65536 (xs.set (k / 16) (xs.getD (k / 16) 0 + 2 ^ (k % 16))) = (2 * Q + 1) * 2 ^ k := by
  have e1 := get_val (by omega) h (k / 16)
  have e2 : val 65536 xs / 65536 ^ (k / 16) = Q * 2 ^ (k % 16 + 1) := by
    rw [hv, show 2 ^ (k + 1) = 65536 ^ (k / 16) * 2 ^ (k % 16 + 1) by rw [Nat.pow_succ, Nat.pow_succ, ← Nat.mul_assoc, pow16], Nat.mul_left_comm, Nat.mul_div_cancel_left _ (Nat.pow_pos (by omega))]
  rw [e2] at e1
  have hr : k % 16 < 16 := Nat.mod_lt _ (by omega)
  obtain ⟨z, hz⟩ : ∃ z, xs.getD (k / 16) 0 = z * 2 ^ (k % 16 + 1) := by
    refine ⟨Q % 2 ^ (15 - k % 16), ?_⟩
    rw [e1, show (65536 : Nat) = 2 ^ (15 - k % 16) * 2 ^ (k % 16 + 1) by rw [← Nat.pow_add, show 15 - k % 16 + (k % 16 + 1) = 16 by omega], Nat.mul_mod_mul_right]
  have e3 : xs.getD (k / 16) 0 ||| 2 ^ (k % 16) = xs.getD (k / 16) 0 + 2 ^ (k % 16) := by
    rw [hz]
    exact or_low _ _ _ (Nat.pow_lt_pow_right (by omega) (by omega))
  have h1 := h.get (by omega) (k / 16)
  have e4 : xs.getD (k / 16) 0 ||| 2 ^ (k % 16) < 2 ^ 16 := Nat.or_lt_two_pow (by omega) (Nat.pow_lt_pow_right (by omega) hr)
  refine ⟨e3, by rw [e3] at e4; omega, ?_⟩
  have e5 := val_set 65536 xs (k / 16) (xs.getD (k / 16) 0 + 2 ^ (k % 16)) hk
  rw [Nat.mul_add, pow16] at e5
  rw [show (2 * Q + 1) * 2 ^ k = Q * 2 ^ (k + 1) + 2 ^ k by rw [Nat.succ_mul, Nat.pow_succ, Nat.mul_comm (2 ^ k) 2, Nat.mul_left_comm, Nat.mul_assoc], ← hv]
  omega

end Go.Proofs.Ytnldopjbiacbfaa.Anv
