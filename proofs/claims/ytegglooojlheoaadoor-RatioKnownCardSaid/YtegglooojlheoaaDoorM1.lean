/- Plain arithmetic on lists of digits: no program in sight. No condition. -/

namespace Go.Proofs.YtegglooojlheoaaDoor.Anv
def val (b : Nat) : List Nat → Nat
  | [] => 0
  | x :: xs => x + b * val b xs
def AllLt (b : Nat) (xs : List Nat) : Prop := ∀ x ∈ xs, x < b
def dig (b n : Nat) : List Nat := if _h : n = 0 ∨ b < 2 then [] else (n % b) :: dig b (n / b)
termination_by n
decreasing_by exact Nat.div_lt_self (by omega) (by omega)
def trim (xs : List Nat) : List Nat := (xs.reverse.dropWhile (· == 0)).reverse
@[simp] theorem val_nil (b : Nat) : val b [] = 0 := rfl
@[simp] theorem val_cons (b x : Nat) (xs : List Nat) : val b (x :: xs) = x + b * val b xs := rfl
theorem val_append (b : Nat) (xs ys : List Nat) : val b (xs ++ ys) = val b xs + b ^ xs.length * val b ys := by
  induction xs with
  | nil => simp
  | cons x xs ih =>
    rw [List.cons_append, val_cons, ih, val_cons, List.length_cons, Nat.pow_succ, Nat.mul_add, Nat.add_assoc, ← Nat.mul_assoc, Nat.mul_comm (b ^ xs.length) b]
theorem val_zeros (b n : Nat) : val b (List.replicate n 0) = 0 := by
  induction n with
  | zero => rfl
  | succ n ih => simp [List.replicate_succ, ih]
theorem AllLt.nil (b : Nat) : AllLt b [] := fun _ h => by cases h
theorem AllLt.cons {b x : Nat} {xs : List Nat} (h : x < b) (hs : AllLt b xs) : AllLt b (x :: xs) := by
  intro y hy
  cases hy with
  | head => exact h
  | tail _ hy => exact hs y hy
theorem AllLt.head {b x : Nat} {xs : List Nat} (h : AllLt b (x :: xs)) : x < b := h x (by simp)
theorem AllLt.tail {b x : Nat} {xs : List Nat} (h : AllLt b (x :: xs)) : AllLt b xs := fun y hy => h y (by simp [hy])
theorem AllLt.append {b : Nat} {xs ys : List Nat} (h : AllLt b xs) (k : AllLt b ys) : AllLt b (xs ++ ys) := by
  intro y hy
  rcases List.mem_append.1 hy with hy | hy
  · exact h y hy
  · exact k y hy
theorem AllLt.take {b : Nat} {xs : List Nat} (h : AllLt b xs) (n : Nat) : AllLt b (xs.take n) := fun y hy => h y (List.mem_of_mem_take hy)
theorem AllLt.drop {b : Nat} {xs : List Nat} (h : AllLt b xs) (n : Nat) : AllLt b (xs.drop n) := fun y hy => h y (List.mem_of_mem_drop hy)
theorem AllLt.zeros {b : Nat} (hb : 0 < b) (n : Nat) : AllLt b (List.replicate n 0) := fun y hy => by
  rw [List.mem_replicate] at hy; omega
theorem AllLt.get {b : Nat} {xs : List Nat} (h : AllLt b xs) (hb : 0 < b) (i : Nat) : xs.getD i 0 < b := by
  rcases Nat.lt_or_ge i xs.length with hi | hi
  · have : xs.getD i 0 = xs[i] := by simp [List.getD, hi]
    rw [this]; exact h _ (List.getElem_mem hi)
  · have : xs.getD i 0 = 0 := by simp [List.getD, hi]
    omega
theorem AllLt.set {b : Nat} {xs : List Nat} (h : AllLt b xs) (i : Nat) {v : Nat} (hv : v < b) : AllLt b (xs.set i v) := by
  intro y hy
  rcases List.mem_or_eq_of_mem_set hy with hy | hy
  · exact h y hy
  · omega
theorem val_lt {b : Nat} : ∀ {xs : List Nat}, AllLt b xs → val b xs < b ^ xs.length
  | [], _ => by simp
  | x :: xs, h => by
    have h1 := h.head
    have h2 := val_lt h.tail
    rw [List.length_cons, Nat.pow_succ, val_cons]
    have h3 : b * val b xs + b ≤ b * b ^ xs.length := by
      rw [← Nat.mul_succ]; exact Nat.mul_le_mul_left b h2
    rw [Nat.mul_comm (b ^ xs.length) b]
    omega
theorem dig_zero (b : Nat) : dig b 0 = [] := by rw [dig]; simp
theorem dig_pos {b n : Nat} (hb : 2 ≤ b) (hn : 0 < n) : dig b n = (n % b) :: dig b (n / b) := by
  rw [dig, dif_neg (by omega)]
theorem val_dig {b : Nat} (hb : 2 ≤ b) (n : Nat) : val b (dig b n) = n := by
  induction n using Nat.strongRecOn with
  | _ n ih =>
    rcases Nat.eq_zero_or_pos n with h | h
    · subst h; rw [dig_zero]; rfl
    · rw [dig_pos hb h, val_cons, ih (n / b) (Nat.div_lt_self h (by omega))]
      exact Nat.mod_add_div n b
theorem dig_lt {b : Nat} (hb : 2 ≤ b) (n : Nat) : AllLt b (dig b n) := by
  induction n using Nat.strongRecOn with
  | _ n ih =>
    rcases Nat.eq_zero_or_pos n with h | h
    · subst h; rw [dig_zero]; exact AllLt.nil b
    · rw [dig_pos hb h]
      exact AllLt.cons (Nat.mod_lt _ (by omega)) (ih (n / b) (Nat.div_lt_self h (by omega)))
def Norm (xs : List Nat) : Prop := xs.getLast? ≠ some 0
theorem dig_norm {b : Nat} (hb : 2 ≤ b) (n : Nat) : Norm (dig b n) := by
  induction n using Nat.strongRecOn with
  | _ n ih =>
    rcases Nat.eq_zero_or_pos n with h | h
    · subst h; rw [dig_zero]; simp [Norm]
    · rw [dig_pos hb h]
      have ih' := ih (n / b) (Nat.div_lt_self h (by omega))
      unfold Norm at ih' ⊢
      rcases hd : dig b (n / b) with _ | ⟨y, ys⟩
      · have hv := val_dig hb (n / b)
        rw [hd] at hv
        have h0 : n / b = 0 := hv.symm
        have h1 : n % b = n := by
          have h2 := Nat.mod_add_div n b
          rw [h0] at h2; simpa using h2
        simp [h1]; omega
      · rw [hd] at ih'
        rw [List.getLast?_cons_cons]; exact ih'
theorem Norm.tail {x y : Nat} {xs : List Nat} (h : Norm (x :: y :: xs)) : Norm (y :: xs) := by
  unfold Norm at h ⊢; rwa [List.getLast?_cons_cons] at h
theorem dig_val {b : Nat} (hb : 2 ≤ b) : ∀ {xs : List Nat}, AllLt b xs → Norm xs → dig b (val b xs) = xs
  | [], _, _ => by simp [dig_zero]
  | [x], h, k => by
    have h1 := h.head
    have h2 : x ≠ 0 := by unfold Norm at k; simpa using k
    have h3 : val b [x] = x := by simp
    rw [h3, dig_pos hb (by omega), Nat.mod_eq_of_lt h1, Nat.div_eq_of_lt h1, dig_zero]
  | x :: y :: xs, h, k => by
    have h1 := h.head
    have ih := dig_val hb h.tail k.tail
    have hpos : 0 < val b (y :: xs) := by
      rcases Nat.eq_zero_or_pos (val b (y :: xs)) with h0 | h0
      · rw [h0, dig_zero] at ih; cases ih
      · exact h0
    have hv : val b (x :: y :: xs) = x + b * val b (y :: xs) := rfl
    have hm : 0 < b * val b (y :: xs) := Nat.mul_pos (by omega) hpos
    rw [hv, dig_pos hb (by omega), Nat.add_mul_mod_self_left, Nat.mod_eq_of_lt h1, Nat.add_mul_div_left _ _ (by omega), Nat.div_eq_of_lt h1, Nat.zero_add, ih]
theorem dropWhile_zero_spec (l : List Nat) : ∃ n, l = List.replicate n 0 ++ l.dropWhile (· == 0) := by
  induction l with
  | nil => exact ⟨0, rfl⟩
  | cons x xs ih =>
    obtain ⟨n, hn⟩ := ih
    by_cases h : x = 0
    · subst h
      refine ⟨n + 1, ?_⟩
      rw [List.dropWhile_cons_of_pos (by simp), List.replicate_succ, List.cons_append, ← hn]
    · exact ⟨0, by rw [List.dropWhile_cons_of_neg (by simpa using h)]; rfl⟩
theorem trim_spec (xs : List Nat) : ∃ n, xs = trim xs ++ List.replicate n 0 := by
  obtain ⟨n, hn⟩ := dropWhile_zero_spec xs.reverse
  refine ⟨n, ?_⟩
  have h := congrArg List.reverse hn
  rw [List.reverse_reverse, List.reverse_append, List.reverse_replicate] at h
  exact h
theorem trim_norm (xs : List Nat) : Norm (trim xs) := by
  unfold Norm trim
  rw [List.getLast?_reverse]
  intro h
  have h2 := List.head?_dropWhile_not (p := fun x : Nat => x == 0) xs.reverse
  rw [h] at h2
  simp at h2
theorem val_trim (b : Nat) (xs : List Nat) : val b (trim xs) = val b xs := by
  obtain ⟨n, hn⟩ := trim_spec xs
  conv => rhs; rw [hn]
  rw [val_append, val_zeros]; simp
theorem trim_lt {b : Nat} {xs : List Nat} (h : AllLt b xs) : AllLt b (trim xs) := by
  obtain ⟨n, hn⟩ := trim_spec xs
  intro x hx
  exact h x (by rw [hn]; simp [hx])
theorem trim_eq {b : Nat} (hb : 2 ≤ b) {xs : List Nat} (h : AllLt b xs) : trim xs = dig b (val b xs) := by
  rw [← val_trim, dig_val hb (trim_lt h) (trim_norm xs)]
theorem take_eq_dig {b : Nat} (hb : 2 ≤ b) {xs : List Nat} (h : AllLt b xs) (n : Nat) (hn : n ≤ xs.length)
    (hz : ∀ i, n ≤ i → i < xs.length → xs.getD i 0 = 0) (hl : n = 0 ∨ xs.getD (n - 1) 0 ≠ 0) : xs.take n = dig b (val b xs) := by
  have hd : xs.drop n = List.replicate (xs.length - n) 0 := by
    apply List.ext_getElem
    · simp
    · intro i h1 h2
      have hi : i < xs.length - n := by simpa using h2
      have := hz (n + i) (by omega) (by omega)
      simp [List.getD, show n + i < xs.length by omega] at this
      simp [this]
  have hv : val b xs = val b (xs.take n) := by
    conv => lhs; rw [← List.take_append_drop n xs]
    rw [val_append, hd, val_zeros]; simp
  rw [hv, dig_val hb (h.take n)]
  unfold Norm
  rcases hl with hl | hl
  · subst hl; simp
  · rcases Nat.eq_zero_or_pos n with h0 | h0
    · subst h0; simp
    · rw [List.getLast?_eq_getElem?]
      have e1 : (xs.take n).length - 1 = n - 1 := by simp; omega
      rw [e1, List.getElem?_take, if_pos (by omega)]
      intro h3
      exact hl (by simp [List.getD, h3])
theorem val_take_succ (b : Nat) (xs : List Nat) (i : Nat) (h : i < xs.length) : val b (xs.take (i + 1)) = val b (xs.take i) + b ^ i * xs.getD i 0 := by
  rw [List.take_succ_eq_append_getElem h, val_append]
  have : (List.take i xs).length = i := by simp; omega
  rw [this]
  simp [List.getD, h]
theorem val_take_past (b : Nat) (xs : List Nat) (i : Nat) (h : xs.length ≤ i) : val b (xs.take i) = val b xs := by
  rw [List.take_of_length_le h]
theorem val_take_step (b : Nat) (xs : List Nat) (i : Nat) : val b (xs.take (i + 1)) = val b (xs.take i) + b ^ i * xs.getD i 0 := by
  rcases Nat.lt_or_ge i xs.length with h | h
  · exact val_take_succ b xs i h
  · rw [val_take_past b xs i h, val_take_past b xs (i + 1) (by omega)]
    have : xs.getD i 0 = 0 := by simp [List.getD, h]
    rw [this]; simp
theorem take_set_eq (xs : List Nat) (i v : Nat) : (xs.set i v).take i = xs.take i := by
  rw [List.take_set_of_le (Nat.le_refl i)]
theorem val_set_take (b : Nat) (xs : List Nat) (i v : Nat) (h : i < xs.length) : val b ((xs.set i v).take (i + 1)) = val b (xs.take i) + b ^ i * v := by
  rw [val_take_step, take_set_eq]
  congr 2
  simp [List.getD, h]
theorem getD_lt {xs : List Nat} {i : Nat} (h : i < xs.length) : xs.getD i 0 = xs[i] := by simp [List.getD, h]
theorem getD_ge {xs : List Nat} {i : Nat} (h : xs.length ≤ i) : xs.getD i 0 = 0 := by simp [List.getD, h]
theorem val_set (b : Nat) : ∀ (xs : List Nat) (i v : Nat), i < xs.length → val b (xs.set i v) + b ^ i * xs.getD i 0 = val b xs + b ^ i * v
  | [], _, _, h => by simp at h
  | x :: xs, 0, v, _ => by simp [List.getD]; omega
  | x :: xs, i + 1, v, h => by
    have ih := val_set b xs i v (by simpa using h)
    have e1 : (x :: xs).getD (i + 1) 0 = xs.getD i 0 := by simp [List.getD]
    rw [List.set_cons_succ, val_cons, val_cons, e1, Nat.pow_succ]
    have e2 : b * (val b (xs.set i v) + b ^ i * xs.getD i 0) = b * (val b xs + b ^ i * v) := by rw [ih]
    rw [Nat.mul_add, Nat.mul_add] at e2
    rw [Nat.mul_comm (b ^ i) b, Nat.mul_assoc, Nat.mul_assoc]
    omega
theorem val_set_zero (b : Nat) (xs : List Nat) (i v : Nat) (h : i < xs.length) (h0 : xs.getD i 0 = 0) : val b (xs.set i v) = val b xs + b ^ i * v := by
  have := val_set b xs i v h
  rw [h0] at this; simpa using this
theorem add_step (b : Nat) (x y o : List Nat) (i c : Nat) (hi : i < o.length)
    (h : val b (o.take i) + b ^ i * c = val b (x.take i) + val b (y.take i)) :
    val b ((o.set i ((c + x.getD i 0 + y.getD i 0) % b)).take (i + 1)) + b ^ (i + 1) * ((c + x.getD i 0 + y.getD i 0) / b) = val b (x.take (i + 1)) + val b (y.take (i + 1)) := by
  rw [val_set_take b o i _ hi, val_take_step b x i, val_take_step b y i, Nat.pow_succ]
  generalize hs : c + x.getD i 0 + y.getD i 0 = s
  have h1 : b ^ i * (s % b) + b ^ i * b * (s / b) = b ^ i * s := by
    rw [Nat.mul_assoc, ← Nat.mul_add, Nat.mod_add_div]
  have h2 : b ^ i * s = b ^ i * c + b ^ i * x.getD i 0 + b ^ i * y.getD i 0 := by rw [← hs, Nat.mul_add, Nat.mul_add]
  omega
theorem sub_step (b : Nat) (x y o : List Nat) (i r d r' : Nat) (hi : i < o.length)
    (h : val b (o.take i) + val b (y.take i) = val b (x.take i) + b ^ i * r)
    (hd : d + y.getD i 0 + r = x.getD i 0 + b * r') :
    val b ((o.set i d).take (i + 1)) + val b (y.take (i + 1)) = val b (x.take (i + 1)) + b ^ (i + 1) * r' := by
  rw [val_set_take b o i _ hi, val_take_step b x i, val_take_step b y i, Nat.pow_succ]
  have h2 : b ^ i * (d + y.getD i 0 + r) = b ^ i * (x.getD i 0 + b * r') := by rw [hd]
  rw [Nat.mul_add, Nat.mul_add, Nat.mul_add, ← Nat.mul_assoc] at h2
  omega
theorem mul_step (b : Nat) (y o : List Nat) (i k c x T : Nat) (hik : i + k < o.length)
    (h : val b o + b ^ (i + k) * c = T + b ^ i * (x * val b (y.take k))) :
    val b (o.set (i + k) ((c + x * y.getD k 0 + o.getD (i + k) 0) % b)) + b ^ (i + (k + 1)) * ((c + x * y.getD k 0 + o.getD (i + k) 0) / b) = T + b ^ i * (x * val b (y.take (k + 1))) := by
  have hs := val_set b o (i + k) ((c + x * y.getD k 0 + o.getD (i + k) 0) % b) hik
  generalize hS : c + x * y.getD k 0 + o.getD (i + k) 0 = S at *
  rw [val_take_step b y k]
  have e1 : b ^ (i + (k + 1)) * (S / b) = b ^ (i + k) * (b * (S / b)) := by rw [← Nat.add_assoc, Nat.pow_succ, Nat.mul_assoc]
  have e2 : b ^ (i + k) * (S % b) + b ^ (i + k) * (b * (S / b)) = b ^ (i + k) * S := by rw [← Nat.mul_add, Nat.mod_add_div]
  have e3 : b ^ (i + k) * S = b ^ (i + k) * c + b ^ (i + k) * (x * y.getD k 0) + b ^ (i + k) * o.getD (i + k) 0 := by rw [← hS, Nat.mul_add, Nat.mul_add]
  have e4 : b ^ i * (x * (val b (y.take k) + b ^ k * y.getD k 0)) = b ^ i * (x * val b (y.take k)) + b ^ (i + k) * (x * y.getD k 0) := by
    rw [Nat.mul_add, Nat.mul_add, Nat.pow_add]
    congr 1
    simp [Nat.mul_assoc, Nat.mul_left_comm]
  rw [e1, e4]
  omega
theorem mul_carry (b c x y o : Nat) (_hb : 2 ≤ b) (hc : c < b) (hx : x < b) (hy : y < b) (ho : o < b) : (c + x * y + o) / b < b ∧ c + x * y + o < b * b := by
  have h1 : x * y ≤ (b - 1) * (b - 1) := Nat.mul_le_mul (by omega) (by omega)
  have h2 : (b - 1) * (b - 1) + (b - 1) + (b - 1) + 1 = b * b := by
    obtain ⟨m, rfl⟩ : ∃ m, b = m + 1 := ⟨b - 1, by omega⟩
    simp [Nat.add_mul, Nat.mul_add]; omega
  have h3 : c + x * y + o < b * b := by omega
  exact ⟨(Nat.div_lt_iff_lt_mul (by omega)).2 h3, h3⟩
theorem drop_val (b : Nat) (x : List Nat) (i : Nat) : val b (x.drop i) = x.getD i 0 + b * val b (x.drop (i + 1)) := by
  rcases Nat.lt_or_ge i x.length with h | h
  · rw [List.drop_eq_getElem_cons h, val_cons, getD_lt h]
  · rw [List.drop_eq_nil_of_le h, List.drop_eq_nil_of_le (by omega), getD_ge h]; simp
theorem drop_set_eq (xs : List Nat) (i v : Nat) : (xs.set i v).drop (i + 1) = xs.drop (i + 1) := by
  rw [List.drop_set_of_lt (by omega)]
theorem divs_step (b : Nat) (x o : List Nat) (i c r : Nat) (hi : i < o.length)
    (h : val b (o.drop (i + 1)) * c + r = val b (x.drop (i + 1))) :
    val b ((o.set i ((r * b + x.getD i 0) / c)).drop i) * c + (r * b + x.getD i 0) % c = val b (x.drop i) := by
  rw [drop_val b (o.set i _) i, drop_val b x i, drop_set_eq]
  have e0 : (o.set i ((r * b + x.getD i 0) / c)).getD i 0 = (r * b + x.getD i 0) / c := by simp [List.getD, hi]
  rw [e0, ← h, Nat.add_mul]
  have e1 := Nat.mod_add_div (r * b + x.getD i 0) c
  have e2 : b * val b (o.drop (i + 1)) * c = b * (val b (o.drop (i + 1)) * c) := by rw [Nat.mul_assoc]
  rw [Nat.mul_add, e2]
  have e3 : (r * b + x.getD i 0) / c * c = c * ((r * b + x.getD i 0) / c) := Nat.mul_comm _ _
  have e4 : b * r = r * b := Nat.mul_comm _ _
  omega
theorem guess_ge (B P v1 v2 Vl u2 H Ul q : Nat) (hV1 : 0 < v1) (hu2 : u2 < B) (hUl : Ul < P)
    (hq : q * (Vl + P * (v2 + B * v1)) ≤ Ul + P * (u2 + B * H)) : q ≤ H / v1 := by
  rw [Nat.le_div_iff_mul_le hV1]
  have h1 : q * (P * (B * v1)) ≤ q * (Vl + P * (v2 + B * v1)) := Nat.mul_le_mul_left q (by rw [Nat.mul_add]; omega)
  have h2 : Ul + P * (u2 + B * H) < P * (B * (H + 1)) := by
    have h3 : P * (u2 + B * H) + P ≤ P * (B * (H + 1)) := by
      rw [← Nat.mul_succ]; exact Nat.mul_le_mul_left P (by rw [Nat.mul_succ]; omega)
    omega
  have h4 : (P * B) * (q * v1) < (P * B) * (H + 1) := by
    have e1 : (P * B) * (q * v1) = q * (P * (B * v1)) := by simp [Nat.mul_comm, Nat.mul_left_comm]
    rw [e1, Nat.mul_assoc]; omega
  have := Nat.lt_of_mul_lt_mul_left h4
  omega
theorem guess_mend (B P v1 v2 Vl u2 H Ul q g r : Nat) (hUl : Ul < P) (hr : g * v1 + r = H)
    (hq : q * (Vl + P * (v2 + B * v1)) ≤ Ul + P * (u2 + B * H)) (ht : r * B + u2 < g * v2) : q + 1 ≤ g := by
  rcases Nat.lt_or_ge q g with h | h
  · exact h
  · exfalso
    have h1 : g * (P * (v2 + B * v1)) ≤ q * (Vl + P * (v2 + B * v1)) := Nat.mul_le_mul h (by omega)
    have h2 : g * (P * (v2 + B * v1)) = P * (g * v2 + B * (g * v1)) := by
      rw [Nat.mul_left_comm, Nat.mul_add g, Nat.mul_left_comm g B]
    have h3 : P * (u2 + B * H) + P ≤ P * (g * v2 + B * (g * v1)) := by
      rw [← Nat.mul_succ]
      refine Nat.mul_le_mul_left P ?_
      rw [← hr, Nat.mul_add, Nat.mul_comm B r]; omega
    omega
theorem guess_end (B P v1 v2 Vl u2 H Ul g r : Nat) (hv : B * P ≤ Vl + P * (v2 + B * v1)) (hVl : Vl < P) (hg : g < B) (hr : g * v1 + r = H)
    (ht : g * v2 ≤ r * B + u2) : g * (Vl + P * (v2 + B * v1)) ≤ Ul + P * (u2 + B * H) + (Vl + P * (v2 + B * v1)) := by
  have h1 : g * (Vl + P * (v2 + B * v1)) = g * Vl + P * (g * v2 + B * (g * v1)) := by
    rw [Nat.mul_add, Nat.mul_left_comm, Nat.mul_add g, Nat.mul_left_comm g B]
  have h2 : P * (g * v2 + B * (g * v1)) ≤ P * (u2 + B * H) := by
    refine Nat.mul_le_mul_left P ?_
    rw [← hr, Nat.mul_add, Nat.mul_comm B r]; omega
  have h3 : g * Vl ≤ B * P := Nat.mul_le_mul (by omega) (by omega)
  omega
theorem guess_early (B v2 u2 g r : Nat) (hg : g < B) (hv2 : v2 < B) (hr : B ≤ r) : g * v2 ≤ r * B + u2 := by
  have := Nat.mul_le_mul (show g ≤ r by omega) (show v2 ≤ B by omega)
  omega
theorem guess_digit (B v1 un u1 g r : Nat) (hr : g * v1 + r = un * B + u1) (hun : un ≤ v1) (hu1 : u1 < B) (hrB : B ≤ r) : g < B := by
  rcases Nat.lt_or_ge g B with h | h
  · exact h
  · exfalso
    have h1 : B * v1 ≤ g * v1 := Nat.mul_le_mul_right v1 h
    have h2 : un * B ≤ B * v1 := by rw [Nat.mul_comm]; exact Nat.mul_le_mul_left B hun
    omega
theorem quot_of (U V g : Nat) (h0 : 0 < V) (h1 : U / V ≤ g) (h2 : g * V ≤ U + V) : g = U / V ∨ g = U / V + 1 := by
  have h3 : g ≤ U / V + 1 := by
    rw [← Nat.add_div_right U h0]
    exact (Nat.le_div_iff_mul_le h0).2 h2
  omega
theorem less_step (b : Nat) (x y o : List Nat) (i t c r d r' : Nat) (hi : i < o.length)
    (h : val b (o.take i) + t * val b (y.take i) = val b (x.take i) + b ^ i * (c + r))
    (hd : d + (c + y.getD i 0 * t) % b + r = x.getD i 0 + b * r') :
    val b ((o.set i d).take (i + 1)) + t * val b (y.take (i + 1)) = val b (x.take (i + 1)) + b ^ (i + 1) * ((c + y.getD i 0 * t) / b + r') := by
  rw [val_set_take b o i _ hi, val_take_step b x i, val_take_step b y i, Nat.pow_succ]
  generalize hs : c + y.getD i 0 * t = s at *
  have h1 := Nat.mod_add_div s b
  have h2 : b ^ i * (d + s % b + r) = b ^ i * (x.getD i 0 + b * r') := by rw [hd]
  have h3 : b ^ i * (s % b + b * (s / b)) = b ^ i * s := by rw [h1]
  have h4 : t * (val b (y.take i) + b ^ i * y.getD i 0) = t * val b (y.take i) + b ^ i * (y.getD i 0 * t) := by
    rw [Nat.mul_add, Nat.mul_left_comm, Nat.mul_comm t (y.getD i 0)]
  have h5 : b ^ i * s = b ^ i * c + b ^ i * (y.getD i 0 * t) := by rw [← hs, Nat.mul_add]
  rw [h4, Nat.mul_add (b ^ i * b)]
  rw [Nat.mul_add, Nat.mul_add] at h2
  rw [Nat.mul_add] at h3
  rw [Nat.mul_add] at h2
  rw [Nat.mul_add] at h
  simp only [← Nat.mul_assoc] at *
  omega
theorem pow_le_dig {b : Nat} (hb : 2 ≤ b) (n : Nat) (hn : 0 < n) : b ^ ((dig b n).length - 1) ≤ n := by
  induction n using Nat.strongRecOn with
  | _ n ih =>
    rw [dig_pos hb hn, List.length_cons, Nat.add_sub_cancel]
    rcases Nat.eq_zero_or_pos (n / b) with h | h
    · rw [h, dig_zero]; simp; omega
    · have h1 := ih (n / b) (Nat.div_lt_self hn (by omega)) h
      have h2 : 0 < (dig b (n / b)).length := by rw [dig_pos hb h]; simp
      have h3 : (dig b (n / b)).length = ((dig b (n / b)).length - 1) + 1 := by omega
      rw [h3, Nat.pow_succ]
      have h4 := Nat.mul_le_mul_right b h1
      have h5 := Nat.div_mul_le_self n b
      omega
theorem lt_pow_dig {b : Nat} (hb : 2 ≤ b) (n : Nat) : n < b ^ (dig b n).length := by
  have := val_lt (dig_lt hb n)
  rwa [val_dig hb] at this
theorem dig_len_le {b : Nat} (hb : 2 ≤ b) {n m : Nat} (h : n ≤ m) : (dig b n).length ≤ (dig b m).length := by
  rcases Nat.lt_or_ge (dig b m).length (dig b n).length with h1 | h1
  · exfalso
    rcases Nat.eq_zero_or_pos n with h0 | h0
    · subst h0; rw [dig_zero] at h1; simp at h1
    · have h2 := pow_le_dig hb n h0
      have h3 := lt_pow_dig hb m
      have h4 : b ^ (dig b m).length ≤ b ^ ((dig b n).length - 1) := Nat.pow_le_pow_right (by omega) (by omega)
      omega
  · exact h1
theorem dig_len_lt {b : Nat} (hb : 2 ≤ b) {n m : Nat} (h : (dig b n).length < (dig b m).length) : n < m := by
  rcases Nat.lt_or_ge n m with h1 | h1
  · exact h1
  · have := dig_len_le hb h1; omega
theorem dig_len_of_lt {b : Nat} (hb : 2 ≤ b) {n k : Nat} (h : n < b ^ k) : (dig b n).length ≤ k := by
  rcases Nat.eq_zero_or_pos n with h0 | h0
  · subst h0; rw [dig_zero]; simp
  · have h1 := pow_le_dig hb n h0
    rcases Nat.lt_or_ge k (dig b n).length with h2 | h2
    · exfalso
      have h4 : b ^ k ≤ b ^ ((dig b n).length - 1) := Nat.pow_le_pow_right (by omega) (by omega)
      omega
    · exact h2
theorem val_lt_of {b : Nat} (xs ys : List Nat) (i : Nat) (hx : AllLt b xs) (hd : xs.drop (i + 1) = ys.drop (i + 1)) (hi : i < xs.length) (h : xs.getD i 0 < ys.getD i 0) (hi' : i < ys.length) : val b xs < val b ys := by
  have e1 : val b xs = val b (xs.take (i + 1)) + b ^ (i + 1) * val b (xs.drop (i + 1)) := by
    conv => lhs; rw [← List.take_append_drop (i + 1) xs]
    rw [val_append, List.length_take, Nat.min_eq_left (by omega)]
  have e2 : val b ys = val b (ys.take (i + 1)) + b ^ (i + 1) * val b (ys.drop (i + 1)) := by
    conv => lhs; rw [← List.take_append_drop (i + 1) ys]
    rw [val_append, List.length_take, Nat.min_eq_left (by omega)]
  rw [e1, e2, hd, val_take_step, val_take_step]
  have h1 := val_lt (hx.take i)
  rw [List.length_take, Nat.min_eq_left (by omega)] at h1
  have h2 : b ^ i * (xs.getD i 0 + 1) ≤ b ^ i * ys.getD i 0 := Nat.mul_le_mul_left _ h
  rw [Nat.mul_succ] at h2
  omega
theorem drop_all {xs : List Nat} {n : Nat} (h : xs.length ≤ n) : xs.drop n = [] := List.drop_eq_nil_of_le h
theorem drop_step (xs : List Nat) (i : Nat) (h : i < xs.length) : xs.drop i = xs.getD i 0 :: xs.drop (i + 1) := by
  rw [List.drop_eq_getElem_cons h, getD_lt h]
theorem take_of_small {b : Nat} (ys : List Nat) (n : Nat) (h : val b ys < b ^ n) : val b (ys.take n) = val b ys := by
  have e2 : val b ys = val b (ys.take n) + b ^ (ys.take n).length * val b (ys.drop n) := by
    conv => lhs; rw [← List.take_append_drop n ys]
    rw [val_append]
  rcases Nat.lt_or_ge n ys.length with h1 | h1
  · rw [List.length_take, Nat.min_eq_left (by omega)] at e2
    rcases Nat.eq_zero_or_pos (val b (ys.drop n)) with h0 | h0
    · rw [h0] at e2; omega
    · have := Nat.mul_le_mul_left (b ^ n) h0
      omega
  · rw [List.take_of_length_le h1]
theorem sub_final {b : Nat} (xs ys os : List Nat) (n r : Nat) (hos : AllLt b os) (hol : os.length = n) (hxl : xs.length = n) (hx : AllLt b xs) (hr : r ≤ 1)
    (h : val b (os.take n) + val b (ys.take n) = val b (xs.take n) + b ^ n * r) (hle : val b ys ≤ val b xs) : val b os = val b xs - val b ys := by
  have h1 := val_lt hos
  have h2 := val_lt hx
  rw [hol] at h1
  rw [hxl] at h2
  rw [List.take_of_length_le (l := os) (by omega), List.take_of_length_le (l := xs) (by omega), take_of_small ys n (by omega)] at h
  rcases Nat.eq_zero_or_pos r with h0 | h0
  · rw [h0] at h; omega
  · have : r = 1 := by omega
    rw [this] at h; omega
theorem dset_ne {xs : List Nat} {i j v : Nat} (h : i ≠ j) : (xs.set i v).getD j 0 = xs.getD j 0 := by
  simp [List.getD, h]
theorem dset_eq {xs : List Nat} {i v : Nat} (h : i < xs.length) : (xs.set i v).getD i 0 = v := by
  simp [List.getD, h]
theorem zeros_getD (n j : Nat) : (List.replicate n 0).getD j 0 = 0 := by
  rcases Nat.lt_or_ge j n with h | h
  · simp [List.getD, h]
  · exact getD_ge (by simp; exact h)
end Go.Proofs.YtegglooojlheoaaDoor.Anv

/- Plain arithmetic, more: shifts, quotients by more than one digit, bits. No program in sight. No condition. -/
namespace Go.Proofs.YtegglooojlheoaaDoor.Anv
theorem or_low (i a b : Nat) (hb : b < 2 ^ i) : (a * 2 ^ i) ||| b = a * 2 ^ i + b := by
  rw [Nat.mul_comm, ← Nat.two_pow_add_eq_or_of_lt hb]
theorem low_or (i a b : Nat) (hb : b < 2 ^ i) : b ||| (a * 2 ^ i) = b + a * 2 ^ i := by
  rw [Nat.or_comm, or_low i a b hb, Nat.add_comm]
theorem shl_step (b P Q : Nat) (hb : b = P * Q) (hP : 0 < P) (x o : List Nat) (i s : Nat) (hx : x.getD i 0 < b) (hi : i + s + 1 < o.length)
    (hv : val b o = val b (x.take i) * P * b ^ s) (ho : o.getD (i + s) 0 < P) (hz : ∀ j, i + s < j → o.getD j 0 = 0) (hl : AllLt b o) :
    AllLt b ((o.set (i + s) (o.getD (i + s) 0 + x.getD i 0 * P % b)).set (i + s + 1) (x.getD i 0 * P / b)) ∧
    val b ((o.set (i + s) (o.getD (i + s) 0 + x.getD i 0 * P % b)).set (i + s + 1) (x.getD i 0 * P / b)) = val b (x.take (i + 1)) * P * b ^ s ∧
    x.getD i 0 * P / b < P ∧ x.getD i 0 * P % b = (x.getD i 0 % Q) * P ∧ o.getD (i + s) 0 + x.getD i 0 * P % b < b := by
  have e1 : x.getD i 0 * P % b = (x.getD i 0 % Q) * P := by rw [hb, Nat.mul_comm P Q]; exact Nat.mul_mod_mul_right _ _ _
  have hQ : 0 < Q := by
    rcases Nat.eq_zero_or_pos Q with h | h
    · subst h; rw [Nat.mul_zero] at hb; omega
    · exact h
  have e2 : o.getD (i + s) 0 + x.getD i 0 * P % b < b := by
    rw [e1, hb]
    have h1 := Nat.mod_lt (x.getD i 0) hQ
    have h2 : (x.getD i 0 % Q + 1) * P ≤ Q * P := Nat.mul_le_mul_right P h1
    rw [Nat.succ_mul] at h2
    rw [Nat.mul_comm P Q]
    omega
  have e3 : x.getD i 0 * P / b < P := by
    refine (Nat.div_lt_iff_lt_mul (by omega)).2 ?_
    rw [Nat.mul_comm P b]
    exact Nat.mul_lt_mul_of_pos_right hx hP
  have hPb : P ≤ b := by rw [hb]; exact Nat.le_mul_of_pos_right P hQ
  have h1 := val_set b o (i + s) (o.getD (i + s) 0 + x.getD i 0 * P % b) (by omega)
  have h2 := val_set_zero b (o.set (i + s) (o.getD (i + s) 0 + x.getD i 0 * P % b)) (i + s + 1) (x.getD i 0 * P / b) (by simp; omega) (by rw [dset_ne (by omega)]; exact hz _ (by omega))
  refine ⟨(hl.set _ e2).set _ (by omega), ?_, e3, e1, e2⟩
  rw [h2, val_take_step, Nat.add_mul, Nat.add_mul, ← hv]
  have h3 := Nat.mod_add_div (x.getD i 0 * P) b
  have h4 : b ^ (i + s + 1) * (x.getD i 0 * P / b) = b ^ (i + s) * (b * (x.getD i 0 * P / b)) := by rw [Nat.pow_succ, Nat.mul_assoc]
  have h5 : b ^ i * x.getD i 0 * P * b ^ s = b ^ (i + s) * (x.getD i 0 * P) := by rw [Nat.pow_add]; ac_rfl
  rw [h4, h5]
  generalize x.getD i 0 * P = y at *
  generalize o.getD (i + s) 0 = z at *
  have h6 : b ^ (i + s) * y = b ^ (i + s) * (y % b) + b ^ (i + s) * (b * (y / b)) := by rw [← Nat.mul_add, h3]
  rw [Nat.mul_add] at h1
  omega
theorem shr_step (b P Q : Nat) (hb : b = P * Q) (hP : 0 < P) (hb0 : 0 < b) (x : List Nat) (i : Nat) (hx : x.getD i 0 < b) :
    val b (x.drop i) / P = (x.getD i 0 + b * x.getD (i + 1) 0) / P % b + b * (val b (x.drop (i + 1)) / P) := by
  have d1 := drop_val b x i
  have d2 := drop_val b x (i + 1)
  have e1 : val b (x.drop i) / P % b = (x.getD i 0 + b * x.getD (i + 1) 0) / P % b := by
    rw [d1, d2, Nat.mul_add, ← Nat.add_assoc]
    have e : b * (b * val b (x.drop (i + 1 + 1))) = P * (b * (Q * val b (x.drop (i + 1 + 1)))) := by
      conv => lhs; arg 1; rw [hb]
      simp [Nat.mul_assoc, Nat.mul_left_comm]
    rw [e, Nat.add_mul_div_left _ _ hP, Nat.add_mul_mod_self_left]
  have e2 : val b (x.drop i) / P / b = val b (x.drop (i + 1)) / P := by
    rw [Nat.div_div_eq_div_mul, Nat.mul_comm, ← Nat.div_div_eq_div_mul, d1, Nat.add_mul_div_left _ _ hb0, Nat.div_eq_of_lt hx, Nat.zero_add]
  have h1 := Nat.mod_add_div (val b (x.drop i) / P) b
  rw [e1, e2] at h1
  exact h1.symm
theorem shr_next (b P Q : Nat) (hb : b = P * Q) (hP : 0 < P) (hb0 : 0 < b) (x o : List Nat) (i T : Nat) (hi : i < o.length) (hx : x.getD i 0 < b)
    (h : val b (o.take i) + b ^ i * (val b (x.drop i) / P) = T) :
    val b ((o.set i ((x.getD i 0 + b * x.getD (i + 1) 0) / P % b)).take (i + 1)) + b ^ (i + 1) * (val b (x.drop (i + 1)) / P) = T := by
  rw [val_set_take b o i _ hi, Nat.pow_succ, Nat.mul_assoc, Nat.add_assoc, ← Nat.mul_add, ← shr_step b P Q hb hP hb0 x i hx]
  exact h
theorem split2 (b m : Nat) (xs : List Nat) (h : xs.length = m + 2) : val b xs = val b (xs.take m) + b ^ m * (xs.getD m 0 + b * xs.getD (m + 1) 0) := by
  have h1 := val_take_succ b xs (m + 1) (by omega)
  rw [List.take_of_length_le (by omega), val_take_succ b xs m (by omega), Nat.pow_succ] at h1
  rw [h1, Nat.mul_add, Nat.mul_assoc]
  omega
theorem split3 (b m : Nat) (xs : List Nat) (h : xs.length = m + 3) : val b xs = val b (xs.take m) + b ^ m * (xs.getD m 0 + b * (xs.getD (m + 2) 0 * b + xs.getD (m + 1) 0)) := by
  have h1 := val_take_succ b xs (m + 2) (by omega)
  rw [List.take_of_length_le (by omega), val_take_succ b xs (m + 1) (by omega), val_take_succ b xs m (by omega), Nat.pow_succ b (m + 1), Nat.pow_succ b m] at h1
  rw [h1, Nat.mul_add, Nat.mul_add, Nat.mul_add, Nat.mul_comm (xs.getD (m + 2) 0) b]
  simp only [← Nat.mul_assoc]
  omega
structure Guess (b V W H v1 v2 u2 : Nat) : Prop where
  pos : 0 < V
  low : W < b * V
  first : W / V ≤ H / v1
  mend : ∀ g r, g * v1 + r = H → r * b + u2 < g * v2 → W / V + 1 ≤ g
  digit : ∀ g r, g * v1 + r = H → b ≤ r → g < b
  stop : ∀ g r, g * v1 + r = H → W / V ≤ g → g < b → g * v2 ≤ r * b + u2 → g = W / V ∨ g = W / V + 1
theorem guess_of (b m : Nat) (hb : 2 ≤ b) (win vs : List Nat) (hw : win.length = m + 3) (hv : vs.length = m + 2) (hwl : AllLt b win) (hvl : AllLt b vs) (hv1 : 0 < vs.getD (m + 1) 0) (hlow : val b win < b * val b vs) :
    Guess b (val b vs) (val b win) (win.getD (m + 2) 0 * b + win.getD (m + 1) 0) (vs.getD (m + 1) 0) (vs.getD m 0) (win.getD m 0) := by
  have e1 := split2 b m vs hv
  have e2 := split3 b m win hw
  have l1 := val_lt (hvl.take m)
  rw [List.length_take, Nat.min_eq_left (by omega)] at l1
  have l2 := val_lt (hwl.take m)
  rw [List.length_take, Nat.min_eq_left (by omega)] at l2
  have a2 := hwl.get (by omega) m
  have a1 := hwl.get (by omega) (m + 1)
  have c2 := hvl.get (by omega) m
  have hP : 0 < b ^ m := Nat.pow_pos (by omega)
  generalize vs.getD (m + 1) 0 = v1 at *
  generalize vs.getD m 0 = v2 at *
  generalize win.getD m 0 = u2 at *
  generalize win.getD (m + 1) 0 = u1 at *
  generalize win.getD (m + 2) 0 = un at *
  generalize val b (vs.take m) = Vl at *
  generalize val b (win.take m) = Ul at *
  generalize b ^ m = P at *
  have hV0 : 0 < val b vs := by
    rw [e1]
    have := Nat.mul_pos hP (show 0 < v2 + b * v1 from by have := Nat.mul_pos (show 0 < b by omega) hv1; omega)
    omega
  have hq : val b win / val b vs * (Vl + P * (v2 + b * v1)) ≤ Ul + P * (u2 + b * (un * b + u1)) := by
    rw [← e1, ← e2]; exact Nat.div_mul_le_self _ _
  have hun : un ≤ v1 := by
    rcases Nat.lt_or_ge v1 un with h | h
    · exfalso
      rw [e1, e2] at hlow
      have h1 : v2 + b * v1 + 1 ≤ b * (v1 + 1) := by rw [Nat.mul_succ]; omega
      have h2 : Vl + P * (v2 + b * v1) < P * (b * (v1 + 1)) := by
        have := Nat.mul_le_mul_left P h1
        rw [Nat.mul_succ P] at this
        omega
      have h3 : b * (P * (b * (v1 + 1))) ≤ b * (P * (b * un)) := Nat.mul_le_mul_left b (Nat.mul_le_mul_left P (Nat.mul_le_mul_left b h))
      have h4 : b * (P * (b * un)) = P * (b * (un * b)) := by simp [Nat.mul_comm, Nat.mul_left_comm]
      have h5 : P * (b * (un * b)) ≤ P * (u2 + b * (un * b + u1)) := Nat.mul_le_mul_left P (by rw [Nat.mul_add]; omega)
      have h6 : b * (Vl + P * (v2 + b * v1)) < b * (P * (b * (v1 + 1))) := Nat.mul_lt_mul_of_pos_left h2 (by omega)
      omega
    · exact h
  have hbP : b * P ≤ Vl + P * (v2 + b * v1) := by
    have h1 : P * (b * 1) ≤ P * (b * v1) := Nat.mul_le_mul_left P (Nat.mul_le_mul_left b hv1)
    rw [Nat.mul_one, Nat.mul_comm P b] at h1
    rw [Nat.mul_add]; omega
  refine ⟨hV0, hlow, guess_ge b P v1 v2 Vl u2 _ Ul _ hv1 a2 l2 hq, fun g r hr ht => guess_mend b P v1 v2 Vl u2 _ Ul _ g r l2 hr hq ht, fun g r hr hrb => guess_digit b v1 un u1 g r hr hun a1 hrb, fun g r hr h1 h2 h3 => ?_⟩
  refine quot_of (val b win) (val b vs) g hV0 h1 ?_
  rw [e1, e2]
  exact guess_end b P v1 v2 Vl u2 _ Ul g r hbP l1 h2 hr h3
theorem mend_big {b V W g : Nat} (h0 : 0 < V) (h : W < b * V) (hg : b ≤ g) : W / V + 1 ≤ g := by
  have := (Nat.div_lt_iff_lt_mul h0).2 h
  omega
theorem less_no {V W g x : Nat} (h : g = W / V ∨ g = W / V + 1) (h0 : 0 < V) (hx : x + g * V = W) : g = W / V ∧ x = W % V := by
  have h1 := Nat.mod_add_div W V
  have h2 := Nat.mod_lt W h0
  rw [Nat.mul_comm] at h1
  rcases h with h | h
  · subst h
    exact ⟨rfl, by omega⟩
  · subst h
    rw [Nat.succ_mul] at hx
    omega
theorem less_back {V W g x o c B : Nat} (h : g = W / V ∨ g = W / V + 1) (h0 : 0 < V) (hlt : W < g * V) (hx : x + g * V = W + B) (ho : o + B * c = x + V) (hoB : o < B) (hc : c ≤ 1) : g - 1 = W / V ∧ o = W % V := by
  have h1 := Nat.mod_add_div W V
  have h2 := Nat.mod_lt W h0
  rw [Nat.mul_comm] at h1
  rcases h with h | h
  · subst h; omega
  · subst h
    rw [Nat.succ_mul] at hx hlt
    refine ⟨rfl, ?_⟩
    rcases Nat.eq_zero_or_pos c with hc0 | hc0
    · subst hc0; omega
    · obtain rfl : c = 1 := by omega
      omega
theorem quo_win {b V n k : Nat} {pre win post : List Nat} (hb : 2 ≤ b) (hpre : pre.length = k) (hwin : win.length = n + 1) (hwl : AllLt b win) (hV : V < b ^ n)
    (hlt : val b ((pre ++ win ++ post).drop (k + 1)) < V) : val b post = 0 ∧ val b win < b * V := by
  have e1 : (pre ++ win ++ post).drop (k + 1) = win.drop 1 ++ post := by
    rw [List.append_assoc, ← hpre, List.drop_append, List.drop_eq_nil_of_le (by omega), List.nil_append, show pre.length + 1 - pre.length = 1 by omega]
    rw [List.drop_append_of_le_length (by omega)]
  rw [e1, val_append, List.length_drop, hwin, Nat.add_sub_cancel] at hlt
  have hp : val b post = 0 := by
    rcases Nat.eq_zero_or_pos (val b post) with h | h
    · exact h
    · have := Nat.mul_le_mul_left (b ^ n) h
      omega
  refine ⟨hp, ?_⟩
  rw [hp, Nat.mul_zero, Nat.add_zero] at hlt
  have h1 := drop_val b win 0
  rw [List.drop_zero] at h1
  have h2 := hwl.get (by omega) 0
  have h3 := Nat.mul_le_mul_left b (show val b (win.drop (0 + 1)) + 1 ≤ V from hlt)
  rw [Nat.mul_succ] at h3
  omega
theorem quo_step {b V k U : Nat} {pre win win' post qs : List Nat} (hpre : pre.length = k) (hV0 : 0 < V) (hp : val b post = 0) (hq : k < qs.length)
    (hU : val b (pre ++ win ++ post) + V * b ^ (k + 1) * val b (qs.drop (k + 1)) = U) (hw' : val b win' = val b win % V) :
    val b ((pre ++ win' ++ post).drop k) < V ∧ val b (pre ++ win' ++ post) + V * b ^ k * val b ((qs.set k (val b win / V)).drop k) = U := by
  have e1 : (pre ++ win' ++ post).drop k = win' ++ post := by
    rw [List.append_assoc, ← hpre]; simp
  have h2 := Nat.mod_lt (val b win) hV0
  refine ⟨by rw [e1, val_append, hp, hw']; omega, ?_⟩
  rw [drop_val b (qs.set k _) k, drop_set_eq, dset_eq hq]
  rw [val_append, val_append, hp, Nat.mul_zero, Nat.add_zero, hpre, hw']
  rw [val_append, val_append, hp, Nat.mul_zero, Nat.add_zero, hpre] at hU
  have h1 := Nat.mod_add_div (val b win) V
  generalize val b win / V = q at *
  generalize val b win % V = r at *
  rw [← hU, ← h1, Nat.pow_succ, Nat.mul_add (b ^ k) r, Nat.mul_add (V * b ^ k)]
  have e2 : V * b ^ k * q = b ^ k * (V * q) := by ac_rfl
  have e3 : V * b ^ k * (b * val b (qs.drop (k + 1))) = V * (b ^ k * b) * val b (qs.drop (k + 1)) := by ac_rfl
  omega
theorem dm_unique {a b q r : Nat} (h : r + b * q = a) (hr : r < b) : a / b = q ∧ a % b = r := by
  subst h
  exact ⟨by rw [Nat.add_mul_div_left _ _ (by omega), Nat.div_eq_of_lt hr, Nat.zero_add], by rw [Nat.add_mul_mod_self_left, Nat.mod_eq_of_lt hr]⟩
end Go.Proofs.YtegglooojlheoaaDoor.Anv
