/- Plain arithmetic on lists of digits: no program in sight. No condition. -/

namespace Go.Proofs.YtbdngknpngcojaaDoor.Anv
def val (b : Nat) : List Nat → Nat
  | [] => 0
  | x :: xs => x + b * val b xs
def AllLt (b : Nat) (xs : List Nat) : Prop := ∀ x ∈ xs, x < b
def dig (b n : Nat) : List Nat := if _h : n = 0 ∨ b < 2 then [] else (n % b) :: dig b (n / b)
termination_by n
decreasing_by exact Nat.div_lt_self (by omega) (by omega)
def trim (xs : List Nat) : List Nat := (xs.reverse.dropWhile (· == 0)).reverse
@[simp] theorem val_nil (b : Nat) : val b [] = 0 := rfl
@[simp] theorem val_cons (b x : Nat) (xs : List Nat) : val b (x :: xs) = x + b * val b xs := rfl
theorem val_append (b : Nat) (xs ys : List Nat) : val b (xs ++ ys) = val b xs + b ^ xs.length * val b ys := by
  induction xs with
  | nil => simp
  | cons x xs ih =>
    rw [List.cons_append, val_cons, ih, val_cons, List.length_cons, Nat.pow_succ, Nat.mul_add, Nat.add_assoc, ← Nat.mul_assoc, Nat.mul_comm (b ^ xs.length) b]
theorem val_zeros (b n : Nat) : val b (List.replicate n 0) = 0 := by
  induction n with
  | zero => rfl
  | succ n ih => simp [List.replicate_succ, ih]
theorem AllLt.nil (b : Nat) : AllLt b [] := fun _ h => by cases h
theorem AllLt.cons {b x : Nat} {xs : List Nat} (h : x < b) (hs : AllLt b xs) : AllLt b (x :: xs) := by
  intro y hy
  cases hy with
  | head => exact h
  | tail _ hy => exact hs y hy
theorem AllLt.head {b x : Nat} {xs : List Nat} (h : AllLt b (x :: xs)) : x < b := h x (by simp)
theorem AllLt.tail {b x : Nat} {xs : List Nat} (h : AllLt b (x :: xs)) : AllLt b xs := fun y hy => h y (by simp [hy])
theorem AllLt.append {b : Nat} {xs ys : List Nat} (h : AllLt b xs) (k : AllLt b ys) : AllLt b (xs ++ ys) := by
  intro y hy
  rcases List.mem_append.1 hy with hy | hy
  · exact h y hy
  · exact k y hy
theorem AllLt.take {b : Nat} {xs : List Nat} (h : AllLt b xs) (n : Nat) : AllLt b (xs.take n) := fun y hy => h y (List.mem_of_mem_take hy)
theorem AllLt.drop {b : Nat} {xs : List Nat} (h : AllLt b xs) (n : Nat) : AllLt b (xs.drop n) := fun y hy => h y (List.mem_of_mem_drop hy)
theorem AllLt.get {b : Nat} {xs : List Nat} (h : AllLt b xs) (hb : 0 < b) (i : Nat) : xs.getD i 0 < b := by
  rcases Nat.lt_or_ge i xs.length with hi | hi
  · have : xs.getD i 0 = xs[i] := by simp [List.getD, hi]
    rw [this]; exact h _ (List.getElem_mem hi)
  · have : xs.getD i 0 = 0 := by simp [List.getD, hi]
    omega
theorem AllLt.set {b : Nat} {xs : List Nat} (h : AllLt b xs) (i : Nat) {v : Nat} (hv : v < b) : AllLt b (xs.set i v) := by
  intro y hy
  rcases List.mem_or_eq_of_mem_set hy with hy | hy
  · exact h y hy
  · omega
theorem val_lt {b : Nat} : ∀ {xs : List Nat}, AllLt b xs → val b xs < b ^ xs.length
  | [], _ => by simp
  | x :: xs, h => by
    have h1 := h.head
    have h2 := val_lt h.tail
    rw [List.length_cons, Nat.pow_succ, val_cons]
    have h3 : b * val b xs + b ≤ b * b ^ xs.length := by
      rw [← Nat.mul_succ]; exact Nat.mul_le_mul_left b h2
    rw [Nat.mul_comm (b ^ xs.length) b]
    omega
theorem dig_zero (b : Nat) : dig b 0 = [] := by rw [dig]; simp
theorem dig_pos {b n : Nat} (hb : 2 ≤ b) (hn : 0 < n) : dig b n = (n % b) :: dig b (n / b) := by
  rw [dig, dif_neg (by omega)]
theorem val_dig {b : Nat} (hb : 2 ≤ b) (n : Nat) : val b (dig b n) = n := by
  induction n using Nat.strongRecOn with
  | _ n ih =>
    rcases Nat.eq_zero_or_pos n with h | h
    · subst h; rw [dig_zero]; rfl
    · rw [dig_pos hb h, val_cons, ih (n / b) (Nat.div_lt_self h (by omega))]
      exact Nat.mod_add_div n b
theorem dig_lt {b : Nat} (hb : 2 ≤ b) (n : Nat) : AllLt b (dig b n) := by
  induction n using Nat.strongRecOn with
  | _ n ih =>
    rcases Nat.eq_zero_or_pos n with h | h
    · subst h; rw [dig_zero]; exact AllLt.nil b
    · rw [dig_pos hb h]
      exact AllLt.cons (Nat.mod_lt _ (by omega)) (ih (n / b) (Nat.div_lt_self h (by omega)))
def Norm (xs : List Nat) : Prop := xs.getLast? ≠ some 0
theorem Norm.tail {x y : Nat} {xs : List Nat} (h : Norm (x :: y :: xs)) : Norm (y :: xs) := by
  unfold Norm at h ⊢; rwa [List.getLast?_cons_cons] at h
theorem dig_val {b : Nat} (hb : 2 ≤ b) : ∀ {xs : List Nat}, AllLt b xs → Norm xs → dig b (val b xs) = xs
  | [], _, _ => by simp [dig_zero]
  | [x], h, k => by
    have h1 := h.head
    have h2 : x ≠ 0 := by unfold Norm at k; simpa using k
    have h3 : val b [x] = x := by simp
    rw [h3, dig_pos hb (by omega), Nat.mod_eq_of_lt h1, Nat.div_eq_of_lt h1, dig_zero]
  | x :: y :: xs, h, k => by
    have h1 := h.head
    have ih := dig_val hb h.tail k.tail
    have hpos : 0 < val b (y :: xs) := by
      rcases Nat.eq_zero_or_pos (val b (y :: xs)) with h0 | h0
      · rw [h0, dig_zero] at ih; cases ih
      · exact h0
    have hv : val b (x :: y :: xs) = x + b * val b (y :: xs) := rfl
    have hm : 0 < b * val b (y :: xs) := Nat.mul_pos (by omega) hpos
    rw [hv, dig_pos hb (by omega), Nat.add_mul_mod_self_left, Nat.mod_eq_of_lt h1, Nat.add_mul_div_left _ _ (by omega), Nat.div_eq_of_lt h1, Nat.zero_add, ih]
theorem dropWhile_zero_spec (l : List Nat) : ∃ n, l = List.replicate n 0 ++ l.dropWhile (· == 0) := by
  induction l with
  | nil => exact ⟨0, rfl⟩
  | cons x xs ih =>
    obtain ⟨n, hn⟩ := ih
    by_cases h : x = 0
    · subst h
      refine ⟨n + 1, ?_⟩
      rw [List.dropWhile_cons_of_pos (by simp), List.replicate_succ, List.cons_append, ← hn]
    · exact ⟨0, by rw [List.dropWhile_cons_of_neg (by simpa using h)]; rfl⟩
theorem trim_spec (xs : List Nat) : ∃ n, xs = trim xs ++ List.replicate n 0 := by
  obtain ⟨n, hn⟩ := dropWhile_zero_spec xs.reverse
  refine ⟨n, ?_⟩
  have h := congrArg List.reverse hn
  rw [List.reverse_reverse, List.reverse_append, List.reverse_replicate] at h
  exact h
theorem trim_norm (xs : List Nat) : Norm (trim xs) := by
  unfold Norm trim
  rw [List.getLast?_reverse]
  intro h
  have h2 := List.head?_dropWhile_not (p := fun x : Nat => x == 0) xs.reverse
  rw [h] at h2
  simp at h2
theorem val_trim (b : Nat) (xs : List Nat) : val b (trim xs) = val b xs := by
  obtain ⟨n, hn⟩ := trim_spec xs
  conv => rhs; rw [hn]
  rw [val_append, val_zeros]; simp
theorem trim_lt {b : Nat} {xs : List Nat} (h : AllLt b xs) : AllLt b (trim xs) := by
  obtain ⟨n, hn⟩ := trim_spec xs
  intro x hx
  exact h x (by rw [hn]; simp [hx])
theorem trim_eq {b : Nat} (hb : 2 ≤ b) {xs : List Nat} (h : AllLt b xs) : trim xs = dig b (val b xs) := by
  rw [← val_trim, dig_val hb (trim_lt h) (trim_norm xs)]
theorem pow_le_dig {b : Nat} (hb : 2 ≤ b) (n : Nat) (hn : 0 < n) : b ^ ((dig b n).length - 1) ≤ n := by
  induction n using Nat.strongRecOn with
  | _ n ih =>
    rw [dig_pos hb hn, List.length_cons, Nat.add_sub_cancel]
    rcases Nat.eq_zero_or_pos (n / b) with h | h
    · rw [h, dig_zero]; simp; omega
    · have h1 := ih (n / b) (Nat.div_lt_self hn (by omega)) h
      have h2 : 0 < (dig b (n / b)).length := by rw [dig_pos hb h]; simp
      have h3 : (dig b (n / b)).length = ((dig b (n / b)).length - 1) + 1 := by omega
      rw [h3, Nat.pow_succ]
      have h4 := Nat.mul_le_mul_right b h1
      have h5 := Nat.div_mul_le_self n b
      omega
theorem lt_pow_dig {b : Nat} (hb : 2 ≤ b) (n : Nat) : n < b ^ (dig b n).length := by
  have := val_lt (dig_lt hb n)
  rwa [val_dig hb] at this
theorem dig_len_le {b : Nat} (hb : 2 ≤ b) {n m : Nat} (h : n ≤ m) : (dig b n).length ≤ (dig b m).length := by
  rcases Nat.lt_or_ge (dig b m).length (dig b n).length with h1 | h1
  · exfalso
    rcases Nat.eq_zero_or_pos n with h0 | h0
    · subst h0; rw [dig_zero] at h1; simp at h1
    · have h2 := pow_le_dig hb n h0
      have h3 := lt_pow_dig hb m
      have h4 : b ^ (dig b m).length ≤ b ^ ((dig b n).length - 1) := Nat.pow_le_pow_right (by omega) (by omega)
      omega
  · exact h1
theorem dig_len_of_lt {b : Nat} (hb : 2 ≤ b) {n k : Nat} (h : n < b ^ k) : (dig b n).length ≤ k := by
  rcases Nat.eq_zero_or_pos n with h0 | h0
  · subst h0; rw [dig_zero]; simp
  · have h1 := pow_le_dig hb n h0
    rcases Nat.lt_or_ge k (dig b n).length with h2 | h2
    · exfalso
      have h4 : b ^ k ≤ b ^ ((dig b n).length - 1) := Nat.pow_le_pow_right (by omega) (by omega)
      omega
    · exact h2
theorem dset_ne {xs : List Nat} {i j v : Nat} (h : i ≠ j) : (xs.set i v).getD j 0 = xs.getD j 0 := by
  simp [List.getD, h]
theorem dset_eq {xs : List Nat} {i v : Nat} (h : i < xs.length) : (xs.set i v).getD i 0 = v := by
  simp [List.getD, h]
end Go.Proofs.YtbdngknpngcojaaDoor.Anv

/- Plain arithmetic, more: shifts, quotients by more than one digit, bits. No program in sight. No condition. -/
namespace Go.Proofs.YtbdngknpngcojaaDoor.Anv
structure Guess (b V W H v1 v2 u2 : Nat) : Prop where
  pos : 0 < V
  low : W < b * V
  first : W / V ≤ H / v1
  mend : ∀ g r, g * v1 + r = H → r * b + u2 < g * v2 → W / V + 1 ≤ g
  digit : ∀ g r, g * v1 + r = H → b ≤ r → g < b
  stop : ∀ g r, g * v1 + r = H → W / V ≤ g → g < b → g * v2 ≤ r * b + u2 → g = W / V ∨ g = W / V + 1
end Go.Proofs.YtbdngknpngcojaaDoor.Anv
