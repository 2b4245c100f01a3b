/- Plain arithmetic on lists of digits: no program in sight. No condition. -/

namespace Go.Proofs.YtbdngknpngcojaaDoor.Anv
def val (b : Nat) : List Nat → Nat
  | [] => 0
  | x :: xs => x + b * val b xs
def AllLt (b : Nat) (xs : List Nat) : Prop := ∀ x ∈ xs, x < b
def dig (b n : Nat) : List Nat := if _h : n = 0 ∨ b < 2 then [] else (n % b) :: dig b (n / b)
termination_by n
decreasing_by exact Nat.div_lt_self (by omega) (by omega)
def trim (xs : List Nat) : List Nat := (xs.reverse.dropWhile (· == 0)).reverse
@[simp] theorem val_nil (b : Nat) : val b [] = 0 := rfl
@[simp] theorem val_cons (b x : Nat) (xs : List Nat) : val b (x :: xs) = x + b * val b xs := rfl
theorem val_append (b : Nat) (xs ys : List Nat) : val b (xs ++ ys) = val b xs + b ^ xs.length * val b ys := by
  induction xs with
  | nil => simp
  | cons x xs ih =>
    rw [List.cons_append, val_cons, ih, val_cons, List.length_cons, Nat.pow_succ, Nat.mul_add, Nat.add_assoc, ← Nat.mul_assoc, Nat.mul_comm (b ^ xs.length) b]
theorem val_zeros (b n : Nat) : val b (List.replicate n 0) = 0 := by
  induction n with
  | zero => rfl
  | succ n ih => simp [List.replicate_succ, ih]
theorem AllLt.nil (b : Nat) : AllLt b [] := fun _ h => by cases h
theorem AllLt.cons {b x : Nat} {xs : List Nat} (h : x < b) (hs : AllLt b xs) : AllLt b (x :: xs) := by
  intro y hy
  cases hy with
  | head => exact h
  | tail _ hy => exact hs y hy
theorem AllLt.head {b x : Nat} {xs : List Nat} (h : AllLt b (x :: xs)) : x < b := h x (by simp)
theorem AllLt.tail {b x : Nat} {xs : List Nat} (h : AllLt b (x :: xs)) : AllLt b xs := fun y hy => h y (by simp [hy])
theorem AllLt.append {b : Nat} {xs ys : List Nat} (h : AllLt b xs) (k : AllLt b ys) : AllLt b (xs ++ ys) := by
  intro y hy
  rcases List.mem_append.1 hy with hy | hy
  · exact h y hy
  · exact k y hy
theorem AllLt.take {b : Nat} {xs : List Nat} (h : AllLt b xs) (n : Nat) : AllLt b (xs.take n) := fun y hy => h y (List.mem_of_mem_take hy)
theorem AllLt.drop {b : Nat} {xs : List Nat} (h : AllLt b xs) (n : Nat) : AllLt b (xs.drop n) := fun y hy => h y (List.mem_of_mem_drop hy)
theorem AllLt.zeros {b : Nat} (hb : 0 < b) (n : Nat) : AllLt b (List.replicate n 0) := fun y hy => by
  rw [List.mem_replicate] at hy; omega
theorem AllLt.get {b : Nat} {xs : List Nat} (h : AllLt b xs) (hb : 0 < b) (i : Nat) : xs.getD i 0 < b := by
  rcases Nat.lt_or_ge i xs.length with hi | hi
  · have : xs.getD i 0 = xs[i] := by simp [List.getD, hi]
    rw [this]; exact h _ (List.getElem_mem hi)
  · have : xs.getD i 0 = 0 := by simp [List.getD, hi]
    omega
theorem AllLt.set {b : Nat} {xs : List Nat} (h : AllLt b xs) (i : Nat) {v : Nat} (hv : v < b) : AllLt b (xs.set i v) := by
  intro y hy
  rcases List.mem_or_eq_of_mem_set hy with hy | hy
  · exact h y hy
  · omega
theorem val_lt {b : Nat} : ∀ {xs : List Nat}, AllLt b xs → val b xs < b ^ xs.length
  | [], _ => by simp
  | x :: xs, h => by
    have h1 := h.head
    have h2 := val_lt h.tail
    rw [List.length_cons, Nat.pow_succ, val_cons]
    have h3 : b * val b xs + b ≤ b * b ^ xs.length := by
      rw [← Nat.mul_succ]; exact Nat.mul_le_mul_left b h2
    rw [Nat.mul_comm (b ^ xs.length) b]
    omega
theorem dig_zero (b : Nat) : dig b 0 = [] := by rw [dig]; simp
theorem dig_pos {b n : Nat} (hb : 2 ≤ b) (hn : 0 < n) : dig b n = (n % b) :: dig b (n / b) := by
  rw [dig, dif_neg (by omega)]
theorem val_dig {b : Nat} (hb : 2 ≤ b) (n : Nat) : val b (dig b n) = n := by
  induction n using Nat.strongRecOn with
  | _ n ih =>
    rcases Nat.eq_zero_or_pos n with h | h
    · subst h; rw [dig_zero]; rfl
    · rw [dig_pos hb h, val_cons, ih (n / b) (Nat.div_lt_self h (by omega))]
      exact Nat.mod_add_div n b
theorem dig_lt {b : Nat} (hb : 2 ≤ b) (n : Nat) : AllLt b (dig b n) := by
  induction n using Nat.strongRecOn with
  | _ n ih =>
    rcases Nat.eq_zero_or_pos n with h | h
    · subst h; rw [dig_zero]; exact AllLt.nil b
    · rw [dig_pos hb h]
      exact AllLt.cons (Nat.mod_lt _ (by omega)) (ih (n / b) (Nat.div_lt_self h (by omega)))
def Norm (xs : List Nat) : Prop := xs.getLast? ≠ some 0
theorem dig_norm {b : Nat} (hb : 2 ≤ b) (n : Nat) : Norm (dig b n) := by
  induction n using Nat.strongRecOn with
  | _ n ih =>
    rcases Nat.eq_zero_or_pos n with h | h
    · subst h; rw [dig_zero]; simp [Norm]
    · rw [dig_pos hb h]
      have ih' := ih (n / b) (Nat.div_lt_self h (by omega))
      unfold Norm at ih' ⊢
      rcases hd : dig b (n / b) with _ | ⟨y, ys⟩
      · have hv := val_dig hb (n / b)
        rw [hd] at hv
        have h0 : n / b = 0 := hv.symm
        have h1 : n % b = n := by
          have h2 := Nat.mod_add_div n b
          rw [h0] at h2; simpa using h2
        simp [h1]; omega
      · rw [hd] at ih'
        rw [List.getLast?_cons_cons]; exact ih'
theorem Norm.tail {x y : Nat} {xs : List Nat} (h : Norm (x :: y :: xs)) : Norm (y :: xs) := by
  unfold Norm at h ⊢; rwa [List.getLast?_cons_cons] at h
theorem dig_val {b : Nat} (hb : 2 ≤ b) : ∀ {xs : List Nat}, AllLt b xs → Norm xs → dig b (val b xs) = xs
  | [], _, _ => by simp [dig_zero]
  | [x], h, k => by
    have h1 := h.head
    have h2 : x ≠ 0 := by unfold Norm at k; simpa using k
    have h3 : val b [x] = x := by simp
    rw [h3, dig_pos hb (by omega), Nat.mod_eq_of_lt h1, Nat.div_eq_of_lt h1, dig_zero]
  | x :: y :: xs, h, k => by
    have h1 := h.head
    have ih := dig_val hb h.tail k.tail
    have hpos : 0 < val b (y :: xs) := by
      rcases Nat.eq_zero_or_pos (val b (y :: xs)) with h0 | h0
      · rw [h0, dig_zero] at ih; cases ih
      · exact h0
    have hv : val b (x :: y :: xs) = x + b * val b (y :: xs) := rfl
    have hm : 0 < b * val b (y :: xs) := Nat.mul_pos (by omega) hpos
    rw [hv, dig_pos hb (by omega), Nat.add_mul_mod_self_left, Nat.mod_eq_of_lt h1, Nat.add_mul_div_left _ _ (by omega), Nat.div_eq_of_lt h1, Nat.zero_add, ih]
theorem dropWhile_zero_spec (l : List Nat) : ∃ n, l = List.replicate n 0 ++ l.dropWhile (· == 0) := by
  induction l with
  | nil => exact ⟨0, rfl⟩
  | cons x xs ih =>
    obtain ⟨n, hn⟩ := ih
    by_cases h : x = 0
    · subst h
      refine ⟨n + 1, ?_⟩
      rw [List.dropWhile_cons_of_pos (by simp), List.replicate_succ, List.cons_append, ← hn]
    · exact ⟨0, by rw [List.dropWhile_cons_of_neg (by simpa using h)]; rfl⟩
theorem trim_spec (xs : List Nat) : ∃ n, xs = trim xs ++ List.replicate n 0 := by
  obtain ⟨n, hn⟩ := dropWhile_zero_spec xs.reverse
  refine ⟨n, ?_⟩
  have h := congrArg List.reverse hn
  rw [List.reverse_reverse, List.reverse_append, List.reverse_replicate] at h
  exact h
theorem trim_norm (xs : List Nat) : Norm (trim xs) := by
  unfold Norm trim
  rw [List.getLast?_reverse]
  intro h
  have h2 := List.head?_dropWhile_not (p := fun x : Nat => x == 0) xs.reverse
  rw [h] at h2
  simp at h2
theorem val_trim (b : Nat) (xs : List Nat) : val b (trim xs) = val b xs := by
  obtain ⟨n, hn⟩ := trim_spec xs
  conv => rhs; rw [hn]
  rw [val_append, val_zeros]; simp
theorem trim_lt {b : Nat} {xs : List Nat} (h : AllLt b xs) : AllLt b (trim xs) := by
  obtain ⟨n, hn⟩ := trim_spec xs
  intro x hx
  exact h x (by rw [hn]; simp [hx])
theorem trim_eq {b : Nat} (hb : 2 ≤ b) {xs : List Nat} (h : AllLt b xs) : trim xs = dig b (val b xs) := by
  rw [← val_trim, dig_val hb (trim_lt h) (trim_norm xs)]
theorem take_eq_dig {b : Nat} (hb : 2 ≤ b) {xs : List Nat} (h : AllLt b xs) (n : Nat) (hn : n ≤ xs.length)
    (hz : ∀ i, n ≤ i → i < xs.length → xs.getD i 0 = 0) (hl : n = 0 ∨ xs.getD (n - 1) 0 ≠ 0) : xs.take n = dig b (val b xs) := by
  have hd : xs.drop n = List.replicate (xs.length - n) 0 := by
    apply List.ext_getElem
    · simp
    · intro i h1 h2
      have hi : i < xs.length - n := by simpa using h2
      have := hz (n + i) (by omega) (by omega)
      simp [List.getD, show n + i < xs.length by omega] at this
      simp [this]
  have hv : val b xs = val b (xs.take n) := by
    conv => lhs; rw [← List.take_append_drop n xs]
    rw [val_append, hd, val_zeros]; simp
  rw [hv, dig_val hb (h.take n)]
  unfold Norm
  rcases hl with hl | hl
  · subst hl; simp
  · rcases Nat.eq_zero_or_pos n with h0 | h0
    · subst h0; simp
    · rw [List.getLast?_eq_getElem?]
      have e1 : (xs.take n).length - 1 = n - 1 := by simp; omega
      rw [e1, List.getElem?_take, if_pos (by omega)]
      intro h3
      exact hl (by simp [List.getD, h3])
theorem val_take_succ (b : Nat) (xs : List Nat) (i : Nat) (h : i < xs.length) : val b (xs.take (i + 1)) = val b (xs.take i) + b ^ i * xs.getD i 0 := by
  rw [List.take_succ_eq_append_getElem h, val_append]
  have : (List.take i xs).length = i := by simp; omega
  rw [this]
  simp [List.getD, h]
theorem val_take_past (b : Nat) (xs : List Nat) (i : Nat) (h : xs.length ≤ i) : val b (xs.take i) = val b xs := by
  rw [List.take_of_length_le h]
theorem val_take_step (b : Nat) (xs : List Nat) (i : Nat) : val b (xs.take (i + 1)) = val b (xs.take i) + b ^ i * xs.getD i 0 := by
  rcases Nat.lt_or_ge i xs.length with h | h
  · exact val_take_succ b xs i h
  · rw [val_take_past b xs i h, val_take_past b xs (i + 1) (by omega)]
    have : xs.getD i 0 = 0 := by simp [List.getD, h]
    rw [this]; simp
theorem take_set_eq (xs : List Nat) (i v : Nat) : (xs.set i v).take i = xs.take i := by
  rw [List.take_set_of_le (Nat.le_refl i)]
theorem val_set_take (b : Nat) (xs : List Nat) (i v : Nat) (h : i < xs.length) : val b ((xs.set i v).take (i + 1)) = val b (xs.take i) + b ^ i * v := by
  rw [val_take_step, take_set_eq]
  congr 2
  simp [List.getD, h]
theorem getD_lt {xs : List Nat} {i : Nat} (h : i < xs.length) : xs.getD i 0 = xs[i] := by simp [List.getD, h]
theorem getD_ge {xs : List Nat} {i : Nat} (h : xs.length ≤ i) : xs.getD i 0 = 0 := by simp [List.getD, h]
theorem val_set (b : Nat) : ∀ (xs : List Nat) (i v : Nat), i < xs.length → val b (xs.set i v) + b ^ i * xs.getD i 0 = val b xs + b ^ i * v
  | [], _, _, h => by simp at h
  | x :: xs, 0, v, _ => by simp [List.getD]; omega
  | x :: xs, i + 1, v, h => by
    have ih := val_set b xs i v (by simpa using h)
    have e1 : (x :: xs).getD (i + 1) 0 = xs.getD i 0 := by simp [List.getD]
    rw [List.set_cons_succ, val_cons, val_cons, e1, Nat.pow_succ]
    have e2 : b * (val b (xs.set i v) + b ^ i * xs.getD i 0) = b * (val b xs + b ^ i * v) := by rw [ih]
    rw [Nat.mul_add, Nat.mul_add] at e2
    rw [Nat.mul_comm (b ^ i) b, Nat.mul_assoc, Nat.mul_assoc]
    omega
theorem sub_step (b : Nat) (x y o : List Nat) (i r d r' : Nat) (hi : i < o.length)
    (h : val b (o.take i) + val b (y.take i) = val b (x.take i) + b ^ i * r)
    (hd : d + y.getD i 0 + r = x.getD i 0 + b * r') :
    val b ((o.set i d).take (i + 1)) + val b (y.take (i + 1)) = val b (x.take (i + 1)) + b ^ (i + 1) * r' := by
  rw [val_set_take b o i _ hi, val_take_step b x i, val_take_step b y i, Nat.pow_succ]
  have h2 : b ^ i * (d + y.getD i 0 + r) = b ^ i * (x.getD i 0 + b * r') := by rw [hd]
  rw [Nat.mul_add, Nat.mul_add, Nat.mul_add, ← Nat.mul_assoc] at h2
  omega
theorem drop_val (b : Nat) (x : List Nat) (i : Nat) : val b (x.drop i) = x.getD i 0 + b * val b (x.drop (i + 1)) := by
  rcases Nat.lt_or_ge i x.length with h | h
  · rw [List.drop_eq_getElem_cons h, val_cons, getD_lt h]
  · rw [List.drop_eq_nil_of_le h, List.drop_eq_nil_of_le (by omega), getD_ge h]; simp
theorem drop_set_eq (xs : List Nat) (i v : Nat) : (xs.set i v).drop (i + 1) = xs.drop (i + 1) := by
  rw [List.drop_set_of_lt (by omega)]
theorem divs_step (b : Nat) (x o : List Nat) (i c r : Nat) (hi : i < o.length)
    (h : val b (o.drop (i + 1)) * c + r = val b (x.drop (i + 1))) :
    val b ((o.set i ((r * b + x.getD i 0) / c)).drop i) * c + (r * b + x.getD i 0) % c = val b (x.drop i) := by
  rw [drop_val b (o.set i _) i, drop_val b x i, drop_set_eq]
  have e0 : (o.set i ((r * b + x.getD i 0) / c)).getD i 0 = (r * b + x.getD i 0) / c := by simp [List.getD, hi]
  rw [e0, ← h, Nat.add_mul]
  have e1 := Nat.mod_add_div (r * b + x.getD i 0) c
  have e2 : b * val b (o.drop (i + 1)) * c = b * (val b (o.drop (i + 1)) * c) := by rw [Nat.mul_assoc]
  rw [Nat.mul_add, e2]
  have e3 : (r * b + x.getD i 0) / c * c = c * ((r * b + x.getD i 0) / c) := Nat.mul_comm _ _
  have e4 : b * r = r * b := Nat.mul_comm _ _
  omega
theorem pow_le_dig {b : Nat} (hb : 2 ≤ b) (n : Nat) (hn : 0 < n) : b ^ ((dig b n).length - 1) ≤ n := by
  induction n using Nat.strongRecOn with
  | _ n ih =>
    rw [dig_pos hb hn, List.length_cons, Nat.add_sub_cancel]
    rcases Nat.eq_zero_or_pos (n / b) with h | h
    · rw [h, dig_zero]; simp; omega
    · have h1 := ih (n / b) (Nat.div_lt_self hn (by omega)) h
      have h2 : 0 < (dig b (n / b)).length := by rw [dig_pos hb h]; simp
      have h3 : (dig b (n / b)).length = ((dig b (n / b)).length - 1) + 1 := by omega
      rw [h3, Nat.pow_succ]
      have h4 := Nat.mul_le_mul_right b h1
      have h5 := Nat.div_mul_le_self n b
      omega
theorem lt_pow_dig {b : Nat} (hb : 2 ≤ b) (n : Nat) : n < b ^ (dig b n).length := by
  have := val_lt (dig_lt hb n)
  rwa [val_dig hb] at this
theorem dig_len_le {b : Nat} (hb : 2 ≤ b) {n m : Nat} (h : n ≤ m) : (dig b n).length ≤ (dig b m).length := by
  rcases Nat.lt_or_ge (dig b m).length (dig b n).length with h1 | h1
  · exfalso
    rcases Nat.eq_zero_or_pos n with h0 | h0
    · subst h0; rw [dig_zero] at h1; simp at h1
    · have h2 := pow_le_dig hb n h0
      have h3 := lt_pow_dig hb m
      have h4 : b ^ (dig b m).length ≤ b ^ ((dig b n).length - 1) := Nat.pow_le_pow_right (by omega) (by omega)
      omega
  · exact h1
theorem dig_len_lt {b : Nat} (hb : 2 ≤ b) {n m : Nat} (h : (dig b n).length < (dig b m).length) : n < m := by
  rcases Nat.lt_or_ge n m with h1 | h1
  · exact h1
  · have := dig_len_le hb h1; omega
theorem dig_len_of_lt {b : Nat} (hb : 2 ≤ b) {n k : Nat} (h : n < b ^ k) : (dig b n).length ≤ k := by
  rcases Nat.eq_zero_or_pos n with h0 | h0
  · subst h0; rw [dig_zero]; simp
  · have h1 := pow_le_dig hb n h0
    rcases Nat.lt_or_ge k (dig b n).length with h2 | h2
    · exfalso
      have h4 : b ^ k ≤ b ^ ((dig b n).length - 1) := Nat.pow_le_pow_right (by omega) (by omega)
      omega
    · exact h2
theorem val_lt_of {b : Nat} (xs ys : List Nat) (i : Nat) (hx : AllLt b xs) (hd : xs.drop (i + 1) = ys.drop (i + 1)) (hi : i < xs.length) (h : xs.getD i 0 < ys.getD i 0) (hi' : i < ys.length) : val b xs < val b ys := by
  have e1 : val b xs = val b (xs.take (i + 1)) + b ^ (i + 1) * val b (xs.drop (i + 1)) := by
    conv => lhs; rw [← List.take_append_drop (i + 1) xs]
    rw [val_append, List.length_take, Nat.min_eq_left (by omega)]
  have e2 : val b ys = val b (ys.take (i + 1)) + b ^ (i + 1) * val b (ys.drop (i + 1)) := by
    conv => lhs; rw [← List.take_append_drop (i + 1) ys]
    rw [val_append, List.length_take, Nat.min_eq_left (by omega)]
  rw [e1, e2, hd, val_take_step, val_take_step]
  have h1 := val_lt (hx.take i)
  rw [List.length_take, Nat.min_eq_left (by omega)] at h1
  have h2 : b ^ i * (xs.getD i 0 + 1) ≤ b ^ i * ys.getD i 0 := Nat.mul_le_mul_left _ h
  rw [Nat.mul_succ] at h2
  omega
theorem drop_all {xs : List Nat} {n : Nat} (h : xs.length ≤ n) : xs.drop n = [] := List.drop_eq_nil_of_le h
theorem drop_step (xs : List Nat) (i : Nat) (h : i < xs.length) : xs.drop i = xs.getD i 0 :: xs.drop (i + 1) := by
  rw [List.drop_eq_getElem_cons h, getD_lt h]
theorem take_of_small {b : Nat} (ys : List Nat) (n : Nat) (h : val b ys < b ^ n) : val b (ys.take n) = val b ys := by
  have e2 : val b ys = val b (ys.take n) + b ^ (ys.take n).length * val b (ys.drop n) := by
    conv => lhs; rw [← List.take_append_drop n ys]
    rw [val_append]
  rcases Nat.lt_or_ge n ys.length with h1 | h1
  · rw [List.length_take, Nat.min_eq_left (by omega)] at e2
    rcases Nat.eq_zero_or_pos (val b (ys.drop n)) with h0 | h0
    · rw [h0] at e2; omega
    · have := Nat.mul_le_mul_left (b ^ n) h0
      omega
  · rw [List.take_of_length_le h1]
theorem sub_final {b : Nat} (xs ys os : List Nat) (n r : Nat) (hos : AllLt b os) (hol : os.length = n) (hxl : xs.length = n) (hx : AllLt b xs) (hr : r ≤ 1)
    (h : val b (os.take n) + val b (ys.take n) = val b (xs.take n) + b ^ n * r) (hle : val b ys ≤ val b xs) : val b os = val b xs - val b ys := by
  have h1 := val_lt hos
  have h2 := val_lt hx
  rw [hol] at h1
  rw [hxl] at h2
  rw [List.take_of_length_le (l := os) (by omega), List.take_of_length_le (l := xs) (by omega), take_of_small ys n (by omega)] at h
  rcases Nat.eq_zero_or_pos r with h0 | h0
  · rw [h0] at h; omega
  · have : r = 1 := by omega
    rw [this] at h; omega
theorem dset_ne {xs : List Nat} {i j v : Nat} (h : i ≠ j) : (xs.set i v).getD j 0 = xs.getD j 0 := by
  simp [List.getD, h]
theorem dset_eq {xs : List Nat} {i v : Nat} (h : i < xs.length) : (xs.set i v).getD i 0 = v := by
  simp [List.getD, h]
end Go.Proofs.YtbdngknpngcojaaDoor.Anv

/- Plain arithmetic, more: shifts, quotients by more than one digit, bits. No program in sight. No condition. -/
namespace Go.Proofs.YtbdngknpngcojaaDoor.Anv
theorem or_low (i a b : Nat) (hb : b < 2 ^ i) : (a * 2 ^ i) ||| b = a * 2 ^ i + b := by
  rw [Nat.mul_comm, ← Nat.two_pow_add_eq_or_of_lt hb]
structure Guess (b V W H v1 v2 u2 : Nat) : Prop where
  pos : 0 < V
  low : W < b * V
  first : W / V ≤ H / v1
  mend : ∀ g r, g * v1 + r = H → r * b + u2 < g * v2 → W / V + 1 ≤ g
  digit : ∀ g r, g * v1 + r = H → b ≤ r → g < b
  stop : ∀ g r, g * v1 + r = H → W / V ≤ g → g < b → g * v2 ≤ r * b + u2 → g = W / V ∨ g = W / V + 1
theorem dm_unique {a b q r : Nat} (h : r + b * q = a) (hr : r < b) : a / b = q ∧ a % b = r := by
  subst h
  exact ⟨by rw [Nat.add_mul_div_left _ _ (by omega), Nat.div_eq_of_lt hr, Nat.zero_add], by rw [Nat.add_mul_mod_self_left, Nat.mod_eq_of_lt hr]⟩
theorem ldiv_yes {T M t : Nat} (h0 : 0 < M) (ht : t ≤ 1) (h : M ≤ 2 * (T % M) + t) : (2 * T + t) / M = 2 * (T / M) + 1 ∧ (2 * T + t) % M = 2 * (T % M) + t - M := by
  have h1 := Nat.mod_add_div T M
  have h2 := Nat.mod_lt T h0
  refine dm_unique ?_ (by omega)
  rw [Nat.mul_add, Nat.mul_left_comm, Nat.mul_one]
  omega
theorem ldiv_no {T M t : Nat} (h : ¬ M ≤ 2 * (T % M) + t) : (2 * T + t) / M = 2 * (T / M) ∧ (2 * T + t) % M = 2 * (T % M) + t := by
  have h1 := Nat.mod_add_div T M
  refine dm_unique ?_ (by omega)
  rw [Nat.mul_left_comm]
  omega
theorem get_val {b : Nat} (hb : 0 < b) : ∀ {xs : List Nat} (_ : AllLt b xs) (i : Nat), xs.getD i 0 = val b xs / b ^ i % b
  | [], _, i => by simp
  | x :: xs, h, 0 => by
    have h1 := h.head
    simp [Nat.mod_eq_of_lt h1]
  | x :: xs, h, i + 1 => by
    have ih := get_val hb h.tail i
    have h1 := h.head
    rw [val_cons, Nat.pow_succ, Nat.mul_comm (b ^ i) b, ← Nat.div_div_eq_div_mul, Nat.add_mul_div_left _ _ hb, Nat.div_eq_of_lt h1, Nat.zero_add, ← ih]
    simp [List.getD]
theorem low_bit (m r : Nat) (hr : r < 16) : m % 65536 / 2 ^ r % 2 = m / 2 ^ r % 2 := by
  have : r = 0 ∨ r = 1 ∨ r = 2 ∨ r = 3 ∨ r = 4 ∨ r = 5 ∨ r = 6 ∨ r = 7 ∨ r = 8 ∨ r = 9 ∨ r = 10 ∨ r = 11 ∨ r = 12 ∨ r = 13 ∨ r = 14 ∨ r = 15 := by omega
  rcases this with rfl | rfl | rfl | rfl | rfl | rfl | rfl | rfl | rfl | rfl | rfl | rfl | rfl | rfl | rfl | rfl
  all_goals (simp only [Nat.reducePow]; omega)
theorem pow16 (k : Nat) : 65536 ^ (k / 16) * 2 ^ (k % 16) = 2 ^ k := by
  rw [show (65536 : Nat) = 2 ^ 16 from rfl, ← Nat.pow_mul, ← Nat.pow_add]
  congr 1
  omega
theorem bit16 {xs : List Nat} (h : AllLt 65536 xs) (k : Nat) : xs.getD (k / 16) 0 / 2 ^ (k % 16) % 2 = val 65536 xs / 2 ^ k % 2 := by
  rw [get_val (by omega) h, low_bit _ _ (Nat.mod_lt _ (by omega)), Nat.div_div_eq_div_mul, pow16]
theorem set16 {xs : List Nat} (h : AllLt 65536 xs) (k : Nat) (hk : k / 16 < xs.length) (Q : Nat) (hv : val 65536 xs = Q * 2 ^ (k + 1)) :
    xs.getD (k / 16) 0 ||| 2 ^ (k % 16) = xs.getD (k / 16) 0 + 2 ^ (k % 16) ∧ xs.getD (k / 16) 0 + 2 ^ (k % 16) < 65536 ∧ val 65536 (xs.set (k / 16) (xs.getD (k / 16) 0 + 2 ^ (k % 16))) = (2 * Q + 1) * 2 ^ k := by
  have e1 := get_val (by omega) h (k / 16)
  have e2 : val 65536 xs / 65536 ^ (k / 16) = Q * 2 ^ (k % 16 + 1) := by
    rw [hv, show 2 ^ (k + 1) = 65536 ^ (k / 16) * 2 ^ (k % 16 + 1) by rw [Nat.pow_succ, Nat.pow_succ, ← Nat.mul_assoc, pow16], Nat.mul_left_comm, Nat.mul_div_cancel_left _ (Nat.pow_pos (by omega))]
  rw [e2] at e1
  have hr : k % 16 < 16 := Nat.mod_lt _ (by omega)
  obtain ⟨z, hz⟩ : ∃ z, xs.getD (k / 16) 0 = z * 2 ^ (k % 16 + 1) := by
    refine ⟨Q % 2 ^ (15 - k % 16), ?_⟩
    rw [e1, show (65536 : Nat) = 2 ^ (15 - k % 16) * 2 ^ (k % 16 + 1) by rw [← Nat.pow_add, show 15 - k % 16 + (k % 16 + 1) = 16 by omega], Nat.mul_mod_mul_right]
  have e3 : xs.getD (k / 16) 0 ||| 2 ^ (k % 16) = xs.getD (k / 16) 0 + 2 ^ (k % 16) := by
    rw [hz]
    exact or_low _ _ _ (Nat.pow_lt_pow_right (by omega) (by omega))
  have h1 := h.get (by omega) (k / 16)
  have e4 : xs.getD (k / 16) 0 ||| 2 ^ (k % 16) < 2 ^ 16 := Nat.or_lt_two_pow (by omega) (Nat.pow_lt_pow_right (by omega) hr)
  refine ⟨e3, by rw [e3] at e4; omega, ?_⟩
  have e5 := val_set 65536 xs (k / 16) (xs.getD (k / 16) 0 + 2 ^ (k % 16)) hk
  rw [Nat.mul_add, pow16] at e5
  rw [show (2 * Q + 1) * 2 ^ k = Q * 2 ^ (k + 1) + 2 ^ k by rw [Nat.succ_mul, Nat.pow_succ, Nat.mul_comm (2 ^ k) 2, Nat.mul_left_comm, Nat.mul_assoc], ← hv]
  omega
end Go.Proofs.YtbdngknpngcojaaDoor.Anv
