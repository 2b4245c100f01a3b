/- A number's text: what the walk of limb.Text needs. No condition. -/
import Derived.Test.YtegglooojlheoaaDoorM2
import Derived.Test.YtegglooojlheoaaDoorM14
import Derived.Test.YtegglooojlheoaaDoorM7
import Derived.Test.YtegglooojlheoaaDoorM6

namespace Go.Proofs.YtegglooojlheoaaDoor.W
open Go.RowKit Anv Go.Lib
def pcs (N j : Nat) : List Nat := (List.range j).map fun i => N / 1000000000 ^ i % 1000000000
theorem pcs_succ (N j : Nat) : ((pcs N j).map fun n => Value.int .u32 (n : Nat)) ++ (#[Value.int .u32 ((N / 1000000000 ^ j % 1000000000 : Nat) : Int)] : Array Value).toList = (pcs N (j + 1)).map fun n => Value.int .u32 (n : Nat) := by
  simp [pcs, List.range_succ]
theorem pcs_lt (N j : Nat) : AllLt 4294967296 (pcs N j) := by
  intro x hx
  obtain ⟨i, _, rfl⟩ := List.mem_map.1 hx
  have := Nat.mod_lt (N / 1000000000 ^ i) (show 0 < 1000000000 by decide)
  omega
theorem pcs_at {N j i : Nat} (h : i < j) : (pcs N j).getD i 0 = N / 1000000000 ^ i % 1000000000 := by
  simp [pcs, List.getD, h]
theorem pcs_bd {N k : Nat} (hN : nl N ≤ 1000000) (h : 0 < N / 1000000000 ^ k) : k < 32000000 := by
  have h1 : 1000000000 ^ k ≤ N := by
    rcases Nat.lt_or_ge N (1000000000 ^ k) with h2 | h2
    · rw [Nat.div_eq_of_lt h2] at h; omega
    · exact h2
  have h2 : 2 ^ k ≤ 1000000000 ^ k := Nat.pow_le_pow_left (by decide) k
  have h3 : N < 4294967296 ^ nl N := lt_pow_dig (by omega) N
  rw [show (4294967296 : Nat) = 2 ^ 32 from rfl, ← Nat.pow_mul] at h3
  have h4 : 2 ^ k < 2 ^ (32 * nl N) := Nat.lt_of_le_of_lt (Nat.le_trans h2 h1) h3
  have h5 := (Nat.pow_lt_pow_iff_right (by decide : 1 < 2)).1 h4
  omega
theorem div_succ (N j : Nat) : N / 1000000000 ^ j / 1000000000 = N / 1000000000 ^ (j + 1) := by rw [Nat.pow_succ, Nat.div_div_eq_div_mul]
theorem rowF_U {w : World} {E n : Nat} {v : Value} {xs : List Nat} (h : w.ownsRow 0 E 1 v n (xs.map fun n => Value.int .u32 (n : Nat))) (hl : AllLt 4294967296 xs) :
    ∃ A c, v = .slice A n c ∧ U32 w A n c xs ∧ ∀ b, (pfU A n c xs).foot b → v.ownBlock = some b := by
  have hlen : xs.length = n := by simpa using h.1
  rcases h.2 with ⟨rfl, rfl⟩ | ⟨g, cap, cur, rfl, _, hg, hnc, hcm, hs, ht⟩
  · exact ⟨none, 0, rfl, ⟨hlen, Nat.le_refl _, by simp [maxLen], hl, fun hp => by omega⟩, fun b hb => by obtain ⟨hp, _⟩ := hb; omega⟩
  · refine ⟨some ⟨g, 0, none⟩, cap, rfl, ⟨hlen, hnc, hcm, hl, fun hp => ⟨g, 0, rfl, lt_of_block hg, fun i hi => ?_⟩⟩, fun b hb => ?_⟩
    · have h3 := h.cells (g := g) rfl i (.int .u32 (xs.getD i 0 : Nat)) (by simp [List.getD, hlen, hi])
      have e1 : (⟨g, 0, none⟩ : Addr).add i = ⟨g, 0 + i, none⟩ := by unfold Addr.add; split <;> simp_all
      rwa [e1] at h3
    · obtain ⟨_, off, e⟩ := hb
      cases e
      rfl
def padl (X k : Nat) : List Nat := (List.range 9).map fun i => if i < k then 0 else 48 + X / 10 ^ (8 - i) % 10
theorem padl_len (X k : Nat) : (padl X k).length = 9 := by simp [padl]
theorem padl_set {X k : Nat} (h : k < 9) : (padl X (k + 1)).set k (48 + X / 10 ^ (9 - (k + 1)) % 10) = padl X k := by
  apply List.ext_getElem
  · simp [padl]
  · intro i h1 h2
    rw [List.getElem_set]
    simp only [padl, List.getElem_map, List.getElem_range]
    by_cases hik : k = i
    · subst hik
      rw [if_pos rfl, if_neg (by omega), show 9 - (k + 1) = 8 - k by omega]
    · rw [if_neg hik]
      by_cases h3 : i < k
      · rw [if_pos (by omega), if_pos h3]
      · rw [if_neg (by omega), if_neg h3]
theorem dch_nat {d : Nat} (h : d < 10) : (dch d).toNat = 48 + d := by
  have : ∀ d : Fin 10, (dch d.1).toNat = 48 + d.1 := by decide
  exact this ⟨d, h⟩
theorem pad_bytes (X j : Nat) (h : j < 9) : (nums .u8 (padl X 0))[j]? = some (.int .u8 (((padK 9 X).getD j 0).toNat : Nat)) := by
  rw [nums_at .u8 _ j (by rw [padl_len]; exact h)]
  congr 2
  have e1 : (padl X 0).getD j 0 = 48 + X / 10 ^ (8 - j) % 10 := by simp [padl, List.getD, h]
  have e2 : (padK 9 X).getD j 0 = dch (X / 10 ^ (8 - j) % 10) := by simp [padK, List.getD, h]
  rw [e1, e2, dch_nat (Nat.mod_lt _ (by omega))]
theorem u32_ten (X k : Nat) : X / 10 ^ (9 - (k + 1)) / 10 = X / 10 ^ (9 - k) ∨ 9 ≤ k := by
  by_cases h : 9 ≤ k
  · exact .inr h
  · left
    rw [Nat.div_div_eq_div_mul, ← Nat.pow_succ, show (9 - (k + 1)).succ = 9 - k by omega]
theorem q10 {X p : Nat} (h : X < 1000000000) : IntKind.u32.wrap ((X / p / 10 : Nat) : Int) = ((X / p / 10 : Nat) : Int) := by
  have h1 := Nat.div_le_self X p
  generalize X / p = y at *
  exact IntWalk.u32_in _ (by omega)
def outN (N j k : Nat) : List UInt8 := if k = j then [] else textN (N / 1000000000 ^ k)
theorem outN_nil (N j : Nat) : outN N j j = [] := if_pos rfl
theorem outN_top {N i : Nat} (h : N / 1000000000 ^ (i + 1) = 0) (h0 : 0 < N / 1000000000 ^ i) : outN N (i + 1) (i + 1) ++ trimLeftB (padK 9 (N / 1000000000 ^ i % 1000000000)) 48 = outN N (i + 1) i := by
  unfold outN
  rw [if_pos rfl, if_neg (by omega), List.nil_append, text_top h h0]
theorem outN_step {N i j : Nat} (h0 : 0 < N / 1000000000 ^ (j - 1)) (hij : i + 1 < j) : outN N j (i + 1) ++ padK 9 (N / 1000000000 ^ i % 1000000000) = outN N j i := by
  unfold outN
  have h1 : 1000000000 ^ (i + 1) ≤ 1000000000 ^ (j - 1) := Nat.pow_le_pow_right (by decide) (by omega)
  rw [if_neg (by omega), if_neg (by omega), text_step (Nat.lt_of_lt_of_le h0 (Nat.div_le_div_left h1 (Nat.pow_pos (by decide))))]
theorem outN_end {N j : Nat} (hj : j ≠ 0) : outN N j 0 = textN N := by
  unfold outN
  rw [if_neg (by omega), Nat.pow_zero, Nat.div_one]
theorem byteCells_app (l s : List UInt8) : byteCells l ++ strCells ⟨s.toArray⟩ = byteCells (l ++ s) := by simp [byteCells, strCells]
theorem trimLeftB_len (l : List UInt8) (c : UInt8) : (trimLeftB l c).length ≤ l.length := by
  unfold trimLeftB
  induction l with
  | nil => simp
  | cons x l ih =>
    rw [List.dropWhile_cons]
    split
    · simp; omega
    · exact Nat.le_refl _
theorem ba_size (s : List UInt8) : (⟨s.toArray⟩ : ByteArray).size = s.length := by simp [ByteArray.size]
theorem trim_call (s : List UInt8) (w : World) :
    Calls Tryd.prog 165 #[.string ⟨s.toArray⟩, .string ⟨#[48]⟩] w fun e w' => e = .returned (.string ⟨(trimLeftB s 48).toArray⟩) ∧ Below w.heap.size w w' := by
  refine (sh_strings_TrimLeft_one ⟨s.toArray⟩ 48 (by decide) w).mono ?_
  rintro e w' ⟨rfl, rfl⟩
  exact ⟨by simp, Below.refl _ _⟩
section
variable {P : Program} {N : Nat} {dq : List Deferred} {a : Act} {l : List (Nat × Value)} {w : World}
variable {d : Nat} {ty : TypeId} {pos : String} {af : Array Edge} {gd : Option (Nat × Bool)}
end
end Go.Proofs.YtegglooojlheoaaDoor.W
