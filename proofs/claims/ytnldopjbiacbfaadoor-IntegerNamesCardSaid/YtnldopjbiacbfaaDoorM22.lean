/- Numbers as lists of limbs: sizes, rows that the call has written out, results. No condition. -/
import Derived.Test.YtnldopjbiacbfaaDoorM11
import Derived.Test.YtnldopjbiacbfaaDoorM16
import Derived.Test.YtnldopjbiacbfaaDoorM21

namespace Go.Proofs.YtnldopjbiacbfaaDoor.W
open Go.RowKit Anv

theorem nl_sub (N M : Nat) : nl (N - M) ≤ nl N := nl_mono (Nat.sub_le _ _)
theorem nl_div (N M : Nat) : nl (N / M) ≤ nl N := nl_mono (Nat.div_le_self _ _)
theorem nl_mod (N M : Nat) : nl (N % M) ≤ nl N := nl_mono (Nat.mod_le _ _)
theorem nl_gcd (N M : Nat) : nl (Nat.gcd N M) ≤ nl N + nl M := by
  rcases Nat.eq_zero_or_pos N with h | h
  · subst h; rw [Nat.gcd_zero_left]; omega
  · exact Nat.le_trans (nl_mono (Nat.gcd_le_left M h)) (Nat.le_add_right _ _)
theorem nl_val {w : World} {A : Option Addr} {n c : Nat} {xs : List Nat} (h : U32 w A n c xs) : nl (val 4294967296 xs) ≤ n := nl_len ⟨xs, h, rfl⟩
theorem L_one {q : Nat} : val 4294967296 [q] = q := by simp [val]
theorem L_two {q r : Nat} : val 4294967296 [q, r] = q + 4294967296 * r := by simp [val]
theorem lt1 {q : Nat} (h : q < 4294967296) : AllLt 4294967296 [q] := by intro x hx; simp at hx; omega
theorem lt2 {q r : Nat} (h : q < 4294967296) (h' : r < 4294967296) : AllLt 4294967296 [q, r] := by intro x hx; simp at hx; omega
theorem L_inj {N M : Nat} (h : L N = L M) : N = M := by rw [← val_L N, h, val_L]
theorem L_dec (N M : Nat) : decide (L N = L M) = decide (N = M) := by
  by_cases h : N = M
  · subst h; simp
  · rw [decide_eq_false h, decide_eq_false fun e => h (L_inj e)]

section
variable {w0 w w' : World} {own ps : List PF}
/-- A row of numbers that the call has written out is read alone from now on. -/
theorem St.giveU (h : St w0 w own ps) {k g n : Nat} {xs : List Nat} {t : TypeId} (hk : own[k]? = some (bk g (nums .u32 xs) t)) (hl : AllLt 4294967296 xs) (hn : xs.length = n) (hm : n ≤ maxLen) :
    St w0 w (own.eraseIdx k) (pfU (some ⟨g, 0, none⟩) n n xs :: ps) :=
  h.give hk (pfU (some ⟨g, 0, none⟩) n n xs) (Arr.u32 (t := t) (h.oat hk) hl hn hm) fun b hf => by
    obtain ⟨_, off, e⟩ := hf
    cases e
    rfl
theorem St.freshU2 {A B : Option Addr} {n c m d : Nat} {xs ys : List Nat} (h : St w0 w own ps) (hb : Below w.heap.size w w') (hu : U32 w' A n c xs) (hA : ∀ a, A = some a → w.heap.size ≤ a.block) (hu' : U32 w' B m d ys) (hB : ∀ a, B = some a → w.heap.size ≤ a.block) :
    St w0 w' own (pfU B m d ys :: pfU A n c xs :: ps) :=
  (h.freshU hb hu hA).addP (pfU B m d ys) hu' fun e he b h1 hf => by
    obtain ⟨_, off, rfl⟩ := hf
    have h3 : w.heap.size ≤ b := hB _ rfl
    have := e.lt (h.mine e he) h1
    omega
end
end Go.Proofs.YtnldopjbiacbfaaDoor.W
