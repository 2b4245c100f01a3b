/- Over rows of limbs: slices.Equal, MulSmall, Gcd, works. Printed by pv/gen_limb.py. No condition. -/
import Derived.Test.YtghaenkacjgdnaaDoorM24
import Derived.Test.YtghaenkacjgdnaaDoorM12
import Derived.Test.YtghaenkacjgdnaaDoorM26
import Derived.Test.YtghaenkacjgdnaaDoorM3
import Derived.Test.YtghaenkacjgdnaaDoorM25

namespace Go.Proofs.YtghaenkacjgdnaaDoor.W
open Go.RowKit Anv
theorem text_num {A : Option Addr} {n c N : Nat} {w : World} (h : NumIn w A n c N) (hn : n ≤ 1000000) :
    Calls Tryd.prog 83 #[.slice A n c] w fun e w' => e = .returned (.string ⟨(textN N).toArray⟩) ∧ Below w.heap.size w w' := by
  obtain ⟨xs, hx, rfl⟩ := h
  exact text_any hx hn
end Go.Proofs.YtghaenkacjgdnaaDoor.W

/- The reference of layer 1: plain laws; results that are rows of the call's own. No condition. -/
namespace Go.Proofs.YtghaenkacjgdnaaDoor.W
open Go.RowKit Anv
def vals (xs : List Nat) : List Value := xs.map fun n => Value.int .u32 (n : Nat)
theorem row_step {os : List Nat} {i t : Nat} (hl : os.length = i) : val 4294967296 (os ++ [t % 4294967296]) + t / 4294967296 * 4294967296 ^ (i + 1) = val 4294967296 os + t * 4294967296 ^ i := by
  subst hl
  rw [val_append, Nat.pow_succ, Nat.mul_comm (4294967296 ^ os.length) 4294967296, ← Nat.mul_assoc, show val 4294967296 [t % 4294967296] = t % 4294967296 by simp [val], Nat.add_assoc, Nat.mul_comm (4294967296 ^ os.length) (t % 4294967296), ← Nat.add_mul]
  congr 2
  have := Nat.div_add_mod t 4294967296
  omega
section
variable {w0 w : World} {own ps : List PF} {k n E : Nat} {v : Value} {xs : List Nat}
end
theorem getD_ge {xs : List Nat} {i n : Nat} (h : xs.length = n) (hi : n ≤ i) : xs.getD i 0 = 0 := by simp [List.getD, h, hi]
end Go.Proofs.YtghaenkacjgdnaaDoor.W

/- The reference of layer 1, walked. Printed by pv/gen_ref01.py. No condition. -/
namespace Go.Proofs.YtghaenkacjgdnaaDoor.W
open Go.RowKit Anv
end Go.Proofs.YtghaenkacjgdnaaDoor.W
