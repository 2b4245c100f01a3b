/- math/bits.TrailingZeros32 over its table. No condition but the table's cells. -/
import Derived.Test.YtnldopjbiacbfaaDoorM1
import Derived.Test.YtnldopjbiacbfaaDoorM8
import Derived.Test.YtnldopjbiacbfaaDoorM29
import Derived.Shelf.Spec.TrailingZeros

namespace Go.Proofs.YtnldopjbiacbfaaDoor
open Go.RowKit Anv Go.Shelf

/-- The table of math/bits.TrailingZeros32 lies where the program has it. -/
def Deb (w : World) : Prop := ∀ j, j < 32 → w.cell? ⟨0, j, none⟩ = some (.int .u8 (Lib.deBruijn32tab.getD j 0 : Nat))
theorem Deb.lt {w : World} (h : Deb w) : 0 < w.heap.size := block_lt_of_cell (h 0 (by omega))
def pfT : PF := ⟨Deb, fun b => b = 0, fun h e => by subst e; exact h.lt, fun h _ hk j hj => (World.cell?_of_block (hk 0 rfl)).trans (h j hj)⟩
theorem St.addT {w0 w : World} {own : List Bk} {ps : List PF} (h : St w0 w own ps) (ht : Deb w0) (hw : Deb w) : St w0 w own (pfT :: ps) :=
  h.addP pfT hw (h.older pfT fun b hb => by subst hb; exact ht.lt)

set_option maxHeartbeats 1000000 in
theorem tz32_go (x k idx : Nat) (w : World) (hx0 : ((x : Int) == 0) = false)
    (key : bits BinOp.and IntKind.u32 (x : Int) (-(x : Int) % 4294967296) * 125613361 % 4294967296 / 134217728 = (idx : Int))
    (hi : idx < 32) (hk : k < 32) (hcell : w.cell? ⟨0, idx, none⟩ = some (.int .u8 k)) :
    Calls Tryd.prog 101 #[.int .u32 x] w fun e w' => e = .returned (.int .i64 k) ∧ w' = w := by
  go_enter Tryd.func101, Tryd.ntmps101
  go_wp2_with (simp only [key])
  go_ret
  exact ⟨rfl, rfl⟩

theorem isTz_ctz {x : Nat} (h0 : x ≠ 0) (hx : x < 4294967296) : IsTz x (Lib.ctz 32 x) := by
  unfold Lib.ctz
  rw [if_neg h0]
  obtain ⟨m, hm, _⟩ := Lib.ctzFrom_spec 32 x (by omega) hx
  exact isTz_of hm

theorem tz32 {x : Nat} {w : World} (h0 : x ≠ 0) (hx : x < 4294967296) (hT : Deb w) :
    Calls Tryd.prog 101 #[.int .u32 x] w fun e w' => ∃ k : Nat, e = .returned (.int .i64 k) ∧ IsTz x k ∧ k < 32 ∧ Below w.heap.size w w' := by
  obtain ⟨hlow, hk⟩ := Lib.lowest_bit 32 x h0 hx
  obtain ⟨hi, htab⟩ := Lib.deBruijn32_at _ hk
  have hcell := hT _ hi
  rw [htab] at hcell
  refine (tz32_go x _ _ w (by simp; omega) (tz32_key x _ hx h0 hlow) hi hk hcell).mono ?_
  rintro e w' ⟨rfl, rfl⟩
  exact ⟨_, rfl, isTz_ctz h0 hx, hk, Below.refl _ _⟩

theorem val_first {xs : List Nat} {j : Nat} (hj : j < xs.length) (h : ∀ i, i < j → xs.getD i 0 = 0) : ∃ r, val 4294967296 xs = 4294967296 ^ j * (xs.getD j 0 + 4294967296 * r) := by
  induction xs generalizing j with
  | nil => simp at hj
  | cons x xs ih =>
    rcases j with _ | j
    · exact ⟨val 4294967296 xs, by simp⟩
    · have h0 := h 0 (by omega)
      simp at h0
      obtain ⟨r, hr⟩ := ih (j := j) (by simpa using hj) fun i hi => by simpa using h (i + 1) (by omega)
      refine ⟨r, ?_⟩
      rw [val_cons, h0, hr, Nat.zero_add, Nat.pow_succ, Nat.mul_assoc, List.getD_cons_succ, ← Nat.mul_assoc, Nat.mul_comm 4294967296 (4294967296 ^ j), Nat.mul_assoc]
theorem val_none {xs : List Nat} (h : ∀ i, i < xs.length → xs.getD i 0 = 0) : val 4294967296 xs = 0 := by
  induction xs with
  | nil => rfl
  | cons x xs ih =>
    have h0 := h 0 (by simp)
    simp at h0
    rw [val_cons, h0, ih fun i hi => by simpa using h (i + 1) (by simpa using hi)]

end Go.Proofs.YtnldopjbiacbfaaDoor
