/- The zero value of a number. No condition. -/
import Derived.Test.YtnldopjbiacbfaaDoorM9
import Derived.Test.YtnldopjbiacbfaaDoorM16
import Derived.Test.YtnldopjbiacbfaaDoorM6

namespace Go.Proofs.YtnldopjbiacbfaaDoor
open Go.RowKit Anv

theorem zin_none (w : World) : ZIn w none 0 0 := ⟨by show (L 0).length = zl 0; rw [L_zero, zl_zero]; rfl, by rw [zl_zero]; exact Nat.le_refl _, by simp [maxLen], L_lt _, fun hp => by rw [zl_zero] at hp; omega⟩
theorem zcells : (Value.agg #[.bool false, .slice none 0 0]).cells = #[.bool (neg 0), .slice none (zl 0) 0] := by rw [neg_zero, zl_zero]; rfl
theorem zval : Value.agg #[.bool (neg 0), .slice none (zl 0) 0] = Value.agg #[.bool false, .slice none 0 0] := by rw [neg_zero, zl_zero]
section
variable {P : Program} {N : Nat} {a : Act} {l : List (Nat × Value)} {w : World} {d : Nat} {ty : TypeId} {pos : String} {af : Array Edge} {gd : Option (Nat × Bool)}
theorem rn_zint {T : Nat} {fs : Array Field} (hu : P.underlying T = some (.struct fs)) (hz : ∃ i, P.info? T = some i ∧ i.zero = some (.agg #[.bool false, .slice none 0 0])) (hs : ∀ f ∈ fs, ∃ i, P.info? f.type = some i) :
    (execOp a.eval ⟨some d, .build T #[], ty, pos, af, gd⟩).run P w = .ok (.value (.agg #[.bool (neg 0), .slice none (zl 0) 0])) w := by
  rw [zval]; exact rn_build0 hu hz ⟨_, rfl⟩ hs
end

end Go.Proofs.YtnldopjbiacbfaaDoor

/- What the laws of layer 2 need: contracts in the walk's form. No condition. -/
namespace Go.Proofs.YtnldopjbiacbfaaDoor
open Go.RowKit Anv

/-- The digits of z lie at A. -/
def pfR (A : Option Addr) (c : Nat) (z : Int) : PF := pfU A (dl z) c (D z.natAbs)
theorem St.addR {w0 w : World} {own : List Bk} {ps : List PF} {A : Option Addr} {c : Nat} {z : Int} (h : St w0 w own ps) (hu : RIn w A c z) (hn : noU own = true) : St w0 w own (pfR A c z :: ps) := St.addU h hu hn
theorem rin_none (w : World) : RIn w none 0 0 := ⟨by show (D 0).length = dl 0; rfl, by rw [dl_zero]; exact Nat.le_refl _, by simp [maxLen], fun x hx => by have : D 0 = [] := dig_zero _; rw [show (0 : Int).natAbs = 0 from rfl, this] at hx; simp at hx, fun hp => by rw [dl_zero] at hp; omega⟩
theorem rcells : (Value.agg #[.bool false, .slice none 0 0]).cells = #[.bool (neg 0), .slice none (dl 0) 0] := by rw [neg_zero, dl_zero]; rfl

theorem dl_zl (z : Int) : dl z ≤ 2 * zl z := dn_le_of_lt (by rw [Nat.pow_mul]; exact lt_nl z.natAbs)
theorem make_rz {A : Option Addr} {c : Nat} {z : Int} {w : World} (h : ZIn w A c z) (hn : zl z ≤ 1000000) :
    Calls Tryd.prog 79 #[.bool (neg z), .slice A (zl z) c] w fun e w' => ∃ v, e = .returned v ∧ RAt w' v z ∧ Below w.heap.size w w' := by
  refine (make_r h hn).mono ?_
  rintro e w' ⟨v, rfl, hr, hb⟩
  rw [val_L, sg_self] at hr
  exact ⟨v, rfl, hr, hb⟩
/-- A number out of a statement's argument. -/
theorem of_given {b : Bool} {A : Option Addr} {n c : Nat} {xs : List Nat} {z : Int} {w : World} (h : U32 w A n c xs) (hn : n ≤ 60) (hz : sg b (val 4294967296 xs) = z) :
    Calls Tryd.prog 19 #[.agg #[.bool b, .slice A n c]] w fun e w' => ∃ v u, e = .returned (.tuple #[v, u]) ∧ ZAt w' v z ∧ RAt w' u z ∧ Below w.heap.size w w' := by
  subst hz; exact of_any h hn
theorem given_bd {b : Bool} {A : Option Addr} {n c : Nat} {xs : List Nat} {w : World} (h : U32 w A n c xs) : zl (sg b (val 4294967296 xs)) ≤ n := by
  have h1 := val_lt h.lt
  rw [h.len] at h1
  rw [sg_zl]; exact nl_le_of_lt h1
theorem long_own1 {g : Nat} {t : TypeId} {b0 : Bool} {A0 : Option Addr} {n0 c0 : Nat} {w : World} (hg : w.heap[g]? = some (.cells #[.bool b0, .slice A0 n0 c0] t (0, 0))) (h0 : n0 ≤ maxLen) (b : Bool) (hb : b = decide (60 < n0)) :
    Calls Tryd.prog 18 #[.slice (some ⟨g, 0, none⟩) 1 1] w fun e w' => e = .returned (.bool b) ∧ Below w.heap.size w w' := by
  refine (long_any (k := 1) [(b0, A0, n0, c0)] hg rfl (by omega) (by
    intro x hx
    simp only [List.mem_cons, List.not_mem_nil, or_false] at hx
    rcases hx with rfl
    exact h0)).mono ?_
  rintro e w' ⟨rfl, rfl⟩
  refine ⟨?_, Below.refl _ _⟩
  subst hb
  simp
theorem long_own2 {g : Nat} {t : TypeId} {b0 : Bool} {A0 : Option Addr} {n0 c0 : Nat} {b1 : Bool} {A1 : Option Addr} {n1 c1 : Nat} {w : World} (hg : w.heap[g]? = some (.cells #[.bool b0, .slice A0 n0 c0, .bool b1, .slice A1 n1 c1] t (0, 0))) (h0 : n0 ≤ maxLen) (h1 : n1 ≤ maxLen) (b : Bool) (hb : b = decide (60 < n0 ∨ 60 < n1)) :
    Calls Tryd.prog 18 #[.slice (some ⟨g, 0, none⟩) 2 2] w fun e w' => e = .returned (.bool b) ∧ Below w.heap.size w w' := by
  refine (long_any (k := 2) [(b0, A0, n0, c0), (b1, A1, n1, c1)] hg rfl (by omega) (by
    intro x hx
    simp only [List.mem_cons, List.not_mem_nil, or_false] at hx
    rcases hx with rfl | rfl
    · exact h0
    · exact h1)).mono ?_
  rintro e w' ⟨rfl, rfl⟩
  refine ⟨?_, Below.refl _ _⟩
  subst hb
  simp
theorem long_own3 {g : Nat} {t : TypeId} {b0 : Bool} {A0 : Option Addr} {n0 c0 : Nat} {b1 : Bool} {A1 : Option Addr} {n1 c1 : Nat} {b2 : Bool} {A2 : Option Addr} {n2 c2 : Nat} {w : World} (hg : w.heap[g]? = some (.cells #[.bool b0, .slice A0 n0 c0, .bool b1, .slice A1 n1 c1, .bool b2, .slice A2 n2 c2] t (0, 0))) (h0 : n0 ≤ maxLen) (h1 : n1 ≤ maxLen) (h2 : n2 ≤ maxLen) (b : Bool) (hb : b = decide (60 < n0 ∨ 60 < n1 ∨ 60 < n2)) :
    Calls Tryd.prog 18 #[.slice (some ⟨g, 0, none⟩) 3 3] w fun e w' => e = .returned (.bool b) ∧ Below w.heap.size w w' := by
  refine (long_any (k := 3) [(b0, A0, n0, c0), (b1, A1, n1, c1), (b2, A2, n2, c2)] hg rfl (by omega) (by
    intro x hx
    simp only [List.mem_cons, List.not_mem_nil, or_false] at hx
    rcases hx with rfl | rfl | rfl
    · exact h0
    · exact h1
    · exact h2)).mono ?_
  rintro e w' ⟨rfl, rfl⟩
  refine ⟨?_, Below.refl _ _⟩
  subst hb
  simp
theorem is_same {A B : Option Addr} {c d : Nat} {z y : Int} {w : World} (hx : ZIn w A c z) (hy : RIn w B d y) (h : y = z) (hn : zl z ≤ 1000000) (hm : dl z ≤ 1000000) :
    Calls Tryd.prog 28 #[.agg #[.bool (neg z), .slice A (zl z) c], .agg #[.bool (neg y), .slice B (dl y) d]] w fun e w' => e = .returned (.bool true) ∧ Below w.heap.size w w' := by
  subst h; exact is_true hx hy hn hm

end Go.Proofs.YtnldopjbiacbfaaDoor
