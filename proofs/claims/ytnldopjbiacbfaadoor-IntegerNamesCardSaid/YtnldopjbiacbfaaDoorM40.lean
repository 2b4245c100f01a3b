/- integer.Gcd. No condition. -/
import Derived.Test.YtnldopjbiacbfaaDoorM21
import Derived.Deep.LoopGhost
import Derived.WalkMore

namespace Go.Proofs.YtnldopjbiacbfaaDoor
open Go.RowKit Anv

/-- Abs, and that it makes three blocks alone. -/
theorem abs_x {A : Option Addr} {c : Nat} {z : Int} {w : World} :
    Calls Tryd.prog 106 #[.agg #[.bool (neg z), .slice A (zl z) c]] w fun e w' => e = .returned (.agg #[.bool false, .slice A (zl z) c]) ∧ ∃ o o' o'', w' = ((w.alloc o).alloc o').alloc o'' := by
  go_enter Tryd.func106, Tryd.ntmps106
  go_wp2_with fail
  refine (made_x _ _ _ _ _).mono ?_
  rintro e w1 ⟨rfl, o, rfl⟩
  go_wp2
  exact bodyPost_ret (v := .agg #[.bool false, .slice A (zl z) c]) (by simp [results, Tryd.results106, go_sem]) rfl ⟨rfl, _, _, _, rfl⟩

/-- Blocks one behind the other. -/
def stack (w : World) : List Obj → World
  | [] => w
  | o :: l => stack (w.alloc o) l
theorem stack_below (w : World) (l : List Obj) : Below w.heap.size w (stack w l) ∧ (stack w l).heap.size = w.heap.size + l.length := by
  induction l generalizing w with
  | nil => exact ⟨Below.refl _ _, rfl⟩
  | cons o l ih =>
    have h := ih (w.alloc o)
    have e : (w.alloc o).heap.size = w.heap.size + 1 := by simp
    refine ⟨thru (below1 w o) h.1, ?_⟩
    show (stack (w.alloc o) l).heap.size = _
    rw [h.2, e, List.length_cons]; omega
theorem stack_at (w : World) (l : List Obj) (i : Nat) (o : Obj) (h : l[i]? = some o) : (stack w l).heap[w.heap.size + i]? = some o := by
  induction l generalizing w i with
  | nil => simp at h
  | cons a l ih =>
    have hs := (stack_below (w.alloc a) l).1
    have e : (w.alloc a).heap.size = w.heap.size + 1 := by simp
    rcases i with _ | i
    · simp at h
      subst h
      show (stack (w.alloc a) l).heap[w.heap.size]? = _
      rw [hs.block w.heap.size (by omega)]
      exact heap_alloc_new w a
    · have := ih (w.alloc a) i (by simpa using h)
      rw [e, show w.heap.size + 1 + i = w.heap.size + (i + 1) by omega] at this
      exact this
theorem eight (w : World) (a b c d e f g h : Obj) : ((((((((w.alloc a).alloc b).alloc c).alloc d).alloc e).alloc f).alloc g).alloc h) = stack w [a, b, c, d, e, f, g, h] := rfl
theorem eight_box {w : World} {l : List Obj} (i : Nat) {t : TypeId} {u v : Value} {g : Nat} (hg : g = w.heap.size + i) (h : l[i]? = some (.cells #[u, v] t)) : Box2 t (stack w l).drew g u v := by
  subst hg; exact stack_at w l i _ h

theorem oct0 (w : World) (b c d e f g h : Obj) {t : TypeId} {u v : Value} {n : Nat} (hn : n = w.heap.size + 0) : Box2 t ((((((((w.alloc (.cells #[u, v] t)).alloc b).alloc c).alloc d).alloc e).alloc f).alloc g).alloc h).drew n u v := eight_box (w := w) (l := [(.cells #[u, v] t), b, c, d, e, f, g, h]) 0 hn rfl
theorem oct1 (w : World) (a c d e f g h : Obj) {t : TypeId} {u v : Value} {n : Nat} (hn : n = w.heap.size + 1) : Box2 t ((((((((w.alloc a).alloc (.cells #[u, v] t)).alloc c).alloc d).alloc e).alloc f).alloc g).alloc h).drew n u v := eight_box (w := w) (l := [a, (.cells #[u, v] t), c, d, e, f, g, h]) 1 hn rfl
theorem oct2 (w : World) (a b d e f g h : Obj) {t : TypeId} {u v : Value} {n : Nat} (hn : n = w.heap.size + 2) : Box2 t ((((((((w.alloc a).alloc b).alloc (.cells #[u, v] t)).alloc d).alloc e).alloc f).alloc g).alloc h).drew n u v := eight_box (w := w) (l := [a, b, (.cells #[u, v] t), d, e, f, g, h]) 2 hn rfl
theorem oct3 (w : World) (a b c e f g h : Obj) {t : TypeId} {u v : Value} {n : Nat} (hn : n = w.heap.size + 3) : Box2 t ((((((((w.alloc a).alloc b).alloc c).alloc (.cells #[u, v] t)).alloc e).alloc f).alloc g).alloc h).drew n u v := eight_box (w := w) (l := [a, b, c, (.cells #[u, v] t), e, f, g, h]) 3 hn rfl
theorem oct4 (w : World) (a b c d f g h : Obj) {t : TypeId} {u v : Value} {n : Nat} (hn : n = w.heap.size + 4) : Box2 t ((((((((w.alloc a).alloc b).alloc c).alloc d).alloc (.cells #[u, v] t)).alloc f).alloc g).alloc h).drew n u v := eight_box (w := w) (l := [a, b, c, d, (.cells #[u, v] t), f, g, h]) 4 hn rfl
theorem oct5 (w : World) (a b c d e g h : Obj) {t : TypeId} {u v : Value} {n : Nat} (hn : n = w.heap.size + 5) : Box2 t ((((((((w.alloc a).alloc b).alloc c).alloc d).alloc e).alloc (.cells #[u, v] t)).alloc g).alloc h).drew n u v := eight_box (w := w) (l := [a, b, c, d, e, (.cells #[u, v] t), g, h]) 5 hn rfl
theorem oct6 (w : World) (a b c d e f h : Obj) {t : TypeId} {u v : Value} {n : Nat} (hn : n = w.heap.size + 6) : Box2 t ((((((((w.alloc a).alloc b).alloc c).alloc d).alloc e).alloc f).alloc (.cells #[u, v] t)).alloc h).drew n u v := eight_box (w := w) (l := [a, b, c, d, e, f, (.cells #[u, v] t), h]) 6 hn rfl
theorem oct7 (w : World) (a b c d e f g : Obj) {t : TypeId} {u v : Value} {n : Nat} (hn : n = w.heap.size + 7) : Box2 t ((((((((w.alloc a).alloc b).alloc c).alloc d).alloc e).alloc f).alloc g).alloc (.cells #[u, v] t)).drew n u v := eight_box (w := w) (l := [a, b, c, d, e, f, g, (.cells #[u, v] t)]) 7 hn rfl

theorem keep4 {W X : World} {B g2 g3 : Nat} {v0 v1 v2 v3 : Value} (a0 : W.cell? ⟨g2, 0, none⟩ = some v0) (a1 : W.cell? ⟨g2, 1, none⟩ = some v1) (a2 : W.cell? ⟨g3, 0, none⟩ = some v2) (a3 : W.cell? ⟨g3, 1, none⟩ = some v3) (l2 : g2 < B) (l3 : g3 < B) (h : Below B W X) :
    X.cell? ⟨g2, 0, none⟩ = some v0 ∧ X.cell? ⟨g2, 1, none⟩ = some v1 ∧ X.cell? ⟨g3, 0, none⟩ = some v2 ∧ X.cell? ⟨g3, 1, none⟩ = some v3 :=
  ⟨(h.cell (p := ⟨g2, 0, none⟩) l2).trans a0, (h.cell (p := ⟨g2, 1, none⟩) l2).trans a1, (h.cell (p := ⟨g3, 0, none⟩) l3).trans a2, (h.cell (p := ⟨g3, 1, none⟩) l3).trans a3⟩

theorem neg_nat (n : Nat) : neg (n : Int) = false := by unfold neg; simp
theorem gcd_step (m n : Nat) : Nat.gcd n (m % n) = Nat.gcd m n := by
  rw [Nat.gcd_comm n (m % n), ← Nat.gcd_rec n m, Nat.gcd_comm]

end Go.Proofs.YtnldopjbiacbfaaDoor
