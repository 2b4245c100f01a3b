/- Lasting facts on numbers. No condition. -/
import Derived.Test.YtbdngknpngcojaaDoorM12
import Derived.Test.YtbdngknpngcojaaDoorM4
import Derived.Test.YtbdngknpngcojaaDoorM3

namespace Go.Proofs.YtbdngknpngcojaaDoor
open Go.RowKit Anv
theorem u32_keep {w w' : World} {A : Option Addr} {n c : Nat} {xs : List Nat} (h : U32 w A n c xs) (hk : ∀ b, (0 < n ∧ ∃ off, A = some ⟨b, off, none⟩) → w'.heap[b]? = w.heap[b]?) : U32 w' A n c xs :=
  ⟨h.len, h.cap, h.big, h.lt, fun hp => by
    obtain ⟨b, off, rfl, hlt, hc⟩ := h.cells hp
    have hb := hk b ⟨hp, off, rfl⟩
    have hlt' : b < w'.heap.size := by
      rcases Nat.lt_or_ge b w'.heap.size with h1 | h1
      · exact h1
      · rw [Array.getElem?_eq_none h1] at hb
        rw [Array.getElem?_eq_getElem hlt] at hb; cases hb
    exact ⟨b, off, rfl, hlt', fun i hi => (World.cell?_of_block (w := w) (a := ⟨b, off + i, none⟩) hb).trans (hc i hi)⟩⟩
def pfU (A : Option Addr) (n c : Nat) (xs : List Nat) : PF :=
  ⟨fun w => U32 w A n c xs, fun b => 0 < n ∧ ∃ off, A = some ⟨b, off, none⟩, fun h ⟨hp, off, e⟩ => by
    obtain ⟨b, o, e', hlt, _⟩ := h.cells hp
    rw [e] at e'; cases e'; exact hlt, fun h _ hk => u32_keep h hk⟩
def pfZ (A : Option Addr) (c : Nat) (z : Int) : PF := pfU A (zl z) c (L z.natAbs)
def notU : Value → Bool
  | .int .u32 _ => false
  | _ => true
def noU (own : List Bk) : Bool := own.all fun e => e.c.toList.all notU
theorem St.addU {w0 w : World} {own : List Bk} {ps : List PF} {A : Option Addr} {n c : Nat} {xs : List Nat} (h : St w0 w own ps) (hu : U32 w A n c xs) (hn : noU own = true) : St w0 w own (pfU A n c xs :: ps) :=
  h.addP (pfU A n c xs) hu fun e he hf => by
    obtain ⟨hp, off, rfl⟩ := hf
    obtain ⟨b, o, e', _, hc⟩ := hu.cells hp
    cases e'
    have h1 := hc 0 hp
    rw [cell_of_row w _ _ _ _ _ (h.mine e he).2] at h1
    have h2 := List.all_eq_true.1 (List.all_eq_true.1 hn e he) _ (Array.mem_toList_iff.2 (Array.mem_of_getElem? h1))
    simp [notU] at h2
end Go.Proofs.YtbdngknpngcojaaDoor

/- Rows of numbers: read through what is known of them. Over any program. No condition. -/
namespace Go.Proofs.YtbdngknpngcojaaDoor
open Go.RowKit Anv
def ab (A : Option Addr) : Nat := match A with
  | some a => a.block
  | none => 0
def ao (A : Option Addr) : Nat := match A with
  | some a => a.off
  | none => 0
section
variable {P : Program} {K : Act → World → Prop} {Q : Exit → Act → World → Prop} {N : Nat} {dq : List Deferred} {a : Act} {l : List (Nat × Value)} {w w0 : World} {own : List Bk} {ps : List PF}
variable {d : Nat} {ty : TypeId} {pos : String} {af : Array Edge} {gd : Option (Nat × Bool)}
theorem U32.ab {A : Option Addr} {n c : Nat} {xs : List Nat} (h : U32 w A n c xs) (hp : 0 < n) : A = some ⟨ab A, ao A, none⟩ := by
  obtain ⟨b, off, rfl, _, _⟩ := h.cells hp
  rfl
theorem U32.at {A : Option Addr} {n c : Nat} {xs : List Nat} (h : U32 w A n c xs) {i : Nat} (hi : i < n) : w.cell? ⟨Go.Proofs.YtbdngknpngcojaaDoor.ab A, ao A + i, none⟩ = some (.int .u32 (xs.getD i 0 : Nat)) := by
  obtain ⟨b, off, rfl, _, hc⟩ := h.cells (by omega)
  exact hc i hi
theorem rn_idxU {x y : Operand} {T E i n c : Nat} {A : Option Addr} {xs : List Nat} {k : IntKind} (h : EnvD dq N a l) (hT : P.underlying T = some (.slice E)) (hE : ∃ j, P.info? E = some j ∧ j.size = 1) (hx : evl l x = some (.slice A n c)) (hy : evl l y = some (.int k (i : Nat))) (hi : i < n) (hu : U32 w A n c xs) :
    (execOp a.eval ⟨some d, .indexAddr T x y, ty, pos, af, gd⟩).run P w = .ok (.value (.pointer (some ⟨Go.Proofs.YtbdngknpngcojaaDoor.ab A, ao A + i, none⟩))) w := by
  have hA := hu.ab (by omega)
  have := rn_indexAddr (w := w) (d := d) (ty := ty) (pos := pos) (af := af) (gd := gd) h hT hE (hx.trans (by rw [← hA])) hy hi
  rw [Nat.mul_one] at this
  exact this
theorem rn_loadU {x : Operand} {T i n c : Nat} {A : Option Addr} {xs : List Nat} (h : EnvD dq N a l) (hT : TOne P T) (hx : evl l x = some (.pointer (some ⟨Go.Proofs.YtbdngknpngcojaaDoor.ab A, ao A + i, none⟩))) (hi : i < n) (hu : U32 w A n c xs) :
    (execOp a.eval ⟨some d, .load T x, ty, pos, af, gd⟩).run P w = .ok (.value (.int .u32 (xs.getD i 0 : Nat))) w :=
  rn_loadc h hT hx (hu.at hi)
theorem rn_idxO {x y : Operand} {T E i n c z p g o : Nat} {k : IntKind} (h : EnvD dq N a l) (hT : P.underlying T = some (.slice E)) (hE : ∃ j, P.info? E = some j ∧ j.size = z) (hx : evl l x = some (.slice (some ⟨g, o, none⟩) n c)) (hy : evl l y = some (.int k (i : Nat))) (hi : i < n) (hp : o + i * z = p) :
    (execOp a.eval ⟨some d, .indexAddr T x y, ty, pos, af, gd⟩).run P w = .ok (.value (.pointer (some ⟨g, p, none⟩))) w := by
  subst hp
  exact rn_indexAddr h hT hE hx hy hi
end
end Go.Proofs.YtbdngknpngcojaaDoor

/- Rows of numbers that the call itself fills; quotients, shifts. Over any program. No condition. -/
namespace Go.Proofs.YtbdngknpngcojaaDoor
open Go.RowKit Anv
section
variable {P : Program} {K : Act → World → Prop} {Q : Exit → Act → World → Prop} {N : Nat} {dq : List Deferred} {a : Act} {l : List (Nat × Value)} {w w0 : World} {own : List Bk} {ps : List PF}
variable {d : Nat} {ty : TypeId} {pos : String} {af : Array Edge} {gd : Option (Nat × Bool)}
theorem St.giveU (h : St w0 w own ps) {k g : Nat} {xs : List Nat} {t : TypeId} (hk : own[k]? = some ⟨g, nums .u32 xs, t⟩) (hl : AllLt 4294967296 xs) {n : Nat} (hn : xs.length = n) (hm : n ≤ maxLen) :
    St w0 w (own.eraseIdx k) (pfU (some ⟨g, 0, none⟩) n n xs :: ps) := by
  have hg := h.oat hk
  have ha : Arr .u32 t w g xs := hg
  have hlen : k < own.length := by
    rcases Nat.lt_or_ge k own.length with h | h
    · exact h
    · rw [List.getElem?_eq_none h] at hk; cases hk
  have hmem : ∀ e ∈ own.eraseIdx k, e ∈ own ∧ e.g ≠ g := by
    intro e he
    obtain ⟨i, hi, rfl⟩ := List.getElem_of_mem he
    rw [List.getElem_eraseIdx]
    have hi' : i < own.length - 1 := by rw [List.length_eraseIdx_of_lt hlen] at hi; exact hi
    split
    · rename_i hlt
      have hb : Nat.beq i k = false := by
        cases hb : Nat.beq i k with
        | false => rfl
        | true => have := Nat.eq_of_beq_eq_true hb; omega
      exact ⟨List.getElem_mem _, h.one (List.getElem?_eq_getElem (by omega)) hk hb⟩
    · rename_i hge
      have hb : Nat.beq (i + 1) k = false := by
        cases hb : Nat.beq (i + 1) k with
        | false => rfl
        | true => have := Nat.eq_of_beq_eq_true hb; omega
      exact ⟨List.getElem_mem _, h.one (List.getElem?_eq_getElem (by omega)) hk hb⟩
  refine ⟨h.below, fun e he => h.mine e (hmem e he).1, ?_, fun p hp => ?_, fun p hp e he hf => ?_⟩
  · exact List.Nodup.sublist ((List.eraseIdx_sublist own k).map Bk.g) h.nd
  · rcases List.mem_cons.1 hp with rfl | hp
    · exact ha.u32 hl hn hm
    · exact h.pers p hp
  · rcases List.mem_cons.1 hp with rfl | hp
    · obtain ⟨_, off, hof⟩ := hf
      cases hof
      exact (hmem e he).2 rfl
    · exact h.apart p hp e (hmem e he).1 hf
theorem rn_quo {x y : Operand} {T yt : Nat} {k : IntKind} {m n : Int} {z : Int} (h : EnvD dq N a l) (hx : evl l x = some (.int k m)) (hy : evl l y = some (.int k n)) (h0 : n ≠ 0) (hw : k.wrap (m.tdiv n) = z) :
    (execOp a.eval ⟨some d, .binOp .quo T x y yt, ty, pos, af, gd⟩).run P w = .ok (.value (.int k z)) w := by
  subst hw
  exact rn_bin h hx hy (by simp [eqGuard, binOp, Op.intDiv, h0])
theorem rn_rem {x y : Operand} {T yt : Nat} {k : IntKind} {m n : Int} {z : Int} (h : EnvD dq N a l) (hx : evl l x = some (.int k m)) (hy : evl l y = some (.int k n)) (h0 : n ≠ 0) (hw : m.tmod n = z) :
    (execOp a.eval ⟨some d, .binOp .rem T x y yt, ty, pos, af, gd⟩).run P w = .ok (.value (.int k z)) w := by
  subst hw
  exact rn_bin h hx hy (by simp [eqGuard, binOp, Op.intDiv, h0])
theorem rn_shr {x y : Operand} {T yt : Nat} {k k' : IntKind} {m : Int} {s : Nat} {z : Int} (h : EnvD dq N a l) (hx : evl l x = some (.int k m)) (hy : evl l y = some (.int k' (s : Nat))) (hs : s ≤ k.bits) (hw : m.fdiv (2 ^ s) = z) :
    (execOp a.eval ⟨some d, .binOp .shr T x y yt, ty, pos, af, gd⟩).run P w = .ok (.value (.int k z)) w := by
  subst hw
  refine rn_bin h hx hy ?_
  have h1 : ¬ ((s : Int) < 0) := by omega
  simp [eqGuard, binOp, Op.shift, h1, Nat.min_eq_left hs]
theorem tdiv_nat (m n : Nat) : (m : Int).tdiv (n : Int) = ((m / n : Nat) : Int) := rfl
theorem tmod_nat (m n : Nat) : (m : Int).tmod (n : Int) = ((m % n : Nat) : Int) := rfl
theorem fdiv_nat (m n : Nat) : (m : Int).fdiv (n : Int) = ((m / n : Nat) : Int) := by rw [Int.fdiv_eq_ediv_of_nonneg _ (by omega)]; rfl
end
end Go.Proofs.YtbdngknpngcojaaDoor
