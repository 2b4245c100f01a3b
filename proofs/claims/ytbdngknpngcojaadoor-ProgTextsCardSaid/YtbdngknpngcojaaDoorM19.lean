/- A block whose first cells are numbers, written to in place; what a call may change beside it. No condition. -/
import Derived.Test.YtbdngknpngcojaaDoorM5
import Derived.ArgAppend
import Derived.Test.YtbdngknpngcojaaDoorM1

namespace Go.Proofs.YtbdngknpngcojaaDoor
open Go.RowKit Anv
theorem get_mid (pre win post : List Nat) (k i : Nat) (hk : pre.length = k) (hi : i < win.length) : (pre ++ win ++ post).getD (k + i) 0 = win.getD i 0 := by
  rw [List.append_assoc, ← hk]
  simp [List.getD, List.getElem?_append, hi, show ¬ pre.length + i < pre.length by omega]
def Lst (w : World) (g : Nat) (os : List Nat) : Prop := ∃ cur, w.heap[g]? = some (.cells cur 105 (0, 0)) ∧ ∀ i, i < os.length → cur[i]? = some (.int .u32 (os.getD i 0 : Nat))
section
variable {w w' : World} {g : Nat} {os : List Nat}
theorem Lst.lt (h : Lst w g os) : g < w.heap.size := by
  obtain ⟨cur, h, _⟩ := h
  exact (Array.getElem?_eq_some_iff.1 h).1
theorem Lst.cell (h : Lst w g os) (i : Nat) (hi : i < os.length) : w.cell? ⟨g, i, none⟩ = some (.int .u32 (os.getD i 0 : Nat)) := by
  obtain ⟨cur, h, hc⟩ := h
  rw [cell_of_row w g i _ _ (0, 0) h, hc i hi]
theorem Lst.frozen (h : Lst w g os) (i : Nat) : w.frozen? ⟨g, i, none⟩ = false := by
  obtain ⟨cur, h, _⟩ := h
  simp [World.frozen?, h]
theorem Lst.set (h : Lst w g os) (i v : Nat) : Lst (w.setCell ⟨g, i, none⟩ (.int .u32 (v : Nat))) g (os.set i v) := by
  obtain ⟨cur, h, hc⟩ := h
  refine ⟨cur.setIfInBounds i (.int .u32 (v : Nat)), by simp [World.setCell, Array.getElem?_modify, h], fun j hj => ?_⟩
  rw [List.length_set] at hj
  have h1 := hc j hj
  by_cases hij : i = j
  · subst hij
    rw [dset_eq hj]
    have := (Array.getElem?_eq_some_iff.1 h1).1
    simp [this]
  · rw [dset_ne hij, ← h1]
    simp [hij]
theorem Lst.set' (h : Lst w g os) (i : Nat) (x : Int) (v : Nat) (hv : x = (v : Nat)) : Lst (w.setCell ⟨g, i, none⟩ (.int .u32 x)) g (os.set i v) := by
  rw [hv]; exact h.set i v
theorem Lst.keep (h : Lst w g os) (hb : w'.heap[g]? = w.heap[g]?) : Lst w' g os := by
  obtain ⟨cur, h, hc⟩ := h
  exact ⟨cur, hb.trans h, hc⟩
theorem Lst.below (h : Lst w g os) {B : Nat} (hb : Below B w w') (hg : g < B) : Lst w' g os := h.keep (hb.block g hg)
theorem Lst.take (h : Lst w g os) (n : Nat) : Lst w g (os.take n) := by
  obtain ⟨cur, h, hc⟩ := h
  refine ⟨cur, h, fun i hi => ?_⟩
  rw [List.length_take] at hi
  rw [hc i (by omega)]
  congr 3
  simp [List.getD, show i < n by omega]
theorem Lst.u32 (h : Lst w g os) {pre win post : List Nat} {k n c : Nat} (e : os = pre ++ win ++ post) (hk : pre.length = k) (hn : win.length = n) (hc : n ≤ c) (hm : c ≤ maxLen) (hl : AllLt 4294967296 win) : U32 w (some ⟨g, k, none⟩) n c win :=
  ⟨hn, hc, hm, hl, fun _ => ⟨g, k, rfl, h.lt, fun i hi => by
    rw [h.cell (k + i) (by rw [e]; simp; omega), e, get_mid pre win post k i hk (by omega)]⟩⟩
end
theorem Own.lst {B : Nat} {w : World} {v : Value} {xs : List Nat} (h : Own B 105 w v xs) (h0 : 0 < xs.length) : ∃ g c, v = .slice (some ⟨g, 0, none⟩) xs.length c ∧ xs.length ≤ c ∧ c ≤ maxLen ∧ B ≤ g ∧ Lst w g xs := by
  obtain ⟨h1, h2⟩ := h
  rcases h2 with ⟨_, hn⟩ | ⟨g, cap, cur, hv, hB, hg, hc, hm, hs, ht⟩
  · omega
  · refine ⟨g, cap, hv, hc, hm, hB, cur, hg, fun i hi => ?_⟩
    have h3 : (cur.toList.take (xs.length * 1))[i]? = (xs.map fun n => Value.int .u32 (n : Nat))[i]? := by rw [ht]
    rw [List.getElem?_take, if_pos (by omega), Array.getElem?_toList] at h3
    rw [h3]
    simp [List.getD, hi]
structure Eff (g : Nat) (w w' : World) : Prop where
  os : w'.os = w.os
  tape : w'.tape = w.tape
  output : w'.output = w.output
  size : w.heap.size ≤ w'.heap.size
  block : ∀ k, k < w.heap.size → k ≠ g → w'.heap[k]? = w.heap[k]?
section
variable {w w' w'' : World} {g : Nat}
theorem Eff.refl (g : Nat) (w : World) : Eff g w w := ⟨rfl, rfl, rfl, Nat.le_refl _, fun _ _ _ => rfl⟩
theorem Eff.trans (h : Eff g w w') (k : Eff g w' w'') : Eff g w w'' :=
  ⟨k.os.trans h.os, k.tape.trans h.tape, k.output.trans h.output, Nat.le_trans h.size k.size, fun i hi hg => (k.block i (Nat.lt_of_lt_of_le hi h.size) hg).trans (h.block i hi hg)⟩
theorem Eff.set (h : Eff g w w') {p : Addr} (hp : p.block = g) (u : Value) : Eff g w (w'.setCell p u) :=
  h.trans ⟨rfl, rfl, rfl, by simp [World.setCell], fun k _ hk => Below.heap_setCell _ _ _ _ (by omega)⟩
theorem Eff.drew (h : Eff g w w') : Eff g w w'.drew := ⟨h.os, h.tape, h.output, h.size, h.block⟩
theorem Eff.drewN (h : Eff g w w') (n : Nat) : Eff g w (w'.drewN n) := ⟨h.os, h.tape, h.output, h.size, h.block⟩
theorem Eff.below {B : Nat} {w0 : World} (h : Eff g w w') (hb : Below B w0 w) (hg : B ≤ g) (hs : B ≤ w.heap.size) : Below B w0 w' :=
  hb.trans ⟨h.os, h.tape, h.output, h.size, fun k hk => h.block k (by omega) (by omega)⟩
theorem Eff.u32 (h : Eff g w w') {A : Option Addr} {n c : Nat} {xs : List Nat} (hx : U32 w A n c xs) (hA : ∀ a, A = some a → a.block ≠ g) : U32 w' A n c xs :=
  ⟨hx.len, hx.cap, hx.big, hx.lt, fun hp => by
    obtain ⟨b, off, rfl, hlt, hc⟩ := hx.cells hp
    have hk := h.block b hlt (hA _ rfl)
    exact ⟨b, off, rfl, Nat.lt_of_lt_of_le hlt h.size, fun i hi => by rw [← hc i hi]; exact World.cell?_of_block hk⟩⟩
end
theorem U32.far {w : World} {b n c : Nat} {xs : List Nat} (h : U32 w (some ⟨b, 0, none⟩) n c xs) {p : Addr} (hp : b ≠ p.block) (u : Value) : U32 (w.setCell p u) (some ⟨b, 0, none⟩) n c xs :=
  ⟨h.len, h.cap, h.big, h.lt, fun h0 => by
    obtain ⟨b', off, e, hlt, hc⟩ := h.cells h0
    cases e
    exact ⟨b, 0, rfl, by simp [World.setCell]; exact hlt, fun i hi => by rw [← hc i hi]; exact World.cell?_of_block (Below.heap_setCell _ _ _ _ hp)⟩⟩
end Go.Proofs.YtbdngknpngcojaaDoor

/- limb.less: a multiple taken off, in place. No condition. -/
namespace Go.Proofs.YtbdngknpngcojaaDoor
open Go.RowKit Anv
def LessPost (w : World) (g m : Nat) (pre post : List Nat) (W T : Nat) (e : Ending) (w' : World) : Prop :=
  ∃ os, ((T ≤ W ∧ e = .returned (.bool false) ∧ val 4294967296 os + T = W) ∨ (W < T ∧ e = .returned (.bool true) ∧ val 4294967296 os + T = W + 4294967296 ^ m)) ∧
    os.length = m ∧ AllLt 4294967296 os ∧ Lst w' g (pre ++ os ++ post) ∧ Eff g w w'
end Go.Proofs.YtbdngknpngcojaaDoor
