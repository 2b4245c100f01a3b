/- More of layer 2: clones, limbs, small numbers. No condition. -/
import Derived.Test.YtbdngknpngcojaaDoorM4
import Derived.Test.YtbdngknpngcojaaDoorM5
import Derived.Lib.SliceRun

namespace Go.Proofs.YtbdngknpngcojaaDoor
open Go.RowKit Anv
end Go.Proofs.YtbdngknpngcojaaDoor

/- integer.Of, Sub, Times, Cmp, Small. No condition. -/
namespace Go.Proofs.YtbdngknpngcojaaDoor
open Go.RowKit Anv
theorem nl_le_of_lt {N k : Nat} (h : N < 4294967296 ^ k) : nl N ≤ k := dig_len_of_lt (by omega) h
end Go.Proofs.YtbdngknpngcojaaDoor

/- integer.Sub, Times, Cmp. No condition. -/
namespace Go.Proofs.YtbdngknpngcojaaDoor
open Go.RowKit Anv
end Go.Proofs.YtbdngknpngcojaaDoor

/- integer.Times, Small. No condition. -/
namespace Go.Proofs.YtbdngknpngcojaaDoor
open Go.RowKit Anv
def smallV (z : Int) : Value := if -9223372036854775808 ≤ z ∧ z ≤ 9223372036854775807 then .tuple #[.int .i64 z, .bool true] else .tuple #[.int .i64 0, .bool false]
end Go.Proofs.YtbdngknpngcojaaDoor

/- The reference's numbers: norm. No condition. -/
namespace Go.Proofs.YtbdngknpngcojaaDoor
open Go.RowKit Anv
def D (N : Nat) : List Nat := dig 65536 N
def dn (N : Nat) : Nat := (D N).length
def dl (z : Int) : Nat := dn z.natAbs
theorem wide {xs : List Nat} (h : AllLt 65536 xs) : AllLt 4294967296 xs := fun x hx => by have := h x hx; omega
def RIn (w : World) (A : Option Addr) (c : Nat) (z : Int) : Prop := U32 w A (dl z) c (D z.natAbs)
def RAt (w : World) (v : Value) (z : Int) : Prop := ∃ A c, v = .agg #[.bool (neg z), .slice A (dl z) c] ∧ RIn w A c z
theorem RIn.below {w w' : World} {A : Option Addr} {c : Nat} {z : Int} (h : RIn w A c z) (hb : Below w.heap.size w w') : RIn w' A c z := U32.below h hb
theorem RAt.below {w w' : World} {v : Value} {z : Int} (h : RAt w v z) (hb : Below w.heap.size w w') : RAt w' v z := by
  obtain ⟨A, c, rfl, hz⟩ := h
  exact ⟨A, c, rfl, hz.below hb⟩
def NormPost (w : World) (A : Option Addr) (c : Nat) (b : Bool) (N : Nat) (e : Ending) (w' : World) : Prop :=
  e = .returned (.agg #[.bool (neg (sg b N)), .slice A (dl (sg b N)) c]) ∧ RIn w' A c (sg b N) ∧ Below w.heap.size w w'
end Go.Proofs.YtbdngknpngcojaaDoor

/- The reference's plus, minus. No condition. -/
namespace Go.Proofs.YtbdngknpngcojaaDoor
open Go.RowKit Anv
end Go.Proofs.YtbdngknpngcojaaDoor

/- The reference's minus. No condition. -/
namespace Go.Proofs.YtbdngknpngcojaaDoor
open Go.RowKit Anv
end Go.Proofs.YtbdngknpngcojaaDoor

/- The reference's size: digits held against digits. No condition. -/
namespace Go.Proofs.YtbdngknpngcojaaDoor
open Go.RowKit Anv
end Go.Proofs.YtbdngknpngcojaaDoor

/- The reference: signs, sums, differences. No condition. -/
namespace Go.Proofs.YtbdngknpngcojaaDoor
open Go.RowKit Anv
end Go.Proofs.YtbdngknpngcojaaDoor

/- The reference: sums. No condition. -/
namespace Go.Proofs.YtbdngknpngcojaaDoor
open Go.RowKit Anv
end Go.Proofs.YtbdngknpngcojaaDoor

/- The reference: comparisons; digits out of limbs and back. No condition. -/
namespace Go.Proofs.YtbdngknpngcojaaDoor
open Go.RowKit Anv
end Go.Proofs.YtbdngknpngcojaaDoor

/- The reference: digits out of limbs. No condition. -/
namespace Go.Proofs.YtbdngknpngcojaaDoor
open Go.RowKit Anv
def halves (xs : List Nat) : List Nat := xs.flatMap fun x => [x % 65536, x / 65536]
end Go.Proofs.YtbdngknpngcojaaDoor

/- The reference: limbs out of digits. No condition. -/
namespace Go.Proofs.YtbdngknpngcojaaDoor
open Go.RowKit Anv
def prs (ds : List Nat) (k : Nat) : List Nat := (List.range k).map fun j => ds.getD (2 * j) 0 + 65536 * ds.getD (2 * j + 1) 0
end Go.Proofs.YtbdngknpngcojaaDoor

/- The reference: small numbers, products. No condition. -/
namespace Go.Proofs.YtbdngknpngcojaaDoor
open Go.RowKit Anv
end Go.Proofs.YtbdngknpngcojaaDoor

/- The reference: products. No condition. -/
namespace Go.Proofs.YtbdngknpngcojaaDoor
open Go.RowKit Anv
def RowInv (ys os : List Nat) (n m k q cc x T : Nat) : Prop :=
  os.length = n + m + 1 ∧ AllLt 65536 os ∧ val 65536 os + 65536 ^ (k + q) * cc = T + 65536 ^ k * (x * val 65536 (ys.take q)) ∧
    (∀ j, k + m + 1 ≤ j → os.getD j 0 = 0) ∧ (q ≤ m → os.getD (k + m) 0 = 0) ∧ (q = m + 1 → cc = 0) ∧ q ≤ m + 1
end Go.Proofs.YtbdngknpngcojaaDoor

/- The statements' own small functions: is, zero, live, long, of. No condition. -/
namespace Go.Proofs.YtbdngknpngcojaaDoor
open Go.RowKit Anv
end Go.Proofs.YtbdngknpngcojaaDoor

/- The statements' own small functions: live, long, of. No condition. -/
namespace Go.Proofs.YtbdngknpngcojaaDoor
open Go.RowKit Anv
def flat (l : List (Bool × Option Addr × Nat × Nat)) : List Value := l.flatMap fun x => [.bool x.1, .slice x.2.1 x.2.2.1 x.2.2.2]
def Arg (w : World) (v : Value) (b : Bool) (A : Option Addr) (n c N : Nat) : Prop := v = .agg #[.bool b, .slice A n c] ∧ NumIn w A n c N
end Go.Proofs.YtbdngknpngcojaaDoor

/- How many limbs and digits sums and products have. No condition. -/
namespace Go.Proofs.YtbdngknpngcojaaDoor
open Go.RowKit Anv
theorem nl_mono {N M : Nat} (h : N ≤ M) : nl N ≤ nl M := dig_len_le (by omega) h
section
variable {x y c : Int}
end
end Go.Proofs.YtbdngknpngcojaaDoor

/- Lists of whole numbers; Sum and Product. No condition. -/
namespace Go.Proofs.YtbdngknpngcojaaDoor
open Go.RowKit Anv
structure ZList (w : World) (a : Option Addr) (k : Nat) (l : List (Int × Option Addr × Nat)) : Prop where
  len : l.length = k
  cells : 0 < k → ∃ G o, a = some ⟨G, o, none⟩ ∧ G < w.heap.size ∧ ∀ i (h : i < l.length), w.cell? ⟨G, o + i * 2, none⟩ = some (.bool (neg l[i].1)) ∧ w.cell? ⟨G, o + i * 2 + 1, none⟩ = some (.slice l[i].2.1 (zl l[i].1) l[i].2.2)
  nums : ∀ x ∈ l, ZIn w x.2.1 x.2.2 x.1
theorem ZList.below {w w' : World} {a : Option Addr} {k : Nat} {l : List (Int × Option Addr × Nat)} (h : ZList w a k l) (hb : Below w.heap.size w w') : ZList w' a k l :=
  ⟨h.len, fun hp => by
    obtain ⟨G, o, ha, hG, hc⟩ := h.cells hp
    exact ⟨G, o, ha, Nat.lt_of_lt_of_le hG hb.size, fun i hi => ⟨(hb.cell (p := ⟨G, o + i * 2, none⟩) hG).trans (hc i hi).1, (hb.cell (p := ⟨G, o + i * 2 + 1, none⟩) hG).trans (hc i hi).2⟩⟩,
   fun x hx => (h.nums x hx).below hb⟩
theorem ZList.nil (w : World) : ZList w none 0 [] := ⟨rfl, fun h => by omega, fun x hx => by cases hx⟩
def zsum (l : List (Int × Option Addr × Nat)) : Int := l.foldl (fun s x => s + x.1) 0
def zprod (l : List (Int × Option Addr × Nat)) : Int := l.foldl (fun s x => s * x.1) 1
end Go.Proofs.YtbdngknpngcojaaDoor
