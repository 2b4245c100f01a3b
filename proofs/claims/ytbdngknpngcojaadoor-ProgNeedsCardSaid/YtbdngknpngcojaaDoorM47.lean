/- strings.Join at a blank; row.Text. Printed by pv/gen_rtx2.py. No condition. -/
import Derived.Test.YtbdngknpngcojaaDoorM45
import Derived.Test.YtbdngknpngcojaaDoorM15
import Derived.Test.YtbdngknpngcojaaDoorM46
import Derived.Test.YtbdngknpngcojaaDoorM31
import Derived.Test.YtbdngknpngcojaaDoorM6
import Derived.Test.YtbdngknpngcojaaDoorM36

namespace Go.Proofs.YtbdngknpngcojaaDoor.W
open Go.RowKit Anv Go.Lib
def jt (s : List UInt8) (r : List (List UInt8)) (k : Nat) : List UInt8 := s ++ (r.take k).flatMap fun t => 32 :: t
def textRow (zs : List Int) : List UInt8 := 91 :: (jn (zs.map textZ) ++ [93])
end Go.Proofs.YtbdngknpngcojaaDoor.W

/- row.Zero, Unit, IsZero; the laws' live; RowMakes. Printed by pv/gen_row2.py. No condition. -/
namespace Go.Proofs.YtbdngknpngcojaaDoor.W
open Go.RowKit Anv Go.Lib
def allz (es : List NE) : Bool := es.all fun e => decide (zz e = 0)
end Go.Proofs.YtbdngknpngcojaaDoor.W

/- The laws' long. Printed by pv/gen_row4.py. No condition. -/
namespace Go.Proofs.YtbdngknpngcojaaDoor.W
open Go.RowKit Anv Go.Lib
abbrev VE := Option Addr × Nat × Nat × List UE
def fV (v : VE) : List Value := [.slice v.1 v.2.1 v.2.2.1]
def FV (v : VE) : PF := pfRow fU FU 2 v.1 v.2.1 v.2.2.1 v.2.2.2
def tl (us : List UE) : Nat := (us.map fun e => e.2.2.1).sum
def tv (vs : List VE) : Nat := (vs.map fun v => v.2.1 + tl v.2.2.2).sum
def vz (e : UE) : Int := sg e.1 (val 4294967296 e.2.2.2.2)
end Go.Proofs.YtbdngknpngcojaaDoor.W

/- row.Cmp, Same; the reference's Cmp, Same, IsZero. Printed by pv/gen_row5.py. No condition. -/
namespace Go.Proofs.YtbdngknpngcojaaDoor.W
open Go.RowKit Anv Go.Lib
def lexc : List Int → List Int → Int
  | x :: xs, y :: ys => if (x - y).sign = 0 then lexc xs ys else (x - y).sign
  | _, _ => 0
def cmpR (xs ys : List Int) : Int := if xs.length < ys.length then -1 else if ys.length < xs.length then 1 else lexc xs ys
end Go.Proofs.YtbdngknpngcojaaDoor.W

/- row.Widest, anvilref04.Widest. Printed by pv/gen_row6.py. No condition. -/
namespace Go.Proofs.YtbdngknpngcojaaDoor.W
open Go.RowKit Anv Go.Lib
def wid (zs : List Int) : Int := zs.foldl (fun w z => if w < (z.natAbs : Int) then (z.natAbs : Int) else w) 0
end Go.Proofs.YtbdngknpngcojaaDoor.W

/- What the law RowHolds needs, with no program in sight but the shape of the memory. No condition. -/
namespace Go.Proofs.YtbdngknpngcojaaDoor.W
open Go.RowKit Anv Go.Lib
theorem tl_mem {us : List UE} {e : UE} (h : e ∈ us) : e.2.2.1 ≤ tl us := by
  induction us with
  | nil => cases h
  | cons x us ih =>
    unfold tl at *
    rw [List.map_cons, List.sum_cons]
    rcases List.mem_cons.1 h with rfl | h
    · omega
    · have := ih h; omega
end Go.Proofs.YtbdngknpngcojaaDoor.W

/- What the laws of rows need of the memory: rows of rows written out, numbers written out, sizes. No program but the shape of the memory. No condition. -/
namespace Go.Proofs.YtbdngknpngcojaaDoor.W
open Go.RowKit Anv Go.Lib
theorem zl_vze {w : World} {b : Bool} {A : Option Addr} {n c k : Nat} {xs : List Nat} (h : U32 w A n c xs) (hn : n ≤ k) : zl (sg b (val 4294967296 xs)) ≤ k := by
  have h2 := nl_val h
  have e : zl (sg b (val 4294967296 xs)) = nl (val 4294967296 xs) := by
    unfold sg zl
    split
    · rw [Int.natAbs_neg, Int.natAbs_natCast]
    · rw [Int.natAbs_natCast]
  omega
def Zk (k : Nat) (zs : List Int) : Prop := ∀ z ∈ zs, zl z ≤ k
theorem Zk.es {k : Nat} {es : List NE} {zs : List Int} (h : Zk k zs) (e : es.map zz = zs) : ZB k es := fun x hx => h (zz x) (e ▸ List.mem_map_of_mem hx)
theorem Zk.mono {k m : Nat} {zs : List Int} (h : Zk k zs) (hm : k ≤ m) : Zk m zs := fun z hz => Nat.le_trans (h z hz) hm
theorem Zk.map {k m : Nat} {zs : List Int} {f : Int → Int} (h : Zk k zs) (hf : ∀ z, zl z ≤ k → zl (f z) ≤ m) : Zk m (zs.map f) := fun x hx => by
  obtain ⟨z, hz, rfl⟩ := List.mem_map.1 hx
  exact hf z (h z hz)
theorem mem_zipWith {f : Int → Int → Int} {x : Int} : ∀ {xs ys : List Int}, x ∈ List.zipWith f xs ys → ∃ a ∈ xs, ∃ b ∈ ys, x = f a b
  | [], _, h => by simp at h
  | _ :: _, [], h => by simp at h
  | a :: xs, b :: ys, h => by
    rw [List.zipWith_cons_cons] at h
    rcases List.mem_cons.1 h with rfl | h
    · exact ⟨a, List.mem_cons_self .., b, List.mem_cons_self .., rfl⟩
    · obtain ⟨a, ha, b, hb, e⟩ := mem_zipWith h
      exact ⟨a, List.mem_cons_of_mem _ ha, b, List.mem_cons_of_mem _ hb, e⟩
theorem Zk.zip {k j m : Nat} {xs ys : List Int} {f : Int → Int → Int} (h : Zk k xs) (g : Zk j ys) (hf : ∀ x y, zl x ≤ k → zl y ≤ j → zl (f x y) ≤ m) : Zk m (List.zipWith f xs ys) := fun x hx => by
  obtain ⟨a, ha, b, hb, rfl⟩ := mem_zipWith hx
  exact hf a b (h a ha) (g b hb)
theorem Zk.vz {es : List UE} {k : Nat} {w : World} (h : (pfEs FU es).P w) (ht : tl es ≤ k) : Zk k (es.map vz) := by
  intro z hz
  obtain ⟨e, he, rfl⟩ := List.mem_map.1 hz
  have h1 : U32 w e.2.1 e.2.2.1 e.2.2.2.1 e.2.2.2.2 := h e he
  exact zl_vze h1 (Nat.le_trans (tl_mem he) ht)
theorem Zk.prim {k : Nat} {zs : List Int} (h : Zk k zs) : Zk k (prim zs) := h.map fun _ hz => Nat.le_trans (zl_ediv _ _) hz
theorem Zk.take {k : Nat} {zs : List Int} (h : Zk k zs) (j : Nat) : Zk k (zs.take j) := fun z hz => h z (List.mem_of_mem_take hz)
end Go.Proofs.YtbdngknpngcojaaDoor.W
