/- How a statement's argument, a number with its limbs, is read. No condition. -/
import Derived.Test.YtegglooojlheoaaDoorM6
import Derived.ProofKit
import Derived.OpenShut
import Derived.ShutString
import Derived.ChangeOld
import Derived.Below
import Derived.Lib.SmallJoins

namespace Go.Proofs.YtegglooojlheoaaDoor
open Go.RowKit Anv Go.ChangeShapes Go.WideShapes Go.ChangeAt Go.Joins
theorem own : ownKnob Tryd.prog.godebug = none := by kernel_rfl
theorem laidOut : laidOutB Tryd.prog = true := by kernel_rfl
theorem wf_u32 {n : Int} (h : (Lit.int .u32 n).wf = true) : 0 ≤ n ∧ n ≤ 4294967295 := bounds_u32 h
theorem open_u32 {H : Type} {enc : TypeId × Value → H} {W : World} {fuel : Nat} {a : Option Addr} {n c : Nat} {y : DataW H × List MemPlace}
    (h : DataW.trod enc Tryd.prog W 0 (fun _ => true) true fuel 23 [.slice a n c] = some y) : ∃ xs, U32 W a n c xs := by
  rcases open_ints Tryd.underlying23 Tryd.underlying141 (by kernel_rfl) h with ⟨hcs, _⟩ | ⟨x, l, c', zs, hcs, _, hl, hm, hz, _, hcell, hwz⟩
  · simp at hcs
    obtain ⟨rfl, rfl, rfl⟩ := hcs
    exact ⟨[], rfl, Nat.le_refl _, by simp [maxLen], AllLt.nil _, fun hp => by omega⟩
  · simp at hcs
    obtain ⟨rfl, rfl, rfl⟩ := hcs
    have hz' : zs.length = c := by simpa using hz
    refine ⟨(zs.take n).map Int.toNat, by simp [hz']; omega, hl, hm, ?_, fun hp => ?_⟩
    · intro v hv
      obtain ⟨z, hz1, rfl⟩ := List.mem_map.1 hv
      have := wf_u32 (hwz z (List.mem_of_mem_take hz1))
      omega
    · have h0 := hcell 0 (by omega)
      obtain ⟨b, off, spot⟩ := x
      have hspot : spot = none := by simpa [Addr.add] using World.cell?_spot h0
      subst hspot
      refine ⟨b, off, rfl, World.block_lt_of_cell? W ((⟨b, off, none⟩ : Addr).add 0) h0, fun i hi => ?_⟩
      have hi' := hcell i (by omega)
      have e1 : (⟨b, off, none⟩ : Addr).add i = ⟨b, off + i, none⟩ := by unfold Addr.add; split <;> simp_all
      rw [e1] at hi'
      rw [hi']
      congr 2
      have hzi : zs.getD i 0 = zs[i] := by simp [List.getD, show i < zs.length by omega]
      have := wf_u32 (hwz zs[i] (List.getElem_mem _))
      rw [hzi]
      have hlen : i < ((zs.take n).map Int.toNat).length := by simp; omega
      rw [getD_lt hlen]
      simp
      omega
end Go.Proofs.YtegglooojlheoaaDoor
