/- Over rows of limbs: slices.Equal, MulSmall, Gcd, works. Printed by pv/gen_limb.py. No condition. -/
import Derived.Test.YtegglooojlheoaaDoorM22
import Derived.Test.YtegglooojlheoaaDoorM6
import Derived.Test.YtegglooojlheoaaDoorM24
import Derived.Test.YtegglooojlheoaaDoorM7
import Derived.Test.YtegglooojlheoaaDoorM23

namespace Go.Proofs.YtegglooojlheoaaDoor.W
open Go.RowKit Anv
theorem u32_none (w : World) : U32 w none 0 0 [] := ⟨rfl, Nat.le_refl _, by simp [maxLen], by intro x hx; simp at hx, fun h => absurd h (Nat.lt_irrefl _)⟩
theorem gcd_step (a b : Nat) : Nat.gcd b (a % b) = Nat.gcd a b := by rw [Nat.gcd_comm b, ← Nat.gcd_rec, Nat.gcd_comm]
theorem text_num {A : Option Addr} {n c N : Nat} {w : World} (h : NumIn w A n c N) (hn : n ≤ 1000000) :
    Calls Tryd.prog 150 #[.slice A n c] w fun e w' => e = .returned (.string ⟨(textN N).toArray⟩) ∧ Below w.heap.size w w' := by
  obtain ⟨xs, hx, rfl⟩ := h
  exact text_any hx hn
set_option maxRecDepth 100000 in
set_option maxHeartbeats 4000000 in
theorem muls_num {A : Option Addr} {n c q N : Nat} {w0 : World} (h : NumIn w0 A n c N) (hn : n ≤ 1000000) (hq : q < 4294967296) :
    Calls Tryd.prog 156 #[.slice A n c, .int .u32 q] w0 fun e w' => ∃ v, e = .returned v ∧ NumAt w0.heap.size w' v (N * q) ∧ Below w0.heap.size w0 w' := by
  refine enter Tryd.func156 rfl Tryd.ntmps156 rfl ?_
  intro a henv hst
  obtain ⟨xs, hx, hN⟩ := h
  replace hst := hst.addU hx trivial
  clear hx
  refine wp_seq ?_
  refine region_seq ?_
  refine seq_step rfl (op_val (v := .slice none 0 0) henv rfl (rn_assign henv rfl) ?_)
  clear henv a; intro a henv
  refine wpList_nil ?_
  refine th_n ?_
  refine wp_seq ?_
  refine region_seq ?_
  refine seq_step rfl (op_val (v := .slice A n c) henv rfl (rn_move henv rfl) ?_)
  clear henv a; intro a henv
  refine seq_step rfl (op_val (v := .int .u32 (q : Nat)) henv rfl (rn_move henv rfl) ?_)
  clear henv a; intro a henv
  refine seq_step rfl (op_buildSlice (z := 1) (pv := #[(0, .int .u32 (q : Nat))]) (c := #[.int .u32 (q : Nat)]) henv hst rfl Tryd.underlying23 (ty_uint32.size) zero_uint32 (by decide) (by decide) rfl (by kernel_rfl) ?_)
  clear henv hst a; intro a w2 g1 henv hst
  replace hst := hst.giveU (k := 0) (n := 1) (xs := [q]) rfl (lt1 hq) rfl (by decide)
  have hs3 := nl_mul N q
  have hst0 := hst
  refine seq_step rfl (op_call henv rfl Tryd.call131 rfl (mul_num (N := N) (M := q) ⟨_, (show U32 _ A n c xs from hst.pat (k := 1) rfl), hN⟩ ⟨_, (show U32 _ (some ⟨g1, 0, none⟩) 1 1 ([q]) from hst.pat (k := 0) rfl), L_one⟩ (by omega) (by omega)) ?_)
  rintro e w6 ⟨_, rfl, ⟨A4, c5, rfl, hU, hA⟩, hb⟩
  refine ⟨_, rfl, ?_⟩
  clear henv a; intro a henv
  replace hst := hst.freshU hb hU hA
  clear hU
  have hF : ∀ a, A4 = some a → w0.heap.size ≤ a.block := fun a ha => Nat.le_trans hst0.below.size (hA a ha)
  clear hA
  clear hb
  refine seq_step rfl (op_val (v := .slice A4 (nl (N * q)) c5) henv rfl (rn_assign henv rfl) ?_)
  clear henv a; intro a henv
  refine wpList_nil ?_
  refine th_n ?_
  refine wp_ret ?_
  refine leave henv (res1 Tryd.results156 (RV.tmp henv rfl)) ?_
  exact ⟨_, rfl, ⟨_, _, rfl, hst.pat (k := 0) rfl, hF⟩, hst.below⟩
end Go.Proofs.YtegglooojlheoaaDoor.W

/- The reference of layer 1: plain laws; results that are rows of the call's own. No condition. -/
namespace Go.Proofs.YtegglooojlheoaaDoor.W
open Go.RowKit Anv
def vals (xs : List Nat) : List Value := xs.map fun n => Value.int .u32 (n : Nat)
section
variable {w0 w : World} {own ps : List PF} {k n E : Nat} {v : Value} {xs : List Nat}
end
theorem getD_ge {xs : List Nat} {i n : Nat} (h : xs.length = n) (hi : n ≤ i) : xs.getD i 0 = 0 := by simp [List.getD, h, hi]
end Go.Proofs.YtegglooojlheoaaDoor.W

/- The reference of layer 1, walked. Printed by pv/gen_ref01.py. No condition. -/
namespace Go.Proofs.YtegglooojlheoaaDoor.W
open Go.RowKit Anv
end Go.Proofs.YtegglooojlheoaaDoor.W
