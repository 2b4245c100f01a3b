/- Over rows of limbs: slices.Equal, MulSmall, Gcd, works. Printed by pv/gen_limb.py. No condition. -/
import Derived.Test.YtegglooojlheoaaDoorM24
import Derived.Test.YtegglooojlheoaaDoorM12
import Derived.Test.YtegglooojlheoaaDoorM26
import Derived.Test.YtegglooojlheoaaDoorM3
import Derived.Test.YtegglooojlheoaaDoorM25

namespace Go.Proofs.YtegglooojlheoaaDoor.W
open Go.RowKit Anv
theorem u32_none (w : World) : U32 w none 0 0 [] := ⟨rfl, Nat.le_refl _, by simp [maxLen], by intro x hx; simp at hx, fun h => absurd h (Nat.lt_irrefl _)⟩
theorem gcd_step (a b : Nat) : Nat.gcd b (a % b) = Nat.gcd a b := by rw [Nat.gcd_comm b, ← Nat.gcd_rec, Nat.gcd_comm]
theorem text_num {A : Option Addr} {n c N : Nat} {w : World} (h : NumIn w A n c N) (hn : n ≤ 1000000) :
  Calls Tryd.prog 150 #[.slice A n c] w fun e w' => e = .returned (.string ⟨(textN N).toArray⟩) ∧ Below w.heap.size w w' := by
 obtain ⟨xs, hx, rfl⟩ := h
 exact text_any hx hn
set_option maxRecDepth 100000 in
set_option maxHeartbeats 4000000 in
theorem muls_num {A : Option Addr} {n c q N : Nat} {w0 : World} (h : NumIn w0 A n c N) (hn : n ≤ 1000000) (hq : q < 4294967296) :
  Calls Tryd.prog 156 #[.slice A n c, .int .u32 q] w0 fun e w' => ∃ v, e = .returned v ∧ NumAt w0.heap.size w' v (N * q) ∧ Below w0.heap.size w0 w' := by
 refine enter Tryd.func156 rfl Tryd.ntmps156 rfl ?_
 intro a η σ
 obtain ⟨xs, hx, hN⟩ := h
 replace σ := σ.addU hx trivial
 clear hx
 refine wp_seq (region_seq ?_)
 refine seq_step rfl (op_val (v := .slice none 0 0) η rfl (rn_assign η rfl) ?_)
 clear η a; intro a η
 refine wpList_nil (th_n (wp_seq (region_seq ?_)))
 refine seq_step rfl (op_val (v := .slice A n c) η rfl (rn_move η rfl) ?_)
 clear η a; intro a η
 refine seq_step rfl (op_val (v := .int .u32 (q : Nat)) η rfl (rn_move η rfl) ?_)
 clear η a; intro a η
 refine seq_step rfl (op_buildSlice (z := 1) (pv := #[(0, .int .u32 (q : Nat))]) (c := #[.int .u32 (q : Nat)]) η σ rfl Tryd.underlying23 (ty_uint32.size) zero_uint32 (by decide) (by decide) rfl (by kernel_rfl) ?_)
 clear η σ a; intro a w2 g1 η σ
 replace σ := σ.giveU (k := 0) (n := 1) (xs := [q]) rfl (lt1 hq) rfl (by decide)
 have hs3 := nl_mul N q
 have hst0 := σ
 refine seq_step rfl (op_call η rfl Tryd.call131 rfl (mul_num (N := N) (M := q) ⟨_, (show U32 _ A n c xs from σ.pat (k := 1) rfl), hN⟩ ⟨_, (show U32 _ (some ⟨g1, 0, none⟩) 1 1 ([q]) from σ.pat (k := 0) rfl), L_one⟩ (by omega) (by omega)) ?_)
 rintro e w6 ⟨_, rfl, ⟨A4, c5, rfl, hU, hA⟩, hb⟩
 refine ⟨_, rfl, ?_⟩
 clear η a; intro a η
 replace σ := σ.freshU hb hU hA
 clear hU
 have hF : ∀ a, A4 = some a → w0.heap.size ≤ a.block := fun a ha => Nat.le_trans hst0.below.size (hA a ha)
 clear hA
 clear hb
 refine seq_step rfl (op_val (v := .slice A4 (nl (N * q)) c5) η rfl (rn_assign η rfl) ?_)
 clear η a; intro a η
 refine wpList_nil (th_n (wp_ret ?_))
 refine leave η (res1 Tryd.results156 (RV.tmp η rfl)) ?_
 exact ⟨_, rfl, ⟨_, _, rfl, σ.pat (k := 0) rfl, hF⟩, σ.below⟩
def vals (xs : List Nat) : List Value := xs.map fun n => Value.int .u32 (n : Nat)
theorem row_step {os : List Nat} {i t : Nat} (hl : os.length = i) : val 4294967296 (os ++ [t % 4294967296]) + t / 4294967296 * 4294967296 ^ (i + 1) = val 4294967296 os + t * 4294967296 ^ i := by
 subst hl
 rw [val_append, Nat.pow_succ, Nat.mul_comm (4294967296 ^ os.length) 4294967296, ← Nat.mul_assoc, show val 4294967296 [t % 4294967296] = t % 4294967296 by simp [val], Nat.add_assoc, Nat.mul_comm (4294967296 ^ os.length) (t % 4294967296), ← Nat.add_mul]
 congr 2
 have := Nat.div_add_mod t 4294967296
 omega
section
variable {w0 w : World} {own ps : List PF} {k n E : Nat} {v : Value} {xs : List Nat}
end
theorem getD_ge {xs : List Nat} {i n : Nat} (h : xs.length = n) (hi : n ≤ i) : xs.getD i 0 = 0 := by simp [List.getD, h, hi]
end Go.Proofs.YtegglooojlheoaaDoor.W
