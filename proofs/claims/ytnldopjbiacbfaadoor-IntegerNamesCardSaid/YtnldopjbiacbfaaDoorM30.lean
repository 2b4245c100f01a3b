/- Operations over naturals and strings, one rule each. Over any program. No condition. -/
import Derived.Test.YtnldopjbiacbfaaDoorM26
import Derived.Test.YtnldopjbiacbfaaDoorM27
import Derived.Test.YtnldopjbiacbfaaDoorM29
import Derived.Laws.Strings2
import Derived.Laws.Cover3

namespace Go.Proofs.YtnldopjbiacbfaaDoor.W
open Go.RowKit Anv Go.Lib

theorem tdiv_nat (t c : Nat) : ((t : Nat) : Int).tdiv ((c : Nat) : Int) = ((t / c : Nat) : Int) := rfl
theorem quo_u32 {t c : Nat} (h : t < 4294967296) : IntKind.u32.wrap (((t : Nat) : Int).tdiv ((c : Nat) : Int)) = ((t / c : Nat) : Int) := by
  rw [tdiv_nat]
  have := Nat.div_le_self t c
  generalize t / c = q at *
  exact IntWalk.u32_in _ (by omega)
theorem quo_u64 {t c : Nat} (h : t < 18446744073709551616) : IntKind.u64.wrap (((t : Nat) : Int).tdiv ((c : Nat) : Int)) = ((t / c : Nat) : Int) := by
  rw [tdiv_nat]
  have := Nat.div_le_self t c
  generalize t / c = q at *
  exact IntWalk.u64_in _ (by omega)
theorem quo_i64 {t c : Nat} (h : t < 9223372036854775808) : IntKind.i64.wrap (((t : Nat) : Int).tdiv ((c : Nat) : Int)) = ((t / c : Nat) : Int) := by
  rw [tdiv_nat]
  have := Nat.div_le_self t c
  generalize t / c = q at *
  exact IntWalk.i64_in _ (by omega)
theorem shb_u32 {s : Nat} (h : s ≤ 32) : s ≤ IntKind.u32.bits := h
theorem shb_u64 {s : Nat} (h : s ≤ 64) : s ≤ IntKind.u64.bits := h
theorem shb_i64 {s : Nat} (h : s ≤ 64) : s ≤ IntKind.i64.bits := h
theorem fdiv_pow (m s : Nat) : ((m : Nat) : Int).fdiv (2 ^ s) = ((m / 2 ^ s : Nat) : Int) := by
  have e : (2 : Int) ^ s = ((2 ^ s : Nat) : Int) := by rw [Int.natCast_pow]; rfl
  rw [e, fdiv_nat]
theorem pow_u32 {s : Nat} (h : s < 32) : IntKind.u32.wrap (1 * 2 ^ s) = ((2 ^ s : Nat) : Int) := by
  have h1 : 2 ^ s < 4294967296 := Nat.pow_lt_pow_right (n := 32) (by omega) h
  have h2 : ((2 ^ s : Nat) : Int) = 2 ^ s := by rw [Int.natCast_pow]; rfl
  have key : ∀ q : Nat, q < 4294967296 → IntKind.u32.wrap (q : Int) = q := fun q hq => IntWalk.u32_in _ (by omega)
  rw [Int.one_mul, ← h2]
  exact key _ h1
theorem pow_i64 {s : Nat} (h : s < 63) : IntKind.i64.wrap (1 * 2 ^ s) = ((2 ^ s : Nat) : Int) := by
  have h1 : 2 ^ s < 9223372036854775808 := Nat.pow_lt_pow_right (n := 63) (by omega) h
  have h2 : ((2 ^ s : Nat) : Int) = 2 ^ s := by rw [Int.natCast_pow]; rfl
  have key : ∀ q : Nat, q < 9223372036854775808 → IntKind.i64.wrap (q : Int) = q := fun q hq => IntWalk.i64_in _ (by omega)
  rw [Int.one_mul, ← h2]
  exact key _ h1
theorem wrap_u32 (m : Nat) : IntKind.u32.wrap ((m : Nat) : Int) = ((m % 4294967296 : Nat) : Int) := by
  unfold IntKind.wrap
  simp only [show IntKind.u32.signed = false from rfl, Bool.false_and, Bool.false_eq_true, if_false]
  rfl
section
variable {P : Program} {N : Nat} {dq : List Deferred} {a : Act} {l : List (Nat × Value)} {w : World} {d : Nat} {ty : TypeId} {pos : String} {af : Array Edge} {gd : Option (Nat × Bool)}
theorem rn_and1 {x y : Operand} {T yt m : Nat} (h : EnvD dq N a l) (hx : evl l x = some (.int .u32 (m : Nat))) (hy : evl l y = some (.int .u32 1)) (hm : m < 4294967296) :
    (execOp a.eval ⟨some d, .binOp .and T x y yt, ty, pos, af, gd⟩).run P w = .ok (.value (.int .u32 ((m % 2 : Nat) : Int))) w := by
  refine rn_bin h hx hy ?_
  have e : bits .and .u32 (m : Int) 1 = ((m % 2 : Nat) : Int) := by rw [and_one32 _ (by omega) (by omega)]; rfl
  have e2 : (Op.intBits .and .u32 (m : Int) 1 : Sem Value).run P w = .ok (.int .u32 ((m % 2 : Nat) : Int)) w := by rw [← e]; rfl
  simp [eqGuard, binOp]
  exact e2
theorem rn_nilN {x : Operand} {T E yt n c : Nat} {A : Option Addr} (h : EnvD dq N a l) (hT : P.underlying T = some (.slice E)) (hx : evl l x = some (.slice A n c)) :
    (execOp a.eval ⟨some d, .binOp .neq T x (.const (.slice none 0 0)) yt, ty, pos, af, gd⟩).run P w = .ok (.value (.bool (!A.isNone))) w := by
  refine rn_bin h hx (by rfl) ?_
  have := run_neq_slice_nil (P := P) w T E A n c hT
  simp [eqGuard, this]
theorem rn_catS {x y : Operand} {T yt : Nat} {s t : List UInt8} (h : EnvD dq N a l) (hx : evl l x = some (.string ⟨s.toArray⟩)) (hy : evl l y = some (.string ⟨t.toArray⟩)) (hl : s.length + t.length ≤ 9223372036854775807) :
    (execOp a.eval ⟨some d, .binOp .add T x y yt, ty, pos, af, gd⟩).run P w = .ok (.value (.string ⟨(s ++ t).toArray⟩)) w := by
  refine rn_bin h hx hy ?_
  simp [eqGuard, binOp, Op.stringOp, go_sem]
  rw [if_neg (by omega)]
  have e : (⟨s.toArray⟩ ++ ⟨t.toArray⟩ : ByteArray) = ⟨(s ++ t).toArray⟩ := by
    apply ByteArray.ext
    simp
  simp [e]
theorem rn_cutS {x y z : Operand} {T n m : Nat} {k k' : IntKind} {s : List UInt8} (h : EnvD dq N a l) (hT : P.underlying T = some .string) (hx : evl l x = some (.string ⟨s.toArray⟩)) (hy : evl l y = some (.int k (n : Nat))) (hz : evl l z = some (.int k' (m : Nat))) (hn : n ≤ m) (hm : m ≤ s.length) :
    (execOp a.eval ⟨some d, .slice T x (some y) (some z) none, ty, pos, af, gd⟩).run P w = .ok (.value (.string ⟨((s.drop n).take (m - n)).toArray⟩)) w := by
  have hv := h.ev hx
  have hv' := h.ev hy
  have hv2 := h.ev hz
  have hr := run_slice_string (P := P) w T ⟨s.toArray⟩ k k' (n : Int) (m : Int) hT (by omega) (by omega) (by simp [ByteArray.size]; omega)
  rw [Int.toNat_natCast, Int.toNat_natCast, ByteArray.extract_mk] at hr
  simp only [execOp, Option.map_none, Option.map_some, hv, hv', hv2]
  rw [Sem.run_bind, run_sliceAt_string _ _ _ _ _ _ hT, hr]
  rfl
end
end Go.Proofs.YtnldopjbiacbfaaDoor.W
