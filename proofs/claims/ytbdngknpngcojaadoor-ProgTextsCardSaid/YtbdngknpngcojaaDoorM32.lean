/- Operations over naturals and strings, one rule each. Over any program. No condition. -/
import Derived.Test.YtbdngknpngcojaaDoorM28
import Derived.Test.YtbdngknpngcojaaDoorM29
import Derived.Test.YtbdngknpngcojaaDoorM31
import Derived.Laws.Strings2
import Derived.Laws.Cover3

namespace Go.Proofs.YtbdngknpngcojaaDoor.W
open Go.RowKit Anv Go.Lib
theorem tdiv_nat (t c : Nat) : ((t : Nat) : Int).tdiv ((c : Nat) : Int) = ((t / c : Nat) : Int) := rfl
theorem quo_u32 {t c : Nat} (h : t < 4294967296) : IntKind.u32.wrap (((t : Nat) : Int).tdiv ((c : Nat) : Int)) = ((t / c : Nat) : Int) := by
  rw [tdiv_nat]
  have := Nat.div_le_self t c
  generalize t / c = q at *
  exact IntWalk.u32_in _ (by omega)
theorem quo_i64 {t c : Nat} (h : t < 9223372036854775808) : IntKind.i64.wrap (((t : Nat) : Int).tdiv ((c : Nat) : Int)) = ((t / c : Nat) : Int) := by
  rw [tdiv_nat]
  have := Nat.div_le_self t c
  generalize t / c = q at *
  exact IntWalk.i64_in _ (by omega)
theorem shb_u64 {s : Nat} (h : s ≤ 64) : s ≤ IntKind.u64.bits := h
theorem shb_i64 {s : Nat} (h : s ≤ 64) : s ≤ IntKind.i64.bits := h
theorem fdiv_pow (m s : Nat) : ((m : Nat) : Int).fdiv (2 ^ s) = ((m / 2 ^ s : Nat) : Int) := by
  have e : (2 : Int) ^ s = ((2 ^ s : Nat) : Int) := by rw [Int.natCast_pow]; rfl
  rw [e, fdiv_nat]
section
variable {P : Program} {N : Nat} {dq : List Deferred} {a : Act} {l : List (Nat × Value)} {w : World} {d : Nat} {ty : TypeId} {pos : String} {af : Array Edge} {gd : Option (Nat × Bool)}
theorem rn_catS {x y : Operand} {T yt : Nat} {s t : List UInt8} (h : EnvD dq N a l) (hx : evl l x = some (.string ⟨s.toArray⟩)) (hy : evl l y = some (.string ⟨t.toArray⟩)) (hl : s.length + t.length ≤ 9223372036854775807) :
    (execOp a.eval ⟨some d, .binOp .add T x y yt, ty, pos, af, gd⟩).run P w = .ok (.value (.string ⟨(s ++ t).toArray⟩)) w := by
  refine rn_bin h hx hy ?_
  simp [eqGuard, binOp, Op.stringOp, go_sem]
  rw [if_neg (by omega)]
  have e : (⟨s.toArray⟩ ++ ⟨t.toArray⟩ : ByteArray) = ⟨(s ++ t).toArray⟩ := by
    apply ByteArray.ext
    simp
  simp [e]
theorem rn_cutS {x y z : Operand} {T n m : Nat} {k k' : IntKind} {s : List UInt8} (h : EnvD dq N a l) (hT : P.underlying T = some .string) (hx : evl l x = some (.string ⟨s.toArray⟩)) (hy : evl l y = some (.int k (n : Nat))) (hz : evl l z = some (.int k' (m : Nat))) (hn : n ≤ m) (hm : m ≤ s.length) :
    (execOp a.eval ⟨some d, .slice T x (some y) (some z) none, ty, pos, af, gd⟩).run P w = .ok (.value (.string ⟨((s.drop n).take (m - n)).toArray⟩)) w := by
  have hv := h.ev hx
  have hv' := h.ev hy
  have hv2 := h.ev hz
  have hr := run_slice_string (P := P) w T ⟨s.toArray⟩ k k' (n : Int) (m : Int) hT (by omega) (by omega) (by simp [ByteArray.size]; omega)
  rw [Int.toNat_natCast, Int.toNat_natCast, ByteArray.extract_mk] at hr
  simp only [execOp, Option.map_none, Option.map_some, hv, hv', hv2]
  rw [Sem.run_bind, run_sliceAt_string _ _ _ _ _ _ hT, hr]
  rfl
end
end Go.Proofs.YtbdngknpngcojaaDoor.W
