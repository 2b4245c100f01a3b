/- Lasting facts on numbers. No condition. -/
import Derived.Test.YtnldopjbiacbfaaDoorM6
import Derived.Test.YtnldopjbiacbfaaDoorM8
import Derived.Test.YtnldopjbiacbfaaDoorM7

namespace Go.Proofs.YtnldopjbiacbfaaDoor
open Go.RowKit Anv

theorem u32_keep {w w' : World} {A : Option Addr} {n c : Nat} {xs : List Nat} (h : U32 w A n c xs) (hk : ∀ b, (0 < n ∧ ∃ off, A = some ⟨b, off, none⟩) → w'.heap[b]? = w.heap[b]?) : U32 w' A n c xs :=
  ⟨h.len, h.cap, h.big, h.lt, fun hp => by
    obtain ⟨b, off, rfl, hlt, hc⟩ := h.cells hp
    have hb := hk b ⟨hp, off, rfl⟩
    have hlt' : b < w'.heap.size := by
      rcases Nat.lt_or_ge b w'.heap.size with h1 | h1
      · exact h1
      · rw [Array.getElem?_eq_none h1] at hb
        rw [Array.getElem?_eq_getElem hlt] at hb; cases hb
    exact ⟨b, off, rfl, hlt', fun i hi => (World.cell?_of_block (w := w) (a := ⟨b, off + i, none⟩) hb).trans (hc i hi)⟩⟩
/-- The slice A reads as xs. -/
def pfU (A : Option Addr) (n c : Nat) (xs : List Nat) : PF :=
  ⟨fun w => U32 w A n c xs, fun b => 0 < n ∧ ∃ off, A = some ⟨b, off, none⟩, fun h ⟨hp, off, e⟩ => by
    obtain ⟨b, o, e', hlt, _⟩ := h.cells hp
    rw [e] at e'; cases e'; exact hlt, fun h _ hk => u32_keep h hk⟩
/-- The limbs of z lie at A. -/
def pfZ (A : Option Addr) (c : Nat) (z : Int) : PF := pfU A (zl z) c (L z.natAbs)

/-- No limb. -/
def notU : Value → Bool
  | .int .u32 _ => false
  | _ => true
def noU (own : List Bk) : Bool := own.all fun e => e.c.toList.all notU
theorem St.addU {w0 w : World} {own : List Bk} {ps : List PF} {A : Option Addr} {n c : Nat} {xs : List Nat} (h : St w0 w own ps) (hu : U32 w A n c xs) (hn : noU own = true) : St w0 w own (pfU A n c xs :: ps) :=
  h.addP (pfU A n c xs) hu fun e he hf => by
    obtain ⟨hp, off, rfl⟩ := hf
    obtain ⟨b, o, e', _, hc⟩ := hu.cells hp
    cases e'
    have h1 := hc 0 hp
    rw [cell_of_row w _ _ _ _ _ (h.mine e he).2] at h1
    have h2 := List.all_eq_true.1 (List.all_eq_true.1 hn e he) _ (Array.mem_toList_iff.2 (Array.mem_of_getElem? h1))
    simp [notU] at h2
theorem St.addZ {w0 w : World} {own : List Bk} {ps : List PF} {A : Option Addr} {c : Nat} {z : Int} (h : St w0 w own ps) (hu : ZIn w A c z) (hn : noU own = true) : St w0 w own (pfZ A c z :: ps) := St.addU h hu hn

end Go.Proofs.YtnldopjbiacbfaaDoor

/- Rows of numbers: read through what is known of them. Over any program. No condition. -/
namespace Go.Proofs.YtnldopjbiacbfaaDoor
open Go.RowKit Anv

/-- Where a row lies. -/
def ab (A : Option Addr) : Nat := match A with
  | some a => a.block
  | none => 0
def ao (A : Option Addr) : Nat := match A with
  | some a => a.off
  | none => 0

section
variable {P : Program} {K : Act → World → Prop} {Q : Exit → Act → World → Prop} {N : Nat} {dq : List Deferred} {a : Act} {l : List (Nat × Value)} {w w0 : World} {own : List Bk} {ps : List PF}
variable {d : Nat} {ty : TypeId} {pos : String} {af : Array Edge} {gd : Option (Nat × Bool)}
theorem U32.ab {A : Option Addr} {n c : Nat} {xs : List Nat} (h : U32 w A n c xs) (hp : 0 < n) : A = some ⟨ab A, ao A, none⟩ := by
  obtain ⟨b, off, rfl, _, _⟩ := h.cells hp
  rfl
theorem U32.at {A : Option Addr} {n c : Nat} {xs : List Nat} (h : U32 w A n c xs) {i : Nat} (hi : i < n) : w.cell? ⟨Go.Proofs.YtnldopjbiacbfaaDoor.ab A, ao A + i, none⟩ = some (.int .u32 (xs.getD i 0 : Nat)) := by
  obtain ⟨b, off, rfl, _, hc⟩ := h.cells (by omega)
  exact hc i hi
theorem rn_idxU {x y : Operand} {T E i n c : Nat} {A : Option Addr} {xs : List Nat} {k : IntKind} (h : EnvD dq N a l) (hT : P.underlying T = some (.slice E)) (hE : ∃ j, P.info? E = some j ∧ j.size = 1) (hx : evl l x = some (.slice A n c)) (hy : evl l y = some (.int k (i : Nat))) (hi : i < n) (hu : U32 w A n c xs) :
    (execOp a.eval ⟨some d, .indexAddr T x y, ty, pos, af, gd⟩).run P w = .ok (.value (.pointer (some ⟨Go.Proofs.YtnldopjbiacbfaaDoor.ab A, ao A + i, none⟩))) w := by
  have hA := hu.ab (by omega)
  have := rn_indexAddr (w := w) (d := d) (ty := ty) (pos := pos) (af := af) (gd := gd) h hT hE (hx.trans (by rw [← hA])) hy hi
  rw [Nat.mul_one] at this
  exact this
theorem rn_loadU {x : Operand} {T i n c : Nat} {A : Option Addr} {xs : List Nat} (h : EnvD dq N a l) (hT : TOne P T) (hx : evl l x = some (.pointer (some ⟨Go.Proofs.YtnldopjbiacbfaaDoor.ab A, ao A + i, none⟩))) (hi : i < n) (hu : U32 w A n c xs) :
    (execOp a.eval ⟨some d, .load T x, ty, pos, af, gd⟩).run P w = .ok (.value (.int .u32 (xs.getD i 0 : Nat))) w :=
  rn_loadc h hT hx (hu.at hi)
/-- Into a block of the call's own. -/
theorem rn_idxO {x y : Operand} {T E i n c z p g o : Nat} {k : IntKind} (h : EnvD dq N a l) (hT : P.underlying T = some (.slice E)) (hE : ∃ j, P.info? E = some j ∧ j.size = z) (hx : evl l x = some (.slice (some ⟨g, o, none⟩) n c)) (hy : evl l y = some (.int k (i : Nat))) (hi : i < n) (hp : o + i * z = p) :
    (execOp a.eval ⟨some d, .indexAddr T x y, ty, pos, af, gd⟩).run P w = .ok (.value (.pointer (some ⟨g, p, none⟩))) w := by
  subst hp
  exact rn_indexAddr h hT hE hx hy hi
end

end Go.Proofs.YtnldopjbiacbfaaDoor

/- Rows of numbers that the call itself fills; quotients, shifts. Over any program. No condition. -/
namespace Go.Proofs.YtnldopjbiacbfaaDoor
open Go.RowKit Anv

section
variable {P : Program} {K : Act → World → Prop} {Q : Exit → Act → World → Prop} {N : Nat} {dq : List Deferred} {a : Act} {l : List (Nat × Value)} {w w0 : World} {own : List Bk} {ps : List PF}
variable {d : Nat} {ty : TypeId} {pos : String} {af : Array Edge} {gd : Option (Nat × Bool)}

/-- A row that the call has filled is now one that is read alone. -/
theorem St.giveU (h : St w0 w own ps) {k g : Nat} {xs : List Nat} {t : TypeId} (hk : own[k]? = some ⟨g, nums .u32 xs, t⟩) (hl : AllLt 4294967296 xs) {n : Nat} (hn : xs.length = n) (hm : n ≤ maxLen) :
    St w0 w (own.eraseIdx k) (pfU (some ⟨g, 0, none⟩) n n xs :: ps) := by
  have hg := h.oat hk
  have ha : Arr .u32 t w g xs := hg
  have hlen : k < own.length := by
    rcases Nat.lt_or_ge k own.length with h | h
    · exact h
    · rw [List.getElem?_eq_none h] at hk; cases hk
  have hmem : ∀ e ∈ own.eraseIdx k, e ∈ own ∧ e.g ≠ g := by
    intro e he
    obtain ⟨i, hi, rfl⟩ := List.getElem_of_mem he
    rw [List.getElem_eraseIdx]
    have hi' : i < own.length - 1 := by rw [List.length_eraseIdx_of_lt hlen] at hi; exact hi
    split
    · rename_i hlt
      have hb : Nat.beq i k = false := by
        cases hb : Nat.beq i k with
        | false => rfl
        | true => have := Nat.eq_of_beq_eq_true hb; omega
      exact ⟨List.getElem_mem _, h.one (List.getElem?_eq_getElem (by omega)) hk hb⟩
    · rename_i hge
      have hb : Nat.beq (i + 1) k = false := by
        cases hb : Nat.beq (i + 1) k with
        | false => rfl
        | true => have := Nat.eq_of_beq_eq_true hb; omega
      exact ⟨List.getElem_mem _, h.one (List.getElem?_eq_getElem (by omega)) hk hb⟩
  refine ⟨h.below, fun e he => h.mine e (hmem e he).1, ?_, fun p hp => ?_, fun p hp e he hf => ?_⟩
  · exact List.Nodup.sublist ((List.eraseIdx_sublist own k).map Bk.g) h.nd
  · rcases List.mem_cons.1 hp with rfl | hp
    · exact ha.u32 hl hn hm
    · exact h.pers p hp
  · rcases List.mem_cons.1 hp with rfl | hp
    · obtain ⟨_, off, hof⟩ := hf
      cases hof
      exact (hmem e he).2 rfl
    · exact h.apart p hp e (hmem e he).1 hf
/-- A new row of noughts. -/
theorem op_makeN {T E bytes n : Nat} {x y : Operand} {k kl kc : IntKind} (h : EnvD dq N a l) (hs : St w0 w own ps) (hd : Nat.blt d N = true) (hT : P.underlying T = some (.slice E))
    (hi : (P.info? E).map (fun i => (i.zero, i.size, i.bytes)) = some (some (.int k 0), 1, bytes)) (hx : evl l x = some (.int kl (n : Nat))) (hy : evl l y = some (.int kc (n : Nat))) (hb : bytes * n ≤ 140737488355328) (hn : n ≤ 9223372036854775807)
    (hK : ∀ a' w' g, EnvD dq N a' ((d, .slice (some ⟨g, 0, none⟩) n n) :: l) → St w0 w' (⟨g, nums k (List.replicate n 0), E⟩ :: own) ps → K a' w') :
    Oper.wp P ⟨some d, .makeSlice T x y, ty, pos, af, gd⟩ a w K Q := by
  obtain ⟨i, hi1, hi2⟩ := Option.map_eq_some_iff.1 hi
  simp only [Prod.mk.injEq] at hi2
  obtain ⟨hz, hsz, hby⟩ := hi2
  have hw : IntKind.i64.wrap (n : Int) = (n : Int) := by rw [IntKind.wrap_i64]; omega
  have hzv : (zeroValue E).run P w = .ok (.int k 0) w := by simp [zeroValue, typeInfo, hi1, hz]
  have hti : (typeInfo E).run P w = .ok i w := by simp [typeInfo, hi1]
  have hso : (sizeOf E).run P w = .ok 1 w := by simp [sizeOf, typeInfo, hi1, hsz]
  have hbn : (i.bytes : Int) * (n : Int) ≤ 2 ^ 48 := by rw [hby, ← Int.natCast_mul]; omega
  have hcells : (Array.range n).map ((#[Value.int k 0] : Array Value)[· % 1]!) = nums k (List.replicate n 0) := by
    apply Array.ext
    · simp [nums]
    · intro j h1 h2
      simp [nums, Nat.mod_one]
  have hr : (execOp a.eval ⟨some d, .makeSlice T x y, ty, pos, af, gd⟩).run P w = .ok (.value (.slice (some ⟨w.heap.size, 0, none⟩) n n)) (w.alloc (.cells (nums k (List.replicate n 0)) E)) := by
    have c1 : ¬ ((n : Int) < 0) := by omega
    have c2 : ¬ ((n : Int) > n) := by omega
    have c3 : ¬ (n * i.bytes > roomBytes) := by unfold roomBytes; rw [hby, Nat.mul_comm]; omega
    simp only [execOp, h.ev hx, h.ev hy]
    simp only [Instr.makeSlice, Sem.run_bind, run_underlying hT w, Result.andThen_ok, asInt, asIntOf, Sem.run_pure, hti, hw]
    have c4 : ((decide ((n : Int) < 0) || decide ((i.bytes : Int) * (n : Int) > 2 ^ 48)) || decide ((n : Int) < 0) || decide ((n : Int) > (n : Int))) = false := by
      simp; omega
    rw [if_neg (by simp; omega)]
    simp only [askRoom, Int.toNat_natCast, if_neg c3, Sem.run_pure, Result.andThen_ok, hso, Nat.mul_one, Sem.run_bind]
    by_cases h0 : n = 0
    · subst h0
      have e0 : ∀ f : Nat → Value, Array.map f (Array.range 0) = #[] := fun f => by apply Array.ext <;> simp
      simp [newRow, newObj, Sem.run, nums, e0]
    · rw [if_neg h0]
      simp only [Sem.run_bind, hzv, Result.andThen_ok, Sem.run_pure]
      rw [show (Value.int k 0).cells = #[Value.int k 0] from rfl]
      simp only [show (#[Value.int k 0] : Array Value).size = 1 from rfl, hcells]
      simp [newRow, newObj, Sem.run]
  unfold Oper.wp
  rw [hr]
  exact hK _ _ _ (h.put hd _) (hs.push _ _)
/-- A number into a row of the call's own. -/
theorem op_storeN {T g i k : Nat} {x y : Operand} {kd : IntKind} {os : List Nat} {v : Nat} {t : TypeId} (h : EnvD dq N a l) (hs : St w0 w own ps) (hi : ∃ j, P.info? T = some j ∧ j.size = 1) (hx : evl l x = some (.pointer (some ⟨g, i, none⟩))) (hy : evl l y = some (.int kd (v : Nat)))
    (hk : own[k]? = some ⟨g, nums kd os, t⟩) (ho : i < os.length)
    (hK : ∀ a' w', EnvD dq N a' l → St w0 w' (own.set k ⟨g, nums kd (os.set i v), t⟩) ps → K a' w') :
    Oper.wp P ⟨none, .store T x y, ty, pos, af, gd⟩ a w K Q :=
  op_store1 (e := ⟨g, nums kd os, t⟩) h hs hi hx hy hk (by rw [size_nums]; exact ho) rfl (nums_set kd os i v) hK
theorem rn_loadO {x : Operand} {T g i : Nat} {kd : IntKind} {os : List Nat} {t : TypeId} (h : EnvD dq N a l) (hT : TOne P T) (hx : evl l x = some (.pointer (some ⟨g, i, none⟩)))
    (hg : w.heap[g]? = some (.cells (nums kd os) t (0, 0))) (hi : i < os.length) :
    (execOp a.eval ⟨some d, .load T x, ty, pos, af, gd⟩).run P w = .ok (.value (.int kd (os.getD i 0 : Nat))) w :=
  rn_load1 h hT hx hg (nums_at kd os i hi)
theorem rn_quo {x y : Operand} {T yt : Nat} {k : IntKind} {m n : Int} {z : Int} (h : EnvD dq N a l) (hx : evl l x = some (.int k m)) (hy : evl l y = some (.int k n)) (h0 : n ≠ 0) (hw : k.wrap (m.tdiv n) = z) :
    (execOp a.eval ⟨some d, .binOp .quo T x y yt, ty, pos, af, gd⟩).run P w = .ok (.value (.int k z)) w := by
  subst hw
  exact rn_bin h hx hy (by simp [eqGuard, binOp, Op.intDiv, h0])
theorem rn_rem {x y : Operand} {T yt : Nat} {k : IntKind} {m n : Int} {z : Int} (h : EnvD dq N a l) (hx : evl l x = some (.int k m)) (hy : evl l y = some (.int k n)) (h0 : n ≠ 0) (hw : m.tmod n = z) :
    (execOp a.eval ⟨some d, .binOp .rem T x y yt, ty, pos, af, gd⟩).run P w = .ok (.value (.int k z)) w := by
  subst hw
  exact rn_bin h hx hy (by simp [eqGuard, binOp, Op.intDiv, h0])
theorem rn_shl {x y : Operand} {T yt : Nat} {k k' : IntKind} {m : Int} {s : Nat} {z : Int} (h : EnvD dq N a l) (hx : evl l x = some (.int k m)) (hy : evl l y = some (.int k' (s : Nat))) (hs : s ≤ k.bits) (hw : k.wrap (m * 2 ^ s) = z) :
    (execOp a.eval ⟨some d, .binOp .shl T x y yt, ty, pos, af, gd⟩).run P w = .ok (.value (.int k z)) w := by
  subst hw
  refine rn_bin h hx hy ?_
  have h1 : ¬ ((s : Int) < 0) := by omega
  simp [eqGuard, binOp, Op.shift, h1, Nat.min_eq_left hs]
theorem rn_shr {x y : Operand} {T yt : Nat} {k k' : IntKind} {m : Int} {s : Nat} {z : Int} (h : EnvD dq N a l) (hx : evl l x = some (.int k m)) (hy : evl l y = some (.int k' (s : Nat))) (hs : s ≤ k.bits) (hw : m.fdiv (2 ^ s) = z) :
    (execOp a.eval ⟨some d, .binOp .shr T x y yt, ty, pos, af, gd⟩).run P w = .ok (.value (.int k z)) w := by
  subst hw
  refine rn_bin h hx hy ?_
  have h1 : ¬ ((s : Int) < 0) := by omega
  simp [eqGuard, binOp, Op.shift, h1, Nat.min_eq_left hs]
theorem tdiv_nat (m n : Nat) : (m : Int).tdiv (n : Int) = ((m / n : Nat) : Int) := rfl
theorem tmod_nat (m n : Nat) : (m : Int).tmod (n : Int) = ((m % n : Nat) : Int) := rfl
theorem fdiv_nat (m n : Nat) : (m : Int).fdiv (n : Int) = ((m / n : Nat) : Int) := by rw [Int.fdiv_eq_ediv_of_nonneg _ (by omega)]; rfl
end

end Go.Proofs.YtnldopjbiacbfaaDoor
