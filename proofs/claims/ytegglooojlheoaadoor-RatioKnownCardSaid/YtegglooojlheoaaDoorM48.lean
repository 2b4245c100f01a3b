/- How a statement's argument, a row of numbers with their limbs, is read, with its bound. No condition. -/
import Derived.Test.YtegglooojlheoaaDoorM47
import Derived.Test.YtegglooojlheoaaDoorM34
import Derived.SizedLaws
import Derived.Test.YtegglooojlheoaaDoorM45
import Derived.Test.YtegglooojlheoaaDoorM11
import Derived.Test.YtegglooojlheoaaDoorM43
import Derived.Test.YtegglooojlheoaaDoorM42
import Derived.Lib.Bytealg

namespace Go.Proofs.YtegglooojlheoaaDoor.W
open Go.RowKit Anv Go.Lib
abbrev UE := Bool × Option Addr × Nat × Nat × List Nat
def fU (e : UE) : List Value := [.bool e.1, .slice e.2.1 e.2.2.1 e.2.2.2.1]
def FU (e : UE) : PF := pfU e.2.1 e.2.2.1 e.2.2.2.1 e.2.2.2.2
def Sz (es : List UE) : Prop := ∀ e ∈ es, e.2.2.1 ≤ 35184372088832
theorem Sz.at {es : List UE} (h : Sz es) {i : Nat} {e : UE} (hx : es[i]? = some e) : e.2.2.1 ≤ 35184372088832 := h e (List.mem_of_getElem? hx)
end Go.Proofs.YtegglooojlheoaaDoor.W
namespace Go.Proofs.YtegglooojlheoaaDoor
open Go.RowKit Anv Go.ChangeShapes Go.WideShapes Go.ChangeAt Go.Joins W
end Go.Proofs.YtegglooojlheoaaDoor

/- The laws' long. Printed by pv/gen_row4.py. No condition. -/
namespace Go.Proofs.YtegglooojlheoaaDoor.W
open Go.RowKit Anv Go.Lib
abbrev VE := Option Addr × Nat × Nat × List UE
def fV (v : VE) : List Value := [.slice v.1 v.2.1 v.2.2.1]
def FV (v : VE) : PF := pfRow fU FU 2 v.1 v.2.1 v.2.2.1 v.2.2.2
def tl (us : List UE) : Nat := (us.map fun e => e.2.2.1).sum
def tv (vs : List VE) : Nat := (vs.map fun v => v.2.1 + tl v.2.2.2).sum
def vz (e : UE) : Int := sg e.1 (val 4294967296 e.2.2.2.2)
end Go.Proofs.YtegglooojlheoaaDoor.W

/- row.Cmp, Same; the reference's Cmp, Same, IsZero. Printed by pv/gen_row5.py. No condition. -/
namespace Go.Proofs.YtegglooojlheoaaDoor.W
open Go.RowKit Anv Go.Lib
def lexc : List Int → List Int → Int
  | x :: xs, y :: ys => if (x - y).sign = 0 then lexc xs ys else (x - y).sign
  | _, _ => 0
def cmpR (xs ys : List Int) : Int := if xs.length < ys.length then -1 else if ys.length < xs.length then 1 else lexc xs ys
end Go.Proofs.YtegglooojlheoaaDoor.W

/- row.Widest, anvilref04.Widest. Printed by pv/gen_row6.py. No condition. -/
namespace Go.Proofs.YtegglooojlheoaaDoor.W
open Go.RowKit Anv Go.Lib
def wid (zs : List Int) : Int := zs.foldl (fun w z => if w < (z.natAbs : Int) then (z.natAbs : Int) else w) 0
end Go.Proofs.YtegglooojlheoaaDoor.W

/- What the law RowHolds needs, with no program in sight but the shape of the memory. No condition. -/
namespace Go.Proofs.YtegglooojlheoaaDoor.W
open Go.RowKit Anv Go.Lib
theorem tl_mem {us : List UE} {e : UE} (h : e ∈ us) : e.2.2.1 ≤ tl us := by
  induction us with
  | nil => cases h
  | cons x us ih =>
    unfold tl at *
    rw [List.map_cons, List.sum_cons]
    rcases List.mem_cons.1 h with rfl | h
    · omega
    · have := ih h; omega
end Go.Proofs.YtegglooojlheoaaDoor.W

/- What the laws of rows need of the memory: rows of rows written out, numbers written out, sizes. No program but the shape of the memory. No condition. -/
namespace Go.Proofs.YtegglooojlheoaaDoor.W
open Go.RowKit Anv Go.Lib
theorem zl_vze {w : World} {b : Bool} {A : Option Addr} {n c k : Nat} {xs : List Nat} (h : U32 w A n c xs) (hn : n ≤ k) : zl (sg b (val 4294967296 xs)) ≤ k := by
  have h2 := nl_val h
  have e : zl (sg b (val 4294967296 xs)) = nl (val 4294967296 xs) := by
    unfold sg zl
    split
    · rw [Int.natAbs_neg, Int.natAbs_natCast]
    · rw [Int.natAbs_natCast]
  omega
def Zk (k : Nat) (zs : List Int) : Prop := ∀ z ∈ zs, zl z ≤ k
theorem Zk.es {k : Nat} {es : List NE} {zs : List Int} (h : Zk k zs) (e : es.map zz = zs) : ZB k es := fun x hx => h (zz x) (e ▸ List.mem_map_of_mem hx)
theorem Zk.mono {k m : Nat} {zs : List Int} (h : Zk k zs) (hm : k ≤ m) : Zk m zs := fun z hz => Nat.le_trans (h z hz) hm
theorem Zk.map {k m : Nat} {zs : List Int} {f : Int → Int} (h : Zk k zs) (hf : ∀ z, zl z ≤ k → zl (f z) ≤ m) : Zk m (zs.map f) := fun x hx => by
  obtain ⟨z, hz, rfl⟩ := List.mem_map.1 hx
  exact hf z (h z hz)
theorem mem_zipWith {f : Int → Int → Int} {x : Int} : ∀ {xs ys : List Int}, x ∈ List.zipWith f xs ys → ∃ a ∈ xs, ∃ b ∈ ys, x = f a b
  | [], _, h => by simp at h
  | _ :: _, [], h => by simp at h
  | a :: xs, b :: ys, h => by
    rw [List.zipWith_cons_cons] at h
    rcases List.mem_cons.1 h with rfl | h
    · exact ⟨a, List.mem_cons_self .., b, List.mem_cons_self .., rfl⟩
    · obtain ⟨a, ha, b, hb, e⟩ := mem_zipWith h
      exact ⟨a, List.mem_cons_of_mem _ ha, b, List.mem_cons_of_mem _ hb, e⟩
theorem Zk.zip {k j m : Nat} {xs ys : List Int} {f : Int → Int → Int} (h : Zk k xs) (g : Zk j ys) (hf : ∀ x y, zl x ≤ k → zl y ≤ j → zl (f x y) ≤ m) : Zk m (List.zipWith f xs ys) := fun x hx => by
  obtain ⟨a, ha, b, hb, rfl⟩ := mem_zipWith hx
  exact hf a b (h a ha) (g b hb)
theorem Zk.vz {es : List UE} {k : Nat} {w : World} (h : (pfEs FU es).P w) (ht : tl es ≤ k) : Zk k (es.map vz) := by
  intro z hz
  obtain ⟨e, he, rfl⟩ := List.mem_map.1 hz
  have h1 : U32 w e.2.1 e.2.2.1 e.2.2.2.1 e.2.2.2.2 := h e he
  exact zl_vze h1 (Nat.le_trans (tl_mem he) ht)
theorem Zk.prim {k : Nat} {zs : List Int} (h : Zk k zs) : Zk k (prim zs) := h.map fun _ hz => Nat.le_trans (zl_ediv _ _) hz
theorem Zk.take {k : Nat} {zs : List Int} (h : Zk k zs) (j : Nat) : Zk k (zs.take j) := fun z hz => h z (List.mem_of_mem_take hz)
end Go.Proofs.YtegglooojlheoaaDoor.W

/- row.Neg, Scale, Combine, Dot, integer.Sum; the reference's Combine, Add, Sub, Scale, Dot; the laws' is, own. Printed by pv/gen_row8.py. No condition. -/
namespace Go.Proofs.YtegglooojlheoaaDoor.W
open Go.RowKit Anv Go.Lib
theorem zl_small {z : Int} {k : Nat} (h : z.natAbs < 4294967296 ^ 1) : zl z ≤ k + 1 := Nat.le_trans (nl_le_of_lt h) (by omega)
end Go.Proofs.YtegglooojlheoaaDoor.W

/- row.Read; the reference's Read, Text. Printed by pv/gen_rowD.py. No condition. -/
namespace Go.Proofs.YtegglooojlheoaaDoor.W
open Go.RowKit Anv Go.Lib
def Wd (t : List UInt8) (z p q : Int) : Prop := (p = 0 ∧ q = 0 ∧ Rz t z) ∨ (p = 6 ∧ ∃ b : Nat, q = b ∧ Rb t b)
def Wr (t : List UInt8) (z b : Int) : Prop := (b = -1 ∧ Rz t z) ∨ ∃ c : Nat, b = c ∧ Rb t c
theorem zin_at2 (w : World) : ZAt w (.agg #[.bool (neg 0), .slice none (zl 0) 0]) 0 := ⟨_, _, rfl, zin_none _⟩
theorem iread_w {t : List UInt8} {w0 : World} (hl : t.length ≤ 65536) :
    Calls Tryd.prog 113 #[.string ⟨t.toArray⟩] w0 fun e w' => ∃ z p q v, e = .returned (.tuple #[v, .agg #[.int .i64 p, .int .i64 q]]) ∧ ZAt w' v z ∧ Wd t z p q ∧ Below w0.heap.size w0 w' := by
  rcases word_cases t with ⟨z, h⟩ | ⟨b, h⟩
  · exact (iread_rz h hl).mono fun e w' ⟨v, he, hz, hb⟩ => ⟨z, 0, 0, v, he, hz, .inl ⟨rfl, rfl, h⟩, hb⟩
  · exact (iread_rb h hl).mono fun e w' ⟨he, hb⟩ => ⟨0, 6, b, _, he, zin_at2 _, .inr ⟨rfl, b, rfl, h⟩, hb⟩
theorem wd_bad {t : List UInt8} {z p q : Int} (h : Wd t z p q) (k : (p != 0) = true) : p = 6 ∧ ∃ b : Nat, q = b ∧ Rb t b := by
  rcases h with ⟨h1, _⟩ | h
  · rw [h1] at k; cases k
  · exact h
theorem wd_ok {t : List UInt8} {z p q : Int} (h : Wd t z p q) (k : (p != 0) = false) : p = 0 ∧ q = 0 ∧ Rz t z := by
  rcases h with h | ⟨h1, _⟩
  · exact h
  · rw [h1] at k; cases k
theorem rb_le {t : List UInt8} {b : Nat} (h : Rb t b) : b ≤ t.length := by
  rcases h with ⟨d, b', rfl, h2, rfl⟩ | ⟨_, h2⟩
  · rcases h2.1 with ⟨h3, _⟩ | ⟨h3, _⟩ <;> rw [List.length_cons] <;> omega
  · rcases h2.1 with ⟨h3, _⟩ | ⟨h3, _⟩ <;> omega
def preT (zs : List Int) : List UInt8 := 91 :: zs.flatMap fun z => textZ z ++ [32]
end Go.Proofs.YtegglooojlheoaaDoor.W

/- Calls of functions that Lean stands in for; texts cut at a slash; fractions' texts, plain. No condition. -/
namespace Go.Proofs.YtegglooojlheoaaDoor.W
open Go.RowKit Anv Go.Lib
section
variable {P : Program} {K : Act → World → Prop} {Q : Exit → Act → World → Prop} {N : Nat} {dq : List Deferred} {a : Act} {l : List (Nat × Value)} {w : World}
variable {d : Nat} {ty : TypeId} {pos : String} {af : Array Edge} {gd : Option (Nat × Bool)}
theorem op_ext {f : FuncId} {xs : Array Operand} {Ts : Array TypeId} {vs : Array Value} {v : Value} (h : EnvD dq N a l) (hd : Nat.blt d N = true) (hx : xs.toList.map (evl l) = vs.toList.map some) (hr : (callFunc f vs).run P w = .ok (.value v) w)
    (hK : ∀ a', EnvD dq N a' ((d, v) :: l) → K a' w) :
    Oper.wp P ⟨some d, .call ⟨.value (.func f), xs, Ts⟩, ty, pos, af, gd⟩ a w K Q := by
  have he : xs.map a.eval = vs := Array.ext' (by rw [Array.toList_map]; exact ev_all h hx)
  have hr2 : (execOp a.eval ⟨some d, .call ⟨.value (.func f), xs, Ts⟩, ty, pos, af, gd⟩).run P w = .ok (.value v) w := by
    have h2 : a.eval (.func f) = .func (.func f) #[] #[] := rfl
    simp only [execOp, resolve, he, h2, Sem.run_bind]
    simp [Deferred.ofValue, invoke, hr]
  unfold Oper.wp
  rw [hr2]
  exact hK _ (h.put hd _)
end
theorem ext_index {s : List UInt8} {c : Nat} {w : World} : (callFunc 182 #[.string ⟨s.toArray⟩, .int .u8 (c : Nat)]).run Tryd.prog w = .ok (.value (.int .i64 (indexByte s c.toUInt8))) w := by
  rw [run_callFunc_extern Tryd.func182 (by kernel_rfl) rfl (by kernel_rfl) (e := Extern.BytealgIndexByte.indexByte) (by kernel_rfl), run_indexByteString]
  simp [Result.andThen]
theorem index_no {s : List UInt8} {c : UInt8} (h : c ∉ s) : indexByte s c = -1 := by
  induction s with
  | nil => rfl
  | cons b s ih =>
    have h1 : c ≠ b := fun e => h (e ▸ List.mem_cons_self ..)
    have h2 := ih fun hm => h (List.mem_cons_of_mem _ hm)
    rw [indexByte, h2, if_neg (by simpa using fun e => h1 e.symm)]
    rfl
theorem index_yes {a b : List UInt8} {c : UInt8} (h : c ∉ a) : indexByte (a ++ c :: b) c = (a.length : Nat) := by
  induction a with
  | nil => rw [List.nil_append, indexByte, if_pos (by simp)]; rfl
  | cons x a ih =>
    have h1 : c ≠ x := fun e => h (e ▸ List.mem_cons_self ..)
    have h2 := ih fun hm => h (List.mem_cons_of_mem _ hm)
    rw [List.cons_append, indexByte, h2, if_neg (by simpa using fun e => h1 e.symm), if_neg (by simp <;> omega), List.length_cons]
    omega
theorem cut_cases (s : List UInt8) (c : UInt8) : c ∉ s ∨ ∃ a b, s = a ++ c :: b ∧ c ∉ a := by
  induction s with
  | nil => exact .inl (by simp)
  | cons x s ih =>
    by_cases hx : x = c
    · exact .inr ⟨[], s, by rw [hx]; rfl, by simp⟩
    · rcases ih with h | ⟨a, b, rfl, h⟩
      · exact .inl fun hm => (List.mem_cons.1 hm).elim (fun e => hx e.symm) h
      · exact .inr ⟨x :: a, b, rfl, fun hm => (List.mem_cons.1 hm).elim (fun e => hx e.symm) h⟩
theorem cut_eq {a b a' b' : List UInt8} {c : UInt8} (h : a ++ c :: b = a' ++ c :: b') (h1 : c ∉ a) (h2 : c ∉ a') : a = a' ∧ b = b' := by
  induction a generalizing a' with
  | nil =>
    cases a' with
    | nil => simpa using h
    | cons x a' => simp at h; exact absurd (h.1 ▸ List.mem_cons_self ..) h2
  | cons x a ih =>
    cases a' with
    | nil => simp at h; exact absurd (h.1 ▸ List.mem_cons_self ..) h1
    | cons y a' =>
      simp at h
      obtain ⟨e1, e2⟩ := ih h.2 (fun hm => h1 (List.mem_cons_of_mem _ hm)) fun hm => h2 (List.mem_cons_of_mem _ hm)
      exact ⟨by rw [h.1, e1], e2⟩
theorem text_no47 (z : Int) : (47 : UInt8) ∉ textZ z := fun h => by
  have := text_ndg z 47 h
  unfold ndg at this
  simp at this
theorem textZ_inj {x y : Int} (h : textZ x = textZ y) : x = y := rz_eq (rz_text x) (h ▸ rz_text y)
theorem textQ_whole {r : Rat} {s : List UInt8} (h : textQ r = s) (hs : (47 : UInt8) ∉ s) : Rz s (qn r) ∧ r = ((qn r : Int) : Rat) := by
  unfold textQ at h
  split at h
  · rename_i h0
    exact ⟨h ▸ rz_text _, q_ext rfl (by rw [qd_int, ← ql_qd, h0]; rfl)⟩
  · exact absurd (h ▸ List.mem_append_right _ (List.mem_cons_self ..)) hs
theorem textQ_parts {r : Rat} {a b : List UInt8} (h : textQ r = a ++ 47 :: b) (ha : (47 : UInt8) ∉ a) : a = textZ (qn r) ∧ b = textZ (qd r) := by
  unfold textQ at h
  split at h
  · exact absurd (h ▸ List.mem_append_right _ (List.mem_cons_self ..)) (text_no47 (qn r))
  · obtain ⟨h1, h2⟩ := cut_eq h (text_no47 _) ha
    exact ⟨h1.symm, h2.symm⟩
theorem rz_zl9 {t : List UInt8} {z : Int} (h : Rz t z) : zl z ≤ t.length / 9 + 1 := by
  have main : ∀ d : List UInt8, (∀ c ∈ d, c.toNat ≤ 57) → nl (numOf d) ≤ d.length / 9 + 1 := fun d hd => by
    refine nl_le_of_lt (Nat.lt_of_lt_of_le (numOf_lt hd) ?_)
    refine Nat.le_trans (Nat.pow_le_pow_right (by decide) (show d.length ≤ 9 * (d.length / 9 + 1) by omega)) ?_
    rw [Nat.pow_mul]
    exact Nat.pow_le_pow_left (by decide) _
  rcases h with ⟨d, rfl, h2, rfl⟩ | ⟨_, h2, rfl⟩
  · rw [sg_zl]
    have := main d fun c hc => (digits_of h2.ok c hc).2
    rw [List.length_cons]
    omega
  · rw [sg_zl]
    exact main t fun c hc => (digits_of h2.ok c hc).2
end Go.Proofs.YtegglooojlheoaaDoor.W
