/- strings.Join at a blank; row.Text. Printed by pv/gen_rtx2.py. No condition. -/
import Derived.Test.YtegglooojlheoaaDoorM45
import Derived.Test.YtegglooojlheoaaDoorM15
import Derived.Test.YtegglooojlheoaaDoorM46
import Derived.Test.YtegglooojlheoaaDoorM31
import Derived.Test.YtegglooojlheoaaDoorM36
import Derived.Test.YtegglooojlheoaaDoorM41
import Derived.Test.YtegglooojlheoaaDoorM6
import Derived.Test.YtegglooojlheoaaDoorM44
import Derived.Lib.Bytealg

namespace Go.Proofs.YtegglooojlheoaaDoor.W
open Go.RowKit Anv Go.Lib
def jt (s : List UInt8) (r : List (List UInt8)) (k : Nat) : List UInt8 := s ++ (r.take k).flatMap fun t => 32 :: t
def textRow (zs : List Int) : List UInt8 := 91 :: (jn (zs.map textZ) ++ [93])
end Go.Proofs.YtegglooojlheoaaDoor.W

/- Plain laws of the texts of rows: what a text is read as, or where it goes wrong. No program. No condition. -/
namespace Go.Proofs.YtegglooojlheoaaDoor.W
open Anv
def stp (c : UInt8) : Prop := c.toNat = 32 ∨ c.toNat = 93
def ndg (c : UInt8) : Prop := c.toNat = 45 ∨ (48 ≤ c.toNat ∧ c.toNat ≤ 57)
def Rz (t : List UInt8) (z : Int) : Prop := (∃ d, t = 45 :: d ∧ Ok 1 d ∧ z = sg true (numOf d)) ∨ ((t.getD 0 0).toNat ≠ 45 ∧ Ok 0 t ∧ z = sg false (numOf t))
def Rb (t : List UInt8) (b : Nat) : Prop := (∃ d b', t = 45 :: d ∧ Fb 1 d b' ∧ b = b' + 1) ∨ ((t.getD 0 0).toNat ≠ 45 ∧ Fb 0 t b)
theorem word_cases (t : List UInt8) : (∃ z, Rz t z) ∨ ∃ b, Rb t b := by
  rcases sign_cases t with h | ⟨d, rfl⟩
  · rcases read_cases 0 t with ⟨b, hb⟩ | ho
    · exact .inr ⟨b, .inr ⟨h, hb⟩⟩
    · exact .inl ⟨_, .inr ⟨h, ho, rfl⟩⟩
  · rcases read_cases 1 d with ⟨b, hb⟩ | ho
    · exact .inr ⟨b + 1, .inl ⟨d, b, rfl, hb, rfl⟩⟩
    · exact .inl ⟨_, .inl ⟨d, rfl, ho, rfl⟩⟩
theorem ok_not_fb {f b : Nat} {d : List UInt8} (h : Ok f d) (k : Fb f d b) : False := by
  rcases k.1 with ⟨h1, h2⟩ | ⟨_, h2⟩
  · exact h.2 b h1 h2
  · have := h.1; omega
theorem head45 {t d : List UInt8} (h : t = 45 :: d) (k : (t.getD 0 0).toNat ≠ 45) : False := k (by rw [h]; rfl)
theorem rz_not_rb {t : List UInt8} {z : Int} {b : Nat} (h : Rz t z) (k : Rb t b) : False := by
  rcases h with ⟨d, h1, h2, _⟩ | ⟨h1, h2, _⟩ <;> rcases k with ⟨e, b', k1, k2, _⟩ | ⟨k1, k2⟩
  · rw [h1] at k1; cases k1; exact ok_not_fb h2 k2
  · exact head45 h1 k1
  · exact head45 k1 h1
  · exact ok_not_fb h2 k2
theorem rz_eq {t : List UInt8} {z y : Int} (h : Rz t z) (k : Rz t y) : z = y := by
  rcases h with ⟨d, h1, _, h3⟩ | ⟨h1, _, h3⟩ <;> rcases k with ⟨e, k1, _, k3⟩ | ⟨k1, _, k3⟩
  · rw [h1] at k1; cases k1; rw [h3, k3]
  · exact (head45 h1 k1).elim
  · exact (head45 k1 h1).elim
  · rw [h3, k3]
def cutw (s : List UInt8) (p q : Nat) : List UInt8 := (s.drop p).take (q - p)
def Seg (s : List UInt8) (p q : Nat) : Prop := p ≤ q ∧ q ≤ s.length ∧ (∀ i, p ≤ i → i < q → ¬ stp (s.getD i 0)) ∧ (q < s.length → stp (s.getD q 0))
def Sen (s : List UInt8) (p q : Nat) : Prop := p ≤ q ∧ q ≤ s.length ∧ (∀ i, p ≤ i → i < q → ndg (s.getD i 0)) ∧ (q < s.length → ¬ ndg (s.getD q 0))
inductive Go (s : List UInt8) : Nat → List Int → List Int ⊕ Nat → Prop
  | bad {p q b : Nat} {zs : List Int} (h : Seg s p q) (hb : Rb (cutw s p q) b) : Go s p zs (.inr (p + b))
  | fin {p : Nat} {zs : List Int} {z : Int} (h : Seg s p s.length) (hz : Rz (cutw s p s.length) z) : Go s p zs (.inr s.length)
  | more {p q : Nat} {zs : List Int} {z : Int} (h : Seg s p q) (hz : Rz (cutw s p q) z) (hc : (s.getD q 0).toNat = 93) (hq : q + 1 < s.length) : Go s p zs (.inr (q + 1))
  | done {p q : Nat} {zs : List Int} {z : Int} (h : Seg s p q) (hz : Rz (cutw s p q) z) (hc : (s.getD q 0).toNat = 93) (hq : q + 1 = s.length) : Go s p zs (.inl (zs ++ [z]))
  | next {p q : Nat} {zs : List Int} {z : Int} {r : List Int ⊕ Nat} (h : Seg s p q) (hz : Rz (cutw s p q) z) (hq : q < s.length) (hc : (s.getD q 0).toNat = 32) (hr : Go s (q + 1) (zs ++ [z]) r) : Go s p zs r
inductive Rd0 (s : List UInt8) : List Int ⊕ Nat → Prop
  | no (h : s = [] ∨ (s.getD 0 0).toNat ≠ 91) : Rd0 s (.inr 0)
  | void (h : (s.getD 0 0).toNat = 91) (h1 : (s.getD 1 0).toNat = 93) (h2 : s.length = 2) : Rd0 s (.inl [])
  | tail (h : (s.getD 0 0).toNat = 91) (h1 : (s.getD 1 0).toNat = 93) (h2 : 2 < s.length) : Rd0 s (.inr 2)
  | go (h : (s.getD 0 0).toNat = 91) (h0 : s ≠ []) (h1 : ¬ (1 < s.length ∧ (s.getD 1 0).toNat = 93)) {r : List Int ⊕ Nat} (hr : Go s 1 [] r) : Rd0 s r
end Go.Proofs.YtegglooojlheoaaDoor.W

/- Texts of rows: told and read back; the readers of words, by what the plain laws say of a word. No condition. -/
namespace Go.Proofs.YtegglooojlheoaaDoor.W
open Go.RowKit Anv Go.Lib
theorem rz_text (z : Int) : Rz (textZ z) z := by
  rcases textZ_cases z with ⟨_, h0, ht, hs⟩ | ⟨_, ht, hs⟩
  · exact .inl ⟨_, ht, ok_textN _ 1 fun _ => h0, by rw [numOf_textN, hs]⟩
  · have h2 := ok_textN z.natAbs 0 (fun e => by cases e)
    have h3 := ok_first h2
    refine .inr ⟨by rw [ht]; omega, by rw [ht]; exact h2, by rw [ht, numOf_textN, hs]⟩
theorem rz_back {t : List UInt8} {z : Int} (h : Rz t z) : textZ z = t := by
  rcases h with ⟨d, rfl, h2, rfl⟩ | ⟨_, h2, rfl⟩
  · exact textZ_back1 h2
  · exact textZ_back0 h2
theorem ok_ndg {f : Nat} {d : List UInt8} (h : Ok f d) : ∀ c ∈ d, ndg c := fun c hc => .inr (digits_of h.ok c hc)
theorem text_ndg (z : Int) : ∀ c ∈ textZ z, ndg c := by
  intro c hc
  rcases rz_text z with ⟨d, ht, h2, _⟩ | ⟨_, h2, _⟩
  · rw [ht] at hc
    rcases List.mem_cons.1 hc with rfl | hc
    · exact .inl rfl
    · exact ok_ndg h2 c hc
  · exact ok_ndg h2 c hc
theorem rz_pos {t : List UInt8} {z : Int} (h : Rz t z) : 0 < t.length := by
  rcases h with ⟨d, rfl, h2, _⟩ | ⟨_, h2, _⟩
  · simp
  · exact h2.1
theorem byte_eq {c : UInt8} {n : Nat} (h : c.toNat = n) (d : UInt8) (hd : d.toNat = n) : c = d := UInt8.toNat_inj.1 (h.trans hd.symm)
theorem iread_rz {t : List UInt8} {z : Int} {w0 : World} (h : Rz t z) (hl : t.length ≤ 65536) :
    Calls Tryd.prog 113 #[.string ⟨t.toArray⟩] w0 fun e w' => ∃ v, e = .returned (.tuple #[v, .agg #[.int .i64 0, .int .i64 0]]) ∧ ZAt w' v z ∧ Below w0.heap.size w0 w' := by
  rcases h with ⟨d, rfl, h2, rfl⟩ | ⟨h1, h2, rfl⟩
  · rw [List.length_cons] at hl
    exact iread_ok1 (by omega) h2
  · exact iread_ok0 h1 (by omega) h2
theorem iread_rb {t : List UInt8} {b : Nat} {w0 : World} (h : Rb t b) (hl : t.length ≤ 65536) :
    Calls Tryd.prog 113 #[.string ⟨t.toArray⟩] w0 fun e w' => e = .returned (.tuple #[.agg #[.bool (neg 0), .slice none (zl 0) 0], .agg #[.int .i64 6, .int .i64 (b : Nat)]]) ∧ Below w0.heap.size w0 w' := by
  rcases h with ⟨d, b', rfl, h2, rfl⟩ | ⟨h1, h2⟩
  · rw [List.length_cons] at hl
    exact iread_fb1 (by omega) h2
  · exact iread_fb0 h1 (by omega) h2
end Go.Proofs.YtegglooojlheoaaDoor.W

/- row.Zero, Unit, IsZero; the laws' live; RowMakes. Printed by pv/gen_row2.py. No condition. -/
namespace Go.Proofs.YtegglooojlheoaaDoor.W
open Go.RowKit Anv Go.Lib
def allz (es : List NE) : Bool := es.all fun e => decide (zz e = 0)
end Go.Proofs.YtegglooojlheoaaDoor.W

/- The laws' long. Printed by pv/gen_row4.py. No condition. -/
namespace Go.Proofs.YtegglooojlheoaaDoor.W
open Go.RowKit Anv Go.Lib
abbrev VE := Option Addr × Nat × Nat × List UE
def fV (v : VE) : List Value := [.slice v.1 v.2.1 v.2.2.1]
def FV (v : VE) : PF := pfRow fU FU 2 v.1 v.2.1 v.2.2.1 v.2.2.2
def tl (us : List UE) : Nat := (us.map fun e => e.2.2.1).sum
def tv (vs : List VE) : Nat := (vs.map fun v => v.2.1 + tl v.2.2.2).sum
def vz (e : UE) : Int := sg e.1 (val 4294967296 e.2.2.2.2)
end Go.Proofs.YtegglooojlheoaaDoor.W

/- row.Cmp, Same; the reference's Cmp, Same, IsZero. Printed by pv/gen_row5.py. No condition. -/
namespace Go.Proofs.YtegglooojlheoaaDoor.W
open Go.RowKit Anv Go.Lib
def lexc : List Int → List Int → Int
  | x :: xs, y :: ys => if (x - y).sign = 0 then lexc xs ys else (x - y).sign
  | _, _ => 0
def cmpR (xs ys : List Int) : Int := if xs.length < ys.length then -1 else if ys.length < xs.length then 1 else lexc xs ys
end Go.Proofs.YtegglooojlheoaaDoor.W

/- row.Widest, anvilref04.Widest. Printed by pv/gen_row6.py. No condition. -/
namespace Go.Proofs.YtegglooojlheoaaDoor.W
open Go.RowKit Anv Go.Lib
def wid (zs : List Int) : Int := zs.foldl (fun w z => if w < (z.natAbs : Int) then (z.natAbs : Int) else w) 0
end Go.Proofs.YtegglooojlheoaaDoor.W

/- What the law RowHolds needs, with no program in sight but the shape of the memory. No condition. -/
namespace Go.Proofs.YtegglooojlheoaaDoor.W
open Go.RowKit Anv Go.Lib
theorem tl_mem {us : List UE} {e : UE} (h : e ∈ us) : e.2.2.1 ≤ tl us := by
  induction us with
  | nil => cases h
  | cons x us ih =>
    unfold tl at *
    rw [List.map_cons, List.sum_cons]
    rcases List.mem_cons.1 h with rfl | h
    · omega
    · have := ih h; omega
end Go.Proofs.YtegglooojlheoaaDoor.W

/- What the laws of rows need of the memory: rows of rows written out, numbers written out, sizes. No program but the shape of the memory. No condition. -/
namespace Go.Proofs.YtegglooojlheoaaDoor.W
open Go.RowKit Anv Go.Lib
theorem zl_vze {w : World} {b : Bool} {A : Option Addr} {n c k : Nat} {xs : List Nat} (h : U32 w A n c xs) (hn : n ≤ k) : zl (sg b (val 4294967296 xs)) ≤ k := by
  have h2 := nl_val h
  have e : zl (sg b (val 4294967296 xs)) = nl (val 4294967296 xs) := by
    unfold sg zl
    split
    · rw [Int.natAbs_neg, Int.natAbs_natCast]
    · rw [Int.natAbs_natCast]
  omega
def Zk (k : Nat) (zs : List Int) : Prop := ∀ z ∈ zs, zl z ≤ k
theorem Zk.es {k : Nat} {es : List NE} {zs : List Int} (h : Zk k zs) (e : es.map zz = zs) : ZB k es := fun x hx => h (zz x) (e ▸ List.mem_map_of_mem hx)
theorem Zk.mono {k m : Nat} {zs : List Int} (h : Zk k zs) (hm : k ≤ m) : Zk m zs := fun z hz => Nat.le_trans (h z hz) hm
theorem Zk.map {k m : Nat} {zs : List Int} {f : Int → Int} (h : Zk k zs) (hf : ∀ z, zl z ≤ k → zl (f z) ≤ m) : Zk m (zs.map f) := fun x hx => by
  obtain ⟨z, hz, rfl⟩ := List.mem_map.1 hx
  exact hf z (h z hz)
theorem mem_zipWith {f : Int → Int → Int} {x : Int} : ∀ {xs ys : List Int}, x ∈ List.zipWith f xs ys → ∃ a ∈ xs, ∃ b ∈ ys, x = f a b
  | [], _, h => by simp at h
  | _ :: _, [], h => by simp at h
  | a :: xs, b :: ys, h => by
    rw [List.zipWith_cons_cons] at h
    rcases List.mem_cons.1 h with rfl | h
    · exact ⟨a, List.mem_cons_self .., b, List.mem_cons_self .., rfl⟩
    · obtain ⟨a, ha, b, hb, e⟩ := mem_zipWith h
      exact ⟨a, List.mem_cons_of_mem _ ha, b, List.mem_cons_of_mem _ hb, e⟩
theorem Zk.zip {k j m : Nat} {xs ys : List Int} {f : Int → Int → Int} (h : Zk k xs) (g : Zk j ys) (hf : ∀ x y, zl x ≤ k → zl y ≤ j → zl (f x y) ≤ m) : Zk m (List.zipWith f xs ys) := fun x hx => by
  obtain ⟨a, ha, b, hb, rfl⟩ := mem_zipWith hx
  exact hf a b (h a ha) (g b hb)
theorem Zk.vz {es : List UE} {k : Nat} {w : World} (h : (pfEs FU es).P w) (ht : tl es ≤ k) : Zk k (es.map vz) := by
  intro z hz
  obtain ⟨e, he, rfl⟩ := List.mem_map.1 hz
  have h1 : U32 w e.2.1 e.2.2.1 e.2.2.2.1 e.2.2.2.2 := h e he
  exact zl_vze h1 (Nat.le_trans (tl_mem he) ht)
theorem Zk.prim {k : Nat} {zs : List Int} (h : Zk k zs) : Zk k (prim zs) := h.map fun _ hz => Nat.le_trans (zl_ediv _ _) hz
theorem Zk.take {k : Nat} {zs : List Int} (h : Zk k zs) (j : Nat) : Zk k (zs.take j) := fun z hz => h z (List.mem_of_mem_take hz)
end Go.Proofs.YtegglooojlheoaaDoor.W

/- row.Neg, Scale, Combine, Dot, integer.Sum; the reference's Combine, Add, Sub, Scale, Dot; the laws' is, own. Printed by pv/gen_row8.py. No condition. -/
namespace Go.Proofs.YtegglooojlheoaaDoor.W
open Go.RowKit Anv Go.Lib
theorem zl_small {z : Int} {k : Nat} (h : z.natAbs < 4294967296 ^ 1) : zl z ≤ k + 1 := Nat.le_trans (nl_le_of_lt h) (by omega)
end Go.Proofs.YtegglooojlheoaaDoor.W

/- row.Read; the reference's Read, Text. Printed by pv/gen_rowD.py. No condition. -/
namespace Go.Proofs.YtegglooojlheoaaDoor.W
open Go.RowKit Anv Go.Lib
def Wd (t : List UInt8) (z p q : Int) : Prop := (p = 0 ∧ q = 0 ∧ Rz t z) ∨ (p = 6 ∧ ∃ b : Nat, q = b ∧ Rb t b)
def Wr (t : List UInt8) (z b : Int) : Prop := (b = -1 ∧ Rz t z) ∨ ∃ c : Nat, b = c ∧ Rb t c
theorem zin_at2 (w : World) : ZAt w (.agg #[.bool (neg 0), .slice none (zl 0) 0]) 0 := ⟨_, _, rfl, zin_none _⟩
theorem iread_w {t : List UInt8} {w0 : World} (hl : t.length ≤ 65536) :
    Calls Tryd.prog 113 #[.string ⟨t.toArray⟩] w0 fun e w' => ∃ z p q v, e = .returned (.tuple #[v, .agg #[.int .i64 p, .int .i64 q]]) ∧ ZAt w' v z ∧ Wd t z p q ∧ Below w0.heap.size w0 w' := by
  rcases word_cases t with ⟨z, h⟩ | ⟨b, h⟩
  · exact (iread_rz h hl).mono fun e w' ⟨v, he, hz, hb⟩ => ⟨z, 0, 0, v, he, hz, .inl ⟨rfl, rfl, h⟩, hb⟩
  · exact (iread_rb h hl).mono fun e w' ⟨he, hb⟩ => ⟨0, 6, b, _, he, zin_at2 _, .inr ⟨rfl, b, rfl, h⟩, hb⟩
theorem wd_bad {t : List UInt8} {z p q : Int} (h : Wd t z p q) (k : (p != 0) = true) : p = 6 ∧ ∃ b : Nat, q = b ∧ Rb t b := by
  rcases h with ⟨h1, _⟩ | h
  · rw [h1] at k; cases k
  · exact h
theorem wd_ok {t : List UInt8} {z p q : Int} (h : Wd t z p q) (k : (p != 0) = false) : p = 0 ∧ q = 0 ∧ Rz t z := by
  rcases h with h | ⟨h1, _⟩
  · exact h
  · rw [h1] at k; cases k
theorem rb_le {t : List UInt8} {b : Nat} (h : Rb t b) : b ≤ t.length := by
  rcases h with ⟨d, b', rfl, h2, rfl⟩ | ⟨_, h2⟩
  · rcases h2.1 with ⟨h3, _⟩ | ⟨h3, _⟩ <;> rw [List.length_cons] <;> omega
  · rcases h2.1 with ⟨h3, _⟩ | ⟨h3, _⟩ <;> omega
def preT (zs : List Int) : List UInt8 := 91 :: zs.flatMap fun z => textZ z ++ [32]
end Go.Proofs.YtegglooojlheoaaDoor.W

/- Calls of functions that Lean stands in for; texts cut at a slash; fractions' texts, plain. No condition. -/
namespace Go.Proofs.YtegglooojlheoaaDoor.W
open Go.RowKit Anv Go.Lib
section
variable {P : Program} {K : Act → World → Prop} {Q : Exit → Act → World → Prop} {N : Nat} {dq : List Deferred} {a : Act} {l : List (Nat × Value)} {w : World}
variable {d : Nat} {ty : TypeId} {pos : String} {af : Array Edge} {gd : Option (Nat × Bool)}
theorem op_ext {f : FuncId} {xs : Array Operand} {Ts : Array TypeId} {vs : Array Value} {v : Value} (h : EnvD dq N a l) (hd : Nat.blt d N = true) (hx : xs.toList.map (evl l) = vs.toList.map some) (hr : (callFunc f vs).run P w = .ok (.value v) w)
    (hK : ∀ a', EnvD dq N a' ((d, v) :: l) → K a' w) :
    Oper.wp P ⟨some d, .call ⟨.value (.func f), xs, Ts⟩, ty, pos, af, gd⟩ a w K Q := by
  have he : xs.map a.eval = vs := Array.ext' (by rw [Array.toList_map]; exact ev_all h hx)
  have hr2 : (execOp a.eval ⟨some d, .call ⟨.value (.func f), xs, Ts⟩, ty, pos, af, gd⟩).run P w = .ok (.value v) w := by
    have h2 : a.eval (.func f) = .func (.func f) #[] #[] := rfl
    simp only [execOp, resolve, he, h2, Sem.run_bind]
    simp [Deferred.ofValue, invoke, hr]
  unfold Oper.wp
  rw [hr2]
  exact hK _ (h.put hd _)
end
theorem ext_index {s : List UInt8} {c : Nat} {w : World} : (callFunc 182 #[.string ⟨s.toArray⟩, .int .u8 (c : Nat)]).run Tryd.prog w = .ok (.value (.int .i64 (indexByte s c.toUInt8))) w := by
  rw [run_callFunc_extern Tryd.func182 (by kernel_rfl) rfl (by kernel_rfl) (e := Extern.BytealgIndexByte.indexByte) (by kernel_rfl), run_indexByteString]
  simp [Result.andThen]
theorem index_no {s : List UInt8} {c : UInt8} (h : c ∉ s) : indexByte s c = -1 := by
  induction s with
  | nil => rfl
  | cons b s ih =>
    have h1 : c ≠ b := fun e => h (e ▸ List.mem_cons_self ..)
    have h2 := ih fun hm => h (List.mem_cons_of_mem _ hm)
    rw [indexByte, h2, if_neg (by simpa using fun e => h1 e.symm)]
    rfl
theorem index_yes {a b : List UInt8} {c : UInt8} (h : c ∉ a) : indexByte (a ++ c :: b) c = (a.length : Nat) := by
  induction a with
  | nil => rw [List.nil_append, indexByte, if_pos (by simp)]; rfl
  | cons x a ih =>
    have h1 : c ≠ x := fun e => h (e ▸ List.mem_cons_self ..)
    have h2 := ih fun hm => h (List.mem_cons_of_mem _ hm)
    rw [List.cons_append, indexByte, h2, if_neg (by simpa using fun e => h1 e.symm), if_neg (by simp <;> omega), List.length_cons]
    omega
theorem cut_cases (s : List UInt8) (c : UInt8) : c ∉ s ∨ ∃ a b, s = a ++ c :: b ∧ c ∉ a := by
  induction s with
  | nil => exact .inl (by simp)
  | cons x s ih =>
    by_cases hx : x = c
    · exact .inr ⟨[], s, by rw [hx]; rfl, by simp⟩
    · rcases ih with h | ⟨a, b, rfl, h⟩
      · exact .inl fun hm => (List.mem_cons.1 hm).elim (fun e => hx e.symm) h
      · exact .inr ⟨x :: a, b, rfl, fun hm => (List.mem_cons.1 hm).elim (fun e => hx e.symm) h⟩
theorem cut_eq {a b a' b' : List UInt8} {c : UInt8} (h : a ++ c :: b = a' ++ c :: b') (h1 : c ∉ a) (h2 : c ∉ a') : a = a' ∧ b = b' := by
  induction a generalizing a' with
  | nil =>
    cases a' with
    | nil => simpa using h
    | cons x a' => simp at h; exact absurd (h.1 ▸ List.mem_cons_self ..) h2
  | cons x a ih =>
    cases a' with
    | nil => simp at h; exact absurd (h.1 ▸ List.mem_cons_self ..) h1
    | cons y a' =>
      simp at h
      obtain ⟨e1, e2⟩ := ih h.2 (fun hm => h1 (List.mem_cons_of_mem _ hm)) fun hm => h2 (List.mem_cons_of_mem _ hm)
      exact ⟨by rw [h.1, e1], e2⟩
theorem text_no47 (z : Int) : (47 : UInt8) ∉ textZ z := fun h => by
  have := text_ndg z 47 h
  unfold ndg at this
  simp at this
theorem textZ_inj {x y : Int} (h : textZ x = textZ y) : x = y := rz_eq (rz_text x) (h ▸ rz_text y)
theorem textQ_whole {r : Rat} {s : List UInt8} (h : textQ r = s) (hs : (47 : UInt8) ∉ s) : Rz s (qn r) ∧ r = ((qn r : Int) : Rat) := by
  unfold textQ at h
  split at h
  · rename_i h0
    exact ⟨h ▸ rz_text _, q_ext rfl (by rw [qd_int, ← ql_qd, h0]; rfl)⟩
  · exact absurd (h ▸ List.mem_append_right _ (List.mem_cons_self ..)) hs
theorem textQ_parts {r : Rat} {a b : List UInt8} (h : textQ r = a ++ 47 :: b) (ha : (47 : UInt8) ∉ a) : a = textZ (qn r) ∧ b = textZ (qd r) := by
  unfold textQ at h
  split at h
  · exact absurd (h ▸ List.mem_append_right _ (List.mem_cons_self ..)) (text_no47 (qn r))
  · obtain ⟨h1, h2⟩ := cut_eq h (text_no47 _) ha
    exact ⟨h1.symm, h2.symm⟩
theorem rz_zl9 {t : List UInt8} {z : Int} (h : Rz t z) : zl z ≤ t.length / 9 + 1 := by
  have main : ∀ d : List UInt8, (∀ c ∈ d, c.toNat ≤ 57) → nl (numOf d) ≤ d.length / 9 + 1 := fun d hd => by
    refine nl_le_of_lt (Nat.lt_of_lt_of_le (numOf_lt hd) ?_)
    refine Nat.le_trans (Nat.pow_le_pow_right (by decide) (show d.length ≤ 9 * (d.length / 9 + 1) by omega)) ?_
    rw [Nat.pow_mul]
    exact Nat.pow_le_pow_left (by decide) _
  rcases h with ⟨d, rfl, h2, rfl⟩ | ⟨_, h2, rfl⟩
  · rw [sg_zl]
    have := main d fun c hc => (digits_of h2.ok c hc).2
    rw [List.length_cons]
    omega
  · rw [sg_zl]
    exact main t fun c hc => (digits_of h2.ok c hc).2
end Go.Proofs.YtegglooojlheoaaDoor.W
