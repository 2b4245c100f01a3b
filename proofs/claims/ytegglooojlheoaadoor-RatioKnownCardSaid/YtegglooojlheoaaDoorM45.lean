/- strings.Join at a blank; row.Text. Printed by pv/gen_rtx2.py. No condition. -/
import Derived.Test.YtegglooojlheoaaDoorM43
import Derived.Test.YtegglooojlheoaaDoorM11
import Derived.Test.YtegglooojlheoaaDoorM44
import Derived.Test.YtegglooojlheoaaDoorM29
import Derived.Test.YtegglooojlheoaaDoorM34
import Derived.Test.YtegglooojlheoaaDoorM39
import Derived.Test.YtegglooojlheoaaDoorM16

namespace Go.Proofs.YtegglooojlheoaaDoor.W
open Go.RowKit Anv Go.Lib
def jt (s : List UInt8) (r : List (List UInt8)) (k : Nat) : List UInt8 := s ++ (r.take k).flatMap fun t => 32 :: t
def textRow (zs : List Int) : List UInt8 := 91 :: (jn (zs.map textZ) ++ [93])
end Go.Proofs.YtegglooojlheoaaDoor.W

/- Plain laws of the texts of rows: what a text is read as, or where it goes wrong. No program. No condition. -/
namespace Go.Proofs.YtegglooojlheoaaDoor.W
open Anv
def stp (c : UInt8) : Prop := c.toNat = 32 ∨ c.toNat = 93
def ndg (c : UInt8) : Prop := c.toNat = 45 ∨ (48 ≤ c.toNat ∧ c.toNat ≤ 57)
def Rz (t : List UInt8) (z : Int) : Prop := (∃ d, t = 45 :: d ∧ Ok 1 d ∧ z = sg true (numOf d)) ∨ ((t.getD 0 0).toNat ≠ 45 ∧ Ok 0 t ∧ z = sg false (numOf t))
def Rb (t : List UInt8) (b : Nat) : Prop := (∃ d b', t = 45 :: d ∧ Fb 1 d b' ∧ b = b' + 1) ∨ ((t.getD 0 0).toNat ≠ 45 ∧ Fb 0 t b)
theorem word_cases (t : List UInt8) : (∃ z, Rz t z) ∨ ∃ b, Rb t b := by
  rcases sign_cases t with h | ⟨d, rfl⟩
  · rcases read_cases 0 t with ⟨b, hb⟩ | ho
    · exact .inr ⟨b, .inr ⟨h, hb⟩⟩
    · exact .inl ⟨_, .inr ⟨h, ho, rfl⟩⟩
  · rcases read_cases 1 d with ⟨b, hb⟩ | ho
    · exact .inr ⟨b + 1, .inl ⟨d, b, rfl, hb, rfl⟩⟩
    · exact .inl ⟨_, .inl ⟨d, rfl, ho, rfl⟩⟩
theorem ok_not_fb {f b : Nat} {d : List UInt8} (h : Ok f d) (k : Fb f d b) : False := by
  rcases k.1 with ⟨h1, h2⟩ | ⟨_, h2⟩
  · exact h.2 b h1 h2
  · have := h.1; omega
theorem fb_eq {f b c : Nat} {d : List UInt8} (h : Fb f d b) (k : Fb f d c) : b = c := by
  rcases Nat.lt_trichotomy b c with hlt | e | hlt
  · rcases h.1 with ⟨_, h2⟩ | ⟨_, h2⟩
    · exact absurd h2 (k.2 b hlt)
    · rcases k.1 with ⟨h3, _⟩ | ⟨h3, _⟩ <;> omega
  · exact e
  · rcases k.1 with ⟨_, h2⟩ | ⟨_, h2⟩
    · exact absurd h2 (h.2 c hlt)
    · rcases h.1 with ⟨h3, _⟩ | ⟨h3, _⟩ <;> omega
theorem head45 {t d : List UInt8} (h : t = 45 :: d) (k : (t.getD 0 0).toNat ≠ 45) : False := k (by rw [h]; rfl)
theorem rz_not_rb {t : List UInt8} {z : Int} {b : Nat} (h : Rz t z) (k : Rb t b) : False := by
  rcases h with ⟨d, h1, h2, _⟩ | ⟨h1, h2, _⟩ <;> rcases k with ⟨e, b', k1, k2, _⟩ | ⟨k1, k2⟩
  · rw [h1] at k1; cases k1; exact ok_not_fb h2 k2
  · exact head45 h1 k1
  · exact head45 k1 h1
  · exact ok_not_fb h2 k2
theorem rz_eq {t : List UInt8} {z y : Int} (h : Rz t z) (k : Rz t y) : z = y := by
  rcases h with ⟨d, h1, _, h3⟩ | ⟨h1, _, h3⟩ <;> rcases k with ⟨e, k1, _, k3⟩ | ⟨k1, _, k3⟩
  · rw [h1] at k1; cases k1; rw [h3, k3]
  · exact (head45 h1 k1).elim
  · exact (head45 k1 h1).elim
  · rw [h3, k3]
theorem rb_eq {t : List UInt8} {b c : Nat} (h : Rb t b) (k : Rb t c) : b = c := by
  rcases h with ⟨d, b', h1, h2, h3⟩ | ⟨h1, h2⟩ <;> rcases k with ⟨e, c', k1, k2, k3⟩ | ⟨k1, k2⟩
  · rw [h1] at k1; cases k1; rw [h3, k3, fb_eq h2 k2]
  · exact (head45 h1 k1).elim
  · exact (head45 k1 h1).elim
  · exact fb_eq h2 k2
def cutw (s : List UInt8) (p q : Nat) : List UInt8 := (s.drop p).take (q - p)
def Seg (s : List UInt8) (p q : Nat) : Prop := p ≤ q ∧ q ≤ s.length ∧ (∀ i, p ≤ i → i < q → ¬ stp (s.getD i 0)) ∧ (q < s.length → stp (s.getD q 0))
def Sen (s : List UInt8) (p q : Nat) : Prop := p ≤ q ∧ q ≤ s.length ∧ (∀ i, p ≤ i → i < q → ndg (s.getD i 0)) ∧ (q < s.length → ¬ ndg (s.getD q 0))
inductive Go (s : List UInt8) : Nat → List Int → List Int ⊕ Nat → Prop
  | bad {p q b : Nat} {zs : List Int} (h : Seg s p q) (hb : Rb (cutw s p q) b) : Go s p zs (.inr (p + b))
  | fin {p : Nat} {zs : List Int} {z : Int} (h : Seg s p s.length) (hz : Rz (cutw s p s.length) z) : Go s p zs (.inr s.length)
  | more {p q : Nat} {zs : List Int} {z : Int} (h : Seg s p q) (hz : Rz (cutw s p q) z) (hc : (s.getD q 0).toNat = 93) (hq : q + 1 < s.length) : Go s p zs (.inr (q + 1))
  | done {p q : Nat} {zs : List Int} {z : Int} (h : Seg s p q) (hz : Rz (cutw s p q) z) (hc : (s.getD q 0).toNat = 93) (hq : q + 1 = s.length) : Go s p zs (.inl (zs ++ [z]))
  | next {p q : Nat} {zs : List Int} {z : Int} {r : List Int ⊕ Nat} (h : Seg s p q) (hz : Rz (cutw s p q) z) (hq : q < s.length) (hc : (s.getD q 0).toNat = 32) (hr : Go s (q + 1) (zs ++ [z]) r) : Go s p zs r
inductive Rd0 (s : List UInt8) : List Int ⊕ Nat → Prop
  | no (h : s = [] ∨ (s.getD 0 0).toNat ≠ 91) : Rd0 s (.inr 0)
  | void (h : (s.getD 0 0).toNat = 91) (h1 : (s.getD 1 0).toNat = 93) (h2 : s.length = 2) : Rd0 s (.inl [])
  | tail (h : (s.getD 0 0).toNat = 91) (h1 : (s.getD 1 0).toNat = 93) (h2 : 2 < s.length) : Rd0 s (.inr 2)
  | go (h : (s.getD 0 0).toNat = 91) (h0 : s ≠ []) (h1 : ¬ (1 < s.length ∧ (s.getD 1 0).toNat = 93)) {r : List Int ⊕ Nat} (hr : Go s 1 [] r) : Rd0 s r
end Go.Proofs.YtegglooojlheoaaDoor.W

/- Texts of rows: told and read back; the readers of words, by what the plain laws say of a word. No condition. -/
namespace Go.Proofs.YtegglooojlheoaaDoor.W
open Go.RowKit Anv Go.Lib
theorem rz_text (z : Int) : Rz (textZ z) z := by
  rcases textZ_cases z with ⟨_, h0, ht, hs⟩ | ⟨_, ht, hs⟩
  · exact .inl ⟨_, ht, ok_textN _ 1 fun _ => h0, by rw [numOf_textN, hs]⟩
  · have h2 := ok_textN z.natAbs 0 (fun e => by cases e)
    have h3 := ok_first h2
    refine .inr ⟨by rw [ht]; omega, by rw [ht]; exact h2, by rw [ht, numOf_textN, hs]⟩
theorem rz_back {t : List UInt8} {z : Int} (h : Rz t z) : textZ z = t := by
  rcases h with ⟨d, rfl, h2, rfl⟩ | ⟨_, h2, rfl⟩
  · exact textZ_back1 h2
  · exact textZ_back0 h2
theorem ok_ndg {f : Nat} {d : List UInt8} (h : Ok f d) : ∀ c ∈ d, ndg c := fun c hc => .inr (digits_of h.ok c hc)
theorem text_ndg (z : Int) : ∀ c ∈ textZ z, ndg c := by
  intro c hc
  rcases rz_text z with ⟨d, ht, h2, _⟩ | ⟨_, h2, _⟩
  · rw [ht] at hc
    rcases List.mem_cons.1 hc with rfl | hc
    · exact .inl rfl
    · exact ok_ndg h2 c hc
  · exact ok_ndg h2 c hc
theorem rz_pos {t : List UInt8} {z : Int} (h : Rz t z) : 0 < t.length := by
  rcases h with ⟨d, rfl, h2, _⟩ | ⟨_, h2, _⟩
  · simp
  · exact h2.1
theorem byte_eq {c : UInt8} {n : Nat} (h : c.toNat = n) (d : UInt8) (hd : d.toNat = n) : c = d := UInt8.toNat_inj.1 (h.trans hd.symm)
theorem iread_rz {t : List UInt8} {z : Int} {w0 : World} (h : Rz t z) (hl : t.length ≤ 65536) :
    Calls Tryd.prog 113 #[.string ⟨t.toArray⟩] w0 fun e w' => ∃ v, e = .returned (.tuple #[v, .agg #[.int .i64 0, .int .i64 0]]) ∧ ZAt w' v z ∧ Below w0.heap.size w0 w' := by
  rcases h with ⟨d, rfl, h2, rfl⟩ | ⟨h1, h2, rfl⟩
  · rw [List.length_cons] at hl
    exact iread_ok1 (by omega) h2
  · exact iread_ok0 h1 (by omega) h2
theorem iread_rb {t : List UInt8} {b : Nat} {w0 : World} (h : Rb t b) (hl : t.length ≤ 65536) :
    Calls Tryd.prog 113 #[.string ⟨t.toArray⟩] w0 fun e w' => e = .returned (.tuple #[.agg #[.bool (neg 0), .slice none (zl 0) 0], .agg #[.int .i64 6, .int .i64 (b : Nat)]]) ∧ Below w0.heap.size w0 w' := by
  rcases h with ⟨d, b', rfl, h2, rfl⟩ | ⟨h1, h2⟩
  · rw [List.length_cons] at hl
    exact iread_fb1 (by omega) h2
  · exact iread_fb0 h1 (by omega) h2
end Go.Proofs.YtegglooojlheoaaDoor.W

/- row.Zero, Unit, IsZero; the laws' live; RowMakes. Printed by pv/gen_row2.py. No condition. -/
namespace Go.Proofs.YtegglooojlheoaaDoor.W
open Go.RowKit Anv Go.Lib
def allz (es : List NE) : Bool := es.all fun e => decide (zz e = 0)
end Go.Proofs.YtegglooojlheoaaDoor.W
