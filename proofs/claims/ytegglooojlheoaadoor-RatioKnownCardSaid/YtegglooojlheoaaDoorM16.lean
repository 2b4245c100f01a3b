/- More of layer 2: clones, limbs, small numbers. No condition. -/
import Derived.Test.YtegglooojlheoaaDoorM8
import Derived.Test.YtegglooojlheoaaDoorM15
import Derived.Lib.SliceRun

namespace Go.Proofs.YtegglooojlheoaaDoor
open Go.RowKit Anv
end Go.Proofs.YtegglooojlheoaaDoor

/- integer.Of, Sub, Times, Cmp, Small. No condition. -/
namespace Go.Proofs.YtegglooojlheoaaDoor
open Go.RowKit Anv
theorem new_num {w : World} {t : TypeId} {g : Nat} {cs : Array Value} (ys : List Nat) (hg : g = w.heap.size) (hcs : cs = nums .u32 ys) (hl : AllLt 4294967296 ys) (hm : ys.length ≤ 1000) :
    NumIn (w.alloc (.cells cs t)) (some ⟨g, 0, none⟩) ys.length ys.length (val 4294967296 ys) := by
  subst hg hcs
  have h : Arr .u32 t (w.alloc (.cells (nums .u32 ys) t)) w.heap.size ys := heap_alloc_new w _
  exact ⟨ys, h.u32 hl rfl (by simp only [maxLen]; omega), rfl⟩
theorem two_num {w : World} {t : TypeId} {g : Nat} {a b : Int} (m : Nat) (hg : g = w.heap.size) (hm : m < 18446744073709551616) (ha : a = ((m % 4294967296 : Nat) : Int)) (hb : b = ((m / 4294967296 : Nat) : Int)) :
    NumIn (w.alloc (.cells #[.int .u32 a, .int .u32 b] t)) (some ⟨g, 0, none⟩) 2 2 m := by
  have h := new_num (w := w) (t := t) (cs := #[.int .u32 a, .int .u32 b]) [m % 4294967296, m / 4294967296] hg (by subst ha hb; simp [nums]) (by intro x hx; simp at hx; omega) (by simp)
  have e : val 4294967296 [m % 4294967296, m / 4294967296] = m := by simp; omega
  rw [e] at h
  exact h
theorem nl_le_of_lt {N k : Nat} (h : N < 4294967296 ^ k) : nl N ≤ k := dig_len_of_lt (by omega) h
theorem of_z {n : Int} {w : World} (h1 : -9223372036854775808 ≤ n) (h2 : n ≤ 9223372036854775807) :
    Calls Tryd.prog 43 #[.int .i64 n] w fun e w' => ∃ v, e = .returned v ∧ ZAt w' v n ∧ Below w.heap.size w w' := by
  by_cases hn : n < 0
  · obtain ⟨m, rfl⟩ : ∃ m : Nat, n = -(m : Int) := ⟨n.natAbs, by omega⟩
    have hw : IntKind.u64.wrap (-IntKind.u64.wrap (-(m : Int))) = (m : Int) := by rw [IntKind.wrap_u64, IntKind.wrap_u64]; omega
    have hnl : nl m ≤ 1000000 := by have := nl_le_of_lt (N := m) (k := 2) (by omega); omega
    go_enter Tryd.func43, Tryd.ntmps43
    go_wp2_with fail
    refine (make_z (b := true) (N := m) (two_num m (by simp) (by omega) (by omega) (by omega)) hnl).mono ?_
    rintro e w1 ⟨v, rfl, ⟨A1, c1, rfl, hz⟩, hb⟩
    have e1 : sg true m = -(m : Int) := rfl
    rw [e1] at hz ⊢
    have hbw := thru (below2 _ _ _) hb
    have q := ((Box2.new w 36 (.bool false) (.slice none 0 0)).alloc _).below hb (by simp; omega)
    have hc0 := q.c0
    have hc1 := q.c1
    have hf0 := q.f 0
    have hf1 := q.f 1
    have hs := q.lt
    go_wp2
    exact bodyPost_ret (v := .agg #[.bool (neg (-(m : Int))), .slice A1 (zl (-(m : Int))) c1]) (by simp [results, Tryd.results43, go_sem, hc0, hc1]) rfl ⟨_, rfl, ⟨_, _, rfl, U32.store2 hz hc0 hc1 _ _⟩, below_store2 hbw (Nat.le_refl _) _ _⟩
  · obtain ⟨m, rfl⟩ : ∃ m : Nat, n = (m : Int) := ⟨n.natAbs, by omega⟩
    have hnl : nl m ≤ 1000000 := by have := nl_le_of_lt (N := m) (k := 2) (by omega); omega
    go_enter Tryd.func43, Tryd.ntmps43
    go_wp2_with fail
    refine (make_z (b := false) (N := m) (two_num m (by simp) (by omega) (by omega) (by omega)) hnl).mono ?_
    rintro e w1 ⟨v, rfl, ⟨A1, c1, rfl, hz⟩, hb⟩
    have e1 : sg false m = (m : Int) := rfl
    rw [e1] at hz ⊢
    have hbw := thru (below2 _ _ _) hb
    have q := ((Box2.new w 36 (.bool false) (.slice none 0 0)).alloc _).below hb (by simp; omega)
    have hc0 := q.c0
    have hc1 := q.c1
    have hf0 := q.f 0
    have hf1 := q.f 1
    have hs := q.lt
    go_wp2
    exact bodyPost_ret (v := .agg #[.bool (neg (m : Int)), .slice A1 (zl (m : Int)) c1]) (by simp [results, Tryd.results43, go_sem, hc0, hc1]) rfl ⟨_, rfl, ⟨_, _, rfl, U32.store2 hz hc0 hc1 _ _⟩, below_store2 hbw (Nat.le_refl _) _ _⟩
theorem cmp_sign (x y : Int) : (if neg x then (if neg y then cmpI y.natAbs x.natAbs else -1) else if neg y then 1 else cmpI x.natAbs y.natAbs) = (x - y).sign := by
  unfold neg cmpI
  rcases Int.lt_trichotomy (x - y) 0 with h | h | h
  · rw [Int.sign_eq_neg_one_of_neg h]; (repeat' split) <;> simp_all <;> omega
  · rw [h]; (repeat' split) <;> simp_all <;> omega
  · rw [Int.sign_eq_one_of_pos h]; (repeat' split) <;> simp_all <;> omega
end Go.Proofs.YtegglooojlheoaaDoor

/- integer.Sub, Times, Cmp. No condition. -/
namespace Go.Proofs.YtegglooojlheoaaDoor
open Go.RowKit Anv
theorem zl_neg (z : Int) : zl (-z) = zl z := by unfold zl; rw [Int.natAbs_neg]
theorem sub_z {A B : Option Addr} {c d : Nat} {x y : Int} {w : World} (hx : ZIn w A c x) (hy : ZIn w B d y) (hn : zl x ≤ 1000000) (hm : zl y ≤ 1000000) :
    Calls Tryd.prog 99 #[.agg #[.bool (neg x), .slice A (zl x) c], .agg #[.bool (neg y), .slice B (zl y) d]] w fun e w' => ∃ v, e = .returned v ∧ ZAt w' v (x - y) ∧ Below w.heap.size w w' := by
  go_enter Tryd.func99, Tryd.ntmps99
  go_wp2_with fail
  go_region_held3 (fun w' => w'.cell? ⟨w.heap.size, 0, none⟩ = some (.bool (neg x)) ∧ w'.cell? ⟨w.heap.size, 1, none⟩ = some (.slice A (zl x) c) ∧ w'.cell? ⟨w.heap.size + 1, 0, none⟩ = some (.bool (neg y)) ∧ w'.cell? ⟨w.heap.size + 1, 1, none⟩ = some (.slice B (zl y) d)) (first | exact ⟨q0.c0, q0.c1, q1.c0, q1.c1⟩ | exact ⟨r0.c0, r0.c1, r1.c0, r1.c1⟩ | exact ⟨(r0.far2 (by omega) _ _).c0, (r0.far2 (by omega) _ _).c1, (r1.far2 (by omega) _ _).c0, (r1.far2 (by omega) _ _).c1⟩ | go_keep)
    (first | (go_at_call 103; refine (neg_z (ZIn.below hy (by exact (below3 _ _ _ _).drew))).mono ?_; rintro e w1 ⟨v, rfl, ⟨A1, c1, rfl, hz1⟩, hb⟩; obtain ⟨q0, q1, q2, hbw, hs⟩ := boxes3 (undrew hb)) | (go_at_call 85; refine (add_z (ZIn.below hx hbw) hz1 hn (by rw [zl_neg]; exact hm)).mono ?_; rintro e w2 ⟨v2, rfl, ⟨A2, c2, rfl, hz2⟩, hb2⟩; have r0 := q0.below hb2 q0.lt; have r1 := q1.below hb2 q1.lt; have r2 := q2.below hb2 q2.lt; have hc0 := r2.c0; have hc1 := r2.c1; have hf0 := r2.f 0; have hf1 := r2.f 1; have hs2 : w.heap.size + 1 + 1 < w2.heap.size := by have := hb2.size; omega))
  go_wp2
  rw [← Int.sub_eq_add_neg] at hz2 ⊢
  exact bodyPost_ret (v := .agg #[.bool (neg (x - y)), .slice A2 (zl (x - y)) c2]) (by simp [results, Tryd.results99, go_sem, hc0, hc1]) rfl ⟨_, rfl, ⟨_, _, rfl, U32.store2 hz2 hc0 hc1 _ _⟩, below_store2 (thru hbw hb2) (by omega) _ _⟩
theorem cmp_z {A B : Option Addr} {c d : Nat} {x y : Int} {w : World} (hx : ZIn w A c x) (hy : ZIn w B d y) :
    Calls Tryd.prog 42 #[.agg #[.bool (neg x), .slice A (zl x) c], .agg #[.bool (neg y), .slice B (zl y) d]] w fun e w' => e = .returned (.int .i64 (x - y).sign) ∧ Below w.heap.size w w' := by
  have e := cmp_sign x y
  rw [← e]
  have hb1 := cmpI_bd x.natAbs y.natAbs
  have hb2 := cmpI_bd y.natAbs x.natAbs
  clear e
  cases neg x <;> cases neg y
  · go_enter Tryd.func42, Tryd.ntmps42
    go_wp2_with fail
    refine (cmp_num' (NumIn.below (ZIn.num hx) (by exact below2 _ _ _)) (NumIn.below (ZIn.num hy) (by exact below2 _ _ _))).mono ?_
    rintro e w1 ⟨rfl, hb⟩
    go_wp2
    go_ret
    exact ⟨rfl, thru (below2 _ _ _) hb⟩
  · go_enter Tryd.func42, Tryd.ntmps42
    go_wp2
    go_ret
    exact ⟨rfl, below2 _ _ _⟩
  · go_enter Tryd.func42, Tryd.ntmps42
    go_wp2
    go_ret
    exact ⟨rfl, below2 _ _ _⟩
  · go_enter Tryd.func42, Tryd.ntmps42
    go_wp2_with fail
    refine (cmp_num' (NumIn.below (ZIn.num hy) (by exact below2 _ _ _)) (NumIn.below (ZIn.num hx) (by exact below2 _ _ _))).mono ?_
    rintro e w1 ⟨rfl, hb⟩
    go_wp2
    go_ret
    exact ⟨rfl, thru (below2 _ _ _) hb⟩
end Go.Proofs.YtegglooojlheoaaDoor

/- integer.Times, Small. No condition. -/
namespace Go.Proofs.YtegglooojlheoaaDoor
open Go.RowKit Anv
theorem zl_small {n : Int} (h1 : -9223372036854775808 ≤ n) (h2 : n ≤ 9223372036854775807) : zl n ≤ 2 := nl_le_of_lt (by omega)
def smallV (z : Int) : Value := if -9223372036854775808 ≤ z ∧ z ≤ 9223372036854775807 then .tuple #[.int .i64 z, .bool true] else .tuple #[.int .i64 0, .bool false]
theorem neg_true {z : Int} (h : neg z = true) : z < 0 := by unfold neg at h; simpa using h
theorem neg_false {z : Int} (h : neg z = false) : 0 ≤ z := by unfold neg at h; simpa using h
end Go.Proofs.YtegglooojlheoaaDoor

/- The reference's numbers: norm. No condition. -/
namespace Go.Proofs.YtegglooojlheoaaDoor
open Go.RowKit Anv
def D (N : Nat) : List Nat := dig 65536 N
def dn (N : Nat) : Nat := (D N).length
def dl (z : Int) : Nat := dn z.natAbs
theorem wide {xs : List Nat} (h : AllLt 65536 xs) : AllLt 4294967296 xs := fun x hx => by have := h x hx; omega
def RIn (w : World) (A : Option Addr) (c : Nat) (z : Int) : Prop := U32 w A (dl z) c (D z.natAbs)
def RAt (w : World) (v : Value) (z : Int) : Prop := ∃ A c, v = .agg #[.bool (neg z), .slice A (dl z) c] ∧ RIn w A c z
theorem RIn.below {w w' : World} {A : Option Addr} {c : Nat} {z : Int} (h : RIn w A c z) (hb : Below w.heap.size w w') : RIn w' A c z := U32.below h hb
theorem RAt.below {w w' : World} {v : Value} {z : Int} (h : RAt w v z) (hb : Below w.heap.size w w') : RAt w' v z := by
  obtain ⟨A, c, rfl, hz⟩ := h
  exact ⟨A, c, rfl, hz.below hb⟩
def NormPost (w : World) (A : Option Addr) (c : Nat) (b : Bool) (N : Nat) (e : Ending) (w' : World) : Prop :=
  e = .returned (.agg #[.bool (neg (sg b N)), .slice A (dl (sg b N)) c]) ∧ RIn w' A c (sg b N) ∧ Below w.heap.size w w'
end Go.Proofs.YtegglooojlheoaaDoor

/- The reference's plus, minus. No condition. -/
namespace Go.Proofs.YtegglooojlheoaaDoor
open Go.RowKit Anv
end Go.Proofs.YtegglooojlheoaaDoor

/- The reference's minus. No condition. -/
namespace Go.Proofs.YtegglooojlheoaaDoor
open Go.RowKit Anv
end Go.Proofs.YtegglooojlheoaaDoor

/- The reference's size: digits held against digits. No condition. -/
namespace Go.Proofs.YtegglooojlheoaaDoor
open Go.RowKit Anv
end Go.Proofs.YtegglooojlheoaaDoor

/- The reference: signs, sums, differences. No condition. -/
namespace Go.Proofs.YtegglooojlheoaaDoor
open Go.RowKit Anv
end Go.Proofs.YtegglooojlheoaaDoor

/- The reference: sums. No condition. -/
namespace Go.Proofs.YtegglooojlheoaaDoor
open Go.RowKit Anv
end Go.Proofs.YtegglooojlheoaaDoor

/- The reference: comparisons; digits out of limbs and back. No condition. -/
namespace Go.Proofs.YtegglooojlheoaaDoor
open Go.RowKit Anv
theorem sign_bd (z : Int) : -1 ≤ z.sign ∧ z.sign ≤ 1 := by
  rcases Int.lt_trichotomy z 0 with h | h | h
  · rw [Int.sign_eq_neg_one_of_neg h]; omega
  · subst h; simp
  · rw [Int.sign_eq_one_of_pos h]; omega
end Go.Proofs.YtegglooojlheoaaDoor

/- The reference: digits out of limbs. No condition. -/
namespace Go.Proofs.YtegglooojlheoaaDoor
open Go.RowKit Anv
def halves (xs : List Nat) : List Nat := xs.flatMap fun x => [x % 65536, x / 65536]
end Go.Proofs.YtegglooojlheoaaDoor

/- The reference: limbs out of digits. No condition. -/
namespace Go.Proofs.YtegglooojlheoaaDoor
open Go.RowKit Anv
def prs (ds : List Nat) (k : Nat) : List Nat := (List.range k).map fun j => ds.getD (2 * j) 0 + 65536 * ds.getD (2 * j + 1) 0
end Go.Proofs.YtegglooojlheoaaDoor

/- The reference: small numbers, products. No condition. -/
namespace Go.Proofs.YtegglooojlheoaaDoor
open Go.RowKit Anv
end Go.Proofs.YtegglooojlheoaaDoor

/- The reference: products. No condition. -/
namespace Go.Proofs.YtegglooojlheoaaDoor
open Go.RowKit Anv
def RowInv (ys os : List Nat) (n m k q cc x T : Nat) : Prop :=
  os.length = n + m + 1 ∧ AllLt 65536 os ∧ val 65536 os + 65536 ^ (k + q) * cc = T + 65536 ^ k * (x * val 65536 (ys.take q)) ∧
    (∀ j, k + m + 1 ≤ j → os.getD j 0 = 0) ∧ (q ≤ m → os.getD (k + m) 0 = 0) ∧ (q = m + 1 → cc = 0) ∧ q ≤ m + 1
end Go.Proofs.YtegglooojlheoaaDoor

/- The statements' own small functions: is, zero, live, long, of. No condition. -/
namespace Go.Proofs.YtegglooojlheoaaDoor
open Go.RowKit Anv
theorem zl_zero : zl 0 = 0 := nl_zero
theorem neg_zero : neg 0 = false := by unfold neg; simp
end Go.Proofs.YtegglooojlheoaaDoor

/- The statements' own small functions: live, long, of. No condition. -/
namespace Go.Proofs.YtegglooojlheoaaDoor
open Go.RowKit Anv
def flat (l : List (Bool × Option Addr × Nat × Nat)) : List Value := l.flatMap fun x => [.bool x.1, .slice x.2.1 x.2.2.1 x.2.2.2]
def Arg (w : World) (v : Value) (b : Bool) (A : Option Addr) (n c N : Nat) : Prop := v = .agg #[.bool b, .slice A n c] ∧ NumIn w A n c N
end Go.Proofs.YtegglooojlheoaaDoor

/- How many limbs and digits sums and products have. No condition. -/
namespace Go.Proofs.YtegglooojlheoaaDoor
open Go.RowKit Anv
theorem lt_nl (N : Nat) : N < 4294967296 ^ nl N := lt_pow_dig (by omega) N
theorem nl_mono {N M : Nat} (h : N ≤ M) : nl N ≤ nl M := dig_len_le (by omega) h
theorem len_add {b : Nat} (hb : 2 ≤ b) (N M i j : Nat) (h : N < b ^ i) (k : M < b ^ j) : N + M < b ^ (i + j + 1) := by
  have h1 : b ^ i ≤ b ^ (i + j) := Nat.pow_le_pow_right (by omega) (by omega)
  have h2 : b ^ j ≤ b ^ (i + j) := Nat.pow_le_pow_right (by omega) (by omega)
  have h3 := Nat.mul_le_mul_left (b ^ (i + j)) hb
  rw [Nat.pow_succ]; omega
theorem len_mul {b : Nat} (_hb : 2 ≤ b) (N M i j : Nat) (h : N < b ^ i) (k : M < b ^ j) : N * M < b ^ (i + j) := by
  rw [Nat.pow_add]
  exact Nat.mul_lt_mul'' h k
theorem nl_add (N M : Nat) : nl (N + M) ≤ nl N + nl M + 1 := nl_le_of_lt (len_add (by omega) _ _ _ _ (lt_nl N) (lt_nl M))
theorem nl_mul (N M : Nat) : nl (N * M) ≤ nl N + nl M := nl_le_of_lt (len_mul (by omega) _ _ _ _ (lt_nl N) (lt_nl M))
theorem zl_add (x y : Int) : zl (x + y) ≤ zl x + zl y + 1 := Nat.le_trans (nl_mono (Int.natAbs_add_le x y)) (nl_add _ _)
theorem zl_sub (x y : Int) : zl (x - y) ≤ zl x + zl y + 1 := by
  rw [Int.sub_eq_add_neg, ← zl_neg y]; exact zl_add x (-y)
theorem zl_mul (x y : Int) : zl (x * y) ≤ zl x + zl y := by unfold zl; rw [Int.natAbs_mul]; exact nl_mul _ _
theorem zl_abs (x : Int) : zl (x.natAbs : Int) = zl x := by unfold zl; rw [Int.natAbs_natCast]
section
variable {x y c : Int}
end
end Go.Proofs.YtegglooojlheoaaDoor

/- Lists of whole numbers; Sum and Product. No condition. -/
namespace Go.Proofs.YtegglooojlheoaaDoor
open Go.RowKit Anv
structure ZList (w : World) (a : Option Addr) (k : Nat) (l : List (Int × Option Addr × Nat)) : Prop where
  len : l.length = k
  cells : 0 < k → ∃ G o, a = some ⟨G, o, none⟩ ∧ G < w.heap.size ∧ ∀ i (h : i < l.length), w.cell? ⟨G, o + i * 2, none⟩ = some (.bool (neg l[i].1)) ∧ w.cell? ⟨G, o + i * 2 + 1, none⟩ = some (.slice l[i].2.1 (zl l[i].1) l[i].2.2)
  nums : ∀ x ∈ l, ZIn w x.2.1 x.2.2 x.1
theorem ZList.below {w w' : World} {a : Option Addr} {k : Nat} {l : List (Int × Option Addr × Nat)} (h : ZList w a k l) (hb : Below w.heap.size w w') : ZList w' a k l :=
  ⟨h.len, fun hp => by
    obtain ⟨G, o, ha, hG, hc⟩ := h.cells hp
    exact ⟨G, o, ha, Nat.lt_of_lt_of_le hG hb.size, fun i hi => ⟨(hb.cell (p := ⟨G, o + i * 2, none⟩) hG).trans (hc i hi).1, (hb.cell (p := ⟨G, o + i * 2 + 1, none⟩) hG).trans (hc i hi).2⟩⟩,
   fun x hx => (h.nums x hx).below hb⟩
theorem ZList.nil (w : World) : ZList w none 0 [] := ⟨rfl, fun h => by omega, fun x hx => by cases hx⟩
def zsum (l : List (Int × Option Addr × Nat)) : Int := l.foldl (fun s x => s + x.1) 0
def zprod (l : List (Int × Option Addr × Nat)) : Int := l.foldl (fun s x => s * x.1) 1
end Go.Proofs.YtegglooojlheoaaDoor
