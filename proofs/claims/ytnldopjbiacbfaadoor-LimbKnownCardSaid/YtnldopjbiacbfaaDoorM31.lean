/- Operations over naturals and strings, one rule each. Over any program. No condition. -/
import Derived.Test.YtnldopjbiacbfaaDoorM27
import Derived.Test.YtnldopjbiacbfaaDoorM29
import Derived.Test.YtnldopjbiacbfaaDoorM28
import Derived.Laws.Strings2
import Derived.Laws.Cover3
import Derived.Test.YtnldopjbiacbfaaDoorM30

namespace Go.Proofs.YtnldopjbiacbfaaDoor.W
open Go.RowKit Anv Go.Lib

theorem tdiv_nat (t c : Nat) : ((t : Nat) : Int).tdiv ((c : Nat) : Int) = ((t / c : Nat) : Int) := rfl
theorem quo_u32 {t c : Nat} (h : t < 4294967296) : IntKind.u32.wrap (((t : Nat) : Int).tdiv ((c : Nat) : Int)) = ((t / c : Nat) : Int) := by
  rw [tdiv_nat]
  have := Nat.div_le_self t c
  generalize t / c = q at *
  exact IntWalk.u32_in _ (by omega)
theorem quo_u64 {t c : Nat} (h : t < 18446744073709551616) : IntKind.u64.wrap (((t : Nat) : Int).tdiv ((c : Nat) : Int)) = ((t / c : Nat) : Int) := by
  rw [tdiv_nat]
  have := Nat.div_le_self t c
  generalize t / c = q at *
  exact IntWalk.u64_in _ (by omega)
theorem quo_i64 {t c : Nat} (h : t < 9223372036854775808) : IntKind.i64.wrap (((t : Nat) : Int).tdiv ((c : Nat) : Int)) = ((t / c : Nat) : Int) := by
  rw [tdiv_nat]
  have := Nat.div_le_self t c
  generalize t / c = q at *
  exact IntWalk.i64_in _ (by omega)
theorem shb_u32 {s : Nat} (h : s ≤ 32) : s ≤ IntKind.u32.bits := h
theorem shb_u64 {s : Nat} (h : s ≤ 64) : s ≤ IntKind.u64.bits := h
theorem shb_i64 {s : Nat} (h : s ≤ 64) : s ≤ IntKind.i64.bits := h
theorem fdiv_pow (m s : Nat) : ((m : Nat) : Int).fdiv (2 ^ s) = ((m / 2 ^ s : Nat) : Int) := by
  have e : (2 : Int) ^ s = ((2 ^ s : Nat) : Int) := by rw [Int.natCast_pow]; rfl
  rw [e, fdiv_nat]
theorem pow_u32 {s : Nat} (h : s < 32) : IntKind.u32.wrap (1 * 2 ^ s) = ((2 ^ s : Nat) : Int) := by
  have h1 : 2 ^ s < 4294967296 := Nat.pow_lt_pow_right (n := 32) (by omega) h
  have h2 : ((2 ^ s : Nat) : Int) = 2 ^ s := by rw [Int.natCast_pow]; rfl
  have key : ∀ q : Nat, q < 4294967296 → IntKind.u32.wrap (q : Int) = q := fun q hq => IntWalk.u32_in _ (by omega)
  rw [Int.one_mul, ← h2]
  exact key _ h1
theorem pow_i64 {s : Nat} (h : s < 63) : IntKind.i64.wrap (1 * 2 ^ s) = ((2 ^ s : Nat) : Int) := by
  have h1 : 2 ^ s < 9223372036854775808 := Nat.pow_lt_pow_right (n := 63) (by omega) h
  have h2 : ((2 ^ s : Nat) : Int) = 2 ^ s := by rw [Int.natCast_pow]; rfl
  have key : ∀ q : Nat, q < 9223372036854775808 → IntKind.i64.wrap (q : Int) = q := fun q hq => IntWalk.i64_in _ (by omega)
  rw [Int.one_mul, ← h2]
  exact key _ h1
theorem wrap_u32 (m : Nat) : IntKind.u32.wrap ((m : Nat) : Int) = ((m % 4294967296 : Nat) : Int) := by
  unfold IntKind.wrap
  simp only [show IntKind.u32.signed = false from rfl, Bool.false_and, Bool.false_eq_true, if_false]
  rfl
section
variable {P : Program} {N : Nat} {dq : List Deferred} {a : Act} {l : List (Nat × Value)} {w : World} {d : Nat} {ty : TypeId} {pos : String} {af : Array Edge} {gd : Option (Nat × Bool)}
theorem rn_and1 {x y : Operand} {T yt m : Nat} (h : EnvD dq N a l) (hx : evl l x = some (.int .u32 (m : Nat))) (hy : evl l y = some (.int .u32 1)) (hm : m < 4294967296) :
    (execOp a.eval ⟨some d, .binOp .and T x y yt, ty, pos, af, gd⟩).run P w = .ok (.value (.int .u32 ((m % 2 : Nat) : Int))) w := by
  refine rn_bin h hx hy ?_
  have e : bits .and .u32 (m : Int) 1 = ((m % 2 : Nat) : Int) := by rw [and_one32 _ (by omega) (by omega)]; rfl
  have e2 : (Op.intBits .and .u32 (m : Int) 1 : Sem Value).run P w = .ok (.int .u32 ((m % 2 : Nat) : Int)) w := by rw [← e]; rfl
  simp [eqGuard, binOp]
  exact e2
theorem rn_nilN {x : Operand} {T E yt n c : Nat} {A : Option Addr} (h : EnvD dq N a l) (hT : P.underlying T = some (.slice E)) (hx : evl l x = some (.slice A n c)) :
    (execOp a.eval ⟨some d, .binOp .neq T x (.const (.slice none 0 0)) yt, ty, pos, af, gd⟩).run P w = .ok (.value (.bool (!A.isNone))) w := by
  refine rn_bin h hx (by rfl) ?_
  have := run_neq_slice_nil (P := P) w T E A n c hT
  simp [eqGuard, this]
theorem rn_catS {x y : Operand} {T yt : Nat} {s t : List UInt8} (h : EnvD dq N a l) (hx : evl l x = some (.string ⟨s.toArray⟩)) (hy : evl l y = some (.string ⟨t.toArray⟩)) (hl : s.length + t.length ≤ 9223372036854775807) :
    (execOp a.eval ⟨some d, .binOp .add T x y yt, ty, pos, af, gd⟩).run P w = .ok (.value (.string ⟨(s ++ t).toArray⟩)) w := by
  refine rn_bin h hx hy ?_
  simp [eqGuard, binOp, Op.stringOp, go_sem]
  rw [if_neg (by omega)]
  have e : (⟨s.toArray⟩ ++ ⟨t.toArray⟩ : ByteArray) = ⟨(s ++ t).toArray⟩ := by
    apply ByteArray.ext
    simp
  simp [e]
theorem rn_cutS {x y z : Operand} {T n m : Nat} {k k' : IntKind} {s : List UInt8} (h : EnvD dq N a l) (hT : P.underlying T = some .string) (hx : evl l x = some (.string ⟨s.toArray⟩)) (hy : evl l y = some (.int k (n : Nat))) (hz : evl l z = some (.int k' (m : Nat))) (hn : n ≤ m) (hm : m ≤ s.length) :
    (execOp a.eval ⟨some d, .slice T x (some y) (some z) none, ty, pos, af, gd⟩).run P w = .ok (.value (.string ⟨((s.drop n).take (m - n)).toArray⟩)) w := by
  have hv := h.ev hx
  have hv' := h.ev hy
  have hv2 := h.ev hz
  have hr := run_slice_string (P := P) w T ⟨s.toArray⟩ k k' (n : Int) (m : Int) hT (by omega) (by omega) (by simp [ByteArray.size]; omega)
  rw [Int.toNat_natCast, Int.toNat_natCast, ByteArray.extract_mk] at hr
  simp only [execOp, Option.map_none, Option.map_some, hv, hv', hv2]
  rw [Sem.run_bind, run_sliceAt_string _ _ _ _ _ _ hT, hr]
  rfl
end
end Go.Proofs.YtnldopjbiacbfaaDoor.W

/- The reference of layer 1: differences, doubling, bits, quotients, divisors, shifts. Printed by pv/gen_ref01d.py. No condition. -/
namespace Go.Proofs.YtnldopjbiacbfaaDoor.W
open Go.RowKit Anv

theorem r_norm_to {A : Option Addr} {n c R : Nat} {xs : List Nat} {w0 : World} (h : U32 w0 A n c xs) (hn : n ≤ 1000000) (hR : val 4294967296 xs = R) :
    Calls Tryd.prog 52 #[.slice A n c] w0 fun e w' => ∃ v, e = .returned v ∧ NumAt w0.heap.size w' v R ∧ Below w0.heap.size w0 w' := by subst hR; exact r_norm h hn
theorem sub_fin {w : World} {A : Option Addr} {n c u : Nat} {xs ys os : List Nat} (hlt : AllLt 4294967296 os) (hol : os.length = n) (h : U32 w A n c xs) (hu : u ≤ 1)
    (hv : val 4294967296 os + val 4294967296 (ys.take n) = val 4294967296 (xs.take n) + 4294967296 ^ n * u) (hle : val 4294967296 ys ≤ val 4294967296 xs) : val 4294967296 os = val 4294967296 xs - val 4294967296 ys :=
  sub_final xs ys os n u hlt hol h.len h.lt hu (by rw [List.take_of_length_le (l := os) (by omega)]; exact hv) hle
theorem dbl_wrap (x o : Nat) : IntKind.u32.wrap (((x * 2 % 4294967296 : Nat) : Int) + ((o : Nat) : Int)) = (((x * 2 + o) % 4294967296 : Nat) : Int) := by
  rw [← Int.natCast_add, wrap_u32, Nat.mod_add_mod]
theorem bits_init {N : Nat} (h : nl N ≠ 0) : 32 * (nl N - 1) + blen ((L N).getD (nl N - 1) 0) = blen N := (top_bits N (nl N - 1) (by omega)).symm
theorem bit_true {w : World} {A : Option Addr} {n c N : Nat} {xs : List Nat} (h : U32 w A n c xs) (hN : val 4294967296 xs = N) (k : Nat) :
    Bool.toNat (((xs.getD (k / 32) 0 / 2 ^ (k % 32) % 2 : Nat) : Int) == (1 : Int)) = N / 2 ^ k % 2 := by
  rw [bit32 h.lt, hN]
  rcases Nat.mod_two_eq_zero_or_one (N / 2 ^ k) with h1 | h1 <;> rw [h1] <;> rfl
theorem nl_dbl (N : Nat) (b : Bool) : nl (2 * N + b.toNat) ≤ nl N + 1 := by
  have h1 : N < 4294967296 ^ nl N := lt_pow_dig (by decide) N
  have h2 : b.toNat ≤ 1 := Bool.toNat_le b
  refine nl_le_of_lt (k := nl N + 1) ?_
  rw [Nat.pow_succ]
  omega
theorem dm_yes {N K M Q R : Nat} {b : Bool} (h0 : 0 < M) (hQ : Q = N / 2 ^ (K + 1) / M) (hR : R = N / 2 ^ (K + 1) % M) (ht : b.toNat = N / 2 ^ K % 2) (h : M ≤ 2 * R + b.toNat) : 2 * Q + Bool.toNat true = N / 2 ^ K / M ∧ 2 * R + b.toNat - M = N / 2 ^ K % M := by
  subst hQ hR
  have h1 := half_step N K
  rw [← ht] at h1
  have h2 := ldiv_yes (T := N / 2 ^ (K + 1)) h0 (Bool.toNat_le b) h
  rw [← h1] at h2
  exact ⟨h2.1.symm, h2.2.symm⟩
theorem dm_no {N K M Q R : Nat} {b : Bool} (_h0 : 0 < M) (hQ : Q = N / 2 ^ (K + 1) / M) (hR : R = N / 2 ^ (K + 1) % M) (ht : b.toNat = N / 2 ^ K % 2) (h : ¬ M ≤ 2 * R + b.toNat) : 2 * Q + Bool.toNat false = N / 2 ^ K / M ∧ 2 * R + b.toNat = N / 2 ^ K % M := by
  subst hQ hR
  have h1 := half_step N K
  rw [← ht] at h1
  have h2 := ldiv_no (T := N / 2 ^ (K + 1)) h
  rw [← h1] at h2
  exact ⟨h2.1.symm, h2.2.symm⟩
theorem lt_shl {xs : List Nat} (j : Nat) (h : AllLt 4294967296 xs) : AllLt 4294967296 (List.replicate j 0 ++ xs) := by
  intro x hx
  rcases List.mem_append.1 hx with hx | hx
  · rw [(List.mem_replicate.1 hx).2]; decide
  · exact h x hx
theorem numAt_nil (B : Nat) (w : World) : NumAt B w (.slice none 0 0) 0 := ⟨none, 0, by rw [L_zero]; rfl, by rw [L_zero]; exact u32_none w, fun a h => by cases h⟩
theorem u32_drop {w : World} {b o n c j : Nat} {xs : List Nat} (h : U32 w (some ⟨b, o, none⟩) n c xs) (hj : j < n) : U32 w (some ⟨b, o + j, none⟩) (n - j) (c - j) (xs.drop j) := by
  have e : n = j + (n - j) := by omega
  refine U32.suf (xs := xs.take j) (n := j) ?_ (by rw [List.length_take, h.len]; omega) (by rw [List.length_drop, h.len]) (by omega)
  rw [List.take_append_drop, ← e]
  exact h

set_option maxRecDepth 100000 in
set_option maxHeartbeats 4000000 in
theorem r_sub {A B : Option Addr} {n c m d : Nat} {xs ys : List Nat} {w0 : World} (h : U32 w0 A n c xs) (k : U32 w0 B m d ys) (hn : n ≤ 900000) (hle : val 4294967296 ys ≤ val 4294967296 xs) :
    Calls Tryd.prog 97 #[.slice A n c, .slice B m d] w0 fun e w' => ∃ v, e = .returned v ∧ NumAt w0.heap.size w' v (val 4294967296 xs - val 4294967296 ys) ∧ Below w0.heap.size w0 w' := by
  refine enter Tryd.func97 rfl Tryd.ntmps97 rfl ?_
  intro a henv hst
  replace hst := ((hst.addU h trivial).addU k trivial)
  refine wp_seq ?_
  refine region_seq ?_
  refine seq_step rfl (op_val (v := .slice none 0 0) henv rfl (rn_assign henv rfl) ?_)
  clear henv a; intro a henv
  refine wpList_nil ?_
  refine th_n ?_
  refine wp_seq ?_
  refine region_seq ?_
  refine seq_step rfl (op_val (v := .slice none 0 0) henv rfl (rn_assign henv rfl) ?_)
  clear henv a; intro a henv
  refine wpList_nil ?_
  refine th_n ?_
  refine wp_seq ?_
  refine region_seq ?_
  refine seq_step rfl (op_val (v := .int .u64 0) henv rfl (rn_assign henv rfl) ?_)
  clear henv a; intro a henv
  refine wpList_nil ?_
  refine th_n ?_
  refine wp_seq ?_
  refine wp_seq ?_
  refine region_seq ?_
  refine seq_step rfl (op_val (v := .int .i64 0) henv rfl (rn_assign henv rfl) ?_)
  clear henv a; intro a henv
  refine wpList_nil ?_
  refine th_n ?_
  refine wp_block ?_
  replace hst := hst.addRow 45 1
  refine wp_loop_ghost (fun mz a w => ∃ i : Nat, ∃ v : Value, ∃ u : Nat, ∃ os : List Nat, n - i = mz ∧ Env 40 a [(0, .slice A n c), (1, .slice B m d), (5, v), (6, .int .u64 (u : Nat)), (7, .int .i64 (i : Nat))] ∧ St w0 w [rowF 45 1 v i (vals os)] [pfU A n c xs, pfU B m d ys] ∧ i ≤ n ∧ os.length = i ∧ AllLt 4294967296 os ∧ u ≤ 1 ∧ val 4294967296 os + val 4294967296 (ys.take i) = val 4294967296 (xs.take i) + 4294967296 ^ i * u) _ ⟨0, _, 0, [], rfl, henv.sub ⟨rfl, rfl, rfl, rfl, rfl, trivial⟩, hst.pick [0] [1, 0] (by decide), (Nat.zero_le _), rfl, (AllLt.nil _), (Nat.zero_le _), (by simp)⟩ ?_
  clear henv hst a
  rintro mz a w1 ⟨i, v, u, os, rfl, henv, hst, hi, hol, hlt, hu, hv⟩
  have hgx := u32_get h i
  have hgy := u32_get k i
  refine wp_seq ?_
  refine wp_seq ?_
  refine region_seq ?_
  refine seq_step rfl (op_val (v := .int .i64 (i : Nat)) henv rfl (rn_move henv rfl) ?_)
  clear henv a; intro a henv
  refine seq_step rfl (op_val (v := .slice A n c) henv rfl (rn_move henv rfl) ?_)
  clear henv a; intro a henv
  refine seq_step rfl (op_val (v := .int .i64 (n : Nat)) henv rfl (rn_len henv Tryd.underlying22 rfl) ?_)
  clear henv a; intro a henv
  refine seq_step rfl (op_val (v := .bool (decide (((i : Nat) : Int) < ((n : Nat) : Int)))) henv rfl (rn_bin henv rfl rfl rfl) ?_)
  clear henv a; intro a henv
  refine wpList_nil ?_
  refine th_n ?_
  refine if_split henv rfl (fun hc2 => ?_) (fun hc2 => ?_)
  · replace hc2 := of_decide_eq_true hc2
    refine wp_skip ?_
    refine th_n ?_
    refine wp_seq ?_
    refine wp_block ?_
    refine wp_seq ?_
    refine region_seq ?_
    refine seq_step rfl (op_val (v := .slice A n c) henv rfl (rn_move henv rfl) ?_)
    clear henv a; intro a henv
    refine seq_step rfl (op_val (v := .int .i64 (i : Nat)) henv rfl (rn_move henv rfl) ?_)
    clear henv a; intro a henv
    refine seq_step rfl (op_call henv rfl Tryd.call99 rfl (r_at (i := i) (show U32 _ A n c xs from hst.pat (k := 0) rfl)) ?_)
    rintro e w3 ⟨rfl, hb⟩
    refine ⟨_, rfl, ?_⟩
    clear henv a; intro a henv
    replace hst := hst.call hb
    clear hb
    refine seq_step rfl (op_val (v := .int .u64 (xs.getD i 0 : Nat)) henv rfl (rn_conv henv rfl Tryd.underlying45 Tryd.underlying100 (IntWalk.u64_in _ (by omega))) ?_)
    clear henv a; intro a henv
    refine seq_step rfl (op_val (v := .slice B m d) henv rfl (rn_move henv rfl) ?_)
    clear henv a; intro a henv
    refine seq_step rfl (op_val (v := .int .i64 (i : Nat)) henv rfl (rn_move henv rfl) ?_)
    clear henv a; intro a henv
    refine seq_step rfl (op_call henv rfl Tryd.call99 rfl (r_at (i := i) (show U32 _ B m d ys from hst.pat (k := 1) rfl)) ?_)
    rintro e w4 ⟨rfl, hb⟩
    refine ⟨_, rfl, ?_⟩
    clear henv a; intro a henv
    replace hst := hst.call hb
    clear hb
    refine seq_step rfl (op_val (v := .int .u64 (ys.getD i 0 : Nat)) henv rfl (rn_conv henv rfl Tryd.underlying45 Tryd.underlying100 (IntWalk.u64_in _ (by omega))) ?_)
    clear henv a; intro a henv
    refine seq_step rfl (op_val (v := .int .u64 (u : Nat)) henv rfl (rn_move henv rfl) ?_)
    clear henv a; intro a henv
    refine seq_step rfl (op_val (v := .int .u64 ((ys.getD i 0) + u : Nat)) henv rfl (rn_add henv rfl rfl (by rw [IntWalk.u64_in _ (by omega)]; omega)) ?_)
    clear henv a; intro a henv
    refine seq_step rfl (op_val (v := .int .u64 (xs.getD i 0 : Nat)) henv rfl (rn_assign henv rfl) ?_)
    clear henv a; intro a henv
    refine seq_step rfl (op_val (v := .int .u64 ((ys.getD i 0) + u : Nat)) henv rfl (rn_assign henv rfl) ?_)
    clear henv a; intro a henv
    refine wpList_nil ?_
    refine th_n ?_
    refine wp_seq ?_
    refine region_seq ?_
    refine seq_step rfl (op_val (v := .int .u64 0) henv rfl (rn_assign henv rfl) ?_)
    clear henv a; intro a henv
    refine wpList_nil ?_
    refine th_n ?_
    refine wp_seq ?_
    refine wp_seq ?_
    refine region_seq ?_
    refine seq_step rfl (op_val (v := .int .u64 (xs.getD i 0 : Nat)) henv rfl (rn_move henv rfl) ?_)
    clear henv a; intro a henv
    refine seq_step rfl (op_val (v := .int .u64 ((ys.getD i 0) + u : Nat)) henv rfl (rn_move henv rfl) ?_)
    clear henv a; intro a henv
    refine seq_step rfl (op_val (v := .bool (decide (((xs.getD i 0 : Nat) : Int) < (((ys.getD i 0) + u : Nat) : Int)))) henv rfl (rn_bin henv rfl rfl rfl) ?_)
    clear henv a; intro a henv
    refine wpList_nil ?_
    refine th_n ?_
    refine if_split henv rfl (fun hc5 => ?_) (fun hc5 => ?_)
    · replace hc5 := of_decide_eq_true hc5
      refine wp_seq ?_
      refine region_seq ?_
      refine seq_step rfl (op_val (v := .int .u64 (xs.getD i 0 : Nat)) henv rfl (rn_move henv rfl) ?_)
      clear henv a; intro a henv
      refine seq_step rfl (op_val (v := .int .u64 ((xs.getD i 0) + 4294967296 : Nat)) henv rfl (rn_add henv rfl rfl (by rw [IntWalk.u64_in _ (by omega)]; omega)) ?_)
      clear henv a; intro a henv
      refine seq_step rfl (op_val (v := .int .u64 ((xs.getD i 0) + 4294967296 : Nat)) henv rfl (rn_assign henv rfl) ?_)
      clear henv a; intro a henv
      refine wpList_nil ?_
      refine th_n ?_
      refine region_seq ?_
      refine seq_step rfl (op_val (v := .int .u64 1) henv rfl (rn_assign henv rfl) ?_)
      clear henv a; intro a henv
      refine wpList_nil ?_
      refine th_n ?_
      refine region_seq ?_
      refine seq_step rfl (op_val (v := v) henv rfl (rn_move henv rfl) ?_)
      clear henv a; intro a henv
      refine seq_step rfl (op_val (v := .int .u64 ((xs.getD i 0) + 4294967296 : Nat)) henv rfl (rn_move henv rfl) ?_)
      clear henv a; intro a henv
      refine seq_step rfl (op_val (v := .int .u64 ((ys.getD i 0) + u : Nat)) henv rfl (rn_move henv rfl) ?_)
      clear henv a; intro a henv
      refine seq_step rfl (op_val (v := .int .u64 (((xs.getD i 0) + 4294967296) - ((ys.getD i 0) + u) : Nat)) henv rfl (rn_sub henv rfl rfl (by rw [IntWalk.u64_in _ (by omega)]; omega)) ?_)
      clear henv a; intro a henv
      refine seq_step rfl (op_val (v := .int .u32 (((xs.getD i 0) + 4294967296) - ((ys.getD i 0) + u) : Nat)) henv rfl (rn_conv henv rfl Tryd.underlying100 Tryd.underlying45 (IntWalk.u32_in _ (by omega))) ?_)
      clear henv a; intro a henv
      refine seq_step rfl (op_buildSlice (z := 1) (pv := #[(0, .int .u32 (((xs.getD i 0) + 4294967296) - ((ys.getD i 0) + u) : Nat))]) (c := #[.int .u32 (((xs.getD i 0) + 4294967296) - ((ys.getD i 0) + u) : Nat)]) henv hst rfl Tryd.underlying22 (ty_uint32.size) zero_uint32 (by decide) (by decide) rfl (by kernel_rfl) ?_)
      clear henv hst a; intro a w7 g6 henv hst
      refine seq_step rfl (op_append (k := 1) (j := 0) henv hst rfl Tryd.underlying22 info_u32 rfl rfl rfl rfl rfl rfl rfl rfl (by unfold maxLen; omega) (by omega) ?_)
      clear henv hst a; intro a w9 v8 henv hst
      refine seq_step rfl (op_val (v := v8) henv rfl (rn_assign henv rfl) ?_)
      clear henv a; intro a henv
      refine wpList_nil ?_
      refine bl_n (th_n ?_)
      refine region_seq ?_
      refine seq_step rfl (op_val (v := .int .i64 (i : Nat)) henv rfl (rn_move henv rfl) ?_)
      clear henv a; intro a henv
      refine seq_step rfl (op_val (v := .int .i64 (i + 1 : Nat)) henv rfl (rn_add henv rfl rfl (by rw [IntWalk.i64_in _ (by omega)]; omega)) ?_)
      clear henv a; intro a henv
      refine seq_step rfl (op_val (v := .int .i64 (i + 1 : Nat)) henv rfl (rn_assign henv rfl) ?_)
      clear henv a; intro a henv
      refine wpList_nil ?_
      rw [vals_snoc] at hst
      exact th_n ⟨_, (by omega), ⟨i + 1, v8, 1, os ++ [(xs.getD i 0 + 4294967296 - (ys.getD i 0 + u))], rfl, henv.sub ⟨rfl, rfl, rfl, rfl, rfl, trivial⟩, hst.pick [1] [0, 1] (by decide), (by omega), (by rw [List.length_append, hol]; rfl), (lt_snoc' hlt (by omega)), (by omega), (sub_inv hol hv (by omega))⟩⟩
    · replace hc5 := of_decide_eq_false hc5
      refine wp_skip ?_
      refine th_n ?_
      refine region_seq ?_
      refine seq_step rfl (op_val (v := v) henv rfl (rn_move henv rfl) ?_)
      clear henv a; intro a henv
      refine seq_step rfl (op_val (v := .int .u64 (xs.getD i 0 : Nat)) henv rfl (rn_move henv rfl) ?_)
      clear henv a; intro a henv
      refine seq_step rfl (op_val (v := .int .u64 ((ys.getD i 0) + u : Nat)) henv rfl (rn_move henv rfl) ?_)
      clear henv a; intro a henv
      refine seq_step rfl (op_val (v := .int .u64 ((xs.getD i 0) - ((ys.getD i 0) + u) : Nat)) henv rfl (rn_sub henv rfl rfl (by rw [IntWalk.u64_in _ (by omega)]; omega)) ?_)
      clear henv a; intro a henv
      refine seq_step rfl (op_val (v := .int .u32 ((xs.getD i 0) - ((ys.getD i 0) + u) : Nat)) henv rfl (rn_conv henv rfl Tryd.underlying100 Tryd.underlying45 (IntWalk.u32_in _ (by omega))) ?_)
      clear henv a; intro a henv
      refine seq_step rfl (op_buildSlice (z := 1) (pv := #[(0, .int .u32 ((xs.getD i 0) - ((ys.getD i 0) + u) : Nat))]) (c := #[.int .u32 ((xs.getD i 0) - ((ys.getD i 0) + u) : Nat)]) henv hst rfl Tryd.underlying22 (ty_uint32.size) zero_uint32 (by decide) (by decide) rfl (by kernel_rfl) ?_)
      clear henv hst a; intro a w11 g10 henv hst
      refine seq_step rfl (op_append (k := 1) (j := 0) henv hst rfl Tryd.underlying22 info_u32 rfl rfl rfl rfl rfl rfl rfl rfl (by unfold maxLen; omega) (by omega) ?_)
      clear henv hst a; intro a w13 v12 henv hst
      refine seq_step rfl (op_val (v := v12) henv rfl (rn_assign henv rfl) ?_)
      clear henv a; intro a henv
      refine wpList_nil ?_
      refine bl_n (th_n ?_)
      refine region_seq ?_
      refine seq_step rfl (op_val (v := .int .i64 (i : Nat)) henv rfl (rn_move henv rfl) ?_)
      clear henv a; intro a henv
      refine seq_step rfl (op_val (v := .int .i64 (i + 1 : Nat)) henv rfl (rn_add henv rfl rfl (by rw [IntWalk.i64_in _ (by omega)]; omega)) ?_)
      clear henv a; intro a henv
      refine seq_step rfl (op_val (v := .int .i64 (i + 1 : Nat)) henv rfl (rn_assign henv rfl) ?_)
      clear henv a; intro a henv
      refine wpList_nil ?_
      rw [vals_snoc] at hst
      exact th_n ⟨_, (by omega), ⟨i + 1, v12, 0, os ++ [(xs.getD i 0 - (ys.getD i 0 + u))], rfl, henv.sub ⟨rfl, rfl, rfl, rfl, rfl, trivial⟩, hst.pick [1] [0, 1] (by decide), (by omega), (by rw [List.length_append, hol]; rfl), (lt_snoc' hlt (by omega)), (by omega), (sub_inv hol hv (by omega))⟩⟩
  · obtain rfl : i = n := by have := of_decide_eq_false hc2; omega
    clear hc2
    refine wp_exit ?_
    refine th_x (th_x (bl_x (th_n ?_)))
    refine wp_seq ?_
    have hfin := sub_fin hlt hol h hu hv hle
    obtain ⟨A14, c15, rfl, hst⟩ := hst.rowGive (k := 0) rfl hlt
    refine region_seq ?_
    refine seq_step rfl (op_val (v := .slice A14 i c15) henv rfl (rn_move henv rfl) ?_)
    clear henv a; intro a henv
    have hst0 := hst
    refine seq_step rfl (op_call henv rfl Tryd.call52 rfl (r_norm_to (R := (val 4294967296 os)) (show U32 _ A14 i c15 os from hst.pat (k := 0) rfl) (by omega) (rfl)) ?_)
    rintro e w18 ⟨_, rfl, ⟨A16, c17, rfl, hU, hA⟩, hb⟩
    refine ⟨_, rfl, ?_⟩
    clear henv a; intro a henv
    replace hst := hst.freshU hb hU hA
    clear hU
    have hFA16 : ∀ a, A16 = some a → w0.heap.size ≤ a.block := fun a ha => Nat.le_trans hst0.below.size (hA a ha)
    clear hA hst0
    clear hb
    refine seq_step rfl (op_val (v := .slice A16 (nl (val 4294967296 os)) c17) henv rfl (rn_assign henv rfl) ?_)
    clear henv a; intro a henv
    refine wpList_nil ?_
    refine th_n ?_
    refine wp_ret ?_
    refine leave henv (res1 Tryd.results97 (RV.tmp henv rfl)) ?_
    rw [← hfin]
    exact ⟨_, rfl, ⟨_, _, rfl, hst.pat (k := 0) rfl, hFA16⟩, hst.below⟩

set_option maxRecDepth 100000 in
set_option maxHeartbeats 4000000 in
theorem r_dbl_true {A : Option Addr} {n c N : Nat} {xs : List Nat} {w0 : World} (h : U32 w0 A n c xs) (hN : val 4294967296 xs = N) (hnl : nl N = n) (hn : n ≤ 1000000) :
    Calls Tryd.prog 95 #[.slice A n c, .bool true] w0 fun e w' => ∃ v, e = .returned v ∧ NumAt w0.heap.size w' v (2 * N + 1) ∧ Below w0.heap.size w0 w' := by
  have hmx : n ≤ 1000000 := hn
  refine enter Tryd.func95 rfl Tryd.ntmps95 rfl ?_
  intro a henv hst
  replace hst := (hst.addU h trivial)
  refine wp_seq ?_
  refine region_seq ?_
  refine seq_step rfl (op_val (v := .slice none 0 0) henv rfl (rn_assign henv rfl) ?_)
  clear henv a; intro a henv
  refine wpList_nil ?_
  refine th_n ?_
  refine wp_seq ?_
  refine region_seq ?_
  refine seq_step rfl (op_val (v := .slice none 0 0) henv rfl (rn_assign henv rfl) ?_)
  clear henv a; intro a henv
  refine wpList_nil ?_
  refine th_n ?_
  refine wp_seq ?_
  refine region_seq ?_
  refine seq_step rfl (op_val (v := .int .u32 0) henv rfl (rn_assign henv rfl) ?_)
  clear henv a; intro a henv
  refine wpList_nil ?_
  refine th_n ?_
  refine wp_seq ?_
  refine wp_seq ?_
  refine region_seq ?_
  refine seq_step rfl (op_val (v := .bool true) henv rfl (rn_move henv rfl) ?_)
  clear henv a; intro a henv
  refine wpList_nil ?_
  refine th_n ?_
  refine if_t henv rfl (rfl) ?_
  refine region_seq ?_
  refine seq_step rfl (op_val (v := .int .u32 1) henv rfl (rn_assign henv rfl) ?_)
  clear henv a; intro a henv
  refine wpList_nil ?_
  refine th_n ?_
  refine wp_seq ?_
  refine wp_seq ?_
  refine region_seq ?_
  refine seq_step rfl (op_val (v := .int .i64 0) henv rfl (rn_assign henv rfl) ?_)
  clear henv a; intro a henv
  refine wpList_nil ?_
  refine th_n ?_
  refine wp_block ?_
  replace hst := hst.addRow 45 1
  refine wp_loop_ghost (fun mz a w => ∃ i : Nat, ∃ v : Value, ∃ o : Nat, ∃ os : List Nat, n - i = mz ∧ Env 37 a [(0, .slice A n c), (5, v), (6, .int .u32 (o : Nat)), (7, .int .i64 (i : Nat))] ∧ St w0 w [rowF 45 1 v i (vals os)] [pfU A n c xs] ∧ i ≤ n ∧ os.length = i ∧ AllLt 4294967296 os ∧ o ≤ 1 ∧ val 4294967296 os + o * 4294967296 ^ i = 2 * val 4294967296 (xs.take i) + 1) _ ⟨0, _, 1, [], rfl, henv.sub ⟨rfl, rfl, rfl, rfl, trivial⟩, hst.pick [0] [0] (by decide), (Nat.zero_le _), rfl, (AllLt.nil _), (by decide), (by simp)⟩ ?_
  clear henv hst a
  rintro mz a w1 ⟨i, v, o, os, rfl, henv, hst, hi, hol, hlt, ho, hv⟩
  have hgx := u32_get h i
  refine wp_seq ?_
  refine wp_seq ?_
  refine region_seq ?_
  refine seq_step rfl (op_val (v := .int .i64 (i : Nat)) henv rfl (rn_move henv rfl) ?_)
  clear henv a; intro a henv
  refine seq_step rfl (op_val (v := .slice A n c) henv rfl (rn_move henv rfl) ?_)
  clear henv a; intro a henv
  refine seq_step rfl (op_val (v := .int .i64 (n : Nat)) henv rfl (rn_len henv Tryd.underlying22 rfl) ?_)
  clear henv a; intro a henv
  refine seq_step rfl (op_val (v := .bool (decide (((i : Nat) : Int) < ((n : Nat) : Int)))) henv rfl (rn_bin henv rfl rfl rfl) ?_)
  clear henv a; intro a henv
  refine wpList_nil ?_
  refine th_n ?_
  refine if_split henv rfl (fun hc2 => ?_) (fun hc2 => ?_)
  · replace hc2 := of_decide_eq_true hc2
    refine wp_skip ?_
    refine th_n ?_
    refine wp_seq ?_
    refine wp_block ?_
    refine wp_seq ?_
    refine region_seq ?_
    refine seq_step rfl (op_val (v := v) henv rfl (rn_move henv rfl) ?_)
    clear henv a; intro a henv
    refine seq_step rfl (op_val (v := .slice A n c) henv rfl (rn_move henv rfl) ?_)
    clear henv a; intro a henv
    refine seq_step rfl (op_val (v := .int .i64 (i : Nat)) henv rfl (rn_move henv rfl) ?_)
    clear henv a; intro a henv
    refine seq_step rfl (op_val (v := .pointer (some ⟨ab A, ao A + i, none⟩)) henv rfl (rn_idxU (i := i) henv Tryd.underlying22 (ty_uint32.size) rfl rfl (by omega) (show U32 _ A n c xs from (hst.pat (k := 0) rfl))) ?_)
    clear henv a; intro a henv
    refine seq_step rfl (op_val (v := .int .u32 (xs.getD i 0 : Nat)) henv rfl (rn_loadU henv ty_uint32 rfl (by omega) (show U32 _ A n c xs from (hst.pat (k := 0) rfl))) ?_)
    clear henv a; intro a henv
    refine seq_step rfl (op_val (v := .int .u32 (xs.getD i 0 * 2 % 4294967296 : Nat)) henv rfl (rn_mul henv rfl rfl (wrap_u32 (xs.getD i 0 * 2))) ?_)
    clear henv a; intro a henv
    refine seq_step rfl (op_val (v := .int .u32 (o : Nat)) henv rfl (rn_move henv rfl) ?_)
    clear henv a; intro a henv
    refine seq_step rfl (op_val (v := .int .u32 ((xs.getD i 0 * 2 + o) % 4294967296 : Nat)) henv rfl (rn_add henv rfl rfl (dbl_wrap _ _)) ?_)
    clear henv a; intro a henv
    refine seq_step rfl (op_buildSlice (z := 1) (pv := #[(0, .int .u32 ((xs.getD i 0 * 2 + o) % 4294967296 : Nat))]) (c := #[.int .u32 ((xs.getD i 0 * 2 + o) % 4294967296 : Nat)]) henv hst rfl Tryd.underlying22 (ty_uint32.size) zero_uint32 (by decide) (by decide) rfl (by kernel_rfl) ?_)
    clear henv hst a; intro a w4 g3 henv hst
    refine seq_step rfl (op_append (k := 1) (j := 0) henv hst rfl Tryd.underlying22 info_u32 rfl rfl rfl rfl rfl rfl rfl rfl (by unfold maxLen; omega) (by omega) ?_)
    clear henv hst a; intro a w6 v5 henv hst
    refine seq_step rfl (op_val (v := v5) henv rfl (rn_assign henv rfl) ?_)
    clear henv a; intro a henv
    refine wpList_nil ?_
    refine th_n ?_
    refine region_seq ?_
    refine seq_step rfl (op_val (v := .slice A n c) henv rfl (rn_move henv rfl) ?_)
    clear henv a; intro a henv
    refine seq_step rfl (op_val (v := .int .i64 (i : Nat)) henv rfl (rn_move henv rfl) ?_)
    clear henv a; intro a henv
    refine seq_step rfl (op_val (v := .pointer (some ⟨ab A, ao A + i, none⟩)) henv rfl (rn_idxU (i := i) henv Tryd.underlying22 (ty_uint32.size) rfl rfl (by omega) (show U32 _ A n c xs from (hst.pat (k := 0) rfl))) ?_)
    clear henv a; intro a henv
    refine seq_step rfl (op_val (v := .int .u32 (xs.getD i 0 : Nat)) henv rfl (rn_loadU henv ty_uint32 rfl (by omega) (show U32 _ A n c xs from (hst.pat (k := 0) rfl))) ?_)
    clear henv a; intro a henv
    refine seq_step rfl (op_val (v := .int .u32 ((xs.getD i 0) / 2147483648 : Nat)) henv rfl (rn_quo henv rfl rfl (by decide) (quo_u32 (t := xs.getD i 0) (c := 2147483648) (by omega))) ?_)
    clear henv a; intro a henv
    refine seq_step rfl (op_val (v := .int .u32 ((xs.getD i 0) / 2147483648 : Nat)) henv rfl (rn_assign henv rfl) ?_)
    clear henv a; intro a henv
    refine wpList_nil ?_
    refine bl_n (th_n ?_)
    refine region_seq ?_
    refine seq_step rfl (op_val (v := .int .i64 (i : Nat)) henv rfl (rn_move henv rfl) ?_)
    clear henv a; intro a henv
    refine seq_step rfl (op_val (v := .int .i64 (i + 1 : Nat)) henv rfl (rn_add henv rfl rfl (by rw [IntWalk.i64_in _ (by omega)]; omega)) ?_)
    clear henv a; intro a henv
    refine seq_step rfl (op_val (v := .int .i64 (i + 1 : Nat)) henv rfl (rn_assign henv rfl) ?_)
    clear henv a; intro a henv
    refine wpList_nil ?_
    rw [vals_snoc] at hst
    exact th_n ⟨_, (by omega), ⟨i + 1, v5, xs.getD i 0 / 2147483648, os ++ [(xs.getD i 0 * 2 + o) % 4294967296], rfl, henv.sub ⟨rfl, rfl, rfl, rfl, trivial⟩, hst.pick [1] [0] (by decide), (by omega), (by rw [List.length_append, hol]; rfl), (lt_snoc hlt), (by omega), (dbl_inv hol hv ho)⟩⟩
  · obtain rfl : i = n := by have := of_decide_eq_false hc2; omega
    clear hc2
    have hxt : val 4294967296 (xs.take i) = N := by rw [← hN, List.take_of_length_le (by rw [h.len]; exact Nat.le_refl _)]
    rw [hxt] at hv
    refine wp_exit ?_
    refine th_x (th_x (bl_x (th_n ?_)))
    refine wp_seq ?_
    refine wp_seq ?_
    refine region_seq ?_
    refine seq_step rfl (op_val (v := .int .u32 (o : Nat)) henv rfl (rn_move henv rfl) ?_)
    clear henv a; intro a henv
    refine seq_step rfl (op_val (v := .bool (decide (((o : Nat) : Int) > (0 : Int)))) henv rfl (rn_bin henv rfl rfl rfl) ?_)
    clear henv a; intro a henv
    refine wpList_nil ?_
    refine th_n ?_
    refine if_split henv rfl (fun hc7 => ?_) (fun hc7 => ?_)
    · obtain rfl : o = 1 := by have := of_decide_eq_true hc7; omega
      clear hc7
      refine region_seq ?_
      refine seq_step rfl (op_val (v := v) henv rfl (rn_move henv rfl) ?_)
      clear henv a; intro a henv
      refine seq_step rfl (op_val (v := .int .u32 ((1 : Nat) : Nat)) henv rfl (rn_move henv rfl) ?_)
      clear henv a; intro a henv
      refine seq_step rfl (op_buildSlice (z := 1) (pv := #[(0, .int .u32 ((1 : Nat) : Nat))]) (c := #[.int .u32 ((1 : Nat) : Nat)]) henv hst rfl Tryd.underlying22 (ty_uint32.size) zero_uint32 (by decide) (by decide) rfl (by kernel_rfl) ?_)
      clear henv hst a; intro a w9 g8 henv hst
      refine seq_step rfl (op_append (k := 1) (j := 0) henv hst rfl Tryd.underlying22 info_u32 rfl rfl rfl rfl rfl rfl rfl rfl (by unfold maxLen; omega) (by omega) ?_)
      clear henv hst a; intro a w11 v10 henv hst
      refine seq_step rfl (op_val (v := v10) henv rfl (rn_assign henv rfl) ?_)
      clear henv a; intro a henv
      refine wpList_nil ?_
      refine th_n ?_
      refine wp_seq ?_
      refine region_seq ?_
      refine seq_step rfl (op_val (v := v10) henv rfl (rn_move henv rfl) ?_)
      clear henv a; intro a henv
      refine seq_step rfl (op_val (v := v10) henv rfl (rn_assign henv rfl) ?_)
      clear henv a; intro a henv
      refine wpList_nil ?_
      refine th_n ?_
      refine wp_ret ?_
      refine leave henv (res1 Tryd.results95 (RV.tmp henv rfl)) ?_
      have hE := dbl_end1 (b := 1) (hol.trans hnl.symm) hlt (by rw [hnl]; exact hv)
      rw [vals_snoc, hE] at hst
      have hlen : (os ++ [1]).length = i + 1 := by rw [List.length_append, hol]; rfl
      rw [hE] at hlen
      obtain ⟨A1, c1, rfl, hU, hF⟩ := hst.rowOut (k := 1) rfl (L_lt _)
      refine ⟨_, rfl, ?_, hst.below⟩
      rw [← hlen] at hU ⊢
      exact ⟨A1, c1, rfl, hU, hF⟩
    · obtain rfl : o = 0 := by have := of_decide_eq_false hc7; omega
      clear hc7
      refine wp_skip ?_
      refine th_n ?_
      refine wp_seq ?_
      refine region_seq ?_
      refine seq_step rfl (op_val (v := v) henv rfl (rn_move henv rfl) ?_)
      clear henv a; intro a henv
      refine seq_step rfl (op_val (v := v) henv rfl (rn_assign henv rfl) ?_)
      clear henv a; intro a henv
      refine wpList_nil ?_
      refine th_n ?_
      refine wp_ret ?_
      refine leave henv (res1 Tryd.results95 (RV.tmp henv rfl)) ?_
      have hE := dbl_end0 (b := 1) (hol.trans hnl.symm) hlt (by simpa using hv)
      rw [hE] at hst
      have hlen := hol
      rw [hE] at hlen
      obtain ⟨A1, c1, rfl, hU, hF⟩ := hst.rowOut (k := 0) rfl (L_lt _)
      refine ⟨_, rfl, ?_, hst.below⟩
      rw [← hlen] at hU ⊢
      exact ⟨A1, c1, rfl, hU, hF⟩

set_option maxRecDepth 100000 in
set_option maxHeartbeats 4000000 in
theorem r_dbl_false {A : Option Addr} {n c N : Nat} {xs : List Nat} {w0 : World} (h : U32 w0 A n c xs) (hN : val 4294967296 xs = N) (hnl : nl N = n) (hn : n ≤ 1000000) :
    Calls Tryd.prog 95 #[.slice A n c, .bool false] w0 fun e w' => ∃ v, e = .returned v ∧ NumAt w0.heap.size w' v (2 * N + 0) ∧ Below w0.heap.size w0 w' := by
  have hmx : n ≤ 1000000 := hn
  refine enter Tryd.func95 rfl Tryd.ntmps95 rfl ?_
  intro a henv hst
  replace hst := (hst.addU h trivial)
  refine wp_seq ?_
  refine region_seq ?_
  refine seq_step rfl (op_val (v := .slice none 0 0) henv rfl (rn_assign henv rfl) ?_)
  clear henv a; intro a henv
  refine wpList_nil ?_
  refine th_n ?_
  refine wp_seq ?_
  refine region_seq ?_
  refine seq_step rfl (op_val (v := .slice none 0 0) henv rfl (rn_assign henv rfl) ?_)
  clear henv a; intro a henv
  refine wpList_nil ?_
  refine th_n ?_
  refine wp_seq ?_
  refine region_seq ?_
  refine seq_step rfl (op_val (v := .int .u32 0) henv rfl (rn_assign henv rfl) ?_)
  clear henv a; intro a henv
  refine wpList_nil ?_
  refine th_n ?_
  refine wp_seq ?_
  refine wp_seq ?_
  refine region_seq ?_
  refine seq_step rfl (op_val (v := .bool false) henv rfl (rn_move henv rfl) ?_)
  clear henv a; intro a henv
  refine wpList_nil ?_
  refine th_n ?_
  refine if_f henv rfl (rfl) ?_
  refine wp_skip ?_
  refine th_n ?_
  refine wp_seq ?_
  refine wp_seq ?_
  refine region_seq ?_
  refine seq_step rfl (op_val (v := .int .i64 0) henv rfl (rn_assign henv rfl) ?_)
  clear henv a; intro a henv
  refine wpList_nil ?_
  refine th_n ?_
  refine wp_block ?_
  replace hst := hst.addRow 45 1
  refine wp_loop_ghost (fun mz a w => ∃ i : Nat, ∃ v : Value, ∃ o : Nat, ∃ os : List Nat, n - i = mz ∧ Env 37 a [(0, .slice A n c), (5, v), (6, .int .u32 (o : Nat)), (7, .int .i64 (i : Nat))] ∧ St w0 w [rowF 45 1 v i (vals os)] [pfU A n c xs] ∧ i ≤ n ∧ os.length = i ∧ AllLt 4294967296 os ∧ o ≤ 1 ∧ val 4294967296 os + o * 4294967296 ^ i = 2 * val 4294967296 (xs.take i) + 0) _ ⟨0, _, 0, [], rfl, henv.sub ⟨rfl, rfl, rfl, rfl, trivial⟩, hst.pick [0] [0] (by decide), (Nat.zero_le _), rfl, (AllLt.nil _), (by decide), (by simp)⟩ ?_
  clear henv hst a
  rintro mz a w1 ⟨i, v, o, os, rfl, henv, hst, hi, hol, hlt, ho, hv⟩
  have hgx := u32_get h i
  refine wp_seq ?_
  refine wp_seq ?_
  refine region_seq ?_
  refine seq_step rfl (op_val (v := .int .i64 (i : Nat)) henv rfl (rn_move henv rfl) ?_)
  clear henv a; intro a henv
  refine seq_step rfl (op_val (v := .slice A n c) henv rfl (rn_move henv rfl) ?_)
  clear henv a; intro a henv
  refine seq_step rfl (op_val (v := .int .i64 (n : Nat)) henv rfl (rn_len henv Tryd.underlying22 rfl) ?_)
  clear henv a; intro a henv
  refine seq_step rfl (op_val (v := .bool (decide (((i : Nat) : Int) < ((n : Nat) : Int)))) henv rfl (rn_bin henv rfl rfl rfl) ?_)
  clear henv a; intro a henv
  refine wpList_nil ?_
  refine th_n ?_
  refine if_split henv rfl (fun hc2 => ?_) (fun hc2 => ?_)
  · replace hc2 := of_decide_eq_true hc2
    refine wp_skip ?_
    refine th_n ?_
    refine wp_seq ?_
    refine wp_block ?_
    refine wp_seq ?_
    refine region_seq ?_
    refine seq_step rfl (op_val (v := v) henv rfl (rn_move henv rfl) ?_)
    clear henv a; intro a henv
    refine seq_step rfl (op_val (v := .slice A n c) henv rfl (rn_move henv rfl) ?_)
    clear henv a; intro a henv
    refine seq_step rfl (op_val (v := .int .i64 (i : Nat)) henv rfl (rn_move henv rfl) ?_)
    clear henv a; intro a henv
    refine seq_step rfl (op_val (v := .pointer (some ⟨ab A, ao A + i, none⟩)) henv rfl (rn_idxU (i := i) henv Tryd.underlying22 (ty_uint32.size) rfl rfl (by omega) (show U32 _ A n c xs from (hst.pat (k := 0) rfl))) ?_)
    clear henv a; intro a henv
    refine seq_step rfl (op_val (v := .int .u32 (xs.getD i 0 : Nat)) henv rfl (rn_loadU henv ty_uint32 rfl (by omega) (show U32 _ A n c xs from (hst.pat (k := 0) rfl))) ?_)
    clear henv a; intro a henv
    refine seq_step rfl (op_val (v := .int .u32 (xs.getD i 0 * 2 % 4294967296 : Nat)) henv rfl (rn_mul henv rfl rfl (wrap_u32 (xs.getD i 0 * 2))) ?_)
    clear henv a; intro a henv
    refine seq_step rfl (op_val (v := .int .u32 (o : Nat)) henv rfl (rn_move henv rfl) ?_)
    clear henv a; intro a henv
    refine seq_step rfl (op_val (v := .int .u32 ((xs.getD i 0 * 2 + o) % 4294967296 : Nat)) henv rfl (rn_add henv rfl rfl (dbl_wrap _ _)) ?_)
    clear henv a; intro a henv
    refine seq_step rfl (op_buildSlice (z := 1) (pv := #[(0, .int .u32 ((xs.getD i 0 * 2 + o) % 4294967296 : Nat))]) (c := #[.int .u32 ((xs.getD i 0 * 2 + o) % 4294967296 : Nat)]) henv hst rfl Tryd.underlying22 (ty_uint32.size) zero_uint32 (by decide) (by decide) rfl (by kernel_rfl) ?_)
    clear henv hst a; intro a w4 g3 henv hst
    refine seq_step rfl (op_append (k := 1) (j := 0) henv hst rfl Tryd.underlying22 info_u32 rfl rfl rfl rfl rfl rfl rfl rfl (by unfold maxLen; omega) (by omega) ?_)
    clear henv hst a; intro a w6 v5 henv hst
    refine seq_step rfl (op_val (v := v5) henv rfl (rn_assign henv rfl) ?_)
    clear henv a; intro a henv
    refine wpList_nil ?_
    refine th_n ?_
    refine region_seq ?_
    refine seq_step rfl (op_val (v := .slice A n c) henv rfl (rn_move henv rfl) ?_)
    clear henv a; intro a henv
    refine seq_step rfl (op_val (v := .int .i64 (i : Nat)) henv rfl (rn_move henv rfl) ?_)
    clear henv a; intro a henv
    refine seq_step rfl (op_val (v := .pointer (some ⟨ab A, ao A + i, none⟩)) henv rfl (rn_idxU (i := i) henv Tryd.underlying22 (ty_uint32.size) rfl rfl (by omega) (show U32 _ A n c xs from (hst.pat (k := 0) rfl))) ?_)
    clear henv a; intro a henv
    refine seq_step rfl (op_val (v := .int .u32 (xs.getD i 0 : Nat)) henv rfl (rn_loadU henv ty_uint32 rfl (by omega) (show U32 _ A n c xs from (hst.pat (k := 0) rfl))) ?_)
    clear henv a; intro a henv
    refine seq_step rfl (op_val (v := .int .u32 ((xs.getD i 0) / 2147483648 : Nat)) henv rfl (rn_quo henv rfl rfl (by decide) (quo_u32 (t := xs.getD i 0) (c := 2147483648) (by omega))) ?_)
    clear henv a; intro a henv
    refine seq_step rfl (op_val (v := .int .u32 ((xs.getD i 0) / 2147483648 : Nat)) henv rfl (rn_assign henv rfl) ?_)
    clear henv a; intro a henv
    refine wpList_nil ?_
    refine bl_n (th_n ?_)
    refine region_seq ?_
    refine seq_step rfl (op_val (v := .int .i64 (i : Nat)) henv rfl (rn_move henv rfl) ?_)
    clear henv a; intro a henv
    refine seq_step rfl (op_val (v := .int .i64 (i + 1 : Nat)) henv rfl (rn_add henv rfl rfl (by rw [IntWalk.i64_in _ (by omega)]; omega)) ?_)
    clear henv a; intro a henv
    refine seq_step rfl (op_val (v := .int .i64 (i + 1 : Nat)) henv rfl (rn_assign henv rfl) ?_)
    clear henv a; intro a henv
    refine wpList_nil ?_
    rw [vals_snoc] at hst
    exact th_n ⟨_, (by omega), ⟨i + 1, v5, xs.getD i 0 / 2147483648, os ++ [(xs.getD i 0 * 2 + o) % 4294967296], rfl, henv.sub ⟨rfl, rfl, rfl, rfl, trivial⟩, hst.pick [1] [0] (by decide), (by omega), (by rw [List.length_append, hol]; rfl), (lt_snoc hlt), (by omega), (dbl_inv hol hv ho)⟩⟩
  · obtain rfl : i = n := by have := of_decide_eq_false hc2; omega
    clear hc2
    have hxt : val 4294967296 (xs.take i) = N := by rw [← hN, List.take_of_length_le (by rw [h.len]; exact Nat.le_refl _)]
    rw [hxt] at hv
    refine wp_exit ?_
    refine th_x (th_x (bl_x (th_n ?_)))
    refine wp_seq ?_
    refine wp_seq ?_
    refine region_seq ?_
    refine seq_step rfl (op_val (v := .int .u32 (o : Nat)) henv rfl (rn_move henv rfl) ?_)
    clear henv a; intro a henv
    refine seq_step rfl (op_val (v := .bool (decide (((o : Nat) : Int) > (0 : Int)))) henv rfl (rn_bin henv rfl rfl rfl) ?_)
    clear henv a; intro a henv
    refine wpList_nil ?_
    refine th_n ?_
    refine if_split henv rfl (fun hc7 => ?_) (fun hc7 => ?_)
    · obtain rfl : o = 1 := by have := of_decide_eq_true hc7; omega
      clear hc7
      refine region_seq ?_
      refine seq_step rfl (op_val (v := v) henv rfl (rn_move henv rfl) ?_)
      clear henv a; intro a henv
      refine seq_step rfl (op_val (v := .int .u32 ((1 : Nat) : Nat)) henv rfl (rn_move henv rfl) ?_)
      clear henv a; intro a henv
      refine seq_step rfl (op_buildSlice (z := 1) (pv := #[(0, .int .u32 ((1 : Nat) : Nat))]) (c := #[.int .u32 ((1 : Nat) : Nat)]) henv hst rfl Tryd.underlying22 (ty_uint32.size) zero_uint32 (by decide) (by decide) rfl (by kernel_rfl) ?_)
      clear henv hst a; intro a w9 g8 henv hst
      refine seq_step rfl (op_append (k := 1) (j := 0) henv hst rfl Tryd.underlying22 info_u32 rfl rfl rfl rfl rfl rfl rfl rfl (by unfold maxLen; omega) (by omega) ?_)
      clear henv hst a; intro a w11 v10 henv hst
      refine seq_step rfl (op_val (v := v10) henv rfl (rn_assign henv rfl) ?_)
      clear henv a; intro a henv
      refine wpList_nil ?_
      refine th_n ?_
      refine wp_seq ?_
      refine region_seq ?_
      refine seq_step rfl (op_val (v := v10) henv rfl (rn_move henv rfl) ?_)
      clear henv a; intro a henv
      refine seq_step rfl (op_val (v := v10) henv rfl (rn_assign henv rfl) ?_)
      clear henv a; intro a henv
      refine wpList_nil ?_
      refine th_n ?_
      refine wp_ret ?_
      refine leave henv (res1 Tryd.results95 (RV.tmp henv rfl)) ?_
      have hE := dbl_end1 (b := 0) (hol.trans hnl.symm) hlt (by rw [hnl]; exact hv)
      rw [vals_snoc, hE] at hst
      have hlen : (os ++ [1]).length = i + 1 := by rw [List.length_append, hol]; rfl
      rw [hE] at hlen
      obtain ⟨A1, c1, rfl, hU, hF⟩ := hst.rowOut (k := 1) rfl (L_lt _)
      refine ⟨_, rfl, ?_, hst.below⟩
      rw [← hlen] at hU ⊢
      exact ⟨A1, c1, rfl, hU, hF⟩
    · obtain rfl : o = 0 := by have := of_decide_eq_false hc7; omega
      clear hc7
      refine wp_skip ?_
      refine th_n ?_
      refine wp_seq ?_
      refine region_seq ?_
      refine seq_step rfl (op_val (v := v) henv rfl (rn_move henv rfl) ?_)
      clear henv a; intro a henv
      refine seq_step rfl (op_val (v := v) henv rfl (rn_assign henv rfl) ?_)
      clear henv a; intro a henv
      refine wpList_nil ?_
      refine th_n ?_
      refine wp_ret ?_
      refine leave henv (res1 Tryd.results95 (RV.tmp henv rfl)) ?_
      have hE := dbl_end0 (b := 0) (hol.trans hnl.symm) hlt (by simpa using hv)
      rw [hE] at hst
      have hlen := hol
      rw [hE] at hlen
      obtain ⟨A1, c1, rfl, hU, hF⟩ := hst.rowOut (k := 0) rfl (L_lt _)
      refine ⟨_, rfl, ?_, hst.below⟩
      rw [← hlen] at hU ⊢
      exact ⟨A1, c1, rfl, hU, hF⟩

set_option maxRecDepth 100000 in
set_option maxHeartbeats 4000000 in
theorem r_bits {A : Option Addr} {n c N : Nat} {xs : List Nat} {w0 : World} (h : U32 w0 A n c xs) (hN : val 4294967296 xs = N) (hn : n ≤ 1000000) :
    Calls Tryd.prog 58 #[.slice A n c] w0 fun e w' => e = .returned (.int .i64 (blen N : Nat)) ∧ Below w0.heap.size w0 w' := by
  have hnN : nl N ≤ n := hN ▸ nl_val h
  refine enter Tryd.func58 rfl Tryd.ntmps58 rfl ?_
  intro a henv hst
  replace hst := (hst.addU h trivial)
  refine wp_seq ?_
  refine region_seq ?_
  refine seq_step rfl (op_val (v := .int .i64 0) henv rfl (rn_assign henv rfl) ?_)
  clear henv a; intro a henv
  refine wpList_nil ?_
  refine th_n ?_
  refine wp_seq ?_
  refine region_seq ?_
  refine seq_step rfl (op_val (v := .slice A n c) henv rfl (rn_move henv rfl) ?_)
  clear henv a; intro a henv
  have hst0 := hst
  refine seq_step rfl (op_call henv rfl Tryd.call52 rfl (r_norm_to (R := N) (show U32 _ A n c xs from hst.pat (k := 0) rfl) (by omega) (by simp only [hN])) ?_)
  rintro e w3 ⟨_, rfl, ⟨A1, c2, rfl, hU, hA⟩, hb⟩
  refine ⟨_, rfl, ?_⟩
  clear henv a; intro a henv
  replace hst := hst.freshU hb hU hA
  clear hU
  have hFA1 : ∀ a, A1 = some a → w0.heap.size ≤ a.block := fun a ha => Nat.le_trans hst0.below.size (hA a ha)
  clear hA hst0
  clear hb
  refine seq_step rfl (op_val (v := .slice A1 (nl N) c2) henv rfl (rn_assign henv rfl) ?_)
  clear henv a; intro a henv
  refine wpList_nil ?_
  refine th_n ?_
  refine wp_seq ?_
  refine wp_seq ?_
  refine region_seq ?_
  refine seq_step rfl (op_val (v := .slice A1 (nl N) c2) henv rfl (rn_move henv rfl) ?_)
  clear henv a; intro a henv
  refine seq_step rfl (op_val (v := .int .i64 (nl N : Nat)) henv rfl (rn_len henv Tryd.underlying22 rfl) ?_)
  clear henv a; intro a henv
  refine seq_step rfl (op_val (v := .bool (((nl N : Nat) : Int) == (0 : Int))) henv rfl (rn_bin henv rfl rfl rfl) ?_)
  clear henv a; intro a henv
  refine wpList_nil ?_
  refine th_n ?_
  refine if_split henv rfl (fun hc4 => ?_) (fun hc4 => ?_)
  · have hq1 : nl N = 0 := by have h1 := hc4; simp at h1; exact h1
    clear hc4
    refine wp_seq ?_
    refine region_seq ?_
    refine seq_step rfl (op_val (v := .int .i64 0) henv rfl (rn_assign henv rfl) ?_)
    clear henv a; intro a henv
    refine wpList_nil ?_
    refine th_n ?_
    refine wp_ret ?_
    refine th_r ?_
    refine leave henv (res1 Tryd.results58 (RV.tmp henv rfl)) ?_
    obtain rfl := zero_of_nl hq1
    exact ⟨by rw [blen_zero]; rfl, hst.below⟩
  · have hq1 : nl N ≠ 0 := by have h1 := hc4; simp at h1; exact h1
    clear hc4
    refine wp_skip ?_
    refine th_n ?_
    refine wp_seq ?_
    refine region_seq ?_
    refine seq_step rfl (op_val (v := .slice A1 (nl N) c2) henv rfl (rn_move henv rfl) ?_)
    clear henv a; intro a henv
    refine seq_step rfl (op_val (v := .int .i64 (nl N : Nat)) henv rfl (rn_len henv Tryd.underlying22 rfl) ?_)
    clear henv a; intro a henv
    refine seq_step rfl (op_val (v := .int .i64 ((nl N) - 1 : Nat)) henv rfl (rn_sub henv rfl rfl (by rw [IntWalk.i64_in _ (by omega)]; omega)) ?_)
    clear henv a; intro a henv
    refine seq_step rfl (op_val (v := .int .i64 (32 * ((nl N) - 1) : Nat)) henv rfl (rn_mul henv rfl rfl (by rw [IntWalk.i64_in _ (by omega)]; omega)) ?_)
    clear henv a; intro a henv
    refine seq_step rfl (op_val (v := .int .i64 (32 * ((nl N) - 1) : Nat)) henv rfl (rn_assign henv rfl) ?_)
    clear henv a; intro a henv
    refine wpList_nil ?_
    refine th_n ?_
    refine wp_seq ?_
    refine wp_seq ?_
    refine region_seq ?_
    refine seq_step rfl (op_val (v := .slice A1 (nl N) c2) henv rfl (rn_move henv rfl) ?_)
    clear henv a; intro a henv
    refine seq_step rfl (op_val (v := .slice A1 (nl N) c2) henv rfl (rn_move henv rfl) ?_)
    clear henv a; intro a henv
    refine seq_step rfl (op_val (v := .int .i64 (nl N : Nat)) henv rfl (rn_len henv Tryd.underlying22 rfl) ?_)
    clear henv a; intro a henv
    refine seq_step rfl (op_val (v := .int .i64 ((nl N) - 1 : Nat)) henv rfl (rn_sub henv rfl rfl (by rw [IntWalk.i64_in _ (by omega)]; omega)) ?_)
    clear henv a; intro a henv
    refine seq_step rfl (op_val (v := .pointer (some ⟨ab A1, ao A1 + ((nl N) - 1), none⟩)) henv rfl (rn_idxU (i := (nl N) - 1) henv Tryd.underlying22 (ty_uint32.size) rfl rfl (by omega) (show U32 _ A1 (nl N) c2 (L N) from (hst.pat (k := 0) rfl))) ?_)
    clear henv a; intro a henv
    refine seq_step rfl (op_val (v := .int .u32 ((L N).getD ((nl N) - 1) 0 : Nat)) henv rfl (rn_loadU henv ty_uint32 rfl (by omega) (show U32 _ A1 (nl N) c2 (L N) from (hst.pat (k := 0) rfl))) ?_)
    clear henv a; intro a henv
    refine seq_step rfl (op_val (v := .int .u32 ((L N).getD ((nl N) - 1) 0 : Nat)) henv rfl (rn_assign henv rfl) ?_)
    clear henv a; intro a henv
    refine wpList_nil ?_
    refine th_n ?_
    refine wp_block ?_
    refine wp_loop_ghost (fun mz a w => ∃ k : Nat, ∃ x : Nat, x = mz ∧ Env 28 a [(4, .int .i64 (k : Nat)), (5, .int .u32 (x : Nat))] ∧ St w0 w [] [] ∧ k + blen x = blen N ∧ x < 4294967296) _ ⟨32 * (nl N - 1), (L N).getD (nl N - 1) 0, rfl, henv.sub ⟨rfl, rfl, trivial⟩, hst.pick [] [] (by decide), (bits_init hq1), ((L_lt N).get (by decide) _)⟩ ?_
    clear henv hst a
    rintro mz a w5 ⟨k, x, rfl, henv, hst, hk, hxb⟩
    have hkb : k ≤ 32000000 := by have := blen_nl N; omega
    refine wp_seq ?_
    refine wp_seq ?_
    refine region_seq ?_
    refine seq_step rfl (op_val (v := .int .u32 (x : Nat)) henv rfl (rn_move henv rfl) ?_)
    clear henv a; intro a henv
    refine seq_step rfl (op_val (v := .bool (decide (((x : Nat) : Int) > (0 : Int)))) henv rfl (rn_bin henv rfl rfl rfl) ?_)
    clear henv a; intro a henv
    refine wpList_nil ?_
    refine th_n ?_
    refine if_split henv rfl (fun hc6 => ?_) (fun hc6 => ?_)
    · replace hc6 := of_decide_eq_true hc6
      refine wp_skip ?_
      refine th_n ?_
      refine wp_seq ?_
      refine wp_block ?_
      refine region_seq ?_
      refine seq_step rfl (op_val (v := .int .i64 (k : Nat)) henv rfl (rn_move henv rfl) ?_)
      clear henv a; intro a henv
      refine seq_step rfl (op_val (v := .int .i64 (k + 1 : Nat)) henv rfl (rn_add henv rfl rfl (by rw [IntWalk.i64_in _ (by omega)]; omega)) ?_)
      clear henv a; intro a henv
      refine seq_step rfl (op_val (v := .int .i64 (k + 1 : Nat)) henv rfl (rn_assign henv rfl) ?_)
      clear henv a; intro a henv
      refine wpList_nil ?_
      refine bl_n (th_n ?_)
      refine region_seq ?_
      refine seq_step rfl (op_val (v := .int .u32 (x : Nat)) henv rfl (rn_move henv rfl) ?_)
      clear henv a; intro a henv
      refine seq_step rfl (op_val (v := .int .u32 (x / 2 : Nat)) henv rfl (rn_quo henv rfl rfl (by decide) (quo_u32 (t := x) (c := 2) (by omega))) ?_)
      clear henv a; intro a henv
      refine seq_step rfl (op_val (v := .int .u32 (x / 2 : Nat)) henv rfl (rn_assign henv rfl) ?_)
      clear henv a; intro a henv
      refine wpList_nil ?_
      exact th_n ⟨_, (by omega), ⟨k + 1, x / 2, rfl, henv.sub ⟨rfl, rfl, trivial⟩, hst.pick [] [] (by decide), (by rw [blen_half x (by omega)] at hk; omega), (by omega)⟩⟩
    · replace hc6 := of_decide_eq_false hc6
      refine wp_exit ?_
      refine th_x (th_x (bl_x (th_n ?_)))
      refine wp_seq ?_
      refine region_seq ?_
      refine seq_step rfl (op_val (v := .int .i64 (k : Nat)) henv rfl (rn_move henv rfl) ?_)
      clear henv a; intro a henv
      refine seq_step rfl (op_val (v := .int .i64 (k : Nat)) henv rfl (rn_assign henv rfl) ?_)
      clear henv a; intro a henv
      refine wpList_nil ?_
      refine th_n ?_
      refine wp_ret ?_
      refine leave henv (res1 Tryd.results58 (RV.tmp henv rfl)) ?_
      obtain rfl : x = 0 := by omega
      rw [blen_zero, Nat.add_zero] at hk
      subst hk
      exact ⟨rfl, hst.below⟩

set_option maxRecDepth 100000 in
set_option maxHeartbeats 4000000 in
theorem r_bit_in {A : Option Addr} {n c N k : Nat} {xs : List Nat} {w0 : World} (h : U32 w0 A n c xs) (hN : val 4294967296 xs = N) (hk : k / 32 < n) (hkb : k < 9223372036854775808) :
    Calls Tryd.prog 60 #[.slice A n c, .int .i64 (k : Nat)] w0 fun e w' => ∃ b : Bool, e = .returned (.bool b) ∧ b.toNat = N / 2 ^ k % 2 ∧ Below w0.heap.size w0 w' := by
  have hgx := u32_get h (k / 32)
  have hsm : xs.getD (k / 32) 0 / 2 ^ (k % 32) < 4294967296 := Nat.lt_of_le_of_lt (Nat.div_le_self _ _) hgx
  refine enter Tryd.func60 rfl Tryd.ntmps60 rfl ?_
  intro a henv hst
  replace hst := (hst.addU h trivial)
  refine wp_seq ?_
  refine region_seq ?_
  refine seq_step rfl (op_val (v := .bool false) henv rfl (rn_assign henv rfl) ?_)
  clear henv a; intro a henv
  refine wpList_nil ?_
  refine th_n ?_
  refine wp_seq ?_
  refine region_seq ?_
  refine seq_step rfl (op_val (v := .int .i64 (k : Nat)) henv rfl (rn_move henv rfl) ?_)
  clear henv a; intro a henv
  refine seq_step rfl (op_val (v := .bool (decide (((k : Nat) : Int) ≥ (0 : Int)))) henv rfl (rn_bin henv rfl rfl rfl) ?_)
  clear henv a; intro a henv
  rw [show (decide (((k : Nat) : Int) ≥ (0 : Int))) = true from decide_eq_true (by omega)] at henv
  refine seq_step rfl (op_val (v := .bool true) henv rfl (rn_move henv rfl) ?_)
  clear henv a; intro a henv
  refine seq_g rfl henv rfl rfl (op_val (v := .int .i64 (k : Nat)) henv rfl (rn_move henv rfl) ?_)
  clear henv a; intro a henv
  refine seq_g rfl henv rfl rfl (op_val (v := .int .i64 (k / 32 : Nat)) henv rfl (rn_quo henv rfl rfl (by decide) (quo_i64 (t := k) (c := 32) (by omega))) ?_)
  clear henv a; intro a henv
  refine seq_g rfl henv rfl rfl (op_val (v := .slice A n c) henv rfl (rn_move henv rfl) ?_)
  clear henv a; intro a henv
  refine seq_g rfl henv rfl rfl (op_val (v := .int .i64 (n : Nat)) henv rfl (rn_len henv Tryd.underlying22 rfl) ?_)
  clear henv a; intro a henv
  refine seq_g rfl henv rfl rfl (op_val (v := .bool (decide (((k / 32 : Nat) : Int) < ((n : Nat) : Int)))) henv rfl (rn_bin henv rfl rfl rfl) ?_)
  clear henv a; intro a henv
  rw [show (decide (((k / 32 : Nat) : Int) < ((n : Nat) : Int))) = true from decide_eq_true (by omega)] at henv
  refine seq_step rfl (op_val (v := .bool true) henv rfl (rn_pick henv rfl rfl) ?_)
  clear henv a; intro a henv
  refine seq_step rfl (op_val (v := .bool true) henv rfl (rn_move henv rfl) ?_)
  clear henv a; intro a henv
  refine seq_g rfl henv rfl rfl (op_val (v := .slice A n c) henv rfl (rn_move henv rfl) ?_)
  clear henv a; intro a henv
  refine seq_g rfl henv rfl rfl (op_val (v := .int .i64 (k : Nat)) henv rfl (rn_move henv rfl) ?_)
  clear henv a; intro a henv
  refine seq_g rfl henv rfl rfl (op_val (v := .int .i64 (k / 32 : Nat)) henv rfl (rn_quo henv rfl rfl (by decide) (quo_i64 (t := k) (c := 32) (by omega))) ?_)
  clear henv a; intro a henv
  refine seq_g rfl henv rfl rfl (op_val (v := .pointer (some ⟨ab A, ao A + (k / 32), none⟩)) henv rfl (rn_idxU (i := k / 32) henv Tryd.underlying22 (ty_uint32.size) rfl rfl (by omega) (show U32 _ A n c xs from (hst.pat (k := 0) rfl))) ?_)
  clear henv a; intro a henv
  refine seq_g rfl henv rfl rfl (op_val (v := .int .u32 (xs.getD (k / 32) 0 : Nat)) henv rfl (rn_loadU henv ty_uint32 rfl (by omega) (show U32 _ A n c xs from (hst.pat (k := 0) rfl))) ?_)
  clear henv a; intro a henv
  refine seq_g rfl henv rfl rfl (op_val (v := .int .i64 (k : Nat)) henv rfl (rn_move henv rfl) ?_)
  clear henv a; intro a henv
  refine seq_g rfl henv rfl rfl (op_val (v := .int .i64 (k % 32 : Nat)) henv rfl (rn_rem henv rfl rfl (by decide) (tmod_nat k 32)) ?_)
  clear henv a; intro a henv
  refine seq_g rfl henv rfl rfl (op_val (v := .int .u32 ((xs.getD (k / 32) 0) / 2 ^ (k % 32) : Nat)) henv rfl (rn_shr (s := k % 32) henv rfl rfl (shb_u32 (by omega)) (fdiv_pow (xs.getD (k / 32) 0) (k % 32))) ?_)
  clear henv a; intro a henv
  refine seq_g rfl henv rfl rfl (op_val (v := .int .u32 (((xs.getD (k / 32) 0) / 2 ^ (k % 32)) % 2 : Nat)) henv rfl (rn_and1 henv rfl rfl (by omega)) ?_)
  clear henv a; intro a henv
  refine seq_g rfl henv rfl rfl (op_val (v := .bool (((((xs.getD (k / 32) 0) / 2 ^ (k % 32)) % 2 : Nat) : Int) == (1 : Int))) henv rfl (rn_bin henv rfl rfl rfl) ?_)
  clear henv a; intro a henv
  refine seq_step rfl (op_val (v := .bool (((((xs.getD (k / 32) 0) / 2 ^ (k % 32)) % 2 : Nat) : Int) == (1 : Int))) henv rfl (rn_pick henv rfl rfl) ?_)
  clear henv a; intro a henv
  refine seq_step rfl (op_val (v := .bool (((((xs.getD (k / 32) 0) / 2 ^ (k % 32)) % 2 : Nat) : Int) == (1 : Int))) henv rfl (rn_assign henv rfl) ?_)
  clear henv a; intro a henv
  refine wpList_nil ?_
  refine th_n ?_
  refine wp_ret ?_
  refine leave henv (res1 Tryd.results60 (RV.tmp henv rfl)) ?_
  exact ⟨_, rfl, bit_true h hN k, hst.below⟩

set_option maxRecDepth 100000 in
set_option maxHeartbeats 4000000 in
theorem r_bit_past {A : Option Addr} {n c N k : Nat} {xs : List Nat} {w0 : World} (h : U32 w0 A n c xs) (hN : val 4294967296 xs = N) (hk : n ≤ k / 32) (hkb : k < 9223372036854775808) :
    Calls Tryd.prog 60 #[.slice A n c, .int .i64 (k : Nat)] w0 fun e w' => ∃ b : Bool, e = .returned (.bool b) ∧ b.toNat = N / 2 ^ k % 2 ∧ Below w0.heap.size w0 w' := by
  have hgx := u32_get h (k / 32)
  have hsm : xs.getD (k / 32) 0 / 2 ^ (k % 32) < 4294967296 := Nat.lt_of_le_of_lt (Nat.div_le_self _ _) hgx
  refine enter Tryd.func60 rfl Tryd.ntmps60 rfl ?_
  intro a henv hst
  replace hst := (hst.addU h trivial)
  refine wp_seq ?_
  refine region_seq ?_
  refine seq_step rfl (op_val (v := .bool false) henv rfl (rn_assign henv rfl) ?_)
  clear henv a; intro a henv
  refine wpList_nil ?_
  refine th_n ?_
  refine wp_seq ?_
  refine region_seq ?_
  refine seq_step rfl (op_val (v := .int .i64 (k : Nat)) henv rfl (rn_move henv rfl) ?_)
  clear henv a; intro a henv
  refine seq_step rfl (op_val (v := .bool (decide (((k : Nat) : Int) ≥ (0 : Int)))) henv rfl (rn_bin henv rfl rfl rfl) ?_)
  clear henv a; intro a henv
  rw [show (decide (((k : Nat) : Int) ≥ (0 : Int))) = true from decide_eq_true (by omega)] at henv
  refine seq_step rfl (op_val (v := .bool true) henv rfl (rn_move henv rfl) ?_)
  clear henv a; intro a henv
  refine seq_g rfl henv rfl rfl (op_val (v := .int .i64 (k : Nat)) henv rfl (rn_move henv rfl) ?_)
  clear henv a; intro a henv
  refine seq_g rfl henv rfl rfl (op_val (v := .int .i64 (k / 32 : Nat)) henv rfl (rn_quo henv rfl rfl (by decide) (quo_i64 (t := k) (c := 32) (by omega))) ?_)
  clear henv a; intro a henv
  refine seq_g rfl henv rfl rfl (op_val (v := .slice A n c) henv rfl (rn_move henv rfl) ?_)
  clear henv a; intro a henv
  refine seq_g rfl henv rfl rfl (op_val (v := .int .i64 (n : Nat)) henv rfl (rn_len henv Tryd.underlying22 rfl) ?_)
  clear henv a; intro a henv
  refine seq_g rfl henv rfl rfl (op_val (v := .bool (decide (((k / 32 : Nat) : Int) < ((n : Nat) : Int)))) henv rfl (rn_bin henv rfl rfl rfl) ?_)
  clear henv a; intro a henv
  rw [show (decide (((k / 32 : Nat) : Int) < ((n : Nat) : Int))) = false from decide_eq_false (by omega)] at henv
  refine seq_step rfl (op_val (v := .bool false) henv rfl (rn_pick henv rfl rfl) ?_)
  clear henv a; intro a henv
  refine seq_step rfl (op_val (v := .bool false) henv rfl (rn_move henv rfl) ?_)
  clear henv a; intro a henv
  refine seq_skip rfl henv rfl rfl rfl rfl ?_
  clear henv a; intro a henv
  refine seq_skip rfl henv rfl rfl rfl rfl ?_
  clear henv a; intro a henv
  refine seq_skip rfl henv rfl rfl rfl rfl ?_
  clear henv a; intro a henv
  refine seq_skip rfl henv rfl rfl rfl rfl ?_
  clear henv a; intro a henv
  refine seq_skip rfl henv rfl rfl rfl rfl ?_
  clear henv a; intro a henv
  refine seq_skip rfl henv rfl rfl rfl rfl ?_
  clear henv a; intro a henv
  refine seq_skip rfl henv rfl rfl rfl rfl ?_
  clear henv a; intro a henv
  refine seq_skip rfl henv rfl rfl rfl rfl ?_
  clear henv a; intro a henv
  refine seq_skip rfl henv rfl rfl rfl rfl ?_
  clear henv a; intro a henv
  refine seq_skip rfl henv rfl rfl rfl rfl ?_
  clear henv a; intro a henv
  refine seq_step rfl (op_val (v := .bool false) henv rfl (rn_pick henv rfl rfl) ?_)
  clear henv a; intro a henv
  refine seq_step rfl (op_val (v := .bool false) henv rfl (rn_assign henv rfl) ?_)
  clear henv a; intro a henv
  refine wpList_nil ?_
  refine th_n ?_
  refine wp_ret ?_
  refine leave henv (res1 Tryd.results60 (RV.tmp henv rfl)) ?_
  exact ⟨_, rfl, by rw [← hN]; exact (bit_past h.lt (by rw [h.len]; omega)).symm, hst.below⟩

set_option maxRecDepth 100000 in
set_option maxHeartbeats 4000000 in
theorem r_bit_neg {A : Option Addr} {n c : Nat} {i : Int} {xs : List Nat} {w0 : World} (h : U32 w0 A n c xs) (hi : i < 0) :
    Calls Tryd.prog 60 #[.slice A n c, .int .i64 i] w0 fun e w' => e = .returned (.bool false) ∧ Below w0.heap.size w0 w' := by
  refine enter Tryd.func60 rfl Tryd.ntmps60 rfl ?_
  intro a henv hst
  replace hst := (hst.addU h trivial)
  refine wp_seq ?_
  refine region_seq ?_
  refine seq_step rfl (op_val (v := .bool false) henv rfl (rn_assign henv rfl) ?_)
  clear henv a; intro a henv
  refine wpList_nil ?_
  refine th_n ?_
  refine wp_seq ?_
  refine region_seq ?_
  refine seq_step rfl (op_val (v := .int .i64 i) henv rfl (rn_move henv rfl) ?_)
  clear henv a; intro a henv
  refine seq_step rfl (op_val (v := .bool (decide (i ≥ (0 : Int)))) henv rfl (rn_bin henv rfl rfl rfl) ?_)
  clear henv a; intro a henv
  rw [show (decide (i ≥ (0 : Int))) = false from decide_eq_false (by omega)] at henv
  refine seq_step rfl (op_val (v := .bool false) henv rfl (rn_move henv rfl) ?_)
  clear henv a; intro a henv
  refine seq_skip rfl henv rfl rfl rfl rfl ?_
  clear henv a; intro a henv
  refine seq_skip rfl henv rfl rfl rfl rfl ?_
  clear henv a; intro a henv
  refine seq_skip rfl henv rfl rfl rfl rfl ?_
  clear henv a; intro a henv
  refine seq_skip rfl henv rfl rfl rfl rfl ?_
  clear henv a; intro a henv
  refine seq_skip rfl henv rfl rfl rfl rfl ?_
  clear henv a; intro a henv
  refine seq_step rfl (op_val (v := .bool false) henv rfl (rn_pick henv rfl rfl) ?_)
  clear henv a; intro a henv
  refine seq_step rfl (op_val (v := .bool false) henv rfl (rn_move henv rfl) ?_)
  clear henv a; intro a henv
  refine seq_skip rfl henv rfl rfl rfl rfl ?_
  clear henv a; intro a henv
  refine seq_skip rfl henv rfl rfl rfl rfl ?_
  clear henv a; intro a henv
  refine seq_skip rfl henv rfl rfl rfl rfl ?_
  clear henv a; intro a henv
  refine seq_skip rfl henv rfl rfl rfl rfl ?_
  clear henv a; intro a henv
  refine seq_skip rfl henv rfl rfl rfl rfl ?_
  clear henv a; intro a henv
  refine seq_skip rfl henv rfl rfl rfl rfl ?_
  clear henv a; intro a henv
  refine seq_skip rfl henv rfl rfl rfl rfl ?_
  clear henv a; intro a henv
  refine seq_skip rfl henv rfl rfl rfl rfl ?_
  clear henv a; intro a henv
  refine seq_skip rfl henv rfl rfl rfl rfl ?_
  clear henv a; intro a henv
  refine seq_skip rfl henv rfl rfl rfl rfl ?_
  clear henv a; intro a henv
  refine seq_step rfl (op_val (v := .bool false) henv rfl (rn_pick henv rfl rfl) ?_)
  clear henv a; intro a henv
  refine seq_step rfl (op_val (v := .bool false) henv rfl (rn_assign henv rfl) ?_)
  clear henv a; intro a henv
  refine wpList_nil ?_
  refine th_n ?_
  refine wp_ret ?_
  refine leave henv (res1 Tryd.results60 (RV.tmp henv rfl)) ?_
  exact ⟨rfl, hst.below⟩

set_option maxRecDepth 100000 in
set_option maxHeartbeats 4000000 in
theorem lb_bit_in {A : Option Addr} {n c N k : Nat} {xs : List Nat} {w0 : World} (h : U32 w0 A n c xs) (hN : val 4294967296 xs = N) (hk : k / 32 < n) (hkb : k < 9223372036854775808) :
    Calls Tryd.prog 59 #[.slice A n c, .int .i64 (k : Nat)] w0 fun e w' => ∃ b : Bool, e = .returned (.bool b) ∧ b.toNat = N / 2 ^ k % 2 ∧ Below w0.heap.size w0 w' := by
  have hgx := u32_get h (k / 32)
  have hsm : xs.getD (k / 32) 0 / 2 ^ (k % 32) < 4294967296 := Nat.lt_of_le_of_lt (Nat.div_le_self _ _) hgx
  refine enter Tryd.func59 rfl Tryd.ntmps59 rfl ?_
  intro a henv hst
  replace hst := (hst.addU h trivial)
  refine wp_seq ?_
  refine region_seq ?_
  refine seq_step rfl (op_val (v := .bool false) henv rfl (rn_assign henv rfl) ?_)
  clear henv a; intro a henv
  refine wpList_nil ?_
  refine th_n ?_
  refine wp_seq ?_
  refine region_seq ?_
  refine seq_step rfl (op_val (v := .int .i64 (k : Nat)) henv rfl (rn_move henv rfl) ?_)
  clear henv a; intro a henv
  refine seq_step rfl (op_val (v := .bool (decide (((k : Nat) : Int) ≥ (0 : Int)))) henv rfl (rn_bin henv rfl rfl rfl) ?_)
  clear henv a; intro a henv
  rw [show (decide (((k : Nat) : Int) ≥ (0 : Int))) = true from decide_eq_true (by omega)] at henv
  refine seq_step rfl (op_val (v := .bool true) henv rfl (rn_move henv rfl) ?_)
  clear henv a; intro a henv
  refine seq_g rfl henv rfl rfl (op_val (v := .int .i64 (k : Nat)) henv rfl (rn_move henv rfl) ?_)
  clear henv a; intro a henv
  refine seq_g rfl henv rfl rfl (op_val (v := .int .i64 (k / 32 : Nat)) henv rfl (rn_quo henv rfl rfl (by decide) (quo_i64 (t := k) (c := 32) (by omega))) ?_)
  clear henv a; intro a henv
  refine seq_g rfl henv rfl rfl (op_val (v := .slice A n c) henv rfl (rn_move henv rfl) ?_)
  clear henv a; intro a henv
  refine seq_g rfl henv rfl rfl (op_val (v := .int .i64 (n : Nat)) henv rfl (rn_len henv Tryd.underlying22 rfl) ?_)
  clear henv a; intro a henv
  refine seq_g rfl henv rfl rfl (op_val (v := .bool (decide (((k / 32 : Nat) : Int) < ((n : Nat) : Int)))) henv rfl (rn_bin henv rfl rfl rfl) ?_)
  clear henv a; intro a henv
  rw [show (decide (((k / 32 : Nat) : Int) < ((n : Nat) : Int))) = true from decide_eq_true (by omega)] at henv
  refine seq_step rfl (op_val (v := .bool true) henv rfl (rn_pick henv rfl rfl) ?_)
  clear henv a; intro a henv
  refine seq_step rfl (op_val (v := .bool true) henv rfl (rn_move henv rfl) ?_)
  clear henv a; intro a henv
  refine seq_g rfl henv rfl rfl (op_val (v := .slice A n c) henv rfl (rn_move henv rfl) ?_)
  clear henv a; intro a henv
  refine seq_g rfl henv rfl rfl (op_val (v := .int .i64 (k : Nat)) henv rfl (rn_move henv rfl) ?_)
  clear henv a; intro a henv
  refine seq_g rfl henv rfl rfl (op_val (v := .int .i64 (k / 32 : Nat)) henv rfl (rn_quo henv rfl rfl (by decide) (quo_i64 (t := k) (c := 32) (by omega))) ?_)
  clear henv a; intro a henv
  refine seq_g rfl henv rfl rfl (op_val (v := .pointer (some ⟨ab A, ao A + (k / 32), none⟩)) henv rfl (rn_idxU (i := k / 32) henv Tryd.underlying22 (ty_uint32.size) rfl rfl (by omega) (show U32 _ A n c xs from (hst.pat (k := 0) rfl))) ?_)
  clear henv a; intro a henv
  refine seq_g rfl henv rfl rfl (op_val (v := .int .u32 (xs.getD (k / 32) 0 : Nat)) henv rfl (rn_loadU henv ty_uint32 rfl (by omega) (show U32 _ A n c xs from (hst.pat (k := 0) rfl))) ?_)
  clear henv a; intro a henv
  refine seq_g rfl henv rfl rfl (op_val (v := .int .i64 (k : Nat)) henv rfl (rn_move henv rfl) ?_)
  clear henv a; intro a henv
  refine seq_g rfl henv rfl rfl (op_val (v := .int .i64 (k % 32 : Nat)) henv rfl (rn_rem henv rfl rfl (by decide) (tmod_nat k 32)) ?_)
  clear henv a; intro a henv
  refine seq_g rfl henv rfl rfl (op_val (v := .int .u32 ((xs.getD (k / 32) 0) / 2 ^ (k % 32) : Nat)) henv rfl (rn_shr (s := k % 32) henv rfl rfl (shb_u32 (by omega)) (fdiv_pow (xs.getD (k / 32) 0) (k % 32))) ?_)
  clear henv a; intro a henv
  refine seq_g rfl henv rfl rfl (op_val (v := .int .u32 (((xs.getD (k / 32) 0) / 2 ^ (k % 32)) % 2 : Nat)) henv rfl (rn_and1 henv rfl rfl (by omega)) ?_)
  clear henv a; intro a henv
  refine seq_g rfl henv rfl rfl (op_val (v := .bool (((((xs.getD (k / 32) 0) / 2 ^ (k % 32)) % 2 : Nat) : Int) == (1 : Int))) henv rfl (rn_bin henv rfl rfl rfl) ?_)
  clear henv a; intro a henv
  refine seq_step rfl (op_val (v := .bool (((((xs.getD (k / 32) 0) / 2 ^ (k % 32)) % 2 : Nat) : Int) == (1 : Int))) henv rfl (rn_pick henv rfl rfl) ?_)
  clear henv a; intro a henv
  refine seq_step rfl (op_val (v := .bool (((((xs.getD (k / 32) 0) / 2 ^ (k % 32)) % 2 : Nat) : Int) == (1 : Int))) henv rfl (rn_assign henv rfl) ?_)
  clear henv a; intro a henv
  refine wpList_nil ?_
  refine th_n ?_
  refine wp_ret ?_
  refine leave henv (res1 Tryd.results59 (RV.tmp henv rfl)) ?_
  exact ⟨_, rfl, bit_true h hN k, hst.below⟩

set_option maxRecDepth 100000 in
set_option maxHeartbeats 4000000 in
theorem lb_bit_past {A : Option Addr} {n c N k : Nat} {xs : List Nat} {w0 : World} (h : U32 w0 A n c xs) (hN : val 4294967296 xs = N) (hk : n ≤ k / 32) (hkb : k < 9223372036854775808) :
    Calls Tryd.prog 59 #[.slice A n c, .int .i64 (k : Nat)] w0 fun e w' => ∃ b : Bool, e = .returned (.bool b) ∧ b.toNat = N / 2 ^ k % 2 ∧ Below w0.heap.size w0 w' := by
  have hgx := u32_get h (k / 32)
  have hsm : xs.getD (k / 32) 0 / 2 ^ (k % 32) < 4294967296 := Nat.lt_of_le_of_lt (Nat.div_le_self _ _) hgx
  refine enter Tryd.func59 rfl Tryd.ntmps59 rfl ?_
  intro a henv hst
  replace hst := (hst.addU h trivial)
  refine wp_seq ?_
  refine region_seq ?_
  refine seq_step rfl (op_val (v := .bool false) henv rfl (rn_assign henv rfl) ?_)
  clear henv a; intro a henv
  refine wpList_nil ?_
  refine th_n ?_
  refine wp_seq ?_
  refine region_seq ?_
  refine seq_step rfl (op_val (v := .int .i64 (k : Nat)) henv rfl (rn_move henv rfl) ?_)
  clear henv a; intro a henv
  refine seq_step rfl (op_val (v := .bool (decide (((k : Nat) : Int) ≥ (0 : Int)))) henv rfl (rn_bin henv rfl rfl rfl) ?_)
  clear henv a; intro a henv
  rw [show (decide (((k : Nat) : Int) ≥ (0 : Int))) = true from decide_eq_true (by omega)] at henv
  refine seq_step rfl (op_val (v := .bool true) henv rfl (rn_move henv rfl) ?_)
  clear henv a; intro a henv
  refine seq_g rfl henv rfl rfl (op_val (v := .int .i64 (k : Nat)) henv rfl (rn_move henv rfl) ?_)
  clear henv a; intro a henv
  refine seq_g rfl henv rfl rfl (op_val (v := .int .i64 (k / 32 : Nat)) henv rfl (rn_quo henv rfl rfl (by decide) (quo_i64 (t := k) (c := 32) (by omega))) ?_)
  clear henv a; intro a henv
  refine seq_g rfl henv rfl rfl (op_val (v := .slice A n c) henv rfl (rn_move henv rfl) ?_)
  clear henv a; intro a henv
  refine seq_g rfl henv rfl rfl (op_val (v := .int .i64 (n : Nat)) henv rfl (rn_len henv Tryd.underlying22 rfl) ?_)
  clear henv a; intro a henv
  refine seq_g rfl henv rfl rfl (op_val (v := .bool (decide (((k / 32 : Nat) : Int) < ((n : Nat) : Int)))) henv rfl (rn_bin henv rfl rfl rfl) ?_)
  clear henv a; intro a henv
  rw [show (decide (((k / 32 : Nat) : Int) < ((n : Nat) : Int))) = false from decide_eq_false (by omega)] at henv
  refine seq_step rfl (op_val (v := .bool false) henv rfl (rn_pick henv rfl rfl) ?_)
  clear henv a; intro a henv
  refine seq_step rfl (op_val (v := .bool false) henv rfl (rn_move henv rfl) ?_)
  clear henv a; intro a henv
  refine seq_skip rfl henv rfl rfl rfl rfl ?_
  clear henv a; intro a henv
  refine seq_skip rfl henv rfl rfl rfl rfl ?_
  clear henv a; intro a henv
  refine seq_skip rfl henv rfl rfl rfl rfl ?_
  clear henv a; intro a henv
  refine seq_skip rfl henv rfl rfl rfl rfl ?_
  clear henv a; intro a henv
  refine seq_skip rfl henv rfl rfl rfl rfl ?_
  clear henv a; intro a henv
  refine seq_skip rfl henv rfl rfl rfl rfl ?_
  clear henv a; intro a henv
  refine seq_skip rfl henv rfl rfl rfl rfl ?_
  clear henv a; intro a henv
  refine seq_skip rfl henv rfl rfl rfl rfl ?_
  clear henv a; intro a henv
  refine seq_skip rfl henv rfl rfl rfl rfl ?_
  clear henv a; intro a henv
  refine seq_skip rfl henv rfl rfl rfl rfl ?_
  clear henv a; intro a henv
  refine seq_step rfl (op_val (v := .bool false) henv rfl (rn_pick henv rfl rfl) ?_)
  clear henv a; intro a henv
  refine seq_step rfl (op_val (v := .bool false) henv rfl (rn_assign henv rfl) ?_)
  clear henv a; intro a henv
  refine wpList_nil ?_
  refine th_n ?_
  refine wp_ret ?_
  refine leave henv (res1 Tryd.results59 (RV.tmp henv rfl)) ?_
  exact ⟨_, rfl, by rw [← hN]; exact (bit_past h.lt (by rw [h.len]; omega)).symm, hst.below⟩

set_option maxRecDepth 100000 in
set_option maxHeartbeats 4000000 in
theorem lb_bit_neg {A : Option Addr} {n c : Nat} {i : Int} {xs : List Nat} {w0 : World} (h : U32 w0 A n c xs) (hi : i < 0) :
    Calls Tryd.prog 59 #[.slice A n c, .int .i64 i] w0 fun e w' => e = .returned (.bool false) ∧ Below w0.heap.size w0 w' := by
  refine enter Tryd.func59 rfl Tryd.ntmps59 rfl ?_
  intro a henv hst
  replace hst := (hst.addU h trivial)
  refine wp_seq ?_
  refine region_seq ?_
  refine seq_step rfl (op_val (v := .bool false) henv rfl (rn_assign henv rfl) ?_)
  clear henv a; intro a henv
  refine wpList_nil ?_
  refine th_n ?_
  refine wp_seq ?_
  refine region_seq ?_
  refine seq_step rfl (op_val (v := .int .i64 i) henv rfl (rn_move henv rfl) ?_)
  clear henv a; intro a henv
  refine seq_step rfl (op_val (v := .bool (decide (i ≥ (0 : Int)))) henv rfl (rn_bin henv rfl rfl rfl) ?_)
  clear henv a; intro a henv
  rw [show (decide (i ≥ (0 : Int))) = false from decide_eq_false (by omega)] at henv
  refine seq_step rfl (op_val (v := .bool false) henv rfl (rn_move henv rfl) ?_)
  clear henv a; intro a henv
  refine seq_skip rfl henv rfl rfl rfl rfl ?_
  clear henv a; intro a henv
  refine seq_skip rfl henv rfl rfl rfl rfl ?_
  clear henv a; intro a henv
  refine seq_skip rfl henv rfl rfl rfl rfl ?_
  clear henv a; intro a henv
  refine seq_skip rfl henv rfl rfl rfl rfl ?_
  clear henv a; intro a henv
  refine seq_skip rfl henv rfl rfl rfl rfl ?_
  clear henv a; intro a henv
  refine seq_step rfl (op_val (v := .bool false) henv rfl (rn_pick henv rfl rfl) ?_)
  clear henv a; intro a henv
  refine seq_step rfl (op_val (v := .bool false) henv rfl (rn_move henv rfl) ?_)
  clear henv a; intro a henv
  refine seq_skip rfl henv rfl rfl rfl rfl ?_
  clear henv a; intro a henv
  refine seq_skip rfl henv rfl rfl rfl rfl ?_
  clear henv a; intro a henv
  refine seq_skip rfl henv rfl rfl rfl rfl ?_
  clear henv a; intro a henv
  refine seq_skip rfl henv rfl rfl rfl rfl ?_
  clear henv a; intro a henv
  refine seq_skip rfl henv rfl rfl rfl rfl ?_
  clear henv a; intro a henv
  refine seq_skip rfl henv rfl rfl rfl rfl ?_
  clear henv a; intro a henv
  refine seq_skip rfl henv rfl rfl rfl rfl ?_
  clear henv a; intro a henv
  refine seq_skip rfl henv rfl rfl rfl rfl ?_
  clear henv a; intro a henv
  refine seq_skip rfl henv rfl rfl rfl rfl ?_
  clear henv a; intro a henv
  refine seq_skip rfl henv rfl rfl rfl rfl ?_
  clear henv a; intro a henv
  refine seq_step rfl (op_val (v := .bool false) henv rfl (rn_pick henv rfl rfl) ?_)
  clear henv a; intro a henv
  refine seq_step rfl (op_val (v := .bool false) henv rfl (rn_assign henv rfl) ?_)
  clear henv a; intro a henv
  refine wpList_nil ?_
  refine th_n ?_
  refine wp_ret ?_
  refine leave henv (res1 Tryd.results59 (RV.tmp henv rfl)) ?_
  exact ⟨rfl, hst.below⟩

theorem r_bit {A : Option Addr} {n c N k : Nat} {xs : List Nat} {w0 : World} (h : U32 w0 A n c xs) (hN : val 4294967296 xs = N) (hkb : k < 9223372036854775808) :
    Calls Tryd.prog 60 #[.slice A n c, .int .i64 (k : Nat)] w0 fun e w' => (∃ b : Bool, e = .returned (.bool b) ∧ b.toNat = N / 2 ^ k % 2) ∧ Below w0.heap.size w0 w' := by
  rcases Nat.lt_or_ge (k / 32) n with hk | hk
  · refine (r_bit_in h hN hk hkb).mono ?_
    rintro e w' ⟨b, rfl, hb, hB⟩
    exact ⟨⟨b, rfl, hb⟩, hB⟩
  · refine (r_bit_past h hN hk hkb).mono ?_
    rintro e w' ⟨b, rfl, hb, hB⟩
    exact ⟨⟨b, rfl, hb⟩, hB⟩
theorem lb_bit {A : Option Addr} {n c N k : Nat} {xs : List Nat} {w0 : World} (h : U32 w0 A n c xs) (hN : val 4294967296 xs = N) (hkb : k < 9223372036854775808) :
    Calls Tryd.prog 59 #[.slice A n c, .int .i64 (k : Nat)] w0 fun e w' => (∃ b : Bool, e = .returned (.bool b) ∧ b.toNat = N / 2 ^ k % 2) ∧ Below w0.heap.size w0 w' := by
  rcases Nat.lt_or_ge (k / 32) n with hk | hk
  · refine (lb_bit_in h hN hk hkb).mono ?_
    rintro e w' ⟨b, rfl, hb, hB⟩
    exact ⟨⟨b, rfl, hb⟩, hB⟩
  · refine (lb_bit_past h hN hk hkb).mono ?_
    rintro e w' ⟨b, rfl, hb, hB⟩
    exact ⟨⟨b, rfl, hb⟩, hB⟩
theorem r_dbl {A : Option Addr} {n c N R : Nat} {xs : List Nat} {w0 : World} (b : Bool) (h : U32 w0 A n c xs) (hN : val 4294967296 xs = N) (hnl : nl N = n) (hn : n ≤ 1000000) (hR : 2 * N + b.toNat = R) :
    Calls Tryd.prog 95 #[.slice A n c, .bool b] w0 fun e w' => ∃ v, e = .returned v ∧ NumAt w0.heap.size w' v R ∧ Below w0.heap.size w0 w' := by
  subst hR
  cases b
  · exact r_dbl_false h hN hnl hn
  · exact r_dbl_true h hN hnl hn
theorem r_sub_to {A B : Option Addr} {n c m d R : Nat} {xs ys : List Nat} {w0 : World} (h : U32 w0 A n c xs) (k : U32 w0 B m d ys) (hn : n ≤ 900000) (hle : val 4294967296 ys ≤ val 4294967296 xs) (hR : val 4294967296 xs - val 4294967296 ys = R) :
    Calls Tryd.prog 97 #[.slice A n c, .slice B m d] w0 fun e w' => ∃ v, e = .returned v ∧ NumAt w0.heap.size w' v R ∧ Below w0.heap.size w0 w' := by subst hR; exact r_sub h k hn hle
theorem r_cmp_to {A B : Option Addr} {n c m d N M : Nat} {xs ys : List Nat} {w0 : World} (h : U32 w0 A n c xs) (k : U32 w0 B m d ys) (hn : n ≤ 1000000) (hm : m ≤ 1000000) (hN : val 4294967296 xs = N) (hM : val 4294967296 ys = M) :
    Calls Tryd.prog 96 #[.slice A n c, .slice B m d] w0 fun e w' => e = .returned (.int .i64 (cmpI N M)) ∧ Below w0.heap.size w0 w' := by subst hN hM; exact r_cmp h k hn hm

set_option maxRecDepth 100000 in
set_option maxHeartbeats 4000000 in
theorem r_twos_pos {A : Option Addr} {n c N q : Nat} {xs : List Nat} {w0 : World} (h : U32 w0 A n c xs) (hN : val 4294967296 xs = N) (hn : n ≤ 1000000) (hq : IsTz N q) :
    Calls Tryd.prog 62 #[.slice A n c] w0 fun e w' => e = .returned (.int .i64 (q : Nat)) ∧ Below w0.heap.size w0 w' := by
  have hqb := tz_blen hq
  have hbn := blen_nl N
  have hnN : nl N ≤ n := hN ▸ nl_val h
  refine enter Tryd.func62 rfl Tryd.ntmps62 rfl ?_
  intro a henv hst
  replace hst := (hst.addU h trivial)
  refine wp_seq ?_
  refine region_seq ?_
  refine seq_step rfl (op_val (v := .int .i64 0) henv rfl (rn_assign henv rfl) ?_)
  clear henv a; intro a henv
  refine wpList_nil ?_
  refine th_n ?_
  refine wp_seq ?_
  refine region_seq ?_
  refine seq_step rfl (op_val (v := .int .i64 0) henv rfl (rn_assign henv rfl) ?_)
  clear henv a; intro a henv
  refine wpList_nil ?_
  refine th_n ?_
  refine wp_seq ?_
  refine wp_block ?_
  refine wp_loop_ghost (fun mz a w => ∃ j : Nat, q - j = mz ∧ Env 16 a [(0, .slice A n c), (3, .int .i64 (j : Nat))] ∧ St w0 w [] [pfU A n c xs] ∧ j ≤ q) _ ⟨0, rfl, henv.sub ⟨rfl, rfl, trivial⟩, hst.pick [] [0] (by decide), (Nat.zero_le _)⟩ ?_
  clear henv hst a
  rintro mz a w1 ⟨j, rfl, henv, hst, hj⟩
  rcases Nat.lt_or_ge j q with hjq | hjq
  · refine wp_seq ?_
    refine wp_seq ?_
    refine region_seq ?_
    refine seq_step rfl (op_val (v := .slice A n c) henv rfl (rn_move henv rfl) ?_)
    clear henv a; intro a henv
    refine seq_step rfl (op_call henv rfl Tryd.call58 rfl (r_bits (N := N) (show U32 _ A n c xs from hst.pat (k := 0) rfl) hN (by omega)) ?_)
    rintro e w2 ⟨rfl, hb⟩
    refine ⟨_, rfl, ?_⟩
    clear henv a; intro a henv
    replace hst := hst.call hb
    clear hb
    refine seq_step rfl (op_val (v := .bool (decide (((blen N : Nat) : Int) > (0 : Int)))) henv rfl (rn_bin henv rfl rfl rfl) ?_)
    clear henv a; intro a henv
    rw [show (decide (((blen N : Nat) : Int) > (0 : Int))) = true from decide_eq_true (by have := tz_blen hq; omega)] at henv
    refine seq_step rfl (op_val (v := .bool true) henv rfl (rn_move henv rfl) ?_)
    clear henv a; intro a henv
    refine seq_g rfl henv rfl rfl (op_val (v := .slice A n c) henv rfl (rn_move henv rfl) ?_)
    clear henv a; intro a henv
    refine seq_g rfl henv rfl rfl (op_val (v := .int .i64 (j : Nat)) henv rfl (rn_move henv rfl) ?_)
    clear henv a; intro a henv
    refine seq_g rfl henv rfl rfl (op_call henv rfl Tryd.call60 rfl (r_bit (N := N) (k := j) (show U32 _ A n c xs from hst.pat (k := 0) rfl) hN (by omega)) ?_)
    rintro e w5 ⟨⟨b3, rfl, ht4⟩, hb⟩
    refine ⟨_, rfl, ?_⟩
    clear henv a; intro a henv
    replace hst := hst.call hb
    clear hb
    refine seq_g rfl henv rfl rfl (op_val (v := .bool (!b3)) henv rfl (rn_un henv rfl rfl) ?_)
    clear henv a; intro a henv
    rw [show (!b3) = true from (by have h1 := hq.2 j hjq; rw [h1] at ht4; cases b3 <;> simp_all)] at henv
    refine seq_step rfl (op_val (v := .bool true) henv rfl (rn_pick henv rfl rfl) ?_)
    clear henv a; intro a henv
    refine wpList_nil ?_
    refine th_n ?_
    refine if_t henv rfl (rfl) ?_
    refine wp_skip ?_
    refine th_n ?_
    refine wp_block ?_
    refine region_seq ?_
    refine seq_step rfl (op_val (v := .int .i64 (j : Nat)) henv rfl (rn_move henv rfl) ?_)
    clear henv a; intro a henv
    refine seq_step rfl (op_val (v := .int .i64 (j + 1 : Nat)) henv rfl (rn_add henv rfl rfl (by rw [IntWalk.i64_in _ (by omega)]; omega)) ?_)
    clear henv a; intro a henv
    refine seq_step rfl (op_val (v := .int .i64 (j + 1 : Nat)) henv rfl (rn_assign henv rfl) ?_)
    clear henv a; intro a henv
    refine wpList_nil ?_
    refine bl_n ?_
    exact th_n ⟨_, (by omega), ⟨j + 1, rfl, henv.sub ⟨rfl, rfl, trivial⟩, hst.pick [] [0] (by decide), (by omega)⟩⟩
  · refine wp_seq ?_
    refine wp_seq ?_
    refine region_seq ?_
    refine seq_step rfl (op_val (v := .slice A n c) henv rfl (rn_move henv rfl) ?_)
    clear henv a; intro a henv
    refine seq_step rfl (op_call henv rfl Tryd.call58 rfl (r_bits (N := N) (show U32 _ A n c xs from hst.pat (k := 0) rfl) hN (by omega)) ?_)
    rintro e w6 ⟨rfl, hb⟩
    refine ⟨_, rfl, ?_⟩
    clear henv a; intro a henv
    replace hst := hst.call hb
    clear hb
    refine seq_step rfl (op_val (v := .bool (decide (((blen N : Nat) : Int) > (0 : Int)))) henv rfl (rn_bin henv rfl rfl rfl) ?_)
    clear henv a; intro a henv
    rw [show (decide (((blen N : Nat) : Int) > (0 : Int))) = true from decide_eq_true (by have := tz_blen hq; omega)] at henv
    refine seq_step rfl (op_val (v := .bool true) henv rfl (rn_move henv rfl) ?_)
    clear henv a; intro a henv
    refine seq_g rfl henv rfl rfl (op_val (v := .slice A n c) henv rfl (rn_move henv rfl) ?_)
    clear henv a; intro a henv
    refine seq_g rfl henv rfl rfl (op_val (v := .int .i64 (j : Nat)) henv rfl (rn_move henv rfl) ?_)
    clear henv a; intro a henv
    refine seq_g rfl henv rfl rfl (op_call henv rfl Tryd.call60 rfl (r_bit (N := N) (k := j) (show U32 _ A n c xs from hst.pat (k := 0) rfl) hN (by omega)) ?_)
    rintro e w9 ⟨⟨b7, rfl, ht8⟩, hb⟩
    refine ⟨_, rfl, ?_⟩
    clear henv a; intro a henv
    replace hst := hst.call hb
    clear hb
    refine seq_g rfl henv rfl rfl (op_val (v := .bool (!b7)) henv rfl (rn_un henv rfl rfl) ?_)
    clear henv a; intro a henv
    rw [show (!b7) = false from (by have h1 := hq.1; rw [show q = j by omega] at h1; rw [h1] at ht8; cases b7 <;> simp_all)] at henv
    refine seq_step rfl (op_val (v := .bool false) henv rfl (rn_pick henv rfl rfl) ?_)
    clear henv a; intro a henv
    refine wpList_nil ?_
    refine th_n ?_
    refine if_f henv rfl (rfl) ?_
    refine wp_exit ?_
    refine th_x (th_x (bl_x (th_n ?_)))
    refine wp_seq ?_
    refine region_seq ?_
    refine seq_step rfl (op_val (v := .int .i64 (j : Nat)) henv rfl (rn_move henv rfl) ?_)
    clear henv a; intro a henv
    refine seq_step rfl (op_val (v := .int .i64 (j : Nat)) henv rfl (rn_assign henv rfl) ?_)
    clear henv a; intro a henv
    refine wpList_nil ?_
    refine th_n ?_
    refine wp_ret ?_
    refine leave henv (res1 Tryd.results62 (RV.tmp henv rfl)) ?_
    obtain rfl : j = q := by omega
    exact ⟨rfl, hst.below⟩

set_option maxRecDepth 100000 in
set_option maxHeartbeats 4000000 in
theorem r_twos_zero {A : Option Addr} {n c : Nat} {xs : List Nat} {w0 : World} (h : U32 w0 A n c xs) (hN : val 4294967296 xs = 0) (hn : n ≤ 1000000) :
    Calls Tryd.prog 62 #[.slice A n c] w0 fun e w' => e = .returned (.int .i64 0) ∧ Below w0.heap.size w0 w' := by
  refine enter Tryd.func62 rfl Tryd.ntmps62 rfl ?_
  intro a henv hst
  replace hst := (hst.addU h trivial)
  refine wp_seq ?_
  refine region_seq ?_
  refine seq_step rfl (op_val (v := .int .i64 0) henv rfl (rn_assign henv rfl) ?_)
  clear henv a; intro a henv
  refine wpList_nil ?_
  refine th_n ?_
  refine wp_seq ?_
  refine region_seq ?_
  refine seq_step rfl (op_val (v := .int .i64 0) henv rfl (rn_assign henv rfl) ?_)
  clear henv a; intro a henv
  refine wpList_nil ?_
  refine th_n ?_
  refine wp_seq ?_
  refine wp_block ?_
  refine wp_loop_ghost (fun mz a w => ∃ j : Nat, j = mz ∧ Env 16 a [(0, .slice A n c), (3, .int .i64 0)] ∧ St w0 w [] [pfU A n c xs]) _ ⟨0, rfl, henv.sub ⟨rfl, rfl, trivial⟩, hst.pick [] [0] (by decide)⟩ ?_
  clear henv hst a
  rintro mz a w1 ⟨j, rfl, henv, hst⟩
  refine wp_seq ?_
  refine wp_seq ?_
  refine region_seq ?_
  refine seq_step rfl (op_val (v := .slice A n c) henv rfl (rn_move henv rfl) ?_)
  clear henv a; intro a henv
  refine seq_step rfl (op_call henv rfl Tryd.call58 rfl (r_bits (N := 0) (show U32 _ A n c xs from hst.pat (k := 0) rfl) hN (by omega)) ?_)
  rintro e w2 ⟨rfl, hb⟩
  refine ⟨_, rfl, ?_⟩
  clear henv a; intro a henv
  replace hst := hst.call hb
  clear hb
  refine seq_step rfl (op_val (v := .bool (decide (((blen 0 : Nat) : Int) > (0 : Int)))) henv rfl (rn_bin henv rfl rfl rfl) ?_)
  clear henv a; intro a henv
  rw [show (decide (((blen 0 : Nat) : Int) > (0 : Int))) = false from by rw [blen_zero]; rfl] at henv
  refine seq_step rfl (op_val (v := .bool false) henv rfl (rn_move henv rfl) ?_)
  clear henv a; intro a henv
  refine seq_skip rfl henv rfl rfl rfl rfl ?_
  clear henv a; intro a henv
  refine seq_skip rfl henv rfl rfl rfl rfl ?_
  clear henv a; intro a henv
  refine seq_skip rfl henv rfl rfl rfl rfl ?_
  clear henv a; intro a henv
  refine seq_skip rfl henv rfl rfl rfl rfl ?_
  clear henv a; intro a henv
  refine seq_step rfl (op_val (v := .bool false) henv rfl (rn_pick henv rfl rfl) ?_)
  clear henv a; intro a henv
  refine wpList_nil ?_
  refine th_n ?_
  refine if_f henv rfl (rfl) ?_
  refine wp_exit ?_
  refine th_x (th_x (bl_x (th_n ?_)))
  refine wp_seq ?_
  refine region_seq ?_
  refine seq_step rfl (op_val (v := .int .i64 0) henv rfl (rn_move henv rfl) ?_)
  clear henv a; intro a henv
  refine seq_step rfl (op_val (v := .int .i64 0) henv rfl (rn_assign henv rfl) ?_)
  clear henv a; intro a henv
  refine wpList_nil ?_
  refine th_n ?_
  refine wp_ret ?_
  refine leave henv (res1 Tryd.results62 (RV.tmp henv rfl)) ?_
  exact ⟨rfl, hst.below⟩

set_option maxRecDepth 100000 in
set_option maxHeartbeats 4000000 in
theorem r_dm {A B : Option Addr} {n c m d N M : Nat} {xs ys : List Nat} {w0 : World} (h : U32 w0 A n c xs) (k : U32 w0 B m d ys) (hN : val 4294967296 xs = N) (hM : val 4294967296 ys = M) (hM0 : 0 < M) (hn : n ≤ 400000) (hm : m ≤ 400000) :
    Calls Tryd.prog 51 #[.slice A n c, .slice B m d] w0 fun e w' => ∃ u v, e = .returned (.tuple #[u, v]) ∧ NumAt w0.heap.size w' u (N / M) ∧ NumAt w0.heap.size w' v (N % M) ∧ Below w0.heap.size w0 w' := by
  have hnN : nl N ≤ n := hN ▸ nl_val h
  have hnM : nl M ≤ m := hM ▸ nl_val k
  have hbl0 := blen_nl N
  refine enter Tryd.func51 rfl Tryd.ntmps51 rfl ?_
  intro a henv hst
  replace hst := ((hst.addU h trivial).addU k trivial)
  refine wp_seq ?_
  refine region_seq ?_
  refine seq_step rfl (op_val (v := .slice none 0 0) henv rfl (rn_assign henv rfl) ?_)
  clear henv a; intro a henv
  refine seq_step rfl (op_val (v := .slice none 0 0) henv rfl (rn_assign henv rfl) ?_)
  clear henv a; intro a henv
  refine wpList_nil ?_
  refine th_n ?_
  refine wp_seq ?_
  refine region_seq ?_
  refine seq_step rfl (op_val (v := .slice none 0 0) henv rfl (rn_assign henv rfl) ?_)
  clear henv a; intro a henv
  refine seq_step rfl (op_val (v := .slice none 0 0) henv rfl (rn_assign henv rfl) ?_)
  clear henv a; intro a henv
  refine wpList_nil ?_
  refine th_n ?_
  refine wp_seq ?_
  refine region_seq ?_
  refine seq_step rfl (op_val (v := .slice B m d) henv rfl (rn_move henv rfl) ?_)
  clear henv a; intro a henv
  have hst0 := hst
  refine seq_step rfl (op_call henv rfl Tryd.call52 rfl (r_norm_to (R := M) (show U32 _ B m d ys from hst.pat (k := 0) rfl) (by omega) (by simp only [hM])) ?_)
  rintro e w3 ⟨_, rfl, ⟨A1, c2, rfl, hU, hA⟩, hb⟩
  refine ⟨_, rfl, ?_⟩
  clear henv a; intro a henv
  replace hst := hst.freshU hb hU hA
  clear hU
  have hFA1 : ∀ a, A1 = some a → w0.heap.size ≤ a.block := fun a ha => Nat.le_trans hst0.below.size (hA a ha)
  clear hA hst0
  clear hb
  refine seq_step rfl (op_val (v := .slice A1 (nl M) c2) henv rfl (rn_assign henv rfl) ?_)
  clear henv a; intro a henv
  refine wpList_nil ?_
  refine th_n ?_
  refine wp_seq ?_
  refine wp_seq ?_
  refine region_seq ?_
  refine seq_step rfl (op_val (v := .slice A n c) henv rfl (rn_move henv rfl) ?_)
  clear henv a; intro a henv
  refine seq_step rfl (op_call henv rfl Tryd.call58 rfl (r_bits (N := N) (show U32 _ A n c xs from hst.pat (k := 2) rfl) hN (by omega)) ?_)
  rintro e w4 ⟨rfl, hb⟩
  refine ⟨_, rfl, ?_⟩
  clear henv a; intro a henv
  replace hst := hst.call hb
  clear hb
  refine seq_step rfl (op_val (v := .int .i64 (((blen N : Nat) : Int) - 1)) henv rfl (rn_sub henv rfl rfl (IntWalk.i64_in _ (by omega))) ?_)
  clear henv a; intro a henv
  refine seq_step rfl (op_val (v := .int .i64 (((blen N : Nat) : Int) - 1)) henv rfl (rn_assign henv rfl) ?_)
  clear henv a; intro a henv
  refine wpList_nil ?_
  refine th_n ?_
  refine wp_block ?_
  replace hst := (hst.addU (u32_nil _) trivial).addU (u32_nil _) trivial
  refine wp_loop_ghost (fun mz a w => ∃ K : Nat, ∃ Q : Nat, ∃ R : Nat, ∃ Aq : Option Addr, ∃ cq : Nat, ∃ Ar : Option Addr, ∃ cr : Nat, K = mz ∧ Env 39 a [(0, .slice A n c), (1, .slice A1 (nl M) c2), (6, .slice Aq (nl Q) cq), (7, .slice Ar (nl R) cr), (8, .int .i64 (((K : Nat) : Int) - 1))] ∧ St w0 w [] [pfU A n c xs, pfU A1 (nl M) c2 (L M), pfU Aq (nl Q) cq (L Q), pfU Ar (nl R) cr (L R)] ∧ K ≤ blen N ∧ Q = N / 2 ^ K / M ∧ R = N / 2 ^ K % M) _ ⟨blen N, 0, 0, none, 0, none, 0, rfl, henv.sub ⟨rfl, rfl, (by rw [nl_zero]; rfl), (by rw [nl_zero]; rfl), rfl, trivial⟩, hst.pick [] [4, 2, 1, 1] (by decide), (Nat.le_refl _), (by rw [shr_blen, Nat.zero_div]), (by rw [shr_blen, Nat.zero_mod])⟩ ?_
  clear henv hst a
  rintro mz a w5 ⟨K, Q, R, Aq, cq, Ar, cr, rfl, henv, hst, hK, hQ, hR⟩
  have hbK := blen_nl N
  have hRl : nl R ≤ nl M := by rw [hR]; exact nl_mono (Nat.le_of_lt (Nat.mod_lt _ hM0))
  have hQl : nl Q ≤ nl N := by rw [hQ]; exact nl_mono (Nat.le_trans (Nat.div_le_self _ _) (Nat.div_le_self _ _))
  refine wp_seq ?_
  refine wp_seq ?_
  refine region_seq ?_
  refine seq_step rfl (op_val (v := .int .i64 (((K : Nat) : Int) - 1)) henv rfl (rn_move henv rfl) ?_)
  clear henv a; intro a henv
  refine seq_step rfl (op_val (v := .bool (decide (((K : Nat) : Int) - 1 ≥ (0 : Int)))) henv rfl (rn_bin henv rfl rfl rfl) ?_)
  clear henv a; intro a henv
  refine wpList_nil ?_
  refine th_n ?_
  refine if_split henv rfl (fun hc6 => ?_) (fun hc6 => ?_)
  · obtain ⟨j, hj⟩ : ∃ j : Nat, ((K : Nat) : Int) - 1 = (j : Nat) := ⟨K - 1, by have := of_decide_eq_true hc6; omega⟩
    rw [hj] at henv
    obtain rfl : K = j + 1 := by omega
    clear hj hc6
    refine wp_skip ?_
    refine th_n ?_
    refine wp_seq ?_
    refine wp_block ?_
    refine wp_seq ?_
    refine region_seq ?_
    refine seq_step rfl (op_val (v := .slice Ar (nl R) cr) henv rfl (rn_move henv rfl) ?_)
    clear henv a; intro a henv
    refine seq_step rfl (op_val (v := .slice A n c) henv rfl (rn_move henv rfl) ?_)
    clear henv a; intro a henv
    refine seq_step rfl (op_val (v := .int .i64 (j : Nat)) henv rfl (rn_move henv rfl) ?_)
    clear henv a; intro a henv
    refine seq_step rfl (op_call henv rfl Tryd.call60 rfl (r_bit (N := N) (k := j) (show U32 _ A n c xs from hst.pat (k := 0) rfl) hN (by omega)) ?_)
    rintro e w9 ⟨⟨b7, rfl, ht8⟩, hb⟩
    refine ⟨_, rfl, ?_⟩
    clear henv a; intro a henv
    replace hst := hst.call hb
    clear hb
    have hst0 := hst
    have hs12 := nl_dbl R b7
    refine seq_step rfl (op_call henv rfl Tryd.call95 rfl (r_dbl (N := R) b7 (show U32 _ Ar (nl R) cr (L R) from hst.pat (k := 3) rfl) (val_L _) rfl (by omega) rfl) ?_)
    rintro e w13 ⟨_, rfl, ⟨A10, c11, rfl, hU, hA⟩, hb⟩
    refine ⟨_, rfl, ?_⟩
    clear henv a; intro a henv
    replace hst := hst.freshU hb hU hA
    clear hU
    clear hA hst0
    clear hb
    refine seq_step rfl (op_val (v := .slice A10 (nl (2 * R + Bool.toNat b7)) c11) henv rfl (rn_assign henv rfl) ?_)
    clear henv a; intro a henv
    refine wpList_nil ?_
    refine th_n ?_
    refine wp_seq ?_
    refine region_seq ?_
    refine seq_step rfl (op_val (v := .slice A10 (nl (2 * R + Bool.toNat b7)) c11) henv rfl (rn_move henv rfl) ?_)
    clear henv a; intro a henv
    refine seq_step rfl (op_val (v := .slice A1 (nl M) c2) henv rfl (rn_move henv rfl) ?_)
    clear henv a; intro a henv
    refine seq_step rfl (op_call henv rfl Tryd.call96 rfl (r_cmp_to (N := (2 * R + Bool.toNat b7)) (M := M) (show U32 _ A10 (nl (2 * R + Bool.toNat b7)) c11 (L (2 * R + Bool.toNat b7)) from hst.pat (k := 0) rfl) (show U32 _ A1 (nl M) c2 (L M) from hst.pat (k := 2) rfl) (by omega) (by omega) (val_L _) (val_L _)) ?_)
    rintro e w14 ⟨rfl, hb⟩
    refine ⟨_, rfl, ?_⟩
    clear henv a; intro a henv
    replace hst := hst.call hb
    clear hb
    refine seq_step rfl (op_val (v := .bool (decide ((cmpI (2 * R + Bool.toNat b7) M) ≥ (0 : Int)))) henv rfl (rn_bin henv rfl rfl rfl) ?_)
    clear henv a; intro a henv
    refine seq_step rfl (op_val (v := .bool (decide ((cmpI (2 * R + Bool.toNat b7) M) ≥ (0 : Int)))) henv rfl (rn_assign henv rfl) ?_)
    clear henv a; intro a henv
    refine wpList_nil ?_
    refine th_n ?_
    refine wp_seq ?_
    refine wp_seq ?_
    refine region_seq ?_
    refine seq_step rfl (op_val (v := .bool (decide ((cmpI (2 * R + Bool.toNat b7) M) ≥ (0 : Int)))) henv rfl (rn_move henv rfl) ?_)
    clear henv a; intro a henv
    refine wpList_nil ?_
    refine th_n ?_
    refine if_split henv rfl (fun hc15 => ?_) (fun hc15 => ?_)
    · have hfit : (M ≤ 2 * R + Bool.toNat b7) := by have h1 := of_decide_eq_true hc15; have h2 := cmpI_neg (2 * R + Bool.toNat b7) M; omega
      rw [hc15] at henv
      clear hc15
      refine region_seq ?_
      refine seq_step rfl (op_val (v := .slice A10 (nl (2 * R + Bool.toNat b7)) c11) henv rfl (rn_move henv rfl) ?_)
      clear henv a; intro a henv
      refine seq_step rfl (op_val (v := .slice A1 (nl M) c2) henv rfl (rn_move henv rfl) ?_)
      clear henv a; intro a henv
      have hst0 := hst
      refine seq_step rfl (op_call henv rfl Tryd.call97 rfl (r_sub_to (R := (2 * R + Bool.toNat b7) - M) (show U32 _ A10 (nl (2 * R + Bool.toNat b7)) c11 (L (2 * R + Bool.toNat b7)) from hst.pat (k := 0) rfl) (show U32 _ A1 (nl M) c2 (L M) from hst.pat (k := 2) rfl) (by omega) (by rw [val_L, val_L]; exact hfit) (by simp only [val_L])) ?_)
      rintro e w18 ⟨_, rfl, ⟨A16, c17, rfl, hU, hA⟩, hb⟩
      refine ⟨_, rfl, ?_⟩
      clear henv a; intro a henv
      replace hst := hst.freshU hb hU hA
      clear hU
      have hFA16 : ∀ a, A16 = some a → w0.heap.size ≤ a.block := fun a ha => Nat.le_trans hst0.below.size (hA a ha)
      clear hA hst0
      clear hb
      refine seq_step rfl (op_val (v := .slice A16 (nl ((2 * R + Bool.toNat b7) - M)) c17) henv rfl (rn_assign henv rfl) ?_)
      clear henv a; intro a henv
      refine wpList_nil ?_
      refine th_n ?_
      refine region_seq ?_
      refine seq_step rfl (op_val (v := .slice Aq (nl Q) cq) henv rfl (rn_move henv rfl) ?_)
      clear henv a; intro a henv
      refine seq_step rfl (op_val (v := .bool true) henv rfl (rn_move henv rfl) ?_)
      clear henv a; intro a henv
      have hst0 := hst
      have hs21 := nl_dbl Q true
      refine seq_step rfl (op_call henv rfl Tryd.call95 rfl (r_dbl (N := Q) true (show U32 _ Aq (nl Q) cq (L Q) from hst.pat (k := 4) rfl) (val_L _) rfl (by omega) rfl) ?_)
      rintro e w22 ⟨_, rfl, ⟨A19, c20, rfl, hU, hA⟩, hb⟩
      refine ⟨_, rfl, ?_⟩
      clear henv a; intro a henv
      replace hst := hst.freshU hb hU hA
      clear hU
      clear hA hst0
      clear hb
      refine seq_step rfl (op_val (v := .slice A19 (nl (2 * Q + Bool.toNat true)) c20) henv rfl (rn_assign henv rfl) ?_)
      clear henv a; intro a henv
      refine wpList_nil ?_
      refine bl_n (th_n ?_)
      refine region_seq ?_
      refine seq_step rfl (op_val (v := .int .i64 (j : Nat)) henv rfl (rn_move henv rfl) ?_)
      clear henv a; intro a henv
      refine seq_step rfl (op_val (v := .int .i64 (((j : Nat) : Int) - 1)) henv rfl (rn_sub henv rfl rfl (IntWalk.i64_in _ (by omega))) ?_)
      clear henv a; intro a henv
      refine seq_step rfl (op_val (v := .int .i64 (((j : Nat) : Int) - 1)) henv rfl (rn_assign henv rfl) ?_)
      clear henv a; intro a henv
      refine wpList_nil ?_
      have hstep := dm_yes hM0 hQ hR ht8 hfit
      exact th_n ⟨_, (by omega), ⟨j, 2 * Q + Bool.toNat true, 2 * R + Bool.toNat b7 - M, A19, c20, A16, c17, rfl, henv.sub ⟨rfl, rfl, rfl, rfl, rfl, trivial⟩, hst.pick [] [3, 4, 0, 1] (by decide), (by omega), hstep.1, hstep.2⟩⟩
    · have hfit : ¬ (M ≤ 2 * R + Bool.toNat b7) := by have h1 := of_decide_eq_false hc15; have h2 := cmpI_neg (2 * R + Bool.toNat b7) M; omega
      rw [hc15] at henv
      clear hc15
      refine wp_skip ?_
      refine th_n ?_
      refine region_seq ?_
      refine seq_step rfl (op_val (v := .slice Aq (nl Q) cq) henv rfl (rn_move henv rfl) ?_)
      clear henv a; intro a henv
      refine seq_step rfl (op_val (v := .bool false) henv rfl (rn_move henv rfl) ?_)
      clear henv a; intro a henv
      have hst0 := hst
      have hs25 := nl_dbl Q false
      refine seq_step rfl (op_call henv rfl Tryd.call95 rfl (r_dbl (N := Q) false (show U32 _ Aq (nl Q) cq (L Q) from hst.pat (k := 3) rfl) (val_L _) rfl (by omega) rfl) ?_)
      rintro e w26 ⟨_, rfl, ⟨A23, c24, rfl, hU, hA⟩, hb⟩
      refine ⟨_, rfl, ?_⟩
      clear henv a; intro a henv
      replace hst := hst.freshU hb hU hA
      clear hU
      clear hA hst0
      clear hb
      refine seq_step rfl (op_val (v := .slice A23 (nl (2 * Q + Bool.toNat false)) c24) henv rfl (rn_assign henv rfl) ?_)
      clear henv a; intro a henv
      refine wpList_nil ?_
      refine bl_n (th_n ?_)
      refine region_seq ?_
      refine seq_step rfl (op_val (v := .int .i64 (j : Nat)) henv rfl (rn_move henv rfl) ?_)
      clear henv a; intro a henv
      refine seq_step rfl (op_val (v := .int .i64 (((j : Nat) : Int) - 1)) henv rfl (rn_sub henv rfl rfl (IntWalk.i64_in _ (by omega))) ?_)
      clear henv a; intro a henv
      refine seq_step rfl (op_val (v := .int .i64 (((j : Nat) : Int) - 1)) henv rfl (rn_assign henv rfl) ?_)
      clear henv a; intro a henv
      refine wpList_nil ?_
      have hstep := dm_no hM0 hQ hR ht8 hfit
      exact th_n ⟨_, (by omega), ⟨j, 2 * Q + Bool.toNat false, 2 * R + Bool.toNat b7, A23, c24, A10, c11, rfl, henv.sub ⟨rfl, rfl, rfl, rfl, rfl, trivial⟩, hst.pick [] [2, 3, 0, 1] (by decide), (by omega), hstep.1, hstep.2⟩⟩
  · obtain rfl : K = 0 := by have := of_decide_eq_false hc6; omega
    clear hc6
    rw [Nat.pow_zero, Nat.div_one] at hQ hR
    refine wp_exit ?_
    refine th_x (th_x (bl_x (th_n ?_)))
    refine wp_seq ?_
    refine region_seq ?_
    refine seq_step rfl (op_val (v := .slice Aq (nl Q) cq) henv rfl (rn_move henv rfl) ?_)
    clear henv a; intro a henv
    have hst0 := hst
    refine seq_step rfl (op_call henv rfl Tryd.call52 rfl (r_norm_to (R := Q) (show U32 _ Aq (nl Q) cq (L Q) from hst.pat (k := 2) rfl) (by omega) (by simp only [val_L])) ?_)
    rintro e w29 ⟨_, rfl, ⟨A27, c28, rfl, hU, hA⟩, hb⟩
    refine ⟨_, rfl, ?_⟩
    clear henv a; intro a henv
    replace hst := hst.freshU hb hU hA
    clear hU
    have hFA27 : ∀ a, A27 = some a → w0.heap.size ≤ a.block := fun a ha => Nat.le_trans hst0.below.size (hA a ha)
    clear hA hst0
    clear hb
    refine seq_step rfl (op_val (v := .slice Ar (nl R) cr) henv rfl (rn_move henv rfl) ?_)
    clear henv a; intro a henv
    have hst0 := hst
    refine seq_step rfl (op_call henv rfl Tryd.call52 rfl (r_norm_to (R := R) (show U32 _ Ar (nl R) cr (L R) from hst.pat (k := 4) rfl) (by omega) (by simp only [val_L])) ?_)
    rintro e w32 ⟨_, rfl, ⟨A30, c31, rfl, hU, hA⟩, hb⟩
    refine ⟨_, rfl, ?_⟩
    clear henv a; intro a henv
    replace hst := hst.freshU hb hU hA
    clear hU
    have hFA30 : ∀ a, A30 = some a → w0.heap.size ≤ a.block := fun a ha => Nat.le_trans hst0.below.size (hA a ha)
    clear hA hst0
    clear hb
    refine seq_step rfl (op_val (v := .slice A27 (nl Q) c28) henv rfl (rn_assign henv rfl) ?_)
    clear henv a; intro a henv
    refine seq_step rfl (op_val (v := .slice A30 (nl R) c31) henv rfl (rn_assign henv rfl) ?_)
    clear henv a; intro a henv
    refine wpList_nil ?_
    refine th_n ?_
    refine wp_ret ?_
    refine leave henv (res2 Tryd.results51 (RV.tmp henv rfl) (RV.tmp henv rfl)) ?_
    subst hQ
    subst hR
    exact ⟨_, _, rfl, ⟨_, _, rfl, hst.pat (k := 1) rfl, hFA27⟩, ⟨_, _, rfl, hst.pat (k := 0) rfl, hFA30⟩, hst.below⟩

set_option maxRecDepth 100000 in
set_option maxHeartbeats 4000000 in
theorem r_gcd {A B : Option Addr} {n c m d N M : Nat} {xs ys : List Nat} {w0 : World} (h : U32 w0 A n c xs) (k : U32 w0 B m d ys) (hN : val 4294967296 xs = N) (hM : val 4294967296 ys = M) (hn : n ≤ 400000) (hm : m ≤ 400000) :
    Calls Tryd.prog 47 #[.slice A n c, .slice B m d] w0 fun e w' => ∃ v, e = .returned v ∧ NumAt w0.heap.size w' v (Nat.gcd N M) ∧ Below w0.heap.size w0 w' := by
  have hnN : nl N ≤ n := hN ▸ nl_val h
  have hnM : nl M ≤ m := hM ▸ nl_val k
  refine enter Tryd.func47 rfl Tryd.ntmps47 rfl ?_
  intro a henv hst
  replace hst := ((hst.addU h trivial).addU k trivial)
  refine wp_seq ?_
  refine region_seq ?_
  refine seq_step rfl (op_val (v := .slice none 0 0) henv rfl (rn_assign henv rfl) ?_)
  clear henv a; intro a henv
  refine wpList_nil ?_
  refine th_n ?_
  refine wp_seq ?_
  refine region_seq ?_
  refine seq_step rfl (op_val (v := .slice A n c) henv rfl (rn_move henv rfl) ?_)
  clear henv a; intro a henv
  have hst0 := hst
  refine seq_step rfl (op_call henv rfl Tryd.call52 rfl (r_norm_to (R := N) (show U32 _ A n c xs from hst.pat (k := 1) rfl) (by omega) (by simp only [hN])) ?_)
  rintro e w3 ⟨_, rfl, ⟨A1, c2, rfl, hU, hA⟩, hb⟩
  refine ⟨_, rfl, ?_⟩
  clear henv a; intro a henv
  replace hst := hst.freshU hb hU hA
  clear hU
  have hFA1 : ∀ a, A1 = some a → w0.heap.size ≤ a.block := fun a ha => Nat.le_trans hst0.below.size (hA a ha)
  clear hA hst0
  clear hb
  refine seq_step rfl (op_val (v := .slice B m d) henv rfl (rn_move henv rfl) ?_)
  clear henv a; intro a henv
  have hst0 := hst
  refine seq_step rfl (op_call henv rfl Tryd.call52 rfl (r_norm_to (R := M) (show U32 _ B m d ys from hst.pat (k := 1) rfl) (by omega) (by simp only [hM])) ?_)
  rintro e w6 ⟨_, rfl, ⟨A4, c5, rfl, hU, hA⟩, hb⟩
  refine ⟨_, rfl, ?_⟩
  clear henv a; intro a henv
  replace hst := hst.freshU hb hU hA
  clear hU
  have hFA4 : ∀ a, A4 = some a → w0.heap.size ≤ a.block := fun a ha => Nat.le_trans hst0.below.size (hA a ha)
  clear hA hst0
  clear hb
  refine seq_step rfl (op_val (v := .slice A1 (nl N) c2) henv rfl (rn_assign henv rfl) ?_)
  clear henv a; intro a henv
  refine seq_step rfl (op_val (v := .slice A4 (nl M) c5) henv rfl (rn_assign henv rfl) ?_)
  clear henv a; intro a henv
  refine wpList_nil ?_
  refine th_n ?_
  refine wp_seq ?_
  refine wp_block ?_
  refine wp_loop_ghost (fun mz a w => ∃ p : Nat, ∃ q : Nat, ∃ Pg : Option Addr, ∃ cg : Nat, ∃ Qg : Option Addr, ∃ dg : Nat, q = mz ∧ Env 23 a [(0, .slice Pg (nl p) cg), (1, .slice Qg (nl q) dg)] ∧ St w0 w [] [pfU Pg (nl p) cg (L p), pfU Qg (nl q) dg (L q)] ∧ Nat.gcd p q = Nat.gcd N M ∧ (∀ x, Pg = some x → w0.heap.size ≤ x.block) ∧ (∀ x, Qg = some x → w0.heap.size ≤ x.block) ∧ nl p ≤ 400000 ∧ nl q ≤ 400000) _ ⟨N, M, A1, c2, A4, c5, rfl, henv.sub ⟨rfl, rfl, trivial⟩, hst.pick [] [1, 0] (by decide), rfl, hFA1, hFA4, (by omega), (by omega)⟩ ?_
  clear henv hst a
  rintro mz a w7 ⟨p, q, Pg, cg, Qg, dg, rfl, henv, hst, hg, hP1, hQ1, ha, hb1⟩
  refine wp_seq ?_
  refine wp_seq ?_
  refine region_seq ?_
  refine seq_step rfl (op_val (v := .slice Qg (nl q) dg) henv rfl (rn_move henv rfl) ?_)
  clear henv a; intro a henv
  refine seq_step rfl (op_val (v := .int .i64 ((nl q) : Nat)) henv rfl (rn_len henv Tryd.underlying22 rfl) ?_)
  clear henv a; intro a henv
  refine seq_step rfl (op_val (v := .bool (decide ((((nl q) : Nat) : Int) > (0 : Int)))) henv rfl (rn_bin henv rfl rfl rfl) ?_)
  clear henv a; intro a henv
  refine wpList_nil ?_
  refine th_n ?_
  refine if_split henv rfl (fun hc8 => ?_) (fun hc8 => ?_)
  · have hb0 : 0 < q := Nat.pos_of_ne_zero fun h0 => by have h1 := of_decide_eq_true hc8; rw [h0, nl_zero] at h1; omega
    refine wp_skip ?_
    refine th_n ?_
    refine wp_block ?_
    refine wp_seq ?_
    refine region_seq ?_
    refine seq_step rfl (op_val (v := .slice Pg (nl p) cg) henv rfl (rn_move henv rfl) ?_)
    clear henv a; intro a henv
    refine seq_step rfl (op_val (v := .slice Qg (nl q) dg) henv rfl (rn_move henv rfl) ?_)
    clear henv a; intro a henv
    have hst0 := hst
    have hs9 := nl_div p q
    have hs10 := nl_mod p q
    refine seq_step rfl (op_call henv rfl Tryd.call51 rfl (r_dm (N := p) (M := q) (show U32 _ Pg (nl p) cg (L p) from hst.pat (k := 0) rfl) (show U32 _ Qg (nl q) dg (L q) from hst.pat (k := 1) rfl) (val_L _) (val_L _) hb0 (by omega) (by omega)) ?_)
    rintro e w15 ⟨_, _, rfl, ⟨A11, c12, rfl, hU, hA⟩, ⟨A13, c14, rfl, hV, hB⟩, hb⟩
    refine ⟨_, rfl, ?_⟩
    clear henv a; intro a henv
    replace hst := hst.freshU2 hb hU hA hV hB
    clear hU
    have hFA11 : ∀ a, A11 = some a → w0.heap.size ≤ a.block := fun a ha => Nat.le_trans hst0.below.size (hA a ha)
    have hFA13 : ∀ a, A13 = some a → w0.heap.size ≤ a.block := fun a ha => Nat.le_trans hst0.below.size (hB a ha)
    clear hA hV hB hst0
    clear hb
    refine seq_step rfl (op_val (v := .tuple #[.slice A11 (nl (p / q)) c12, .slice A13 (nl (p % q)) c14]) henv rfl (rn_move henv rfl) ?_)
    clear henv a; intro a henv
    refine seq_step rfl (op_val (v := .slice A11 (nl (p / q)) c12) henv rfl (rn_extract henv rfl rfl) ?_)
    clear henv a; intro a henv
    refine seq_step rfl (op_val (v := .slice A13 (nl (p % q)) c14) henv rfl (rn_extract henv rfl rfl) ?_)
    clear henv a; intro a henv
    refine seq_step rfl (op_val (v := .slice A11 (nl (p / q)) c12) henv rfl (rn_assign henv rfl) ?_)
    clear henv a; intro a henv
    refine seq_step rfl (op_val (v := .slice A13 (nl (p % q)) c14) henv rfl (rn_assign henv rfl) ?_)
    clear henv a; intro a henv
    refine wpList_nil ?_
    refine th_n ?_
    refine region_seq ?_
    refine seq_step rfl (op_val (v := .slice Qg (nl q) dg) henv rfl (rn_move henv rfl) ?_)
    clear henv a; intro a henv
    refine seq_step rfl (op_val (v := .slice A13 (nl (p % q)) c14) henv rfl (rn_move henv rfl) ?_)
    clear henv a; intro a henv
    refine seq_step rfl (op_val (v := .slice Qg (nl q) dg) henv rfl (rn_assign henv rfl) ?_)
    clear henv a; intro a henv
    refine seq_step rfl (op_val (v := .slice A13 (nl (p % q)) c14) henv rfl (rn_assign henv rfl) ?_)
    clear henv a; intro a henv
    refine wpList_nil ?_
    refine bl_n ?_
    exact th_n ⟨_, (Nat.mod_lt _ hb0), ⟨q, p % q, Qg, dg, A13, c14, rfl, henv.sub ⟨rfl, rfl, trivial⟩, hst.pick [] [3, 0] (by decide), ((gcd_step p q).trans hg), hQ1, hFA13, hb1, (Nat.le_trans (nl_mod p q) ha)⟩⟩
  · have hb0 : q = 0 := by have h1 := of_decide_eq_false hc8; exact (Nat.eq_zero_or_pos q).resolve_right fun h0 => by have := nl_pos h0; omega
    refine wp_exit ?_
    refine th_x (th_x (bl_x (th_n ?_)))
    refine wp_seq ?_
    refine region_seq ?_
    refine seq_step rfl (op_val (v := .slice Pg (nl p) cg) henv rfl (rn_move henv rfl) ?_)
    clear henv a; intro a henv
    refine seq_step rfl (op_val (v := .slice Pg (nl p) cg) henv rfl (rn_assign henv rfl) ?_)
    clear henv a; intro a henv
    refine wpList_nil ?_
    refine th_n ?_
    refine wp_ret ?_
    refine leave henv (res1 Tryd.results47 (RV.tmp henv rfl)) ?_
    subst hb0
    rw [Nat.gcd_zero_right] at hg
    subst hg
    exact ⟨_, rfl, ⟨_, _, rfl, hst.pat (k := 0) rfl, hP1⟩, hst.below⟩

set_option maxRecDepth 100000 in
set_option maxHeartbeats 4000000 in
theorem r_shl {A : Option Addr} {n c N s : Nat} {xs : List Nat} {w0 : World} (h : U32 w0 A n c xs) (hN : val 4294967296 xs = N) (hn : n ≤ 400000) (hs : s ≤ 1000000) :
    Calls Tryd.prog 63 #[.slice A n c, .int .i64 (s : Nat)] w0 fun e w' => ∃ v, e = .returned v ∧ NumAt w0.heap.size w' v (N * 2 ^ s) ∧ Below w0.heap.size w0 w' := by
  refine enter Tryd.func63 rfl Tryd.ntmps63 rfl ?_
  intro a henv hst
  replace hst := (hst.addU h trivial)
  refine wp_seq ?_
  refine region_seq ?_
  refine seq_step rfl (op_val (v := .slice none 0 0) henv rfl (rn_assign henv rfl) ?_)
  clear henv a; intro a henv
  refine wpList_nil ?_
  refine th_n ?_
  refine wp_seq ?_
  refine region_seq ?_
  refine seq_step rfl (op_val (v := .slice none 0 0) henv rfl (rn_assign henv rfl) ?_)
  clear henv a; intro a henv
  refine wpList_nil ?_
  refine th_n ?_
  refine wp_seq ?_
  refine wp_seq ?_
  refine region_seq ?_
  refine seq_step rfl (op_val (v := .int .i64 0) henv rfl (rn_assign henv rfl) ?_)
  clear henv a; intro a henv
  refine wpList_nil ?_
  refine th_n ?_
  refine wp_block ?_
  replace hst := hst.addRow 45 1
  refine wp_loop_ghost (fun mz a w => ∃ i : Nat, ∃ v : Value, s / 32 - i = mz ∧ Env 24 a [(0, .slice A n c), (1, .int .i64 (s : Nat)), (5, v), (6, .int .i64 (i : Nat))] ∧ St w0 w [rowF 45 1 v i (vals (List.replicate i 0))] [pfU A n c xs] ∧ i ≤ s / 32) _ ⟨0, _, rfl, henv.sub ⟨rfl, rfl, rfl, rfl, trivial⟩, hst.pick [0] [0] (by decide), (Nat.zero_le _)⟩ ?_
  clear henv hst a
  rintro mz a w1 ⟨i, v, rfl, henv, hst, hi⟩
  refine wp_seq ?_
  refine wp_seq ?_
  refine region_seq ?_
  refine seq_step rfl (op_val (v := .int .i64 (i : Nat)) henv rfl (rn_move henv rfl) ?_)
  clear henv a; intro a henv
  refine seq_step rfl (op_val (v := .int .i64 (s : Nat)) henv rfl (rn_move henv rfl) ?_)
  clear henv a; intro a henv
  refine seq_step rfl (op_val (v := .int .i64 (s / 32 : Nat)) henv rfl (rn_quo henv rfl rfl (by decide) (quo_i64 (t := s) (c := 32) (by omega))) ?_)
  clear henv a; intro a henv
  refine seq_step rfl (op_val (v := .bool (decide (((i : Nat) : Int) < ((s / 32 : Nat) : Int)))) henv rfl (rn_bin henv rfl rfl rfl) ?_)
  clear henv a; intro a henv
  refine wpList_nil ?_
  refine th_n ?_
  refine if_split henv rfl (fun hc2 => ?_) (fun hc2 => ?_)
  · replace hc2 := of_decide_eq_true hc2
    refine wp_skip ?_
    refine th_n ?_
    refine wp_seq ?_
    refine wp_block ?_
    refine region_seq ?_
    refine seq_step rfl (op_val (v := v) henv rfl (rn_move henv rfl) ?_)
    clear henv a; intro a henv
    refine seq_step rfl (op_buildSlice (z := 1) (pv := #[(0, .int .u32 0)]) (c := #[.int .u32 0]) henv hst rfl Tryd.underlying22 (ty_uint32.size) zero_uint32 (by decide) (by decide) rfl (by kernel_rfl) ?_)
    clear henv hst a; intro a w4 g3 henv hst
    refine seq_step rfl (op_append (k := 1) (j := 0) henv hst rfl Tryd.underlying22 info_u32 rfl rfl rfl rfl rfl rfl rfl rfl (by unfold maxLen; omega) (by omega) ?_)
    clear henv hst a; intro a w6 v5 henv hst
    refine seq_step rfl (op_val (v := v5) henv rfl (rn_assign henv rfl) ?_)
    clear henv a; intro a henv
    refine wpList_nil ?_
    refine bl_n (th_n ?_)
    refine region_seq ?_
    refine seq_step rfl (op_val (v := .int .i64 (i : Nat)) henv rfl (rn_move henv rfl) ?_)
    clear henv a; intro a henv
    refine seq_step rfl (op_val (v := .int .i64 (i + 1 : Nat)) henv rfl (rn_add henv rfl rfl (by rw [IntWalk.i64_in _ (by omega)]; omega)) ?_)
    clear henv a; intro a henv
    refine seq_step rfl (op_val (v := .int .i64 (i + 1 : Nat)) henv rfl (rn_assign henv rfl) ?_)
    clear henv a; intro a henv
    refine wpList_nil ?_
    rw [show (#[Value.int .u32 0] : Array Value) = #[Value.int .u32 ((0 : Nat) : Int)] from rfl, vals_snoc, ← List.replicate_succ'] at hst
    exact th_n ⟨_, (by omega), ⟨i + 1, v5, rfl, henv.sub ⟨rfl, rfl, rfl, rfl, trivial⟩, hst.pick [1] [0] (by decide), (by omega)⟩⟩
  · obtain rfl : i = s / 32 := by have := of_decide_eq_false hc2; omega
    clear hc2
    refine wp_exit ?_
    refine th_x (th_x (bl_x (th_n ?_)))
    refine wp_seq ?_
    refine region_seq ?_
    refine seq_step rfl (op_val (v := v) henv rfl (rn_move henv rfl) ?_)
    clear henv a; intro a henv
    refine seq_step rfl (op_val (v := .slice A n c) henv rfl (rn_move henv rfl) ?_)
    clear henv a; intro a henv
    refine seq_step rfl (op_appendU (k := 0) (os := (List.replicate (s / 32) 0)) henv hst rfl Tryd.underlying22 info_u32 rfl rfl rfl (show U32 _ A n c xs from hst.pat (k := 0) rfl) (by unfold maxLen; omega) (by omega) ?_)
    clear henv hst a; intro a w8 v7 henv hst
    refine seq_step rfl (op_val (v := v7) henv rfl (rn_assign henv rfl) ?_)
    clear henv a; intro a henv
    refine wpList_nil ?_
    refine th_n ?_
    refine wp_seq ?_
    obtain ⟨A9, c10, rfl, hst⟩ := hst.rowGive (k := 0) rfl (lt_shl (s / 32) h.lt)
    have hp2 : 2 ^ (s % 32) < 4294967296 := Nat.pow_lt_pow_right (n := 32) (by omega) (by omega)
    refine region_seq ?_
    refine seq_step rfl (op_val (v := .slice A9 ((s / 32) + n) c10) henv rfl (rn_move henv rfl) ?_)
    clear henv a; intro a henv
    refine seq_step rfl (op_val (v := .int .i64 (s : Nat)) henv rfl (rn_move henv rfl) ?_)
    clear henv a; intro a henv
    refine seq_step rfl (op_val (v := .int .i64 (s % 32 : Nat)) henv rfl (rn_rem henv rfl rfl (by decide) (tmod_nat s 32)) ?_)
    clear henv a; intro a henv
    refine seq_step rfl (op_val (v := .int .u32 (2 ^ (s % 32) : Nat)) henv rfl (rn_shl (s := s % 32) henv rfl rfl (shb_u32 (by omega)) (pow_u32 (by omega))) ?_)
    clear henv a; intro a henv
    have hst0 := hst
    refine seq_step rfl (op_call henv rfl Tryd.call54 rfl (r_muls_to (R := (val 4294967296 ((List.replicate (s / 32) 0) ++ xs)) * (2 ^ (s % 32))) (show U32 _ A9 ((s / 32) + n) c10 ((List.replicate (s / 32) 0) ++ xs) from hst.pat (k := 0) rfl) (by omega) hp2 (rfl)) ?_)
    rintro e w13 ⟨_, rfl, ⟨A11, c12, rfl, hU, hA⟩, hb⟩
    refine ⟨_, rfl, ?_⟩
    clear henv a; intro a henv
    replace hst := hst.freshU hb hU hA
    clear hU
    have hFA11 : ∀ a, A11 = some a → w0.heap.size ≤ a.block := fun a ha => Nat.le_trans hst0.below.size (hA a ha)
    clear hA hst0
    clear hb
    refine seq_step rfl (op_val (v := .slice A11 (nl ((val 4294967296 ((List.replicate (s / 32) 0) ++ xs)) * (2 ^ (s % 32)))) c12) henv rfl (rn_assign henv rfl) ?_)
    clear henv a; intro a henv
    refine wpList_nil ?_
    refine th_n ?_
    refine wp_ret ?_
    refine leave henv (res1 Tryd.results63 (RV.tmp henv rfl)) ?_
    rw [← hN, ← shl_val xs s]
    exact ⟨_, rfl, ⟨_, _, rfl, hst.pat (k := 0) rfl, hFA11⟩, hst.below⟩

set_option maxRecDepth 100000 in
set_option maxHeartbeats 4000000 in
theorem r_shr_far {A : Option Addr} {n c : Nat} {N s : Nat} {xs : List Nat} {w0 : World} (h : U32 w0 A n c xs) (hN : val 4294967296 xs = N) (hn : n ≤ 400000) (hs : blen N ≤ s) :
    Calls Tryd.prog 64 #[.slice A n c, .int .i64 (s : Nat)] w0 fun e w' => ∃ v, e = .returned v ∧ NumAt w0.heap.size w' v (N / 2 ^ s) ∧ Below w0.heap.size w0 w' := by
  have hnN : nl N ≤ n := hN ▸ nl_val h
  have hbl := blen_nl N
  refine enter Tryd.func64 rfl Tryd.ntmps64 rfl ?_
  intro a henv hst
  replace hst := (hst.addU h trivial)
  refine wp_seq ?_
  refine region_seq ?_
  refine seq_step rfl (op_val (v := .slice none 0 0) henv rfl (rn_assign henv rfl) ?_)
  clear henv a; intro a henv
  refine wpList_nil ?_
  refine th_n ?_
  refine wp_seq ?_
  refine wp_seq ?_
  refine region_seq ?_
  refine seq_step rfl (op_val (v := .int .i64 (s : Nat)) henv rfl (rn_move henv rfl) ?_)
  clear henv a; intro a henv
  refine seq_step rfl (op_val (v := .slice A n c) henv rfl (rn_move henv rfl) ?_)
  clear henv a; intro a henv
  refine seq_step rfl (op_call henv rfl Tryd.call58 rfl (r_bits (N := N) (show U32 _ A n c xs from hst.pat (k := 0) rfl) hN (by omega)) ?_)
  rintro e w1 ⟨rfl, hb⟩
  refine ⟨_, rfl, ?_⟩
  clear henv a; intro a henv
  replace hst := hst.call hb
  clear hb
  refine seq_step rfl (op_val (v := .bool (decide (((s : Nat) : Int) ≥ ((blen N : Nat) : Int)))) henv rfl (rn_bin henv rfl rfl rfl) ?_)
  clear henv a; intro a henv
  refine wpList_nil ?_
  refine th_n ?_
  refine if_t henv rfl (decide_eq_true (by omega)) ?_
  refine wp_seq ?_
  refine region_seq ?_
  refine seq_step rfl (op_val (v := .slice none 0 0) henv rfl (rn_assign henv rfl) ?_)
  clear henv a; intro a henv
  refine wpList_nil ?_
  refine th_n ?_
  refine wp_ret ?_
  refine th_r ?_
  refine leave henv (res1 Tryd.results64 (RV.tmp henv rfl)) ?_
  rw [shr_zero_of hs]
  exact ⟨_, rfl, numAt_nil _ _, hst.below⟩

set_option maxRecDepth 100000 in
set_option maxHeartbeats 4000000 in
theorem r_shr_ok {b o n c : Nat} {N s : Nat} {xs : List Nat} {w0 : World} (h : U32 w0 (some ⟨b, o, none⟩) n c xs) (hN : val 4294967296 xs = N) (hn : n ≤ 400000) (hs : s < blen N) :
    Calls Tryd.prog 64 #[.slice (some ⟨b, o, none⟩) n c, .int .i64 (s : Nat)] w0 fun e w' => ∃ v, e = .returned v ∧ NumAt w0.heap.size w' v (N / 2 ^ s) ∧ Below w0.heap.size w0 w' := by
  have hnN : nl N ≤ n := hN ▸ nl_val h
  have hbl := blen_nl N
  have hcap := h.cap
  refine enter Tryd.func64 rfl Tryd.ntmps64 rfl ?_
  intro a henv hst
  replace hst := (hst.addU h trivial)
  refine wp_seq ?_
  refine region_seq ?_
  refine seq_step rfl (op_val (v := .slice none 0 0) henv rfl (rn_assign henv rfl) ?_)
  clear henv a; intro a henv
  refine wpList_nil ?_
  refine th_n ?_
  refine wp_seq ?_
  refine wp_seq ?_
  refine region_seq ?_
  refine seq_step rfl (op_val (v := .int .i64 (s : Nat)) henv rfl (rn_move henv rfl) ?_)
  clear henv a; intro a henv
  refine seq_step rfl (op_val (v := .slice (some ⟨b, o, none⟩) n c) henv rfl (rn_move henv rfl) ?_)
  clear henv a; intro a henv
  refine seq_step rfl (op_call henv rfl Tryd.call58 rfl (r_bits (N := N) (show U32 _ (some ⟨b, o, none⟩) n c xs from hst.pat (k := 0) rfl) hN (by omega)) ?_)
  rintro e w1 ⟨rfl, hb⟩
  refine ⟨_, rfl, ?_⟩
  clear henv a; intro a henv
  replace hst := hst.call hb
  clear hb
  refine seq_step rfl (op_val (v := .bool (decide (((s : Nat) : Int) ≥ ((blen N : Nat) : Int)))) henv rfl (rn_bin henv rfl rfl rfl) ?_)
  clear henv a; intro a henv
  refine wpList_nil ?_
  refine th_n ?_
  refine if_f henv rfl (decide_eq_false (by omega)) ?_
  refine wp_skip ?_
  refine th_n ?_
  refine wp_seq ?_
  replace hst := hst.addU (u32_drop (hst.pat (k := 0) rfl) (j := s / 32) (by omega)) trivial
  have hp2 : 2 ^ (s % 32) < 4294967296 := Nat.pow_lt_pow_right (n := 32) (by omega) (by omega)
  have hp0 : 0 < 2 ^ (s % 32) := Nat.pow_pos (by omega)
  have hnp : nl (2 ^ (s % 32)) ≤ 1 := nl_le_of_lt (by omega)
  refine region_any (n := 14) (Sk [] [pfU (some ⟨b, o + s / 32, none⟩) (n - s / 32) (c - s / 32) (xs.drop (s / 32)), pfU (some ⟨b, o, none⟩) n c xs] [] []) mixed rfl henv hst ?_
  clear henv hst; intro w2 henv hst
  refine sAny_take (i := 0) [3, 8, 9, 10, 11, 12, 13] (fun _ => True) (v := .slice (some ⟨b, o, none⟩) n c) rfl (by kernel_rfl) (fun _ _ _ h => h) (fun _ _ _ _ => trivial) henv rfl trivial (fun w' _ => rn_move henv rfl) ?_
  clear henv a; intro a henv
  refine sAny_take (i := 1) [2, 3, 8, 9, 10, 11, 12, 13] (fun _ => True) (v := .int .i64 (s : Nat)) rfl (by kernel_rfl) (fun _ _ _ h => h) (fun _ _ _ _ => trivial) henv rfl trivial (fun w' _ => rn_move henv rfl) ?_
  clear henv a; intro a henv
  refine sAny_take (i := 2) [3, 8, 9, 10, 11, 12, 13] (fun _ => True) (v := .int .i64 (s / 32 : Nat)) rfl (by kernel_rfl) (fun _ _ _ h => h) (fun _ _ _ _ => trivial) henv rfl trivial (fun w' _ => rn_quo henv rfl rfl (by decide) (quo_i64 (t := s) (c := 32) (by omega))) ?_
  clear henv a; intro a henv
  refine sAny_take (i := 3) [8, 9, 10, 11, 12, 13] (fun _ => True) (v := .slice (some ⟨b, o + s / 32, none⟩) (n - s / 32) (c - s / 32)) rfl (by kernel_rfl) (fun _ _ _ h => h) (fun _ _ _ _ => trivial) henv rfl trivial (fun w' _ => rn_sliceFrom (m := s / 32) henv Tryd.underlying22 (ty_uint32.size) rfl rfl (by omega) (by omega)) ?_
  clear henv a; intro a henv
  refine sAny_take (i := 4) [5, 6, 7, 8, 9, 10, 11, 12, 13] (fun _ => True) (v := .int .i64 (s : Nat)) rfl (by kernel_rfl) (fun _ _ _ h => h) (fun _ _ _ _ => trivial) henv rfl trivial (fun w' _ => rn_move henv rfl) ?_
  clear henv a; intro a henv
  refine sAny_take (i := 5) [6, 7, 8, 9, 10, 11, 12, 13] (fun _ => True) (v := .int .i64 (s % 32 : Nat)) rfl (by kernel_rfl) (fun _ _ _ h => h) (fun _ _ _ _ => trivial) henv rfl trivial (fun w' _ => rn_rem henv rfl rfl (by decide) (tmod_nat s 32)) ?_
  clear henv a; intro a henv
  refine sAny_take (i := 6) [7, 8, 9, 10, 11, 12, 13] (fun _ => True) (v := .int .u32 (2 ^ (s % 32) : Nat)) rfl (by kernel_rfl) (fun _ _ _ h => h) (fun _ _ _ _ => trivial) henv rfl trivial (fun w' _ => rn_shl (s := s % 32) henv rfl rfl (shb_u32 (by omega)) (pow_u32 (by omega))) ?_
  clear henv a; intro a henv
  refine sAny_one (i := 7) (by kernel_rfl) rfl rfl (op_buildSlice (z := 1) (pv := #[(0, .int .u32 (2 ^ (s % 32) : Nat))]) (c := #[.int .u32 (2 ^ (s % 32) : Nat)]) henv hst rfl Tryd.underlying22 (ty_uint32.size) zero_uint32 (by decide) (by decide) rfl (by kernel_rfl) ?_)
  clear henv hst a; intro a w4 g3 henv hst
  refine ⟨.inr ⟨hst.kn.pick [] [0, 1], .inr (hst.kn.pick [] [])⟩, ?_⟩
  replace hst := hst.giveU (k := 0) (n := 1) (xs := [2 ^ (s % 32)]) rfl (lt1 hp2) rfl (by decide)
  have hst0 := hst
  have hs5 := nl_div (val 4294967296 (xs.drop (s / 32))) (2 ^ (s % 32))
  have hs6 := nl_mod (val 4294967296 (xs.drop (s / 32))) (2 ^ (s % 32))
  refine sAny_one (i := 8) (by kernel_rfl) rfl rfl (op_call henv rfl Tryd.call51 rfl (r_dm (N := val 4294967296 (xs.drop (s / 32))) (M := 2 ^ (s % 32)) (show U32 _ (some ⟨b, o + s / 32, none⟩) (n - s / 32) (c - s / 32) (xs.drop (s / 32)) from hst.pat (k := 1) rfl) (show U32 _ (some ⟨g3, 0, none⟩) 1 1 ([2 ^ (s % 32)]) from hst.pat (k := 0) rfl) rfl L_one hp0 (by omega) (by omega)) ?_)
  rintro e w11 ⟨_, _, rfl, ⟨A7, c8, rfl, hU, hA⟩, ⟨A9, c10, rfl, hV, hB⟩, hb⟩
  refine ⟨_, rfl, ?_⟩
  clear henv a; intro a henv
  replace hst := hst.freshU2 hb hU hA hV hB
  clear hU
  have hFA7 : ∀ a, A7 = some a → w0.heap.size ≤ a.block := fun a ha => Nat.le_trans hst0.below.size (hA a ha)
  have hFA9 : ∀ a, A9 = some a → w0.heap.size ≤ a.block := fun a ha => Nat.le_trans hst0.below.size (hB a ha)
  clear hA hV hB hst0
  clear hb
  refine ⟨.inr ⟨hst.kn.pick [] [3, 4], .inr (hst.kn.pick [] [])⟩, ?_⟩
  refine sAny_take (i := 9) [10, 11, 12, 13] (fun _ => True) (v := .tuple #[.slice A7 (nl ((val 4294967296 (xs.drop (s / 32))) / (2 ^ (s % 32)))) c8, .slice A9 (nl ((val 4294967296 (xs.drop (s / 32))) % (2 ^ (s % 32)))) c10]) rfl (by kernel_rfl) (fun _ _ _ h => h) (fun _ _ _ _ => trivial) henv rfl trivial (fun w' _ => rn_move henv rfl) ?_
  clear henv a; intro a henv
  refine sAny_take (i := 10) [12, 13] (fun _ => True) (v := .slice A7 (nl ((val 4294967296 (xs.drop (s / 32))) / (2 ^ (s % 32)))) c8) rfl (by kernel_rfl) (fun _ _ _ h => h) (fun _ _ _ _ => trivial) henv rfl trivial (fun w' _ => rn_extract henv rfl rfl) ?_
  clear henv a; intro a henv
  refine sAny_take (i := 11) [13] (fun _ => True) (v := .slice A9 (nl ((val 4294967296 (xs.drop (s / 32))) % (2 ^ (s % 32)))) c10) rfl (by kernel_rfl) (fun _ _ _ h => h) (fun _ _ _ _ => trivial) henv rfl trivial (fun w' _ => rn_extract henv rfl rfl) ?_
  clear henv a; intro a henv
  refine sAny_take (i := 12) [13] (fun _ => True) (v := .slice A7 (nl ((val 4294967296 (xs.drop (s / 32))) / (2 ^ (s % 32)))) c8) rfl (by kernel_rfl) (fun _ _ _ h => h) (fun _ _ _ _ => trivial) henv rfl trivial (fun w' _ => rn_assign henv rfl) ?_
  clear henv a; intro a henv
  refine sAny_take (i := 13) [] (fun _ => True) (v := .slice A9 (nl ((val 4294967296 (xs.drop (s / 32))) % (2 ^ (s % 32)))) c10) rfl (by kernel_rfl) (fun _ _ _ h => h) (fun _ _ _ _ => trivial) henv rfl trivial (fun w' _ => rn_assign henv rfl) ?_
  clear henv a; intro a henv
  refine sAny_done (by kernel_rfl) ?_ _
  refine th_n ?_
  refine wp_seq ?_
  refine region_seq ?_
  refine seq_step rfl (op_val (v := .slice A7 (nl ((val 4294967296 (xs.drop (s / 32))) / (2 ^ (s % 32)))) c8) henv rfl (rn_move henv rfl) ?_)
  clear henv a; intro a henv
  refine seq_step rfl (op_val (v := .slice A7 (nl ((val 4294967296 (xs.drop (s / 32))) / (2 ^ (s % 32)))) c8) henv rfl (rn_assign henv rfl) ?_)
  clear henv a; intro a henv
  refine wpList_nil ?_
  refine th_n ?_
  refine wp_ret ?_
  refine leave henv (res1 Tryd.results64 (RV.tmp henv rfl)) ?_
  rw [← hN, ← shr_val h.lt s]
  exact ⟨_, rfl, ⟨_, _, rfl, hst.pat (k := 1) rfl, hFA7⟩, hst.below⟩

theorem r_shr {A : Option Addr} {n c N s : Nat} {xs : List Nat} {w0 : World} (h : U32 w0 A n c xs) (hN : val 4294967296 xs = N) (hn : n ≤ 400000) :
    Calls Tryd.prog 64 #[.slice A n c, .int .i64 (s : Nat)] w0 fun e w' => ∃ v, e = .returned v ∧ NumAt w0.heap.size w' v (N / 2 ^ s) ∧ Below w0.heap.size w0 w' := by
  rcases Nat.lt_or_ge s (blen N) with hs | hs
  · have hnN : nl N ≤ n := hN ▸ nl_val h
    have hbl := blen_nl N
    obtain ⟨b, o, rfl, _, _⟩ := h.cells (by omega)
    exact r_shr_ok h hN hn hs
  · exact r_shr_far h hN hn hs
theorem r_twos {A : Option Addr} {n c N : Nat} {xs : List Nat} {w0 : World} (h : U32 w0 A n c xs) (hN : val 4294967296 xs = N) (hn : n ≤ 1000000) :
    Calls Tryd.prog 62 #[.slice A n c] w0 fun e w' => ∃ k : Nat, e = .returned (.int .i64 k) ∧ (N ≠ 0 → IsTz N k) ∧ (N = 0 → k = 0) ∧ Below w0.heap.size w0 w' := by
  by_cases h0 : N = 0
  · subst h0
    refine (r_twos_zero h hN hn).mono ?_
    rintro e w' ⟨rfl, hB⟩
    exact ⟨0, rfl, fun h => absurd rfl h, fun _ => rfl, hB⟩
  · obtain ⟨q, hq⟩ := isTz_ex h0
    refine (r_twos_pos h hN hn hq).mono ?_
    rintro e w' ⟨rfl, hB⟩
    exact ⟨q, rfl, fun _ => hq, fun h => absurd h h0, hB⟩

end Go.Proofs.YtnldopjbiacbfaaDoor.W
