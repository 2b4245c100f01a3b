/- HasPrefix, TrimPrefix, Atoi of three figures, prog.number, register. Printed by pv/gen_h3.py. Condition: the table uint64pow10 is as laid (Pw). -/
import Derived.Test.YtbdngknpngcojaaDoorM50
import Derived.Test.YtbdngknpngcojaaDoorM15
import Derived.Test.YtbdngknpngcojaaDoorM49
import Derived.Lib.AtoiErrMem

namespace Go.Proofs.YtbdngknpngcojaaDoor.W
open Go.RowKit Anv Go.Lib
def trimP (s p : List UInt8) : List UInt8 := if s.take p.length = p then s.drop p.length else s
theorem trimP_len (s p : List UInt8) : (trimP s p).length ≤ s.length := by
  unfold trimP
  split
  · rw [List.length_drop]; omega
  · exact Nat.le_refl _
theorem fl_fY (s : List UInt8) : fl fY s = s.map fun b => Value.int .u8 (b.toNat : Nat) := by
  induction s with
  | nil => rfl
  | cons b s ih => rw [List.map_cons, ← ih]; rfl
theorem head_dgt {t : List UInt8} (h : ∀ c ∈ t, 48 ≤ c.toNat ∧ c.toNat ≤ 57) (h1 : 1 ≤ t.length) : 48 ≤ (t.getD 0 0).toNat := by
  cases t with
  | nil => simp at h1
  | cons c t => exact (h c (List.mem_cons_self ..)).1
theorem textZ_parts (n : Int) : (n < 0 ∧ textZ n = 45 :: textN n.natAbs) ∨ (0 ≤ n ∧ textZ n = textN n.natAbs) := by
  rcases Int.lt_or_le n 0 with h | h
  · refine .inl ⟨h, ?_⟩
    have := textZ_neg (u := n.natAbs) (by omega)
    rwa [show -((n.natAbs : Nat) : Int) = n by omega] at this
  · refine .inr ⟨h, ?_⟩
    have := textZ_nat n.natAbs
    rwa [show ((n.natAbs : Nat) : Int) = n by omega] at this
theorem neg_i64 {P : Program} {w : World} {x : Int} (h0 : -1000000 ≤ x) (h : x ≤ 1000000) : (Op.unary .neg (.int .i64 x)).run P w = .ok (.int .i64 (-x)) w := by
  have e : IntKind.i64.wrap (-x) = -x := IntWalk.i64_in _ (by omega)
  simp [Op.unary, Op.intArith, e]
section
variable {P : Program} {K : Act → World → Prop} {Q : Exit → Act → World → Prop} {N : Nat} {dq : List Deferred} {a : Act} {l : List (Nat × Value)} {w w0 : World} {own ps : List PF}
variable {d : Nat} {ty : TypeId} {pos : String} {af : Array Edge} {gd : Option (Nat × Bool)}
theorem rn_nileql {x : Operand} {T yt : Nat} {ms : Array (String × TypeId)} (h : EnvD dq N a l) (hT : P.underlying T = some (.interface ms)) (hx : evl l x = some .nilIface) :
    (execOp a.eval ⟨some d, .binOp .eql T x (.const .nilIface) yt, ty, pos, af, gd⟩).run P w = .ok (.value (.bool true)) w := by
  have h2 : P.underlying T = some (.interface (P.methodsAt T)) := by simp [Program.methodsAt, hT]
  exact rn_bin h hx rfl (by simp [eqGuard, run_eql_nil_nil _ _ h2])
theorem rn_nilneq {x : Operand} {T yt : Nat} {ms : Array (String × TypeId)} (h : EnvD dq N a l) (hT : P.underlying T = some (.interface ms)) (hx : evl l x = some .nilIface) :
    (execOp a.eval ⟨some d, .binOp .neq T x (.const .nilIface) yt, ty, pos, af, gd⟩).run P w = .ok (.value (.bool false)) w := by
  have h2 : P.underlying T = some (.interface (P.methodsAt T)) := by simp [Program.methodsAt, hT]
  exact rn_bin h hx rfl (by simp [eqGuard, run_neq_nil_nil _ _ h2])
theorem op_convB {S T E : Nat} {x : Operand} {s : List UInt8} {u : TypeDesc} (h : EnvD dq N a l) (hs : St w0 w own ps) (hd : Nat.blt d N = true) (hS : P.underlying S = some u) (hT : P.underlying T = some (.slice E)) (hE : P.underlying E = some (.int .u8)) (hx : evl l x = some (.string ⟨s.toArray⟩)) (hb : s.length ≤ 1000000)
    (hK : ∀ a' w' g c, EnvD dq N a' ((d, .slice (some ⟨g, 0, none⟩) s.length c) :: l) → St w0 w' own (pfRow fY FY 1 (some ⟨g, 0, none⟩) s.length c s :: ps) → K a' w') :
    Oper.wp P ⟨some d, .convert S T x, ty, pos, af, gd⟩ a w K Q := by
  have hc := Go.Lib.run_convert_string_bytes (P := P) w S T E ⟨s.toArray⟩ hS hT hE
  have hsl : (⟨s.toArray⟩ : ByteArray).size = s.length := by simp [ByteArray.size]
  rw [hsl] at hc
  have hvx := h.ev hx
  have hr : (execOp a.eval ⟨some d, .convert S T x, ty, pos, af, gd⟩).run P w = .ok (.value (.slice (some ⟨w.heap.size, 0, none⟩) s.length (grownCap w s.length 0 E))) (bytesWorld w E ⟨s.toArray⟩) := by
    simp only [execOp, hvx]
    rw [Sem.run_bind, hc]
    simp [Result.andThen]
  unfold Oper.wp
  rw [hr]
  have hlen : (fl fY s).length = s.length * 1 := fl_len fY_len s
  have hmx : s.length ≤ maxLen := by unfold maxLen; omega
  refine hK _ _ w.heap.size _ (h.put hd _) ((hs.call (bytesWorld_below w E _)).addP _ ⟨⟨hlen, grownCap_ge .., grownCap_le_maxLen _ _ _ _ hmx, fun hp => ⟨_, 0, rfl, by rw [bytesWorld_size]; omega, fun i hi => ?_⟩⟩, rfl, fun _ _ => trivial⟩ fun o ho b hfb hff => ?_)
  · rw [Nat.mul_one] at hi
    rw [Nat.zero_add, bytesWorld_cell w E _ i (by rw [hsl]; exact hi)]
    show _ = (fl fY s)[i]?
    have h2 : (fl fY s)[i]? = some (.int .u8 ((s.getD i 0).toNat : Nat)) := by
      have : fl fY s = s.map fun b => Value.int .u8 (b.toNat : Nat) := by
        exact fl_fY s
      rw [this, List.getElem?_map, List.getD_eq_getElem?_getD, List.getElem?_eq_getElem hi]
      rfl
    rw [h2]
  · rcases hff with ⟨_, off, e⟩ | hff
    · cases e
      exact absurd (o.lt (hs.mine o ho) hfb) (Nat.lt_irrefl _)
    · obtain ⟨_, _, q⟩ := hff
      cases q
end
set_option maxRecDepth 100000 in
set_option maxHeartbeats 2000000 in
theorem h_hasp0 {s p : List UInt8} {w0 : World} (hl : s.length ≤ 1000000) :
    Calls Tryd.prog 68 #[.string ⟨s.toArray⟩, .string ⟨p.toArray⟩] w0 fun e w' => e = .returned (.bool (decide (s.take p.length = p))) ∧ Below w0.heap.size w0 w' := by
  refine enter Tryd.func68 rfl Tryd.ntmps68 rfl ?_
  intro a henv hst
  refine wp_seq ?_
  refine region_seq ?_
  refine sv (v := .bool false) henv rfl (rn_assign henv rfl) ?_
  clear henv a; intro a henv
  refine wpList_nil ?_
  refine th_n ?_
  refine wp_seq ?_
  refine region_seq ?_
  revert a
  refine mA rfl rfl ?_
  refine sA (v := .int .i64 (s.length : Nat)) rfl (fun _ henv => rn_lenS henv Tryd.underlying9 rfl) ?_
  refine mA rfl rfl ?_
  refine sA (v := .int .i64 (p.length : Nat)) rfl (fun _ henv => rn_lenS henv Tryd.underlying9 rfl) ?_
  refine sA (v := .bool (decide (((s.length : Nat) : Int) ≥ ((p.length : Nat) : Int)))) rfl (fun _ henv => rn_bin henv rfl rfl rfl) ?_
  refine mA rfl rfl ?_
  intro a henv
  rcases bool_em (decide (((s.length : Nat) : Int) ≥ ((p.length : Nat) : Int))) with hg51 | hg51
  · rw [hg51] at henv
    have hge := of_decide_eq_true hg51
    revert a
    refine gA (v := .string ⟨s.toArray⟩) rfl rfl rfl rfl (fun _ henv => rn_move henv rfl) ?_
    refine gA (v := .string ⟨p.toArray⟩) rfl rfl rfl rfl (fun _ henv => rn_move henv rfl) ?_
    refine gA (v := .int .i64 (p.length : Nat)) rfl rfl rfl rfl (fun _ henv => rn_lenS henv Tryd.underlying9 rfl) ?_
    refine gA (v := .string ⟨(s.take p.length).toArray⟩) rfl rfl rfl rfl (fun _ henv => rn_takeS (n := p.length) henv Tryd.underlying9 rfl rfl (by (try simp only [List.length_append, List.length_cons, List.length_nil]); omega)) ?_
    refine gA (v := .string ⟨p.toArray⟩) rfl rfl rfl rfl (fun _ henv => rn_move henv rfl) ?_
    refine gA (v := .bool (decide ((s.take p.length) = p))) rfl rfl rfl rfl (fun _ henv => rn_eqls (s := (s.take p.length)) (t := p) henv rfl rfl) ?_
    refine sA (v := .bool (decide ((s.take p.length) = p))) rfl (fun _ henv => rn_pick henv rfl rfl) ?_
    refine aA rfl rfl ?_
    intro a henv
    refine wpList_nil ?_
    refine th_n ?_
    refine wp_ret ?_
    refine leave henv (res1 Tryd.results68 (RV.tmp henv rfl)) ?_
    exact ⟨rfl, hst.below⟩
  · rw [hg51] at henv
    have hge := of_decide_eq_false hg51
    revert a
    refine kA rfl rfl rfl rfl rfl ?_
    refine kA rfl rfl rfl rfl rfl ?_
    refine kA rfl rfl rfl rfl rfl ?_
    refine kA rfl rfl rfl rfl rfl ?_
    refine kA rfl rfl rfl rfl rfl ?_
    refine kA rfl rfl rfl rfl rfl ?_
    refine sA (v := .bool false) rfl (fun _ henv => rn_pick henv rfl rfl) ?_
    refine aA rfl rfl ?_
    intro a henv
    refine wpList_nil ?_
    refine th_n ?_
    refine wp_ret ?_
    refine leave henv (res1 Tryd.results68 (RV.tmp henv rfl)) ?_
    exact ⟨by rw [decide_eq_false (fun q => hge (by have := congrArg List.length q; rw [List.length_take] at this; omega))], hst.below⟩
set_option maxRecDepth 100000 in
set_option maxHeartbeats 2000000 in
theorem h_hasp1 {s p : List UInt8} {w0 : World} (hl : s.length ≤ 1000000) :
    Calls Tryd.prog 54 #[.string ⟨s.toArray⟩, .string ⟨p.toArray⟩] w0 fun e w' => e = .returned (.bool (decide (s.take p.length = p))) ∧ Below w0.heap.size w0 w' := by
  refine enter Tryd.func54 rfl Tryd.ntmps54 rfl ?_
  intro a henv hst
  refine wp_seq ?_
  refine region_seq ?_
  refine sv (v := .bool false) henv rfl (rn_assign henv rfl) ?_
  clear henv a; intro a henv
  refine wpList_nil ?_
  refine th_n ?_
  refine wp_seq ?_
  refine region_seq ?_
  revert a
  refine mA rfl rfl ?_
  refine mA rfl rfl ?_
  intro a henv
  refine seq_step rfl (op_call henv rfl Tryd.call68 rfl (h_hasp0 (s := s) (p := p) hl) ?_)
  rintro e w51 ⟨rfl, hb⟩
  refine ⟨_, rfl, ?_⟩
  clear henv a; intro a henv
  replace hst := hst.call hb
  clear hb
  refine sv (v := .bool (decide (s.take p.length = p))) henv rfl (rn_assign henv rfl) ?_
  clear henv a; intro a henv
  refine wpList_nil ?_
  refine th_n ?_
  refine wp_ret ?_
  refine leave henv (res1 Tryd.results54 (RV.tmp henv rfl)) ?_
  exact ⟨rfl, hst.below⟩
theorem h_hasp {s p : List UInt8} {b : Bool} {w0 : World} (hl : s.length ≤ 1000000) (hd : decide (s.take p.length = p) = b) :
    Calls Tryd.prog 54 #[.string ⟨s.toArray⟩, .string ⟨p.toArray⟩] w0 fun e w' => e = .returned (.bool b) ∧ Below w0.heap.size w0 w' := by
  subst hd
  exact h_hasp1 hl
set_option maxRecDepth 100000 in
set_option maxHeartbeats 2000000 in
theorem h_trim0 {s p : List UInt8} {w0 : World} (hl : s.length ≤ 1000000) :
    Calls Tryd.prog 91 #[.string ⟨s.toArray⟩, .string ⟨p.toArray⟩] w0 fun e w' => e = .returned (.string ⟨(trimP s p).toArray⟩) ∧ Below w0.heap.size w0 w' := by
  refine enter Tryd.func91 rfl Tryd.ntmps91 rfl ?_
  intro a henv hst
  refine wp_seq ?_
  refine region_seq ?_
  refine sv (v := .string ⟨#[]⟩) henv rfl (rn_assign henv rfl) ?_
  clear henv a; intro a henv
  refine wpList_nil ?_
  refine th_n ?_
  refine wp_seq ?_
  refine wp_seq ?_
  refine region_seq ?_
  revert a
  refine mA rfl rfl ?_
  refine mA rfl rfl ?_
  intro a henv
  refine seq_step rfl (op_call henv rfl Tryd.call68 rfl (h_hasp0 (s := s) (p := p) hl) ?_)
  rintro e w51 ⟨rfl, hb⟩
  refine ⟨_, rfl, ?_⟩
  clear henv a; intro a henv
  replace hst := hst.call hb
  clear hb
  refine wpList_nil ?_
  refine th_n ?_
  refine if_split henv rfl (fun hc52 => ?_) (fun hc52 => ?_)
  · have hd := of_decide_eq_true hc52
    have hlp : s.take p.length = p → p.length ≤ s.length := fun q => by have := congrArg List.length q; rw [List.length_take] at this; omega
    have hlq := hlp hd
    refine wp_seq ?_
    refine region_seq ?_
    revert a
    refine mA rfl rfl ?_
    refine mA rfl rfl ?_
    refine sA (v := .int .i64 (p.length : Nat)) rfl (fun _ henv => rn_lenS henv Tryd.underlying9 rfl) ?_
    refine sA (v := .string ⟨(s.drop p.length).toArray⟩) rfl (fun _ henv => rn_dropS (n := p.length) henv Tryd.underlying9 rfl rfl (by (try simp only [List.length_append, List.length_cons, List.length_nil]); omega)) ?_
    refine aA rfl rfl ?_
    intro a henv
    refine wpList_nil ?_
    refine th_n ?_
    refine wp_ret ?_
    refine th_r ?_
    refine leave henv (res1 Tryd.results91 (RV.tmp henv rfl)) ?_
    exact ⟨by rw [trimP, if_pos hd], hst.below⟩
  · have hd := of_decide_eq_false hc52
    have hlp : s.take p.length = p → p.length ≤ s.length := fun q => by have := congrArg List.length q; rw [List.length_take] at this; omega
    refine wp_skip ?_
    refine th_n ?_
    refine wp_seq ?_
    refine region_seq ?_
    revert a
    refine mA rfl rfl ?_
    refine aA rfl rfl ?_
    intro a henv
    refine wpList_nil ?_
    refine th_n ?_
    refine wp_ret ?_
    refine leave henv (res1 Tryd.results91 (RV.tmp henv rfl)) ?_
    exact ⟨by rw [trimP, if_neg hd], hst.below⟩
set_option maxRecDepth 100000 in
set_option maxHeartbeats 2000000 in
theorem h_trim {s p : List UInt8} {w0 : World} (hl : s.length ≤ 1000000) :
    Calls Tryd.prog 77 #[.string ⟨s.toArray⟩, .string ⟨p.toArray⟩] w0 fun e w' => e = .returned (.string ⟨(trimP s p).toArray⟩) ∧ Below w0.heap.size w0 w' := by
  refine enter Tryd.func77 rfl Tryd.ntmps77 rfl ?_
  intro a henv hst
  refine wp_seq ?_
  refine region_seq ?_
  refine sv (v := .string ⟨#[]⟩) henv rfl (rn_assign henv rfl) ?_
  clear henv a; intro a henv
  refine wpList_nil ?_
  refine th_n ?_
  refine wp_seq ?_
  refine region_seq ?_
  revert a
  refine mA rfl rfl ?_
  refine mA rfl rfl ?_
  intro a henv
  refine seq_step rfl (op_call henv rfl Tryd.call91 rfl (h_trim0 (s := s) (p := p) hl) ?_)
  rintro e w51 ⟨rfl, hb⟩
  refine ⟨_, rfl, ?_⟩
  clear henv a; intro a henv
  replace hst := hst.call hb
  clear hb
  refine sv (v := .string ⟨(trimP s p).toArray⟩) henv rfl (rn_assign henv rfl) ?_
  clear henv a; intro a henv
  refine wpList_nil ?_
  refine th_n ?_
  refine wp_ret ?_
  refine leave henv (res1 Tryd.results77 (RV.tmp henv rfl)) ?_
  exact ⟨rfl, hst.below⟩
set_option maxRecDepth 100000 in
set_option maxHeartbeats 2000000 in
theorem h_atoi0_pos {t : List UInt8} {w0 : World} (ht : ∀ c ∈ t, 48 ≤ c.toNat ∧ c.toNat ≤ 57) (h1 : 1 ≤ t.length) (h3 : t.length ≤ 3) :
    Calls Tryd.prog 89 #[.string ⟨t.toArray⟩] w0 fun e w' => e = .returned (.tuple #[.int .i64 ((numOf t : Nat) : Int), .nilIface]) ∧ Below w0.heap.size w0 w' := by
  have ht0 := head_dgt ht h1
  refine enter Tryd.func89 rfl Tryd.ntmps89 rfl ?_
  intro a henv hst
  refine wp_seq ?_
  refine region_seq ?_
  revert a
  refine aA rfl rfl ?_
  refine aA rfl rfl ?_
  intro a henv
  refine wpList_nil ?_
  refine th_n ?_
  refine wp_seq ?_
  refine region_seq ?_
  revert a
  refine mA rfl rfl ?_
  refine sA (v := .int .i64 (t.length : Nat)) rfl (fun _ henv => rn_lenS henv Tryd.underlying9 rfl) ?_
  refine aA rfl rfl ?_
  intro a henv
  refine wpList_nil ?_
  refine th_n ?_
  refine wp_seq ?_
  refine wp_seq ?_
  refine region_seq ?_
  revert a
  refine mA rfl rfl ?_
  refine kA rfl rfl rfl rfl rfl ?_
  refine kA rfl rfl rfl rfl rfl ?_
  refine kA rfl rfl rfl rfl rfl ?_
  refine kA rfl rfl rfl rfl rfl ?_
  refine kA rfl rfl rfl rfl rfl ?_
  refine kA rfl rfl rfl rfl rfl ?_
  refine sA (v := .bool false) rfl (fun _ henv => rn_pick henv rfl rfl) ?_
  refine mA rfl rfl ?_
  refine gA (v := .bool true) rfl rfl rfl rfl (fun _ henv => rn_move henv rfl) ?_
  refine gA (v := .int .i64 (t.length : Nat)) rfl rfl rfl rfl (fun _ henv => rn_move henv rfl) ?_
  refine gA (v := .bool (decide ((0 : Int) < ((t.length : Nat) : Int)))) rfl rfl rfl rfl (fun _ henv => rn_bin henv rfl rfl rfl) ?_
  intro a henv
  rw [show (decide ((0 : Int) < ((t.length : Nat) : Int))) = true from (decide_eq_true (by simp only [List.length_cons] at *; omega))] at henv
  revert a
  refine gA (v := .bool true) rfl rfl rfl rfl (fun _ henv => rn_move henv rfl) ?_
  refine gA (v := .int .i64 (t.length : Nat)) rfl rfl rfl rfl (fun _ henv => rn_move henv rfl) ?_
  refine gA (v := .bool (decide (((t.length : Nat) : Int) < (19 : Int)))) rfl rfl rfl rfl (fun _ henv => rn_bin henv rfl rfl rfl) ?_
  intro a henv
  rw [show (decide (((t.length : Nat) : Int) < (19 : Int))) = true from (decide_eq_true (by simp only [List.length_cons] at *; omega))] at henv
  revert a
  refine gA (v := .bool true) rfl rfl rfl rfl (fun _ henv => rn_pick henv rfl rfl) ?_
  refine gA (v := .bool true) rfl rfl rfl rfl (fun _ henv => rn_pick henv rfl rfl) ?_
  refine sA (v := .bool true) rfl (fun _ henv => rn_pick henv rfl rfl) ?_
  intro a henv
  refine wpList_nil ?_
  refine th_n ?_
  refine if_t henv rfl (rfl) ?_
  refine wp_seq ?_
  refine region_seq ?_
  revert a
  refine mA rfl rfl ?_
  refine aA rfl rfl ?_
  intro a henv
  refine wpList_nil ?_
  refine th_n ?_
  refine wp_seq ?_
  refine wp_seq ?_
  refine region_seq ?_
  revert a
  refine mA rfl rfl ?_
  refine sA (v := .int .u8 ((t.getD 0 0).toNat : Nat)) rfl (fun _ henv => rn_idxS (i := 0) henv Tryd.underlying9 rfl rfl (by omega)) ?_
  refine sA (v := .bool ((((t.getD 0 0).toNat : Nat) : Int) == (45 : Int))) rfl (fun _ henv => rn_bin henv rfl rfl rfl) ?_
  intro a henv
  rw [show ((((t.getD 0 0).toNat : Nat) : Int) == (45 : Int)) = false from (beq_eq_false_iff_ne.2 (by have := ht0; omega))] at henv
  revert a
  refine mA rfl rfl ?_
  refine gA (v := .string ⟨t.toArray⟩) rfl rfl rfl rfl (fun _ henv => rn_move henv rfl) ?_
  refine gA (v := .int .u8 ((t.getD 0 0).toNat : Nat)) rfl rfl rfl rfl (fun _ henv => rn_idxS (i := 0) henv Tryd.underlying9 rfl rfl (by omega)) ?_
  refine gA (v := .bool ((((t.getD 0 0).toNat : Nat) : Int) == (43 : Int))) rfl rfl rfl rfl (fun _ henv => rn_bin henv rfl rfl rfl) ?_
  intro a henv
  rw [show ((((t.getD 0 0).toNat : Nat) : Int) == (43 : Int)) = false from (beq_eq_false_iff_ne.2 (by have := ht0; omega))] at henv
  refine sv (v := .bool false) henv rfl (rn_pick henv rfl rfl) ?_
  clear henv a; intro a henv
  refine wpList_nil ?_
  refine th_n ?_
  refine if_f henv rfl (rfl) ?_
  refine wp_skip ?_
  refine th_n ?_
  refine wp_seq ?_
  refine region_seq ?_
  refine sv (v := .int .i64 0) henv rfl (rn_assign henv rfl) ?_
  clear henv a; intro a henv
  refine wpList_nil ?_
  refine th_n ?_
  refine wp_seq ?_
  refine wp_seq ?_
  refine region_seq ?_
  refine sv (v := .string ⟨t.toArray⟩) henv rfl (rn_move henv rfl) ?_
  clear henv a; intro a henv
  refine seq_step rfl (op_convB (s := t) henv hst rfl Tryd.underlying9 Tryd.underlying62 Tryd.underlying5 rfl (by omega) ?_)
  clear henv hst a; intro a w51 g52 c53 henv hst
  revert a
  refine sA (v := .int .i64 (t.length : Nat)) rfl (fun _ henv => rn_len henv Tryd.underlying62 rfl) ?_
  refine mA rfl rfl ?_
  intro a henv
  refine wpList_nil ?_
  refine th_n ?_
  refine wp_block ?_
  refine wp_loop_ghost (fun mz a w => ∃ j : Nat, ∃ x : Nat, t.length - j = mz ∧ Env 77 a [(5, .string ⟨t.toArray⟩), (47, .slice (some ⟨g52, 0, none⟩) t.length c53), (48, .int .i64 (t.length : Nat)), (49, .int .i64 (j : Nat)), (6, .int .i64 (x : Nat))] ∧ St w0 w [] [pfRow fY FY 1 (some ⟨g52, 0, none⟩) t.length c53 t] ∧ j ≤ t.length ∧ x = numOf (t.take j) ∧ x < 10 ^ j) _ ⟨0, 0, rfl, henv.sub ⟨rfl, rfl, rfl, rfl, rfl, trivial⟩, hst.pick [] [0] (by decide), (Nat.zero_le _), rfl, (by decide)⟩ ?_
  clear henv hst a
  rintro mz a w54 ⟨j, x, rfl, henv, hst, hj, hx, hxb⟩
  refine wp_seq ?_
  refine region_seq ?_
  refine sv (v := .bool (decide (((j : Nat) : Int) < ((t.length : Nat) : Int)))) henv rfl (rn_bin henv rfl rfl rfl) ?_
  clear henv a; intro a henv
  refine wpList_nil ?_
  refine th_n ?_
  refine wp_seq ?_
  refine if_split henv rfl (fun hc55 => ?_) (fun hc55 => ?_)
  · have hlt : j < t.length := by have := of_decide_eq_true hc55; omega
    obtain ⟨c, he0⟩ : ∃ c, t[j]? = some c := ⟨_, List.getElem?_eq_getElem (by omega)⟩
    have hcb := ht c (List.mem_of_getElem? he0)
    have hcd : (t.getD j 0).toNat = c.toNat := by rw [List.getD_eq_getElem?_getD, he0]; rfl
    have hpj : 10 ^ j ≤ 1000 := Nat.le_trans (Nat.pow_le_pow_right (by decide) (show j ≤ 3 by omega)) (by decide)
    refine wp_skip ?_
    refine th_n ?_
    refine wp_seq ?_
    refine wp_block ?_
    refine wp_seq ?_
    refine region_seq ?_
    revert a
    refine sA (v := .pointer (some ⟨ab (some ⟨g52, 0, none⟩), ao (some ⟨g52, 0, none⟩) + j * 1, none⟩)) rfl (fun _ henv => rn_idxR (i := j) henv Tryd.underlying62 (ty_uint8.size) rfl rfl (by omega) rfl (show (pfRow fY FY 1 (some ⟨g52, 0, none⟩) t.length c53 t).P _ from (hst.pat (k := 0) rfl)).1) ?_
    refine sA (v := .int .u8 (c.toNat : Nat)) rfl (fun _ henv => rn_loadE1 (i := j) (j := 0) (e := c) henv ty_uint8 rfl rfl fY_len (by decide) (show (pfRow fY FY 1 (some ⟨g52, 0, none⟩) t.length c53 t).P _ from (hst.pat (k := 0) rfl)).1 (by omega) he0 rfl) ?_
    refine aA rfl rfl ?_
    intro a henv
    refine wpList_nil ?_
    refine th_n ?_
    refine wp_seq ?_
    refine region_seq ?_
    revert a
    refine mA rfl rfl ?_
    refine sA (v := .int .u8 (c.toNat - 48 : Nat)) rfl (fun _ henv => rn_sub henv rfl rfl (by rw [IntWalk.u8_in _ (by (try simp only [List.length_append, List.length_cons, List.length_nil]); omega)]; omega)) ?_
    refine aA rfl rfl ?_
    intro a henv
    refine wpList_nil ?_
    refine th_n ?_
    refine wp_seq ?_
    refine wp_seq ?_
    refine region_seq ?_
    revert a
    refine mA rfl rfl ?_
    refine sA (v := .bool (decide (((c.toNat - 48 : Nat) : Int) > (9 : Int)))) rfl (fun _ henv => rn_bin henv rfl rfl rfl) ?_
    intro a henv
    rw [show (decide (((c.toNat - 48 : Nat) : Int) > (9 : Int))) = false from (decide_eq_false (by omega))] at henv
    refine wpList_nil ?_
    refine th_n ?_
    refine if_f henv rfl (rfl) ?_
    refine wp_skip ?_
    refine th_n ?_
    refine region_seq ?_
    revert a
    refine mA rfl rfl ?_
    refine sA (v := .int .i64 (x * 10 : Nat)) rfl (fun _ henv => rn_mul henv rfl rfl (by rw [IntWalk.i64_in _ (by omega)]; omega)) ?_
    refine mA rfl rfl ?_
    refine sA (v := .int .i64 (c.toNat - 48 : Nat)) rfl (fun _ henv => rn_conv henv rfl Tryd.underlying5 Tryd.underlying3 (IntWalk.i64_in _ (by omega))) ?_
    refine sA (v := .int .i64 ((x * 10) + (c.toNat - 48) : Nat)) rfl (fun _ henv => rn_add henv rfl rfl (by rw [IntWalk.i64_in _ (by omega)]; omega)) ?_
    refine aA rfl rfl ?_
    intro a henv
    refine wpList_nil ?_
    refine bl_n (th_n ?_)
    refine region_seq ?_
    revert a
    refine sA (v := .int .i64 (j + 1 : Nat)) rfl (fun _ henv => rn_add henv rfl rfl (by rw [IntWalk.i64_in _ (by omega)]; omega)) ?_
    refine mA rfl rfl ?_
    intro a henv
    refine wpList_nil ?_
    exact th_n ⟨_, (by omega), ⟨j + 1, (x * 10) + (c.toNat - 48), rfl, henv.sub ⟨rfl, rfl, rfl, rfl, rfl, trivial⟩, hst.pick [] [0] (by decide), (by omega), (by rw [numOf_take_succ hlt, ← hx, hcd]), (by rw [Nat.pow_succ]; omega)⟩⟩
  · have hxf : x = numOf t := by rw [hx, List.take_of_length_le (by have := of_decide_eq_false hc55; omega)]
    have hpj : 10 ^ j ≤ 1000 := Nat.le_trans (Nat.pow_le_pow_right (by decide) (show j ≤ 3 by omega)) (by decide)
    refine wp_exit ?_
    refine th_x (th_x (bl_x (th_n ?_)))
    refine wp_seq ?_
    refine wp_seq ?_
    refine region_seq ?_
    revert a
    refine mA rfl rfl ?_
    refine sA (v := .int .u8 ((t.getD 0 0).toNat : Nat)) rfl (fun _ henv => rn_idxS (i := 0) henv Tryd.underlying9 rfl rfl (by omega)) ?_
    refine sA (v := .bool ((((t.getD 0 0).toNat : Nat) : Int) == (45 : Int))) rfl (fun _ henv => rn_bin henv rfl rfl rfl) ?_
    intro a henv
    rw [show ((((t.getD 0 0).toNat : Nat) : Int) == (45 : Int)) = false from (beq_eq_false_iff_ne.2 (by have := ht0; omega))] at henv
    refine wpList_nil ?_
    refine th_n ?_
    refine if_f henv rfl (rfl) ?_
    refine wp_skip ?_
    refine th_n ?_
    refine wp_seq ?_
    refine region_seq ?_
    revert a
    refine mA rfl rfl ?_
    refine aA rfl rfl ?_
    refine aA rfl rfl ?_
    intro a henv
    refine wpList_nil ?_
    refine th_n ?_
    refine wp_ret ?_
    refine th_r ?_
    refine leave henv (res2 Tryd.results89 (RV.tmp henv rfl) (RV.tmp henv rfl)) ?_
    exact ⟨by rw [← hxf]; try rfl, hst.below⟩
set_option maxRecDepth 100000 in
set_option maxHeartbeats 2000000 in
theorem h_atoi0_neg {t : List UInt8} {w0 : World} (ht : ∀ c ∈ t, 48 ≤ c.toNat ∧ c.toNat ≤ 57) (h1 : 1 ≤ t.length) (h3 : t.length ≤ 3) :
    Calls Tryd.prog 89 #[.string ⟨(45 :: t).toArray⟩] w0 fun e w' => e = .returned (.tuple #[.int .i64 (-((numOf t : Nat) : Int)), .nilIface]) ∧ Below w0.heap.size w0 w' := by
  refine enter Tryd.func89 rfl Tryd.ntmps89 rfl ?_
  intro a henv hst
  refine wp_seq ?_
  refine region_seq ?_
  revert a
  refine aA rfl rfl ?_
  refine aA rfl rfl ?_
  intro a henv
  refine wpList_nil ?_
  refine th_n ?_
  refine wp_seq ?_
  refine region_seq ?_
  revert a
  refine mA rfl rfl ?_
  refine sA (v := .int .i64 ((45 :: t).length : Nat)) rfl (fun _ henv => rn_lenS henv Tryd.underlying9 rfl) ?_
  refine aA rfl rfl ?_
  intro a henv
  refine wpList_nil ?_
  refine th_n ?_
  refine wp_seq ?_
  refine wp_seq ?_
  refine region_seq ?_
  revert a
  refine mA rfl rfl ?_
  refine kA rfl rfl rfl rfl rfl ?_
  refine kA rfl rfl rfl rfl rfl ?_
  refine kA rfl rfl rfl rfl rfl ?_
  refine kA rfl rfl rfl rfl rfl ?_
  refine kA rfl rfl rfl rfl rfl ?_
  refine kA rfl rfl rfl rfl rfl ?_
  refine sA (v := .bool false) rfl (fun _ henv => rn_pick henv rfl rfl) ?_
  refine mA rfl rfl ?_
  refine gA (v := .bool true) rfl rfl rfl rfl (fun _ henv => rn_move henv rfl) ?_
  refine gA (v := .int .i64 ((45 :: t).length : Nat)) rfl rfl rfl rfl (fun _ henv => rn_move henv rfl) ?_
  refine gA (v := .bool (decide ((0 : Int) < (((45 :: t).length : Nat) : Int)))) rfl rfl rfl rfl (fun _ henv => rn_bin henv rfl rfl rfl) ?_
  intro a henv
  rw [show (decide ((0 : Int) < (((45 :: t).length : Nat) : Int))) = true from (decide_eq_true (by simp only [List.length_cons] at *; omega))] at henv
  revert a
  refine gA (v := .bool true) rfl rfl rfl rfl (fun _ henv => rn_move henv rfl) ?_
  refine gA (v := .int .i64 ((45 :: t).length : Nat)) rfl rfl rfl rfl (fun _ henv => rn_move henv rfl) ?_
  refine gA (v := .bool (decide ((((45 :: t).length : Nat) : Int) < (19 : Int)))) rfl rfl rfl rfl (fun _ henv => rn_bin henv rfl rfl rfl) ?_
  intro a henv
  rw [show (decide ((((45 :: t).length : Nat) : Int) < (19 : Int))) = true from (decide_eq_true (by simp only [List.length_cons] at *; omega))] at henv
  revert a
  refine gA (v := .bool true) rfl rfl rfl rfl (fun _ henv => rn_pick henv rfl rfl) ?_
  refine gA (v := .bool true) rfl rfl rfl rfl (fun _ henv => rn_pick henv rfl rfl) ?_
  refine sA (v := .bool true) rfl (fun _ henv => rn_pick henv rfl rfl) ?_
  intro a henv
  refine wpList_nil ?_
  refine th_n ?_
  refine if_t henv rfl (rfl) ?_
  refine wp_seq ?_
  refine region_seq ?_
  revert a
  refine mA rfl rfl ?_
  refine aA rfl rfl ?_
  intro a henv
  refine wpList_nil ?_
  refine th_n ?_
  refine wp_seq ?_
  refine wp_seq ?_
  refine region_seq ?_
  revert a
  refine mA rfl rfl ?_
  refine sA (v := .int .u8 (((45 :: t).getD 0 0).toNat : Nat)) rfl (fun _ henv => rn_idxS (i := 0) henv Tryd.underlying9 rfl rfl (by rw [List.length_cons]; omega)) ?_
  refine sA (v := .bool (((((45 :: t).getD 0 0).toNat : Nat) : Int) == (45 : Int))) rfl (fun _ henv => rn_bin henv rfl rfl rfl) ?_
  intro a henv
  rw [show (((((45 :: t).getD 0 0).toNat : Nat) : Int) == (45 : Int)) = true from rfl] at henv
  revert a
  refine mA rfl rfl ?_
  refine kA rfl rfl rfl rfl rfl ?_
  refine kA rfl rfl rfl rfl rfl ?_
  refine kA rfl rfl rfl rfl rfl ?_
  refine sA (v := .bool true) rfl (fun _ henv => rn_pick henv rfl rfl) ?_
  intro a henv
  refine wpList_nil ?_
  refine th_n ?_
  refine if_t henv rfl (rfl) ?_
  refine wp_seq ?_
  refine region_seq ?_
  revert a
  refine mA rfl rfl ?_
  refine sA (v := .string ⟨t.toArray⟩) rfl (fun _ henv => rn_dropS (s := (45 :: t)) (n := 1) henv Tryd.underlying9 rfl rfl (by (try simp only [List.length_append, List.length_cons, List.length_nil]); omega)) ?_
  refine aA rfl rfl ?_
  intro a henv
  refine wpList_nil ?_
  refine th_n ?_
  refine wp_seq ?_
  refine region_seq ?_
  revert a
  refine mA rfl rfl ?_
  refine sA (v := .int .i64 (t.length : Nat)) rfl (fun _ henv => rn_lenS henv Tryd.underlying9 rfl) ?_
  refine sA (v := .bool (decide (((t.length : Nat) : Int) < (1 : Int)))) rfl (fun _ henv => rn_bin henv rfl rfl rfl) ?_
  intro a henv
  rw [show (decide (((t.length : Nat) : Int) < (1 : Int))) = false from (decide_eq_false (by simp only [List.length_cons] at *; omega))] at henv
  refine wpList_nil ?_
  refine th_n ?_
  refine if_f henv rfl (rfl) ?_
  refine wp_skip ?_
  refine th_n ?_
  refine wp_seq ?_
  refine region_seq ?_
  refine sv (v := .int .i64 0) henv rfl (rn_assign henv rfl) ?_
  clear henv a; intro a henv
  refine wpList_nil ?_
  refine th_n ?_
  refine wp_seq ?_
  refine wp_seq ?_
  refine region_seq ?_
  refine sv (v := .string ⟨t.toArray⟩) henv rfl (rn_move henv rfl) ?_
  clear henv a; intro a henv
  refine seq_step rfl (op_convB (s := t) henv hst rfl Tryd.underlying9 Tryd.underlying62 Tryd.underlying5 rfl (by omega) ?_)
  clear henv hst a; intro a w51 g52 c53 henv hst
  revert a
  refine sA (v := .int .i64 (t.length : Nat)) rfl (fun _ henv => rn_len henv Tryd.underlying62 rfl) ?_
  refine mA rfl rfl ?_
  intro a henv
  refine wpList_nil ?_
  refine th_n ?_
  refine wp_block ?_
  refine wp_loop_ghost (fun mz a w => ∃ j : Nat, ∃ x : Nat, t.length - j = mz ∧ Env 77 a [(5, .string ⟨(45 :: t).toArray⟩), (47, .slice (some ⟨g52, 0, none⟩) t.length c53), (48, .int .i64 (t.length : Nat)), (49, .int .i64 (j : Nat)), (6, .int .i64 (x : Nat))] ∧ St w0 w [] [pfRow fY FY 1 (some ⟨g52, 0, none⟩) t.length c53 t] ∧ j ≤ t.length ∧ x = numOf (t.take j) ∧ x < 10 ^ j) _ ⟨0, 0, rfl, henv.sub ⟨rfl, rfl, rfl, rfl, rfl, trivial⟩, hst.pick [] [0] (by decide), (Nat.zero_le _), rfl, (by decide)⟩ ?_
  clear henv hst a
  rintro mz a w54 ⟨j, x, rfl, henv, hst, hj, hx, hxb⟩
  refine wp_seq ?_
  refine region_seq ?_
  refine sv (v := .bool (decide (((j : Nat) : Int) < ((t.length : Nat) : Int)))) henv rfl (rn_bin henv rfl rfl rfl) ?_
  clear henv a; intro a henv
  refine wpList_nil ?_
  refine th_n ?_
  refine wp_seq ?_
  refine if_split henv rfl (fun hc55 => ?_) (fun hc55 => ?_)
  · have hlt : j < t.length := by have := of_decide_eq_true hc55; omega
    obtain ⟨c, he0⟩ : ∃ c, t[j]? = some c := ⟨_, List.getElem?_eq_getElem (by omega)⟩
    have hcb := ht c (List.mem_of_getElem? he0)
    have hcd : (t.getD j 0).toNat = c.toNat := by rw [List.getD_eq_getElem?_getD, he0]; rfl
    have hpj : 10 ^ j ≤ 1000 := Nat.le_trans (Nat.pow_le_pow_right (by decide) (show j ≤ 3 by omega)) (by decide)
    refine wp_skip ?_
    refine th_n ?_
    refine wp_seq ?_
    refine wp_block ?_
    refine wp_seq ?_
    refine region_seq ?_
    revert a
    refine sA (v := .pointer (some ⟨ab (some ⟨g52, 0, none⟩), ao (some ⟨g52, 0, none⟩) + j * 1, none⟩)) rfl (fun _ henv => rn_idxR (i := j) henv Tryd.underlying62 (ty_uint8.size) rfl rfl (by omega) rfl (show (pfRow fY FY 1 (some ⟨g52, 0, none⟩) t.length c53 t).P _ from (hst.pat (k := 0) rfl)).1) ?_
    refine sA (v := .int .u8 (c.toNat : Nat)) rfl (fun _ henv => rn_loadE1 (i := j) (j := 0) (e := c) henv ty_uint8 rfl rfl fY_len (by decide) (show (pfRow fY FY 1 (some ⟨g52, 0, none⟩) t.length c53 t).P _ from (hst.pat (k := 0) rfl)).1 (by omega) he0 rfl) ?_
    refine aA rfl rfl ?_
    intro a henv
    refine wpList_nil ?_
    refine th_n ?_
    refine wp_seq ?_
    refine region_seq ?_
    revert a
    refine mA rfl rfl ?_
    refine sA (v := .int .u8 (c.toNat - 48 : Nat)) rfl (fun _ henv => rn_sub henv rfl rfl (by rw [IntWalk.u8_in _ (by (try simp only [List.length_append, List.length_cons, List.length_nil]); omega)]; omega)) ?_
    refine aA rfl rfl ?_
    intro a henv
    refine wpList_nil ?_
    refine th_n ?_
    refine wp_seq ?_
    refine wp_seq ?_
    refine region_seq ?_
    revert a
    refine mA rfl rfl ?_
    refine sA (v := .bool (decide (((c.toNat - 48 : Nat) : Int) > (9 : Int)))) rfl (fun _ henv => rn_bin henv rfl rfl rfl) ?_
    intro a henv
    rw [show (decide (((c.toNat - 48 : Nat) : Int) > (9 : Int))) = false from (decide_eq_false (by omega))] at henv
    refine wpList_nil ?_
    refine th_n ?_
    refine if_f henv rfl (rfl) ?_
    refine wp_skip ?_
    refine th_n ?_
    refine region_seq ?_
    revert a
    refine mA rfl rfl ?_
    refine sA (v := .int .i64 (x * 10 : Nat)) rfl (fun _ henv => rn_mul henv rfl rfl (by rw [IntWalk.i64_in _ (by omega)]; omega)) ?_
    refine mA rfl rfl ?_
    refine sA (v := .int .i64 (c.toNat - 48 : Nat)) rfl (fun _ henv => rn_conv henv rfl Tryd.underlying5 Tryd.underlying3 (IntWalk.i64_in _ (by omega))) ?_
    refine sA (v := .int .i64 ((x * 10) + (c.toNat - 48) : Nat)) rfl (fun _ henv => rn_add henv rfl rfl (by rw [IntWalk.i64_in _ (by omega)]; omega)) ?_
    refine aA rfl rfl ?_
    intro a henv
    refine wpList_nil ?_
    refine bl_n (th_n ?_)
    refine region_seq ?_
    revert a
    refine sA (v := .int .i64 (j + 1 : Nat)) rfl (fun _ henv => rn_add henv rfl rfl (by rw [IntWalk.i64_in _ (by omega)]; omega)) ?_
    refine mA rfl rfl ?_
    intro a henv
    refine wpList_nil ?_
    exact th_n ⟨_, (by omega), ⟨j + 1, (x * 10) + (c.toNat - 48), rfl, henv.sub ⟨rfl, rfl, rfl, rfl, rfl, trivial⟩, hst.pick [] [0] (by decide), (by omega), (by rw [numOf_take_succ hlt, ← hx, hcd]), (by rw [Nat.pow_succ]; omega)⟩⟩
  · have hxf : x = numOf t := by rw [hx, List.take_of_length_le (by have := of_decide_eq_false hc55; omega)]
    have hpj : 10 ^ j ≤ 1000 := Nat.le_trans (Nat.pow_le_pow_right (by decide) (show j ≤ 3 by omega)) (by decide)
    refine wp_exit ?_
    refine th_x (th_x (bl_x (th_n ?_)))
    refine wp_seq ?_
    refine wp_seq ?_
    refine region_seq ?_
    revert a
    refine mA rfl rfl ?_
    refine sA (v := .int .u8 (((45 :: t).getD 0 0).toNat : Nat)) rfl (fun _ henv => rn_idxS (i := 0) henv Tryd.underlying9 rfl rfl (by rw [List.length_cons]; omega)) ?_
    refine sA (v := .bool (((((45 :: t).getD 0 0).toNat : Nat) : Int) == (45 : Int))) rfl (fun _ henv => rn_bin henv rfl rfl rfl) ?_
    intro a henv
    rw [show (((((45 :: t).getD 0 0).toNat : Nat) : Int) == (45 : Int)) = true from rfl] at henv
    refine wpList_nil ?_
    refine th_n ?_
    refine if_t henv rfl (rfl) ?_
    refine region_seq ?_
    revert a
    refine mA rfl rfl ?_
    refine sA (v := .int .i64 (-((x : Nat) : Int))) rfl (fun _ henv => rn_un henv rfl (neg_i64 (by omega) (by omega))) ?_
    refine aA rfl rfl ?_
    intro a henv
    refine wpList_nil ?_
    refine th_n ?_
    refine wp_seq ?_
    refine region_seq ?_
    revert a
    refine mA rfl rfl ?_
    refine aA rfl rfl ?_
    refine aA rfl rfl ?_
    intro a henv
    refine wpList_nil ?_
    refine th_n ?_
    refine wp_ret ?_
    refine th_r ?_
    refine leave henv (res2 Tryd.results89 (RV.tmp henv rfl) (RV.tmp henv rfl)) ?_
    exact ⟨by rw [← hxf]; try rfl, hst.below⟩
theorem h_atoi0 {n : Int} {w0 : World} (h1 : -999 ≤ n) (h2 : n ≤ 999) :
    Calls Tryd.prog 89 #[.string ⟨(textZ n).toArray⟩] w0 fun e w' => e = .returned (.tuple #[.int .i64 n, .nilIface]) ∧ Below w0.heap.size w0 w' := by
  have hl := textN_len (N := n.natAbs) (k := 3) (by decide) (by omega)
  have hp : 1 ≤ (textN n.natAbs).length := List.length_pos_iff.2 (textN_ne _)
  have hd := textN_dgt n.natAbs
  rcases textZ_parts n with ⟨q, e⟩ | ⟨q, e⟩
  · have h := h_atoi0_neg (w0 := w0) hd hp hl
    rw [numOf_textN, show -((n.natAbs : Nat) : Int) = n by omega, ← e] at h
    exact h
  · have h := h_atoi0_pos (w0 := w0) hd hp hl
    rw [numOf_textN, show ((n.natAbs : Nat) : Int) = n by omega, ← e] at h
    exact h
set_option maxRecDepth 100000 in
set_option maxHeartbeats 2000000 in
theorem h_atoi {n : Int} {w0 : World} (h1 : -999 ≤ n) (h2 : n ≤ 999) :
    Calls Tryd.prog 76 #[.string ⟨(textZ n).toArray⟩] w0 fun e w' => e = .returned (.tuple #[.int .i64 n, .nilIface]) ∧ Below w0.heap.size w0 w' := by
  refine enter Tryd.func76 rfl Tryd.ntmps76 rfl ?_
  intro a henv hst
  refine wp_seq ?_
  refine region_seq ?_
  revert a
  refine aA rfl rfl ?_
  refine aA rfl rfl ?_
  intro a henv
  refine wpList_nil ?_
  refine th_n ?_
  refine wp_seq ?_
  refine region_seq ?_
  refine sv (v := .string ⟨(textZ n).toArray⟩) henv rfl (rn_move henv rfl) ?_
  clear henv a; intro a henv
  refine seq_step rfl (op_call henv rfl Tryd.call89 rfl (h_atoi0 (n := n) h1 h2) ?_)
  rintro e w51 ⟨rfl, hb⟩
  refine ⟨_, rfl, ?_⟩
  clear henv a; intro a henv
  replace hst := hst.call hb
  clear hb
  revert a
  refine mA rfl rfl ?_
  refine sA (v := .int .i64 n) rfl (fun _ henv => rn_extract henv rfl rfl) ?_
  refine sA (v := .nilIface) rfl (fun _ henv => rn_extract henv rfl rfl) ?_
  refine aA rfl rfl ?_
  refine aA rfl rfl ?_
  intro a henv
  refine wpList_nil ?_
  refine th_n ?_
  refine wp_seq ?_
  refine wp_seq ?_
  refine region_seq ?_
  revert a
  refine mA rfl rfl ?_
  refine sA (v := .bool false) rfl (fun _ henv => rn_nilneq henv Tryd.underlying75 rfl) ?_
  intro a henv
  refine wpList_nil ?_
  refine th_n ?_
  refine if_f henv rfl (rfl) ?_
  refine wp_skip ?_
  refine th_n ?_
  refine wp_seq ?_
  refine region_seq ?_
  revert a
  refine mA rfl rfl ?_
  refine aA rfl rfl ?_
  refine aA rfl rfl ?_
  intro a henv
  refine wpList_nil ?_
  refine th_n ?_
  refine wp_ret ?_
  refine leave henv (res2 Tryd.results76 (RV.tmp henv rfl) (RV.tmp henv rfl)) ?_
  exact ⟨rfl, hst.below⟩
set_option maxRecDepth 100000 in
set_option maxHeartbeats 2000000 in
theorem h_number {n : Int} {w0 : World} (hP : Pw w0) (h1 : -999 ≤ n) (h2 : n ≤ 999) :
    Calls Tryd.prog 67 #[.string ⟨(textZ n).toArray⟩] w0 fun e w' => e = .returned (.tuple #[.int .i64 n, .bool true]) ∧ Below w0.heap.size w0 w' := by
  have hlz := tz_len h1 h2
  refine enter Tryd.func67 rfl Tryd.ntmps67 rfl ?_
  intro a henv hst
  replace hst := hst.argP pfPw hP
  refine wp_seq ?_
  refine region_seq ?_
  revert a
  refine aA rfl rfl ?_
  refine aA rfl rfl ?_
  intro a henv
  refine wpList_nil ?_
  refine th_n ?_
  refine wp_seq ?_
  refine region_seq ?_
  refine sv (v := .string ⟨(textZ n).toArray⟩) henv rfl (rn_move henv rfl) ?_
  clear henv a; intro a henv
  refine seq_step rfl (op_call henv rfl Tryd.call76 rfl (h_atoi (n := n) h1 h2) ?_)
  rintro e w51 ⟨rfl, hb⟩
  refine ⟨_, rfl, ?_⟩
  clear henv a; intro a henv
  replace hst := hst.call hb
  clear hb
  revert a
  refine mA rfl rfl ?_
  refine sA (v := .int .i64 n) rfl (fun _ henv => rn_extract henv rfl rfl) ?_
  refine sA (v := .nilIface) rfl (fun _ henv => rn_extract henv rfl rfl) ?_
  refine aA rfl rfl ?_
  refine aA rfl rfl ?_
  intro a henv
  refine wpList_nil ?_
  refine th_n ?_
  refine wp_seq ?_
  refine region_seq ?_
  revert a
  refine mA rfl rfl ?_
  refine mA rfl rfl ?_
  refine sA (v := .bool true) rfl (fun _ henv => rn_nileql henv Tryd.underlying75 rfl) ?_
  refine mA rfl rfl ?_
  refine gA (v := .int .i64 n) rfl rfl rfl rfl (fun _ henv => rn_move henv rfl) ?_
  intro a henv
  refine seq_g rfl henv rfl rfl (op_call henv rfl Tryd.call45 rfl (h_itoa (n := n) (hst.pat (k := 0) rfl) (by omega) (by omega)) ?_)
  rintro e w53 ⟨rfl, hb⟩
  refine ⟨_, rfl, ?_⟩
  clear henv a; intro a henv
  replace hst := hst.call hb
  have hl52 := tz_len (n := n) (by omega) (by omega)
  clear hb
  revert a
  refine gA (v := .string ⟨(textZ n).toArray⟩) rfl rfl rfl rfl (fun _ henv => rn_move henv rfl) ?_
  refine gA (v := .bool (decide ((textZ n) = (textZ n)))) rfl rfl rfl rfl (fun _ henv => rn_eqls (s := (textZ n)) (t := (textZ n)) henv rfl rfl) ?_
  intro a henv
  rw [show (decide ((textZ n) = (textZ n))) = true from (decide_eq_true rfl)] at henv
  revert a
  refine sA (v := .bool true) rfl (fun _ henv => rn_pick henv rfl rfl) ?_
  refine mA rfl rfl ?_
  refine gA (v := .string ⟨(textZ n).toArray⟩) rfl rfl rfl rfl (fun _ henv => rn_move henv rfl) ?_
  intro a henv
  refine seq_g rfl henv rfl rfl (op_call henv rfl Tryd.call77 rfl (h_trim (s := (textZ n)) (p := [45]) (by omega)) ?_)
  rintro e w54 ⟨rfl, hb⟩
  refine ⟨_, rfl, ?_⟩
  clear henv a; intro a henv
  replace hst := hst.call hb
  clear hb
  revert a
  refine gA (v := .int .i64 ((trimP (textZ n) [45]).length : Nat)) rfl rfl rfl rfl (fun _ henv => rn_lenS henv Tryd.underlying9 rfl) ?_
  refine gA (v := .bool (decide ((((trimP (textZ n) [45]).length : Nat) : Int) ≤ (9 : Int)))) rfl rfl rfl rfl (fun _ henv => rn_bin henv rfl rfl rfl) ?_
  intro a henv
  rw [show (decide ((((trimP (textZ n) [45]).length : Nat) : Int) ≤ (9 : Int))) = true from (decide_eq_true (by have := trimP_len (textZ n) [45]; omega))] at henv
  revert a
  refine sA (v := .bool true) rfl (fun _ henv => rn_pick henv rfl rfl) ?_
  refine aA rfl rfl ?_
  refine aA rfl rfl ?_
  intro a henv
  refine wpList_nil ?_
  refine th_n ?_
  refine wp_ret ?_
  refine leave henv (res2 Tryd.results67 (RV.tmp henv rfl) (RV.tmp henv rfl)) ?_
  exact ⟨rfl, hst.below⟩
set_option maxRecDepth 100000 in
set_option maxHeartbeats 2000000 in
theorem h_register {n : Int} {w0 : World} (hP : Pw w0) (h1 : 0 ≤ n) (h2 : n ≤ 999) :
    Calls Tryd.prog 69 #[.string ⟨(pTreg n).toArray⟩] w0 fun e w' => e = .returned (.tuple #[.int .i64 n, .bool true]) ∧ Below w0.heap.size w0 w' := by
  have hlz := preg_len (n := n) (by omega) h2
  have hl1 : 1 ≤ (pTreg n).length := by unfold pTreg; simp
  refine enter Tryd.func69 rfl Tryd.ntmps69 rfl ?_
  intro a henv hst
  replace hst := hst.argP pfPw hP
  refine wp_seq ?_
  refine region_seq ?_
  revert a
  refine aA rfl rfl ?_
  refine aA rfl rfl ?_
  intro a henv
  refine wpList_nil ?_
  refine th_n ?_
  refine wp_seq ?_
  refine wp_seq ?_
  refine region_seq ?_
  refine sv (v := .string ⟨(pTreg n).toArray⟩) henv rfl (rn_move henv rfl) ?_
  clear henv a; intro a henv
  refine seq_step rfl (op_call henv rfl Tryd.call54 rfl (h_hasp (s := (pTreg n)) (p := [114]) (b := true) (by omega) (decide_eq_true rfl)) ?_)
  rintro e w51 ⟨rfl, hb⟩
  refine ⟨_, rfl, ?_⟩
  clear henv a; intro a henv
  replace hst := hst.call hb
  clear hb
  refine sv (v := .bool false) henv rfl (rn_un henv rfl rfl) ?_
  clear henv a; intro a henv
  refine wpList_nil ?_
  refine th_n ?_
  refine if_f henv rfl (rfl) ?_
  refine wp_skip ?_
  refine th_n ?_
  refine wp_seq ?_
  refine region_seq ?_
  revert a
  refine mA rfl rfl ?_
  refine sA (v := .string ⟨(textZ n).toArray⟩) rfl (fun _ henv => rn_dropS (s := (pTreg n)) (n := 1) henv Tryd.underlying9 rfl rfl (by (try simp only [List.length_append, List.length_cons, List.length_nil]); omega)) ?_
  intro a henv
  refine seq_step rfl (op_call henv rfl Tryd.call67 rfl (h_number (n := n) (hst.pat (k := 0) rfl) (by omega) h2) ?_)
  rintro e w52 ⟨rfl, hb⟩
  refine ⟨_, rfl, ?_⟩
  clear henv a; intro a henv
  replace hst := hst.call hb
  clear hb
  revert a
  refine mA rfl rfl ?_
  refine sA (v := .int .i64 n) rfl (fun _ henv => rn_extract henv rfl rfl) ?_
  refine sA (v := .bool true) rfl (fun _ henv => rn_extract henv rfl rfl) ?_
  refine aA rfl rfl ?_
  refine aA rfl rfl ?_
  intro a henv
  refine wpList_nil ?_
  refine th_n ?_
  refine wp_seq ?_
  refine region_seq ?_
  revert a
  refine mA rfl rfl ?_
  refine mA rfl rfl ?_
  refine mA rfl rfl ?_
  refine gA (v := .int .i64 n) rfl rfl rfl rfl (fun _ henv => rn_move henv rfl) ?_
  refine gA (v := .bool (decide (n ≥ (0 : Int)))) rfl rfl rfl rfl (fun _ henv => rn_bin henv rfl rfl rfl) ?_
  intro a henv
  rw [show (decide (n ≥ (0 : Int))) = true from (decide_eq_true (by omega))] at henv
  revert a
  refine sA (v := .bool true) rfl (fun _ henv => rn_pick henv rfl rfl) ?_
  refine aA rfl rfl ?_
  refine aA rfl rfl ?_
  intro a henv
  refine wpList_nil ?_
  refine th_n ?_
  refine wp_ret ?_
  refine leave henv (res2 Tryd.results69 (RV.tmp henv rfl) (RV.tmp henv rfl)) ?_
  exact ⟨rfl, hst.below⟩
end Go.Proofs.YtbdngknpngcojaaDoor.W
