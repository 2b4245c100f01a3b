/- A call's beginning and end; ifs, blocks, loops. Over any program. No condition. -/
import Derived.Test.YtbdngknpngcojaaDoorM11
import Derived.Deep.LoopGhost
import Derived.Scope

namespace Go.Proofs.YtbdngknpngcojaaDoor
open Go.RowKit Anv
def ini : Nat → List Value → List (Nat × Value)
  | _, [] => []
  | k, v :: l => (k, v) :: ini (k + 1) l
theorem look_ini : ∀ (l : List Value) (k t : Nat) (v : Value), look (ini k l) t = some v → k ≤ t ∧ l[t - k]? = some v
  | [], _, _, _, h => by simp [ini, look] at h
  | u :: l, k, t, v, h => by
    unfold ini look at h
    cases hb : Nat.beq k t with
    | true =>
      rw [hb] at h
      have := Nat.eq_of_beq_eq_true hb
      subst this
      simpa using h
    | false =>
      rw [hb] at h
      have hne : k ≠ t := fun e => by subst e; rw [show Nat.beq k k = true from Nat.beq_refl k] at hb; cases hb
      have := look_ini l (k + 1) t v (by simpa using h)
      refine ⟨by omega, ?_⟩
      rw [show t - k = (t - (k + 1)) + 1 by omega]
      simpa using this.2
def RV (P : Program) (a : Act) (w : World) : ResultVar → Value → Prop
  | .tmp t, v => a.tmps.getD t undef = v
  | .cell t T, v => ∃ p, a.tmps.getD t undef = .pointer (some p) ∧ (loadVar T p).run P w = .ok v w
section
variable {P : Program} {K : Act → World → Prop} {Q : Exit → Act → World → Prop} {R : Ending → World → Prop} {N : Nat} {dq : List Deferred} {a : Act} {l : List (Nat × Value)} {w w0 : World} {own : List Bk} {ps : List PF} {fn : Func} {c x y : Code}
theorem enter {f : FuncId} {args : Array Value} (hf : P.funcs[f]? = some fn) (hb : fn.body = some c) (hn : fn.ntmps = N) (hz : Nat.ble args.size N = true)
    (h : ∀ a, Env N a (ini 0 args.toList) → St w w [] [] → c.wp P (bodyPost P fn R) a w) : Calls P f args w R := by
  refine calls_of_wp hf hb (h _ ⟨?_, rfl, fun t v hv => ?_⟩ (St.start w))
  · have := Nat.le_of_ble_eq_true hz
    simp; omega
  · have := (look_ini _ _ _ _ hv).2
    have hlt : t < args.size := by
      rcases Nat.lt_or_ge t args.size with h | h
      · exact h
      · rw [Nat.sub_zero, List.getElem?_eq_none (by simpa using h)] at this; cases this
    rw [Array.getD_eq_getD_getElem?, Array.getElem?_append_left hlt]
    simp at this
    simp [this]
theorem RV.tmp (h : EnvD dq N a l) {t : Nat} {v : Value} (hv : look l t = some v) : RV P a w (.tmp t) v := h.at hv
theorem RV.cell (h : EnvD dq N a l) {t T g n : Nat} {c : Array Value} {u : TypeId} (ht : TAgg P T n) (hv : look l t = some (.pointer (some ⟨g, 0, none⟩))) (hg : w.heap[g]? = some (.cells c u (0, 0))) (hn : c.size = n) : RV P a w (.cell t T) (.agg c) := by
  obtain ⟨⟨d, hu, hd⟩, hi⟩ := ht
  exact ⟨_, h.at hv, run_loadVar_row w g u T c (0, 0) d hg hu (by cases d <;> simp_all) (by rw [hi, hn])⟩
def rvRun (ts : Array Value) : ResultVar → Sem Value
  | .tmp t => pure (ts.getD t undef)
  | .cell t T => do loadVar T (← asAddr (ts.getD t undef))
theorem results_eq (fn : Func) (ts : Array Value) : results fn ts = (do let vs ← fn.results.mapM (rvRun ts); pure (if h : vs.size = 1 then vs[0] else .tuple vs)) := rfl
theorem rv_run {r : ResultVar} {v : Value} (h : RV P a w r v) : (rvRun a.tmps r).run P w = .ok v w := by
  cases r with
  | tmp t => simp only [RV] at h; simp only [rvRun, h]; rfl
  | cell t T =>
    obtain ⟨p, hp, hr⟩ := h
    simp only [rvRun, hp]
    simp [asAddr, hr]
theorem res1 {r : ResultVar} {v : Value} (h : fn.results = #[r]) (h1 : RV P a w r v) : (results fn a.tmps).run P w = .ok v w := by
  have h1 := rv_run h1
  simp only [results_eq, h, List.mapM_toArray, List.mapM_cons, List.mapM_nil]
  simp [h1]
theorem res2 {r r' : ResultVar} {v v' : Value} (h : fn.results = #[r, r']) (h1 : RV P a w r v) (h2 : RV P a w r' v') : (results fn a.tmps).run P w = .ok (.tuple #[v, v']) w := by
  have h1 := rv_run h1
  have h2 := rv_run h2
  simp only [results_eq, h, List.mapM_toArray, List.mapM_cons, List.mapM_nil]
  simp [h1, h2]
theorem res3 {r r' r'' : ResultVar} {v v' v'' : Value} (h : fn.results = #[r, r', r'']) (h1 : RV P a w r v) (h2 : RV P a w r' v') (h3 : RV P a w r'' v'') : (results fn a.tmps).run P w = .ok (.tuple #[v, v', v'']) w := by
  have h1 := rv_run h1
  have h2 := rv_run h2
  have h3 := rv_run h3
  simp only [results_eq, h, List.mapM_toArray, List.mapM_cons, List.mapM_nil]
  simp [h1, h2, h3]
theorem res0 (h : fn.results = #[]) : (results fn a.tmps).run P w = .ok (.tuple #[]) w := by simp [results, h]
theorem leave {v : Value} (h : Env N a l) (hr : (results fn a.tmps).run P w = .ok v w) (hR : R (.returned v) w) : bodyPost P fn R .ret a w := ⟨h.defers, v, hr, hR⟩
theorem leave_end {v : Value} (h : Env N a l) (hr : (results fn a.tmps).run P w = .ok v w) (hR : R (.returned v) w) : bodyPost P fn R .normal a w := ⟨h.defers, v, hr, hR⟩
theorem th_n (h : K a w) : Exit.then K Q .normal a w := h
theorem th_x {i : Nat} (h : Q (.exit i) a w) : Exit.then K Q (.exit i) a w := h
theorem th_r (h : Q .ret a w) : Exit.then K Q .ret a w := h
theorem bl_n {i : Nat} (h : Q .normal a w) : Exit.inBlock i Q .normal a w := h
theorem bl_r {i : Nat} (h : Q .ret a w) : Exit.inBlock i Q .ret a w := h
theorem bl_x {i : Nat} (h : Q .normal a w) : Exit.inBlock i Q (.exit i) a w := by simpa [Exit.inBlock] using h
theorem bl_o {i j : Nat} (hn : Nat.beq j i = false) (h : Q (.exit j) a w) : Exit.inBlock i Q (.exit j) a w := by
  have : j ≠ i := fun e => by subst e; rw [show Nat.beq j j = true from Nat.beq_refl j] at hn; cases hn
  simpa [Exit.inBlock, this] using h
theorem sc_r (h : Q .ret a w) : Exit.noGoto Q .ret a w := h
theorem if_split {z : Operand} {b : Bool} (h : EnvD dq N a l) (hz : evl l z = some (.bool b)) (ht : b = true → x.wp P Q a w) (hf : b = false → y.wp P Q a w) : (Code.cond z x y).wp P Q a w := wp_cond_split (h.ev hz) ht hf
theorem if_t {z : Operand} {b : Bool} (h : EnvD dq N a l) (hz : evl l z = some (.bool b)) (hb : b = true) (ht : x.wp P Q a w) : (Code.cond z x y).wp P Q a w := wp_cond_true (hb ▸ h.ev hz) ht
theorem if_f {z : Operand} {b : Bool} (h : EnvD dq N a l) (hz : evl l z = some (.bool b)) (hb : b = false) (ht : y.wp P Q a w) : (Code.cond z x y).wp P Q a w := wp_cond_false (hb ▸ h.ev hz) ht
theorem region_seq {id : Nat} {ops : List Oper} (h : wpList P ops.toArray Q ops a w) : (Code.region id ops.toArray false).wp P Q a w := wp_region_lit h
end
end Go.Proofs.YtbdngknpngcojaaDoor

/- Facts on the types. No condition. -/
namespace Go.Proofs.YtbdngknpngcojaaDoor
open Go.RowKit
set_option maxRecDepth 100000
theorem ty_int : TOne Tryd.prog 3 := ⟨⟨_, Tryd.underlying3, rfl⟩, by kernel_rfl⟩
theorem zero_int : ∃ i, Tryd.prog.info? 3 = some i ∧ i.zero = some (.int .i64 0) := ⟨_, rfl, rfl⟩
theorem ty_bool : TOne Tryd.prog 4 := ⟨⟨_, Tryd.underlying4, rfl⟩, by kernel_rfl⟩
theorem ty_uint8 : TOne Tryd.prog 5 := ⟨⟨_, Tryd.underlying5, rfl⟩, by kernel_rfl⟩
theorem zero_uint8 : ∃ i, Tryd.prog.info? 5 = some i ∧ i.zero = some (.int .u8 0) := ⟨_, rfl, rfl⟩
theorem ty_string : TOne Tryd.prog 9 := ⟨⟨_, Tryd.underlying9, rfl⟩, by kernel_rfl⟩
theorem zero_string : ∃ i, Tryd.prog.info? 9 = some i ∧ i.zero = some (.string ⟨#[]⟩) := ⟨_, rfl, rfl⟩
theorem ty__api_Instr : TOne Tryd.prog 22 := ⟨⟨_, Tryd.underlying22, rfl⟩, by kernel_rfl⟩
theorem ty__int : TOne Tryd.prog 23 := ⟨⟨_, Tryd.underlying23, rfl⟩, by kernel_rfl⟩
theorem ty_anvil_api_Prog : TAgg Tryd.prog 25 4 := ⟨⟨_, Tryd.underlying25, rfl⟩, by kernel_rfl⟩
theorem fd_anvil_api_Prog_0 : TField Tryd.prog 25 0 0 3 := ⟨_, _, Tryd.underlying25, rfl, rfl, rfl⟩
theorem fd_anvil_api_Prog_1 : TField Tryd.prog 25 1 1 3 := ⟨_, _, Tryd.underlying25, rfl, rfl, rfl⟩
theorem fd_anvil_api_Prog_2 : TField Tryd.prog 25 2 2 22 := ⟨_, _, Tryd.underlying25, rfl, rfl, rfl⟩
theorem fd_anvil_api_Prog_3 : TField Tryd.prog 25 3 3 23 := ⟨_, _, Tryd.underlying25, rfl, rfl, rfl⟩
theorem zero_anvil_api_Prog : ∃ i, Tryd.prog.info? 25 = some i ∧ i.zero = some (.agg #[.int .i64 0, .int .i64 0, .slice none 0 0, .slice none 0 0]) := ⟨_, rfl, rfl⟩
theorem ty_anvil_api_Errno : TOne Tryd.prog 27 := ⟨⟨_, Tryd.underlying27, rfl⟩, by kernel_rfl⟩
theorem ty_anvil_api_Instr : TAgg Tryd.prog 37 5 := ⟨⟨_, Tryd.underlying37, rfl⟩, by kernel_rfl⟩
theorem fd_anvil_api_Instr_0 : TField Tryd.prog 37 0 0 3 := ⟨_, _, Tryd.underlying37, rfl, rfl, rfl⟩
theorem fd_anvil_api_Instr_1 : TField Tryd.prog 37 1 1 3 := ⟨_, _, Tryd.underlying37, rfl, rfl, rfl⟩
theorem fd_anvil_api_Instr_2 : TField Tryd.prog 37 2 2 3 := ⟨_, _, Tryd.underlying37, rfl, rfl, rfl⟩
theorem fd_anvil_api_Instr_3 : TField Tryd.prog 37 3 3 3 := ⟨_, _, Tryd.underlying37, rfl, rfl, rfl⟩
theorem fd_anvil_api_Instr_4 : TField Tryd.prog 37 4 4 3 := ⟨_, _, Tryd.underlying37, rfl, rfl, rfl⟩
theorem zero_anvil_api_Instr : ∃ i, Tryd.prog.info? 37 = some i ∧ i.zero = some (.agg #[.int .i64 0, .int .i64 0, .int .i64 0, .int .i64 0, .int .i64 0]) := ⟨_, rfl, rfl⟩
theorem ty_anvil_api_Spot : TAgg Tryd.prog 59 2 := ⟨⟨_, Tryd.underlying59, rfl⟩, by kernel_rfl⟩
theorem fd_anvil_api_Spot_0 : TField Tryd.prog 59 0 0 27 := ⟨_, _, Tryd.underlying59, rfl, rfl, rfl⟩
theorem fd_anvil_api_Spot_1 : TField Tryd.prog 59 1 1 3 := ⟨_, _, Tryd.underlying59, rfl, rfl, rfl⟩
theorem zero_anvil_api_Spot : ∃ i, Tryd.prog.info? 59 = some i ∧ i.zero = some (.agg #[.int .i64 0, .int .i64 0]) := ⟨_, rfl, rfl⟩
theorem zero_strings_Builder : ∃ i, Tryd.prog.info? 73 = some i ∧ i.zero = some (.agg #[.pointer none, .slice none 0 0]) := ⟨_, rfl, rfl⟩
theorem ty__uint32 : TOne Tryd.prog 93 := ⟨⟨_, Tryd.underlying93, rfl⟩, by kernel_rfl⟩
theorem fd_anvil_anvilref02_Int_0 : TField Tryd.prog 95 0 0 4 := ⟨_, _, Tryd.underlying95, rfl, rfl, rfl⟩
theorem fd_anvil_anvilref02_Int_1 : TField Tryd.prog 95 1 1 93 := ⟨_, _, Tryd.underlying95, rfl, rfl, rfl⟩
theorem ty_uint32 : TOne Tryd.prog 105 := ⟨⟨_, Tryd.underlying105, rfl⟩, by kernel_rfl⟩
theorem zero_uint32 : ∃ i, Tryd.prog.info? 105 = some i ∧ i.zero = some (.int .u32 0) := ⟨_, rfl, rfl⟩
theorem ty_uint64 : TOne Tryd.prog 106 := ⟨⟨_, Tryd.underlying106, rfl⟩, by kernel_rfl⟩
theorem zero__24_uint8 : ∃ i, Tryd.prog.info? 110 = some i ∧ i.zero = some (.agg #[.int .u8 0, .int .u8 0, .int .u8 0, .int .u8 0, .int .u8 0, .int .u8 0, .int .u8 0, .int .u8 0, .int .u8 0, .int .u8 0, .int .u8 0, .int .u8 0, .int .u8 0, .int .u8 0, .int .u8 0, .int .u8 0, .int .u8 0, .int .u8 0, .int .u8 0, .int .u8 0, .int .u8 0, .int .u8 0, .int .u8 0, .int .u8 0]) := ⟨_, rfl, rfl⟩
theorem mixed : Tryd.prog.follows .mixedOrders = true := by kernel_rfl
end Go.Proofs.YtbdngknpngcojaaDoor

/- Slices written out. Over any program. No condition. -/
namespace Go.Proofs.YtbdngknpngcojaaDoor
open Go.RowKit Anv
section
variable {P : Program} {K : Act → World → Prop} {Q : Exit → Act → World → Prop} {N : Nat} {dq : List Deferred} {a : Act} {l : List (Nat × Value)} {w w0 : World} {own : List Bk} {ps : List PF}
variable {d : Nat} {ty : TypeId} {pos : String} {af : Array Edge} {gd : Option (Nat × Bool)}
theorem op_buildSlice {T E n z : Nat} {parts : Array (Nat × Operand)} {pv : Array (Nat × Value)} {zv : Value} {c : Array Value} (h : EnvD dq N a l) (hs : St w0 w own ps) (hd : Nat.blt d N = true)
    (hT : P.underlying T = some (.slice E)) (hE : ∃ i, P.info? E = some i ∧ i.size = z) (hz : ∃ i, P.info? E = some i ∧ i.zero = some zv) (hn : n * z ≤ 1000000) (hn0 : n * z ≠ 0)
    (hp : parts.toList.map (fun p => (p.1, evl l p.2)) = pv.toList.map (fun p => (p.1, some p.2)))
    (hf : Instr.fill (fun i => some (i * z, z)) ((Array.range (n * z)).map (zv.cells[· % zv.cells.size]!)) pv.toList = some c)
    (hK : ∀ a' w' g, EnvD dq N a' ((d, .slice (some ⟨g, 0, none⟩) n n) :: l) → St w0 w' (⟨g, c, E⟩ :: own) ps → K a' w') :
    Oper.wp P ⟨some d, .buildSlice T n parts, ty, pos, af, gd⟩ a w K Q := by
  have he : parts.map (fun (i, x) => (i, a.eval x)) = pv := by
    apply Array.ext'
    rw [Array.toList_map]
    generalize parts.toList = xl at hp ⊢
    generalize pv.toList = vl at hp ⊢
    induction xl generalizing vl with
    | nil => cases vl with
      | nil => rfl
      | cons => simp at hp
    | cons x xl ih => cases vl with
      | nil => simp at hp
      | cons v vl =>
        simp only [List.map_cons, List.cons.injEq, Prod.mk.injEq] at hp ⊢
        refine ⟨?_, ih vl hp.2⟩
        obtain ⟨i, x⟩ := x
        obtain ⟨j, v⟩ := v
        have h1 : i = j := hp.1.1
        have h2 := h.ev hp.1.2
        subst h1
        exact Prod.ext rfl h2
  obtain ⟨i, hi, hv⟩ := hz
  have hzv : (zeroValue E).run P w = .ok zv w := by simp [zeroValue, typeInfo, hi, hv]
  have hr : (execOp a.eval ⟨some d, .buildSlice T n parts, ty, pos, af, gd⟩).run P w = .ok (.value (.slice (some ⟨w.heap.size, 0, none⟩) n n)) (w.alloc (.cells c E)) := by
    simp only [execOp, he, Instr.buildSlice, Sem.run_bind, run_underlying hT w, Result.andThen_ok, run_sizeOf hE, if_neg (show ¬ n * z > 2 ^ 24 by omega), if_neg hn0, hzv, Sem.run_pure, hf]
    rfl
  unfold Oper.wp
  rw [hr]
  exact hK _ _ _ (h.put hd _) (hs.push _ _)
end
end Go.Proofs.YtbdngknpngcojaaDoor

/- Zero value, cells, bytes of types. No condition. -/
namespace Go.Proofs.YtbdngknpngcojaaDoor
open Go.RowKit
set_option maxRecDepth 100000
theorem inf_anvil_api_Instr : (Tryd.prog.info? 37).map (fun i => (i.zero, i.size, i.bytes)) = some (some (.agg #[.int .i64 0, .int .i64 0, .int .i64 0, .int .i64 0, .int .i64 0]), 5, 40) := by kernel_rfl
theorem inf_int : (Tryd.prog.info? 3).map (fun i => (i.zero, i.size, i.bytes)) = some (some (.int .i64 0), 1, 8) := by kernel_rfl
theorem inf_string : (Tryd.prog.info? 9).map (fun i => (i.zero, i.size, i.bytes)) = some (some (.string ⟨#[]⟩), 1, 16) := by kernel_rfl
end Go.Proofs.YtbdngknpngcojaaDoor
