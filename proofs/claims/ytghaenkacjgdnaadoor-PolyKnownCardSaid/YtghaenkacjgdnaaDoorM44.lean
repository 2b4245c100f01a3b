/- strings.Builder.Grow at a builder that has not been written. No condition. -/
import Derived.Test.YtghaenkacjgdnaaDoorM14
import Derived.Lib.MakeNoZero
import Derived.Lib.Builder

namespace Go.Proofs.YtghaenkacjgdnaaDoor.W
open Go.RowKit Anv Go.Lib
theorem grown_bg {b : Nat} {p : Value} {w : World} {cs : Array Value} (hbk : w.heap[b]? = some (.cells #[p, .slice none 0 0] 131 (0, 0))) (hp : p = .pointer (some ⟨b, 0, none⟩)) (hm : cs.size ≤ maxLen) :
    BGrown w (((w.alloc (.cells cs 5)).setCell ⟨b, 1, none⟩ (.slice (some ⟨w.heap.size, 0, none⟩) 0 cs.size)).drew.drew.drew) b (.slice none 0 0) (.slice (some ⟨w.heap.size, 0, none⟩) 0 cs.size) 0 [] := by
  subst hp
  have hlt : b < w.heap.size := lt_of_block hbk
  have hb2 : (w.alloc (.cells cs 5)).heap[b]? = some (.cells #[.pointer (some ⟨b, 0, none⟩), .slice none 0 0] 131 (0, 0)) := (Lib.alloc_old w _ b hlt).trans hbk
  have hu := setCell_upd (o := 1) (.slice (some ⟨w.heap.size, 0, none⟩) 0 cs.size) hb2
  have hne : w.heap.size ≠ b := by omega
  refine ⟨hu.new, ⟨by simp, .inr ⟨w.heap.size, cs.size, cs, rfl, Nat.zero_le _, ?_, Nat.zero_le _, hm, by simp, by simp⟩⟩, fun e => hne (by simpa [Value.ownBlock] using e), fun x hx => .inr (Nat.le_of_eq (by simpa [Value.ownBlock] using hx)), hu.os, hu.tape, hu.output, ?_, fun x hx hxb _ => ?_⟩
  · exact (hu.old _ hne).trans (heap_alloc_new w _)
  · have h1 := hu.size
    have h2 := (below1 w (.cells cs 5)).size
    exact Nat.le_trans h2 (Nat.le_of_eq h1.symm)
  · exact (hu.old x hxb).trans (Lib.alloc_old w _ x hx)
theorem grown_bg2 {b : Nat} {p : Value} {w : World} {cs : Array Value} (hbk : w.heap[b]? = some (.cells #[p, .slice none 0 0] 131 (0, 0))) (hp : p = .pointer (some ⟨b, 0, none⟩)) (hm : cs.size ≤ maxLen) :
    BGrown w (((w.setCell ⟨b, 1, none⟩ (.slice (some ⟨w.heap.size, 0, none⟩) 0 cs.size)).alloc (.cells cs 5)).drew.drew.drew) b (.slice none 0 0) (.slice (some ⟨w.heap.size, 0, none⟩) 0 cs.size) 0 [] := by
  subst hp
  have hlt : b < w.heap.size := lt_of_block hbk
  have hu := setCell_upd (o := 1) (.slice (some ⟨w.heap.size, 0, none⟩) 0 cs.size) hbk
  have hne : w.heap.size ≠ b := by omega
  have hs := hu.size
  generalize w.setCell ⟨b, 1, none⟩ (.slice (some ⟨w.heap.size, 0, none⟩) 0 cs.size) = w1 at hu hs
  have hnew : (w1.alloc (.cells cs 5)).heap[w.heap.size]? = some (.cells cs 5 (0, 0)) := by rw [← hs]; exact heap_alloc_new w1 _
  refine ⟨(Lib.alloc_old w1 _ b (by omega)).trans hu.new, ⟨by simp, .inr ⟨w.heap.size, cs.size, cs, rfl, Nat.zero_le _, hnew, Nat.zero_le _, hm, by simp, by simp⟩⟩, fun e => hne (by simpa [Value.ownBlock] using e), fun x hx => .inr (Nat.le_of_eq (by simpa [Value.ownBlock] using hx)), hu.os, hu.tape, hu.output, ?_, fun x hx hxb _ => ?_⟩
  · have h2 := (below1 w1 (.cells cs 5)).size
    exact Nat.le_trans (Nat.le_of_eq hs.symm) h2
  · exact (Lib.alloc_old w1 _ x (by omega)).trans (hu.old x hxb)
set_option maxHeartbeats 2000000 in
set_option maxRecDepth 1000000 in
theorem bld_grow0 {b n : Nat} {w : World} (hbk : w.heap[b]? = some (.cells #[.pointer (some ⟨b, 0, none⟩), .slice none 0 0] 131 (0, 0))) (hn : n ≤ 281474976710656) :
    Calls Tryd.prog 116 #[.pointer (some ⟨b, 0, none⟩), .int .i64 n] w fun e w' => e = .returned (.tuple #[]) ∧ ∃ v', BGrown w w' b (.slice none 0 0) v' 0 [] := by
  obtain ⟨cs, hrun, hle, hmax⟩ := Lib.run_makeNoZero (P := Tryd.prog) w.drew #[3] 81 5 Tryd.underlying81 n hn
  have hw : IntKind.i64.wrap (IntKind.i64.wrap 0 + (n : Int)) = n := by
    rw [IntKind.wrap_i64, IntKind.wrap_i64]
    omega
  have hcall : (callFunc 121 #[.int .i64 (IntKind.i64.wrap (IntKind.i64.wrap 0 + (n : Int)))]).run Tryd.prog w.drew = .ok (.value (.slice (some ⟨w.drew.heap.size, 0, none⟩) n cs.size)) (w.drew.drew.drew.alloc (.cells cs 5)) := by
    rw [hw, run_callFunc_extern Tryd.func121 (by kernel_rfl) (by kernel_rfl) (by kernel_rfl) (e := Extern.BytealgMakeNoZero.makeNoZero #[3] #[81]) (by kernel_rfl), hrun]
    rfl
  have hlt : b < w.heap.size := lt_of_block hbk
  have c1 : w.drew.cell? ⟨b, 1, none⟩ = some (.slice none 0 0) := by
    have : w.drew.heap[b]? = _ := hbk
    rw [Lib.cell_of_heap this]; rfl
  have c2 : (w.alloc (.cells cs 5)).cell? ⟨b, 1, none⟩ = some (.slice none 0 0) := by
    have : (w.alloc (.cells cs 5)).heap[b]? = _ := (Lib.alloc_old w _ b hlt).trans hbk
    rw [Lib.cell_of_heap this]; rfl
  have f2 : (w.alloc (.cells cs 5)).frozen? ⟨b, 1, none⟩ = false := Lib.frozen_of_heap ((Lib.alloc_old w _ b hlt).trans hbk) 1
  have hcopy : ∀ W : World, (Builtin.copy_ #[81, 81] 3 #[.slice (some ⟨w.heap.size, 0, none⟩) 0 cs.size, .slice none 0 0]).run Tryd.prog W = .ok (goInt 0) W :=
    fun W => run_copy_none W 81 81 3 5 _ _ 0 cs.size 0 0 Tryd.underlying81 (by kernel_rfl) rfl
  have hfin := grown_bg (cs := cs) hbk rfl (hmax (by unfold maxLen; omega))
  have hfin2 := grown_bg2 (cs := cs) hbk rfl (hmax (by unfold maxLen; omega))
  have mixed := mixed
  have HF2 := Lib.hid hfin2
  have HB := Lib.hid hbk
  have HF := Lib.hid hfin
  clear hw hbk hfin hfin2
  go_enter Tryd.func116, Tryd.ntmps116
  go_wp2
  go_region_o
  all_goals (go_wp2; go_end0; first | exact ⟨rfl, _, HF⟩ | exact ⟨rfl, _, HF2⟩)
theorem BGrown.after {w w1 w' : World} {b : Nat} {v' : Value} (hU : Upd w w1 b #[.pointer (some ⟨b, 0, none⟩), .slice none 0 0] 131) (hG : BGrown w1.drew w' b (.slice none 0 0) v' 0 []) : BGrown w w' b (.slice none 0 0) v' 0 [] := by
  have hs : w1.drew.heap.size = w.heap.size := hU.size
  refine ⟨hG.at_, hG.row, hG.ne, fun x hx => ?_, hG.os.trans hU.os, hG.tape.trans hU.tape, hG.output.trans hU.output, by have := hG.size; omega, fun x hx hxb hv => (hG.old x (by omega) hxb hv).trans (hU.old x hxb)⟩
  rcases hG.place x hx with h | h
  · exact .inl h
  · exact .inr (by omega)
theorem BGrown.same {w w1 : World} {b : Nat} (hU : Upd w w1 b #[.pointer (some ⟨b, 0, none⟩), .slice none 0 0] 131) : BGrown w w1.drew b (.slice none 0 0) (.slice none 0 0) 0 [] :=
  ⟨hU.new, World.ownsRow_nil _ _ _ _, by simp [Value.ownBlock], fun x hx => .inl hx, hU.os, hU.tape, hU.output, Nat.le_of_eq hU.size.symm, fun x _ hxb _ => hU.old x hxb⟩
set_option maxHeartbeats 2000000 in
set_option maxRecDepth 1000000 in
theorem bld_Grow0 {b n : Nat} {p : Value} {w : World} (hb : w.heap[b]? = some (.cells #[p, .slice none 0 0] 131 (0, 0))) (hp : BAddr b p) (hn : n ≤ 281474976710656) :
    Calls Tryd.prog 109 #[.pointer (some ⟨b, 0, none⟩), .int .i64 n] w fun e w' => e = .returned (.tuple #[]) ∧ ∃ v', BGrown w w' b (.slice none 0 0) v' 0 [] := by
  go_enter Tryd.func109, Tryd.ntmps109
  have mixed := mixed
  go_wp2_with fail
  refine (bld_check hb hp).mono ?_
  rintro e w1 ⟨rfl, hU⟩
  have hU2 := Lib.hid hU
  have c1 : w1.drew.cell? ⟨b, 1, none⟩ = some (.slice none 0 0) := by
    have : w1.drew.heap[b]? = _ := hU.new
    rw [Lib.cell_of_heap this]; rfl
  have c1' : w1.cell? ⟨b, 1, none⟩ = some (.slice none 0 0) := c1
  have hbH := Lib.hid hb
  clear hU hb
  go_wp2_with fail
  go_region_o
  all_goals go_wp2_with fail
  · have hU3 : Upd w w1 b #[.pointer (some ⟨b, 0, none⟩), .slice none 0 0] 131 := hU2
    have hn3 : w1.drew.heap[b]? = some (.cells #[.pointer (some ⟨b, 0, none⟩), .slice none 0 0] 131 (0, 0)) := hU3.new
    refine (bld_grow0 (w := w1.drew) hn3 hn).mono ?_
    rintro e w' ⟨rfl, v', hG⟩
    go_wp2
    go_end0
    exact ⟨rfl, _, BGrown.after hU2 hG⟩
  · go_end0
    exact ⟨rfl, _, BGrown.same hU2⟩
section
variable {K : Act → World → Prop} {Q : Exit → Act → World → Prop} {N : Nat} {dq : List Deferred} {a : Act} {l : List (Nat × Value)} {w w0 : World} {own ps : List PF}
variable {d : Nat} {ty : TypeId} {pos : String} {af : Array Edge} {gd : Option (Nat × Bool)}
set_option maxRecDepth 100000 in
theorem op_growB {k b n : Nat} {x y : Operand} {Ts : Array TypeId} (h : EnvD dq N a l) (hs : St w0 w own ps) (hd : Nat.blt d N = true) (hx : evl l x = some (.pointer (some ⟨b, 0, none⟩))) (hy : evl l y = some (.int .i64 (n : Nat)))
    (hk : own[k]? = some (bldF b (.slice none 0 0) 0 [])) (hn : n ≤ 281474976710656)
    (hK : ∀ a' w' v', EnvD dq N a' ((d, .tuple #[]) :: l) → St w0 w' (own.set k (bldF b v' 0 [])) ps → K a' w') :
    Oper.wp Tryd.prog ⟨some d, .call ⟨.value (.func 109), #[x, y], Ts⟩, ty, pos, af, gd⟩ a w K Q := by
  obtain ⟨⟨p, hp, hb⟩, hr, hne⟩ := hs.owns hk
  refine op_call h hd Tryd.call109 (vs := #[.pointer (some ⟨b, 0, none⟩), .int .i64 (n : Nat)]) (by simp [hx, hy]) (bld_Grow0 hb hp hn) ?_
  rintro e w' ⟨rfl, v', hG⟩
  refine ⟨_, rfl, fun a' ha' => hK a' w' v' ha' (hs.step' hk ?_ ?_ hG.os hG.tape hG.output hG.size fun x hx hnf => hG.old x hx (fun e => hnf (.inl e)) (fun e => hnf (.inr e)))⟩
  · exact ⟨⟨_, .inr rfl, hG.at_⟩, hG.row, hG.ne⟩
  · intro x hx
    rcases hx with rfl | hx
    · exact .inl (.inl rfl)
    · rcases hG.place x hx with h1 | h1
      · exact .inl (.inr h1)
      · exact .inr h1
end
end Go.Proofs.YtghaenkacjgdnaaDoor.W
