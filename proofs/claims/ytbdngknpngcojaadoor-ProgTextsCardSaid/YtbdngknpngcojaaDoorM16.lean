/- strings.Builder: what its two writers leave, with the whole frame. No condition. -/
import Derived.Test.YtbdngknpngcojaaDoorM15
import Derived.Lib.AppendStr
import Derived.Shelf.Strings.Builder1

namespace Go.Proofs.YtbdngknpngcojaaDoor.W
open Go.RowKit Anv Go.Lib
theorem append_str_at {P : Program} (w : World) (t u ty e : TypeId) (i : TypeInfo) (ht : P.underlying t = some (.slice e)) (hu : P.underlying u = some .string) (hi : P.info? e = some i) (hz : i.zero = some (.int .u8 0))
    (hsize : i.size = 1) (hby : i.bytes = 1) (v : Value) (n : Nat) (xs : List Value) (hown : w.ownsRow 0 e 1 v n xs) (s : ByteArray) (hbytes : n + s.size ≤ 140737488355328) :
    ∃ v' w', (Builtin.append_ #[t, u] ty #[v, .string s]).run P w = .ok v' w' ∧ w'.ownsRow 0 e 1 v' (n + s.size) (xs ++ strCells s) ∧ w.grownBy w' v.ownBlock ∧ (∀ b, v'.ownBlock = some b → v.ownBlock = some b ∨ w.heap.size ≤ b) := by
  have h63 : n + s.size ≤ maxLen := by unfold maxLen; omega
  obtain ⟨v', w', hr, h1, h2, _⟩ := run_append_own_string (P := P) w 0 t u ty e i ht hu hi hz hsize hby v n xs hown s h63 hbytes (Nat.zero_le _)
  refine ⟨v', w', hr, h1, h2, fun b hb => ?_⟩
  have hxl : xs.length = n := by simpa using hown.1
  rcases hown.2 with ⟨rfl, rfl⟩ | ⟨g, cap, cur, rfl, hbg, hg, hnc, hcm, hcs, htake⟩
  · obtain ⟨v2, w2, hr2, h3, _, _⟩ := run_append_own_string (P := P) w w.heap.size t u ty e i ht hu hi hz hsize hby (.slice none 0 0) 0 xs ⟨hown.1, .inl ⟨rfl, rfl⟩⟩ s h63 hbytes (Nat.le_refl _)
    rw [hr] at hr2
    cases hr2
    exact .inr (h3.lt b hb).1
  · by_cases hroom : n + s.size ≤ cap
    · have hcs' : cur.size = cap := by simpa using hcs
      have hr2 := run_append_room_string (P := P) w t u ty e i ht hu hi hsize g n cap cur hg s hroom (by omega)
      rw [hr] at hr2
      cases hr2
      exact .inl hb
    · have holds : ∀ j u, xs[j]? = some u → w.cell? ((⟨g, 0, none⟩ : Addr).add j) = some u := hown.cells (g := g) rfl
      have hr2 := run_append_grow_string (P := P) w t u ty e i (.int .u8 0) ht hu hi hz ⟨g, 0, none⟩ n cap xs (by rw [hsize]; simpa using hxl) holds s (by omega) (by omega) (by rw [hby]; exact growslice_fits (by omega) (by omega))
      rw [hr] at hr2
      cases hr2
      exact .inr (Nat.le_of_eq (Option.some.inj hb))
def BAddr (b : Nat) (p : Value) : Prop := p = .pointer none ∨ p = .pointer (some ⟨b, 0, none⟩)
set_option maxRecDepth 100000 in
set_option maxHeartbeats 1000000 in
theorem bld_check {b : Nat} {p v : Value} {w : World} (hb : w.heap[b]? = some (.cells #[p, v] 73 (0, 0))) (hp : BAddr b p) :
    Calls Tryd.prog 60 #[.pointer (some ⟨b, 0, none⟩)] w fun e w' => e = .returned (.tuple #[]) ∧ Upd w w' b #[.pointer (some ⟨b, 0, none⟩), v] 73 := by
  have hsz : (Tryd.prog.info? 73).map (·.size) = some 2 := by kernel_rfl
  have hlies : liesAt Tryd.prog Tryd.prog.depth 73 (2 / Tryd.prog.cellsOf 73) 0 73 1 = true := by kernel_rfl
  obtain ⟨j, hj, hjs⟩ := Option.map_eq_some_iff.1 hsz
  have h0 : w.cell? ⟨b, 0, none⟩ = some p := by rw [cell_of_row w b 0 _ _ _ hb]; rfl
  have hsh : w.shape? b = some (73, 2) := by simp [World.shape?, hb]
  have hfz : w.frozen? ⟨b, 0, none⟩ = false := by simp [World.frozen?, hb]
  rcases hp with rfl | rfl
  · refine Calls.mono (R := fun e w' => e = .returned (.tuple #[]) ∧ w' = w.setCell ⟨b, 0, none⟩ (.pointer (some ⟨b, 0, none⟩))) ?_ ?_
    · go_enter Tryd.func60, Tryd.ntmps60
      go_wp2
      rw [Lib.run_to_unsafe w ⟨b, 0, none⟩ Tryd.underlying71 Tryd.underlying100 hj (by rw [hjs]; decide) hsh (Nat.zero_lt_succ 1)]
      simp only [Result.andThen]
      rw [Oper.upon_value]
      go_wp2
      rw [run_callFunc_extern Tryd.func70 (by kernel_rfl) (by kernel_rfl) (by kernel_rfl) (e := Extern.AbiNoEscape.same) (by kernel_rfl)]
      rw [Lib.run_noEscape]
      simp only [Result.andThen]
      rw [Oper.upon_value]
      go_wp2
      rw [Lib.run_from_unsafe w ⟨b, 0, none⟩ Tryd.underlying100 Tryd.underlying71 hj hsh hlies]
      simp only [Result.andThen]
      rw [Oper.upon_value]
      go_wp2
      go_end0
      exact ⟨rfl, rfl⟩
    · rintro e w' ⟨rfl, rfl⟩
      exact ⟨rfl, setCell_upd _ hb⟩
  · refine Calls.mono (R := fun e w' => e = .returned (.tuple #[]) ∧ w' = w) ?_ ?_
    · go_enter Tryd.func60, Tryd.ntmps60
      go_wp2
      rw [Lib.run_neq_ptr_same w _ Tryd.underlying71 hj]
      go_wp2
      go_end0
      exact ⟨rfl, rfl⟩
    · rintro e w' ⟨rfl, rfl⟩
      exact ⟨rfl, Upd.refl hb⟩
theorem wpList_append_str {P : Program} {w : World} {ops : Array Oper} {rest : List Oper} {o : Oper} {a : Act} {Q : Exit → Act → World → Prop} (hgd : o.guard = none) (sl x : Operand) (t u : TypeId)
    (ho : o.op = .call { callee := .builtin .append, args := #[sl, x], argTypes := #[t, u] }) (e : TypeId) (i : TypeInfo) (ht : P.underlying t = some (.slice e)) (hu : P.underlying u = some .string) (hi : P.info? e = some i) (hz : i.zero = some (.int .u8 0))
    (hsize : i.size = 1) (hby : i.bytes = 1) (v : Value) (n : Nat) (xs : List Value) (hs : a.eval sl = v) (hown : w.ownsRow 0 e 1 v n xs) (s : ByteArray) (hx : a.eval x = .string s) (hbytes : n + s.size ≤ 140737488355328)
    (h : ∀ v' w', w'.ownsRow 0 e 1 v' (n + s.size) (xs ++ strCells s) → w.grownBy w' v.ownBlock → (∀ b, v'.ownBlock = some b → v.ownBlock = some b ∨ w.heap.size ≤ b) → wpList P ops Q rest (a.put o.dst v') w') : wpList P ops Q (o :: rest) a w := by
  refine wpList_plain hgd fun K hK => ?_
  obtain ⟨v', w', hr, h2, h3, h4⟩ := append_str_at (P := P) w t u o.type e i ht hu hi hz hsize hby v n xs hown s hbytes
  unfold Oper.wp execOp
  simp only [ho, resolve, invoke, builtin, Sem.run_bind, Sem.run_pure, Result.andThen_ok, List.map_toArray, List.map_cons, List.map_nil, hs, hx, hr]
  exact hK _ _ (h v' w' h2 h3 h4)
structure BGrown (w w' : World) (b : Nat) (v v' : Value) (n : Nat) (bs : List Value) : Prop where
  at_ : w'.heap[b]? = some (.cells #[.pointer (some ⟨b, 0, none⟩), v'] 73 (0, 0))
  row : w'.ownsRow 0 5 1 v' n bs
  ne : v'.ownBlock ≠ some b
  place : ∀ x, v'.ownBlock = some x → v.ownBlock = some x ∨ w.heap.size ≤ x
  os : w'.os = w.os
  tape : w'.tape = w.tape
  output : w'.output = w.output
  size : w.heap.size ≤ w'.heap.size
  old : ∀ x, x < w.heap.size → x ≠ b → v.ownBlock ≠ some x → w'.heap[x]? = w.heap[x]?
set_option maxRecDepth 100000 in
set_option maxHeartbeats 1000000 in
theorem bld_write {b n : Nat} {p v : Value} {bs : List Value} {w : World} {s : ByteArray} (hb : w.heap[b]? = some (.cells #[p, v] 73 (0, 0))) (hp : BAddr b p) (hown : w.ownsRow 0 5 1 v n bs) (hne : v.ownBlock ≠ some b) (hlen : n + s.size ≤ 140737488355328) :
    Calls Tryd.prog 44 #[.pointer (some ⟨b, 0, none⟩), .string s] w fun e w' => e = .returned (.tuple #[.int .i64 s.size, .nilIface]) ∧ ∃ v', BGrown w w' b v v' (n + s.size) (bs ++ strCells s) := by
  have hinfo : (Tryd.prog.info? 5).map (fun i => (i.zero, i.size, i.bytes)) = some (some (.int .u8 0), 1, 1) := by kernel_rfl
  obtain ⟨i0, hi, hi2⟩ := Option.map_eq_some_iff.1 hinfo
  simp only [Prod.mk.injEq] at hi2
  obtain ⟨hz0, hz1, hz2⟩ := hi2
  have hblt : b < w.heap.size := lt_of_block hb
  go_enter Tryd.func44, Tryd.ntmps44
  go_wp2_with fail
  refine (bld_check hb hp).mono ?_
  rintro e w1 ⟨rfl, hU⟩
  have hb1 := hU.new
  have hown1 : w1.ownsRow 0 5 1 v n bs := hown.kept (row := some b) ⟨hU.os, hU.tape, hU.output, Nat.le_of_eq hU.size.symm, fun k _ hk => hU.old k fun e => hk (by rw [e])⟩ (.inr hne)
  have hold1 := Lib.hid hU
  have c0 : w1.cell? ⟨b, 0, none⟩ = some (.pointer (some ⟨b, 0, none⟩)) := by rw [cell_of_row w1 b 0 _ _ _ hb1]; rfl
  have c1 : w1.cell? ⟨b, 1, none⟩ = some v := by rw [cell_of_row w1 b 1 _ _ _ hb1]; rfl
  have hbH := Lib.hid hb
  have hb1H := Lib.hid hb1
  clear hU hb hb1
  go_wp2_with (at_builtin; refine wpList_append_str rfl _ _ 62 9 rfl 5 i0 Tryd.underlying62 Tryd.underlying9 hi hz0 hz1 hz2 v n bs rfl hown1 s rfl hlen ?_)
  intro v' w2 hown2 hgr hat
  have hU : Upd w w1 b _ _ := hold1
  have hb1 : w1.heap[b]? = _ := hb1H
  have hblt1 : b < w1.heap.size := by rw [hU.size]; exact hblt
  have hb2 : w2.heap[b]? = some (.cells #[.pointer (some ⟨b, 0, none⟩), v] 73 (0, 0)) := (hgr.block b hblt1 fun e => hne e.symm).trans hb1
  have hne2 : v'.ownBlock ≠ some b := fun e => by
    rcases hat b e with h1 | h1
    · exact hne h1
    · omega
  have d0 : w2.cell? ⟨b, 0, none⟩ = some (.pointer (some ⟨b, 0, none⟩)) := by rw [cell_of_row w2 b 0 _ _ _ hb2]; rfl
  have d1 : w2.cell? ⟨b, 1, none⟩ = some v := by rw [cell_of_row w2 b 1 _ _ _ hb2]; rfl
  have f1 : w2.frozen? ⟨b, 1, none⟩ = false := by simp [World.frozen?, hb2]
  obtain ⟨ao, n', cap, rfl⟩ : ∃ ao n' cap, v' = .slice ao n' cap := by
    rcases hown2.2 with ⟨hv, _⟩ | ⟨g, cap, cur, hv, _⟩
    · exact ⟨_, _, _, hv⟩
    · exact ⟨_, _, _, hv⟩
  have HG := Lib.hid hgr
  have HA := Lib.hid hat
  have HN := Lib.hid hne2
  have HO := Lib.hid hown2
  have HB := Lib.hid hb2
  clear hgr hat hne2 hown2 hb2 hU hb1
  go_wp2
  go_ret2
  have hgr : w1.grownBy w2 v.ownBlock := HG
  have hU : Upd w w1 b _ _ := hold1
  have hne2 : (Value.slice ao n' cap).ownBlock ≠ some b := HN
  have hown2 : w2.ownsRow 0 5 1 (.slice ao n' cap) (n + s.size) (bs ++ strCells s) := HO
  have hb2 : w2.heap[b]? = some (.cells #[.pointer (some ⟨b, 0, none⟩), v] 73 (0, 0)) := HB
  have hat : ∀ x, (Value.slice ao n' cap).ownBlock = some x → v.ownBlock = some x ∨ w1.heap.size ≤ x := HA
  have hU2 := setCell_upd (o := 1) (.slice ao n' cap) hb2
  refine ⟨rfl, _, hU2.new, hown2.kept (row := some b) ⟨hU2.os, hU2.tape, hU2.output, Nat.le_of_eq hU2.size.symm, fun k _ hk => hU2.old k fun e => hk (by rw [e])⟩ (.inr hne2), hne2, fun x hx => ?_, hU2.os.trans (hgr.os.trans hU.os), hU2.tape.trans (hgr.tape.trans hU.tape), hU2.output.trans (hgr.output.trans hU.output), ?_, fun x hx hxb hxv => ?_⟩
  · rw [← hU.size]; exact hat x hx
  · rw [hU2.size, ← hU.size]; exact hgr.size
  · rw [hU2.old x hxb, hgr.block x (by rw [hU.size]; exact hx) (fun e => hxv e.symm), hU.old x hxb]
end Go.Proofs.YtbdngknpngcojaaDoor.W
