/- Rows of the call's own, appended to: as lists of numbers. No condition. -/
import Derived.Test.YtbdngknpngcojaaDoorM3
import Derived.Maps.AppendAt
import Derived.StillTailTactics
import Derived.Deep.AppendLies

namespace Go.Proofs.YtbdngknpngcojaaDoor
open Go.RowKit Anv
def Own (B : Nat) (e : TypeId) (w : World) (v : Value) (xs : List Nat) : Prop := w.ownsRow B e 1 v xs.length (xs.map fun n => Value.int .u32 (n : Nat))
theorem Own.nil (B : Nat) (e : TypeId) (w : World) : Own B e w (.slice none 0 0) [] := World.ownsRow_nil w B e 1
section
variable {B : Nat} {e : TypeId} {w w' : World} {v : Value} {xs : List Nat}
theorem Own.u32 (h : Own B e w v xs) (hl : AllLt 4294967296 xs) : ∃ A c, v = .slice A xs.length c ∧ U32 w A xs.length c xs ∧ ∀ a, A = some a → B ≤ a.block := by
  have hh := h
  obtain ⟨_, h2⟩ := h
  rcases h2 with ⟨hv, hn⟩ | ⟨g, cap, cur, hv, hB, hg, hc, hm, hs, ht⟩
  · refine ⟨none, 0, by rw [hn]; exact hv, ⟨rfl, by omega, by simp [maxLen], hl, fun hp => by omega⟩, fun a ha => by cases ha⟩
  · refine ⟨some ⟨g, 0, none⟩, cap, hv, ⟨rfl, hc, hm, hl, fun hp => ⟨g, 0, rfl, ?_, fun i hi => ?_⟩⟩, fun a ha => by cases ha; exact hB⟩
    · exact (hh.lt g (by rw [hv]; rfl)).2
    · have h3 := hh.cells (g := g) (by rw [hv]; rfl) i (.int .u32 (xs.getD i 0 : Nat)) (by simp [List.getD, hi])
      have e1 : (⟨g, 0, none⟩ : Addr).add i = ⟨g, 0 + i, none⟩ := by unfold Addr.add; split <;> simp_all
      rwa [e1] at h3
theorem Own.below {B0 : Nat} (h : Own B e w v xs) (hb : Below B0 w w') (hg : w.heap.size ≤ B0) : Own B e w' v xs := by
  obtain ⟨h1, h2⟩ := h
  refine ⟨h1, ?_⟩
  rcases h2 with h2 | ⟨g, cap, cur, hv, hB, hgg, r⟩
  · exact .inl h2
  · refine .inr ⟨g, cap, cur, hv, hB, ?_, r⟩
    have hlt : g < w.heap.size := (Array.getElem?_eq_some_iff.1 hgg).1
    rw [hb.block g (by omega)]; exact hgg
theorem Own.drew (h : Own B e w v xs) : Own B e w.drew v xs := h
end
theorem cells_new (w : World) (e : TypeId) (ys : List Nat) : ∀ j u, (ys.map fun n => Value.int .u32 (n : Nat))[j]? = some u → (w.alloc (.cells (nums .u32 ys) e)).cell? ((⟨w.heap.size, 0, none⟩ : Addr).add j) = some u := by
  intro j u hj
  have e1 : (⟨w.heap.size, 0, none⟩ : Addr).add j = ⟨w.heap.size, j, none⟩ := by unfold Addr.add; split <;> simp_all
  rw [e1, cell_of_row (w.alloc (.cells (nums .u32 ys) e)) w.heap.size j (nums .u32 ys) e (0, 0) (heap_alloc_new w _)]
  simpa [nums] using hj
theorem one_nums (ys : List Nat) : ∀ u ∈ (ys.map fun n => Value.int .u32 (n : Nat)), u.oneCell' = true := by
  intro u hu
  obtain ⟨y, _, rfl⟩ := List.mem_map.1 hu
  rfl
section
variable {P : Program}
theorem run_append_nums (w : World) (t ty e : TypeId) (bytes : Nat) (ht : P.underlying t = some (.slice e)) (hi : (P.info? e).map (fun i => (i.zero, i.size, i.bytes)) = some (some (.int .u32 0), 1, bytes))
    (B : Nat) (v : Value) (xs : List Nat) (hown : Own B e w v xs) (a : Addr) (m c : Nat) (ys : List Nat) (hm : ys.length = m)
    (hys : ∀ j u, (ys.map fun n => Value.int .u32 (n : Nat))[j]? = some u → w.cell? (a.add j) = some u)
    (h63 : xs.length + m ≤ maxLen) (hbytes : (xs.length + m) * bytes ≤ 140737488355328) (hB : B ≤ w.heap.size) :
    ∃ v' w', (Builtin.append_ #[t, t] ty #[v, .slice (some a) m c]).run P w = .ok v' w' ∧ Own B e w' v' (xs ++ ys) ∧ w.heap.size ≤ w'.heap.size ∧ (∀ B0 w0, B0 ≤ B → Below B0 w0 w → Below B0 w0 w') := by
  obtain ⟨i, hi1, hi2⟩ := Option.map_eq_some_iff.1 hi
  simp only [Prod.mk.injEq] at hi2
  obtain ⟨hz, hs, hb⟩ := hi2
  obtain ⟨v', w', hrun, h2, h3, _⟩ := run_append_own_at (P := P) w B t ty e i _ 1 bytes ht hi1 hz hs hb rfl (by omega) v xs.length _ hown a m c (ys.map fun n => Value.int .u32 (n : Nat)) (by simp [hm]) hys (one_nums ys) h63 hbytes hB
  refine ⟨v', w', hrun, ?_, h3.size, fun B0 w0 hB0 hb0 => hb0.grown h3 (by omega) (fun k hk => ?_)⟩
  · unfold Own
    rw [List.map_append, List.length_append, hm]
    exact h2
  · have := (hown.lt k hk).1
    omega
theorem wpList_append_new {ops : Array Oper} {rest : List Oper} {o : Oper} {a : Act} {Q : Exit → Act → World → Prop} (w : World) (hgd : o.guard = none) (s x : Operand) (t : TypeId)
    (ho : o.op = .call { callee := .builtin .append, args := #[s, x], argTypes := #[t, t] })
    (e : TypeId) (bytes : Nat) (ht : P.underlying t = some (.slice e)) (hi : (P.info? e).map (fun i => (i.zero, i.size, i.bytes)) = some (some (.int .u32 0), 1, bytes))
    (B : Nat) (v : Value) (xs : List Nat) (hown : Own B e w v xs) (m : Nat) (cs : Array Value) (ys : List Nat) (hcs : cs = nums .u32 ys) (hm : ys.length = m)
    (hs : a.eval s = v) (hx : a.eval x = .slice (some ⟨w.heap.size, 0, none⟩) m m)
    (h63 : xs.length + m ≤ maxLen) (hbytes : (xs.length + m) * bytes ≤ 140737488355328) (hB : B ≤ w.heap.size)
    (h : ∀ v' w', Own B e w' v' (xs ++ ys) → w.heap.size ≤ w'.heap.size → (∀ B0 w0, B0 ≤ B → Below B0 w0 w → Below B0 w0 w') → wpList P ops Q rest (a.put o.dst v') w') :
    wpList P ops Q (o :: rest) a (w.alloc (.cells cs e)) := by
  subst hcs
  have hsz : (w.alloc (.cells (nums .u32 ys) e)).heap.size = w.heap.size + 1 := by simp
  obtain ⟨v', w', hrun, h2, h3, h4⟩ := run_append_nums (P := P) (w.alloc (.cells (nums .u32 ys) e)) t o.type e bytes ht hi B v xs (hown.below (below1 w _) (Nat.le_refl _)) ⟨w.heap.size, 0, none⟩ m m ys hm (cells_new w e ys) h63 hbytes (by omega)
  refine wpList_plain hgd fun K hK => ?_
  unfold Oper.wp
  simp [execOp, ho, resolve, invoke, builtin, hs, hx, hrun, Result.andThen]
  exact hK _ _ (h v' w' h2 (by omega) (fun B0 w0 hB0 hb0 => h4 B0 w0 hB0 (hb0.alloc (by omega) _)))
end
end Go.Proofs.YtbdngknpngcojaaDoor
