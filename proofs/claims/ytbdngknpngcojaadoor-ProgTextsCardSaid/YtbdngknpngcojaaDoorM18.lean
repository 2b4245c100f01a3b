/- Arrays, bytes and strings, the builder as a resource. No condition but those of the walked writers. -/
import Derived.Test.YtbdngknpngcojaaDoorM16
import Derived.Test.YtbdngknpngcojaaDoorM17
import Derived.Laws.IdiomStrings

namespace Go.Proofs.YtbdngknpngcojaaDoor.W
open Go.RowKit Anv Go.Lib
section
variable {P : Program} {K : Act → World → Prop} {Q : Exit → Act → World → Prop} {N : Nat} {dq : List Deferred} {a : Act} {l : List (Nat × Value)} {w w0 : World} {own ps : List PF}
variable {d : Nat} {ty : TypeId} {pos : String} {af : Array Edge} {gd : Option (Nat × Bool)}
theorem rn_idxA {x y : Operand} {T E i n z p g o : Nat} {k : IntKind} (h : EnvD dq N a l) (hT : P.underlying T = some (.array n E)) (hE : ∃ j, P.info? E = some j ∧ j.size = z) (hx : evl l x = some (.pointer (some ⟨g, o, none⟩))) (hy : evl l y = some (.int k (i : Nat))) (hi : i < n) (hp : o + i * z = p) :
    (execOp a.eval ⟨some d, .indexAddr T x y, ty, pos, af, gd⟩).run P w = .ok (.value (.pointer (some ⟨g, p, none⟩))) w := by
  subst hp
  simp [execOp, h.ev hx, h.ev hy, Instr.indexAt, Instr.sureAddr, Sem.run_bind, asIntOf, run_underlying hT w, hi, run_sizeOf hE, Addr.add_mid]
theorem rn_bytesStr {x : Operand} {S T E g cap n : Nat} {t : TypeId} {c : Array Value} {s : List UInt8} (h : EnvD dq N a l) (hS : P.underlying S = some (.slice E)) (hE : P.underlying E = some (.int .u8)) (hT : P.underlying T = some .string)
    (hx : evl l x = some (.slice (some ⟨g, 0, none⟩) n cap)) (hn : s.length = n) (hg : w.heap[g]? = some (.cells c t (0, 0))) (hc : ∀ j, j < n → c[j]? = some (.int .u8 ((s.getD j 0).toNat : Nat))) :
    (execOp a.eval ⟨some d, .convert S T x, ty, pos, af, gd⟩).run P w = .ok (.value (.string ⟨s.toArray⟩)) w := by
  subst hn
  have := run_convert_bytes_back (P := P) w S T E ⟨g, 0, none⟩ cap s hS hE hT (fun j hj => by
    have e1 : (⟨g, 0, none⟩ : Addr).add j = ⟨g, j, none⟩ := by unfold Addr.add; split <;> simp_all
    rw [e1, cell_of_row w g j c t (0, 0) hg, hc j hj]
    simp [List.getD, hj])
  simp only [execOp, h.ev hx]
  rw [Sem.run_bind, this]
  rfl
end
def bldF (b : Nat) (v : Value) (n : Nat) (bs : List Value) : PF :=
  ⟨fun w => (∃ p, BAddr b p ∧ w.heap[b]? = some (.cells #[p, v] 73 (0, 0))) ∧ w.ownsRow 0 5 1 v n bs ∧ v.ownBlock ≠ some b, fun x => x = b ∨ v.ownBlock = some x,
    fun h hx => by
      obtain ⟨⟨p, _, hb⟩, hr, _⟩ := h
      rcases hx with rfl | hx
      · exact lt_of_block hb
      · exact (hr.lt _ hx).2,
    fun {w w'} h _ hk => by
      obtain ⟨⟨p, hp, hb⟩, hr, hne⟩ := h
      refine ⟨⟨p, hp, (hk b (.inl rfl)).trans hb⟩, ⟨hr.1, ?_⟩, hne⟩
      rcases hr.2 with hn | ⟨g, cap, cur, rfl, h0, hg, rest⟩
      · exact .inl hn
      · exact .inr ⟨g, cap, cur, rfl, h0, (hk g (.inr rfl)).trans hg, rest⟩⟩
theorem St.bld {w0 w : World} {own ps : List PF} {k g : Nat} (h : St w0 w own ps) (hk : own[k]? = some (bk g #[.pointer none, .slice none 0 0] 73)) : St w0 w (own.set k (bldF g (.slice none 0 0) 0 [])) ps := by
  refine h.step' hk ?_ ?_ rfl rfl rfl (Nat.le_refl _) fun _ _ _ => rfl
  · exact ⟨⟨_, .inl rfl, h.oat hk⟩, World.ownsRow_nil _ _ _ _, by simp [Value.ownBlock]⟩
  · intro b hb
    rcases hb with rfl | hb
    · exact .inl rfl
    · simp [Value.ownBlock] at hb
section
variable {K : Act → World → Prop} {Q : Exit → Act → World → Prop} {N : Nat} {dq : List Deferred} {a : Act} {l : List (Nat × Value)} {w w0 : World} {own ps : List PF}
variable {d : Nat} {ty : TypeId} {pos : String} {af : Array Edge} {gd : Option (Nat × Bool)}
set_option maxRecDepth 100000 in
theorem op_write {k b n : Nat} {x y : Operand} {v : Value} {bs : List Value} {s : ByteArray} {Ts : Array TypeId} (h : EnvD dq N a l) (hs : St w0 w own ps) (hd : Nat.blt d N = true) (hx : evl l x = some (.pointer (some ⟨b, 0, none⟩))) (hy : evl l y = some (.string s))
    (hk : own[k]? = some (bldF b v n bs)) (hlen : n + s.size ≤ 140737488355328)
    (hK : ∀ a' w' v', EnvD dq N a' ((d, .tuple #[.int .i64 s.size, .nilIface]) :: l) → St w0 w' (own.set k (bldF b v' (n + s.size) (bs ++ strCells s))) ps → K a' w') :
    Oper.wp Tryd.prog ⟨some d, .call ⟨.value (.func 44), #[x, y], Ts⟩, ty, pos, af, gd⟩ a w K Q := by
  obtain ⟨⟨p, hp, hb⟩, hr, hne⟩ := hs.owns hk
  refine op_call h hd Tryd.call44 (vs := #[.pointer (some ⟨b, 0, none⟩), .string s]) (by simp [hx, hy]) (bld_write hb hp hr hne hlen) ?_
  rintro e w' ⟨rfl, v', hG⟩
  refine ⟨_, rfl, fun a' ha' => hK a' w' v' ha' (hs.step' hk ?_ ?_ hG.os hG.tape hG.output hG.size fun x hx hnf => hG.old x hx (fun e => hnf (.inl e)) (fun e => hnf (.inr e)))⟩
  · exact ⟨⟨_, .inr rfl, hG.at_⟩, hG.row, hG.ne⟩
  · intro x hx
    rcases hx with rfl | hx
    · exact .inl (.inl rfl)
    · rcases hG.place x hx with h1 | h1
      · exact .inl (.inr h1)
      · exact .inr h1
set_option maxRecDepth 100000 in
theorem op_bstr {k b n : Nat} {x : Operand} {v : Value} {s : List UInt8} {Ts : Array TypeId} (h : EnvD dq N a l) (hs : St w0 w own ps) (hd : Nat.blt d N = true) (hx : evl l x = some (.pointer (some ⟨b, 0, none⟩)))
    (hk : own[k]? = some (bldF b v n (byteCells s)))
    (hK : ∀ a' w', EnvD dq N a' ((d, .string ⟨s.toArray⟩) :: l) → St w0 w' [] [] → K a' w') :
    Oper.wp Tryd.prog ⟨some d, .call ⟨.value (.func 48), #[x], Ts⟩, ty, pos, af, gd⟩ a w K Q := by
  obtain ⟨⟨p, hp, hb⟩, hr, hne⟩ := hs.owns hk
  have hn : n = (byteCells s).length := by have := hr.1; omega
  subst hn
  have hnew := hs.new _ (List.mem_of_getElem? hk)
  have hAt : ∀ p, w.heap[b]? = some (.cells #[p, v] 73 (0, 0)) → BuilderAtF 73 5 w0.heap.size b p (byteCells s) w := fun p hb => by
    refine ⟨hnew b (.inl rfl), v, hb, World.ownsRowF_of ⟨hr.1, ?_⟩, hne⟩
    rcases hr.2 with hn | ⟨g, cap, cur, rfl, h0, hg, rest⟩
    · exact .inl hn
    · exact .inr ⟨g, cap, cur, rfl, hnew g (.inr rfl), hg, rest⟩
  have hI : IsBuilderF 73 5 w0.heap.size b (byteCells s) w := by
    rcases hp with rfl | rfl
    · exact .inl (hAt _ hb)
    · exact .inr (hAt _ hb)
  refine op_call h hd Tryd.call48 (vs := #[.pointer (some ⟨b, 0, none⟩)]) (by simp [hx]) (sh_Builder_String_any_k w0.heap.size b s w hI hs.below.size) ?_
  rintro e w' ⟨rfl, _, hB, _⟩
  exact ⟨_, rfl, fun a' ha' => hK a' w' ha' ⟨hs.below.trans hB, fun e h => by simp at h, fun e h => by simp at h, List.Pairwise.nil, fun p h => by simp at h, fun p h => by simp at h⟩⟩
end
end Go.Proofs.YtbdngknpngcojaaDoor.W
