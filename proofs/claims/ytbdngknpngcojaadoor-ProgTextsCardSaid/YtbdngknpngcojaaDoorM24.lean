/- Numbers as lists of limbs: sizes, rows that the call has written out, results. No condition. -/
import Derived.Test.YtbdngknpngcojaaDoorM15
import Derived.Test.YtbdngknpngcojaaDoorM6
import Derived.Test.YtbdngknpngcojaaDoorM23

namespace Go.Proofs.YtbdngknpngcojaaDoor.W
open Go.RowKit Anv
theorem nl_val {w : World} {A : Option Addr} {n c : Nat} {xs : List Nat} (h : U32 w A n c xs) : nl (val 4294967296 xs) ≤ n := nl_len ⟨xs, h, rfl⟩
theorem lt1 {q : Nat} (h : q < 4294967296) : AllLt 4294967296 [q] := by intro x hx; simp at hx; omega
section
variable {w0 w w' : World} {own ps : List PF}
theorem St.giveU (h : St w0 w own ps) {k g n : Nat} {xs : List Nat} {t : TypeId} (hk : own[k]? = some (bk g (nums .u32 xs) t)) (hl : AllLt 4294967296 xs) (hn : xs.length = n) (hm : n ≤ maxLen) :
    St w0 w (own.eraseIdx k) (pfU (some ⟨g, 0, none⟩) n n xs :: ps) :=
  h.give hk (pfU (some ⟨g, 0, none⟩) n n xs) (Arr.u32 (t := t) (h.oat hk) hl hn hm) fun b hf => by
    obtain ⟨_, off, e⟩ := hf
    cases e
    rfl
end
end Go.Proofs.YtbdngknpngcojaaDoor.W
