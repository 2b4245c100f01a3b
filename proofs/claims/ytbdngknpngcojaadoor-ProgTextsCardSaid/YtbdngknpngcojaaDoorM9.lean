/- A number's text, piece by piece: plain laws, no program. No condition. -/
import Derived.Test.YtbdngknpngcojaaDoorM1
import Derived.Lib.TrimByte

namespace Go.Proofs.YtbdngknpngcojaaDoor
open Anv
def dch (d : Nat) : UInt8 := UInt8.ofNat (48 + d)
def textN (N : Nat) : List UInt8 := if N = 0 then [48] else (dig 10 N).reverse.map dch
def padK (j X : Nat) : List UInt8 := (List.range j).map fun i => dch (X / 10 ^ (j - 1 - i) % 10)
theorem textN_ten {q d : Nat} (hq : 0 < q) (hd : d < 10) : textN (q * 10 + d) = textN q ++ [dch d] := by
  unfold textN
  rw [if_neg (by omega), if_neg (by omega), dig_pos (by omega) (show 0 < q * 10 + d by omega), show (q * 10 + d) % 10 = d by omega, show (q * 10 + d) / 10 = q by omega]
  simp
theorem textN_one {d : Nat} (h0 : 0 < d) (hd : d < 10) : textN d = [dch d] := by
  unfold textN
  rw [if_neg (by omega), dig_pos (by omega) h0, show d / 10 = 0 by omega, dig_zero, show d % 10 = d by omega]
  rfl
end Go.Proofs.YtbdngknpngcojaaDoor
