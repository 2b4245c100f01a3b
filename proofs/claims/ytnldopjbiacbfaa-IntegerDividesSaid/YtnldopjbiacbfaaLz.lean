/- math/bits.LeadingZeros32: the kit's own text for it, turned to this claim by its template. No condition. -/
import Derived.Test.YtnldopjbiacbfaaLen
namespace Go.Proofs.Ytnldopjbiacbfaa
open Go

theorem bitLen_le32 (x : Int) (h0 : 0 ≤ x) (h1 : x ≤ 4294967295) : Lib.bitLen x.toNat ≤ 32 := Lib.bitLen_le x.toNat 32 (by omega) (by omega)

theorem lz32 (x : Int) (w : World) (h0 : 0 ≤ x) (h1 : x ≤ 4294967295) :
    Calls Try.prog 66 #[.int .u32 x] w fun e w' => e = .returned (.int .i64 (32 - (Lib.bitLen x.toNat : Int))) ∧ w' = w := by
  have l := bitLen_le32 x h0 h1
  have e8 : (32 - (Lib.bitLen x.toNat : Int) + 9223372036854775808) % 18446744073709551616 - 9223372036854775808 = 32 - (Lib.bitLen x.toNat : Int) := by omega
  go_enter Try.func66, Try.ntmps66
  go_wp2_with (go_at_call 71; refine (len32 x _ h0 h1).mono ?_; rintro e w' ⟨rfl, rfl⟩)
  go_ret
  refine ⟨?_, rfl⟩
  rw [← e8]
  rfl

end Go.Proofs.Ytnldopjbiacbfaa
