/- math/bits.Len32: the kit's own text for it, turned to this claim by its template. No condition. -/
import Derived.Test.YtgopcdagnicekaaGreatDoorM1
import Derived.Test.YtgopcdagnicekaaGreatDoorRows
import Derived.Lib.Strings
import Derived.Lib.Slices
import Derived.Lib.Small
import Derived.Lib.Walk
import Derived.Lib.BitFns
set_option linter.all false
open Go.Proofs.Tryz
namespace Go.Proofs.YtgopcdagnicekaaGreatDoor
open Go
set_option maxHeartbeats 4000000 in
set_option maxRecDepth 100000 in
theorem ahs (x:Int) (w:World) (h0:0<=x) (h1:x<=4294967295):
    Calls prog 151 #[.int .u32 x] w fun e w'=>e=.returned (.int .i64 (Lib.bitLen x.toNat))/\w'=w:=by
  go_enter func151,ntmps151
  go_wp2
  all_goals (go_ret; refine ⟨aq Ending.returned (aq (Value.int IntKind.i64) ?_),rfl⟩)
  all_goals first
    | (rw [Lib.len8_of (x / 65536 / 256%256) ae ae]
       have e:(x / 65536 / 256%256).toNat=x.toNat / 16777216:=ae
       have l:=Lib.bitLen_le8' (x / 65536 / 256%256) ae ae
       have s:=Lib.bitLen_shift24 x.toNat ae ae
       rw [e] at l ⊢
       omega)
    | (rw [Lib.len8_of (x / 65536%256) ae ae]
       have e:(x / 65536%256).toNat=x.toNat / 65536:=ae
       have l:=Lib.bitLen_le8' (x / 65536%256) ae ae
       have s:=Lib.bitLen_shift16 x.toNat ae ae
       rw [e] at l ⊢
       omega)
    | (rw [Lib.len8_of (x / 256%256) ae ae]
       have e:(x / 256%256).toNat=x.toNat / 256:=ae
       have l:=Lib.bitLen_le8' (x / 256%256) ae ae
       have s:=Lib.bitLen_shift8 x.toNat ae ae
       rw [e] at l ⊢
       omega)
    | (rw [Lib.len8_of (x%256) ae ae]
       have e:(x%256).toNat=x.toNat:=ae
       have l:=Lib.bitLen_le8' (x%256) ae ae
       rw [e] at l ⊢
       omega)
theorem yY (x:Int) (h0:0<=x) (h1:x<=4294967295):Lib.bitLen x.toNat<=32:=Lib.bitLen_le x.toNat 32 ae ae
theorem amS (x:Int) (w:World) (h0:0<=x) (h1:x<=4294967295):
  Calls prog 153 #[.int .u32 x] w fun e w'=>e=.returned (.int .i64 (32 - (Lib.bitLen x.toNat:Int)))/\w'=w:=by
 have l:=yY x h0 h1
 have e8:(32 - (Lib.bitLen x.toNat:Int)+9223372036854775808)%18446744073709551616 - 9223372036854775808=32 - (Lib.bitLen x.toNat:Int):=ae
 go_enter func153,ntmps153
 go_wp2_with (go_at_call 151; refine (ahs x _ h0 h1).mono ?_; rintro e w' ⟨rfl,rfl⟩)
 go_ret
 refine ⟨?_,I⟩
 rw [<- e8]
 rfl
end Go.Proofs.YtgopcdagnicekaaGreatDoor
