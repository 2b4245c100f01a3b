/- limb.Norm. No condition. -/
import Derived.Test.YtnldopjbiacbfaaArr
import Derived.Test.YtnldopjbiacbfaaTrim
namespace Go.Proofs.Ytnldopjbiacbfaa
open Go.RowKit Anv

theorem norm_num {A : Option Addr} {n c N : Nat} {w : World} (h : NumIn w A n c N) (hN : nl N ≤ 1000000) :
    Calls Try.prog 57 #[.slice A n c] w fun e w' => ∃ v, e = .returned v ∧ NumAt w.heap.size w' v N ∧ Below w.heap.size w w' := by
  go_enter Try.func57, Try.ntmps57
  go_wp2_with fail
  refine (trim_num _ _ _ _ _ h).mono ?_
  rintro e w' ⟨rfl, hU, rfl⟩
  have HU := Lib.hid hU
  clear hU h
  go_wp2_with (first | (at_make; refine wpList_make_nums _ rfl _ _ 22 rfl 74 .u32 4 Try.underlying22 info_u32 _ _ _ _ (nl N) rfl rfl (by omega) (by omega) (by omega) (by omega) ?_; intro w1 hA1 hB1 hz1; have HA := Lib.hid hA1; have HB := Lib.hid hB1; clear hA1 hB1 hz1) | (with_reducible refine wpList_copy_nums rfl (.tmp 9) (.tmp 10) _ _ rfl _ Try.underlying22 size_u32 _ _ _ _ _ _ _ _ rfl rfl HA.out (by simp) (HU.out.below HB.out) _ _ HB.out (Nat.le_refl _) ?_; intro w2 hA2 hB2; have HA2 := Lib.hid hA2; have HB2 := Lib.hid hB2; clear hA2 hB2))
  go_ret
  exact ⟨_, rfl, ⟨_, _, rfl, HA2.out.u32 (L_lt N) rfl (by show nl N ≤ _; simp only [maxLen]; omega), fun a ha => by cases ha; exact Nat.le_refl _⟩, HB2.out⟩

end Go.Proofs.Ytnldopjbiacbfaa
