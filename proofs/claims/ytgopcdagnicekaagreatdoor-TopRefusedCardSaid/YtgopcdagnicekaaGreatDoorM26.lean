/- The reference's bit; rows of the call's own, written to and cut. No condition. -/
import Derived.Test.YtgopcdagnicekaaGreatDoorM19
import Derived.Test.YtgopcdagnicekaaGreatDoorM16
set_option linter.all false
namespace Go.Proofs.YtgopcdagnicekaaGreatDoor
open Go.RowKit Anv
variable {v:Value} {g n c:Nat}
section
variable {B:Nat} {w:World} {xs:List Nat}
theorem Own.mono {B':Nat} (h:Own B 98 w v xs) (hb:B'<=B):Own B' 98 w v xs:=by
 obtain ⟨h1,h2⟩:=h
 refine ⟨h1,?_⟩
 rcases h2 with h2 | ⟨g,cap,cur,hv,hB,r⟩
 ·exact .inl h2
 ·exact .inr ⟨g,cap,cur,hv,by omega,r⟩
theorem Own.set (h:Own B 98 w (.slice (cS g) n c) xs) (i v:Nat):Own B 98 (w.setCell ⟨g,i,none⟩ (.int .u32 (v:Nat))) (.slice (cS g) n c) (xs.set i v):=by
 obtain ⟨h1,h2⟩:=h
 refine ⟨by simp,?_⟩
 rw [aP]
 rcases h2 with ⟨hv,_⟩ | ⟨g',cap,cur,hv,hB,hg,hc,hm,hs,ht⟩
 ·cases hv
 ·cases hv
  refine .inr ⟨g,c,cur.setIfInBounds i (.int .u32 (v:Nat)),I,hB,by simp [World.setCell,eO,hg],hc,hm,by simpa using hs,?_⟩
  rw [Array.toList_setIfInBounds,List.take_set,ht,fz]
theorem Own.tJ (h:Own B 98 w (.slice (cS g) n c) xs) (i:Nat) (x:Int) (v:Nat) (hv:x=(v:Nat)):Own B 98 (w.setCell ⟨g,i,none⟩ (.int .u32 x)) (.slice (cS g) n c) (xs.set i v):=by
 rw [hv]; exact h.set i v
theorem Own.far (h:Own B 98 w v xs) {p:Addr} (hp:p.block<B) (u:Value):Own B 98 (w.setCell p u) v xs:=
 ownsRow_setCell_below h hp u
theorem Own.pre {A:Option Addr} {m:Nat} (h:Own B 98 w (.slice A n c) xs) (hm:m<=n) (hn:xs.length=n):Own B 98 w (.slice A m c) (xs.take m):=by
 obtain ⟨h1,h2⟩:=h
 have hl:(xs.take m).length=m:=by rw [bJ]; omega
 refine ⟨by simp,?_⟩
 rw [hl]
 rcases h2 with ⟨hv,hz⟩ | ⟨g,cap,cur,hv,hB,hg,hc,hmx,hs,ht⟩
 ·cases hv
  obtain rfl:m=0:=ae
  exact .inl ⟨I,I⟩
 ·cases hv
  refine .inr ⟨g,c,cur,I,hB,hg,by omega,hmx,hs,?_⟩
  rw [List.map_take,<- ht,List.take_take,cW ae,gH]
end
end Go.Proofs.YtgopcdagnicekaaGreatDoor
