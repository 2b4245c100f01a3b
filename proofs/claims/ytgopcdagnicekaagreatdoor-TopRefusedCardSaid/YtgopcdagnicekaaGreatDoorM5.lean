/- Rows of the call's own, appended to: as lists of numbers. No condition. -/
import Derived.Test.YtgopcdagnicekaaGreatDoorM3
import Derived.StillTailTactics
import Derived.Deep.AppendLies
set_option linter.all false
namespace Go.Proofs.YtgopcdagnicekaaGreatDoor
open Go.RowKit Anv
def Own (B:Nat) (e:TypeId) (w:World) (v:Value) (xs:List Nat):Prop:=w.ownsRow B e 1 v xs.length (xs.map fun n=>Value.int .u32 (n:Nat))
theorem Own.nil (B:Nat) (e:TypeId) (w:World):Own B e w bM []:=World.ownsRow_nil w B e 1
section
variable {B:Nat} {e:TypeId} {w w':World} {v:Value} {xs:List Nat}
theorem Own.u32 (h:Own B e w v xs) (hl:dZ 4294967296 xs):∃A c,v=.slice A xs.length c/\kp w A xs.length c xs/\∀a,A=some a->B<=a.block:=by
 have hh:=h
 obtain ⟨_,h2⟩:=h
 rcases h2 with ⟨hv,hn⟩ | ⟨g,cap,cur,hv,hB,hg,hc,hm,hs,ht⟩
 ·refine ⟨none,0,by rw [hn]; exact hv,⟨rfl,by omega,by simp [maxLen],hl,fun hp=>ae⟩,fun a ha=>by cases ha⟩
 ·refine ⟨cS g,cap,hv,⟨I,hc,hm,hl,fun hp=>⟨g,0,I,?_,fun i hi=>?_⟩⟩,fun a ha=>by cases ha; exact hB⟩
  ·exact (hh.lt g (by rw [hv]; rfl)).2
  ·have h3:=hh.cells (by rw [hv]; rfl) i (.int .u32 (xs.getD i 0:Nat)) (by simp [List.getD,hi])
   have e1:(⟨g,0,none⟩:Addr).add i=⟨g,0+i,none⟩:=by unfold Addr.add; split<;>simp_all
   rwa [e1] at h3
theorem Own.below {B0:Nat} (h:Own B e w v xs) (hb:Below B0 w w') (hg:w.heap.size<=B0):Own B e w' v xs:=by
 obtain ⟨h1,h2⟩:=h
 refine ⟨h1,?_⟩
 rcases h2 with h2 | ⟨g,cap,cur,hv,hB,hgg,r⟩
 ·exact .inl h2
 ·refine .inr ⟨g,cap,cur,hv,hB,?_,r⟩
  have fh:g<w.heap.size:=(gK.1 hgg).1
  rw [hb.block g ae]; exact hgg
theorem Own.drew (h:Own B e w v xs):Own B e w.drew v xs:=h
end
theorem On (w:World) (e:TypeId) (ys:List Nat):∀j u,(ys.map fun n=>Value.int .u32 (n:Nat))[j]?=some u->(w.alloc (.cells (qJ .u32 ys) e)).cell? ((⟨w.heap.size,0,none⟩:Addr).add j)=some u:=by
 intro j u hj
 have e1:(⟨w.heap.size,0,none⟩:Addr).add j=⟨w.heap.size,j,none⟩:=by unfold Addr.add; split<;>simp_all
 rw [e1,cell_of_row (w.alloc (.cells (qJ .u32 ys) e)) w.heap.size j (qJ .u32 ys) e (0,0) (heap_alloc_new w _)]
 simpa [qJ] using hj
section
variable {P:Program}
end
end Go.Proofs.YtgopcdagnicekaaGreatDoor
