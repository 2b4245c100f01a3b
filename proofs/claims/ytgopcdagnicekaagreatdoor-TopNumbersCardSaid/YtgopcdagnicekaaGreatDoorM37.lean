/- integer.Read: the number of a text. Printed by pv/gen_iread.py. No condition. -/
import Derived.Test.YtgopcdagnicekaaGreatDoorM1
import Derived.Test.YtgopcdagnicekaaGreatDoorM12
import Derived.Test.YtgopcdagnicekaaGreatDoorM35
import Derived.Test.YtgopcdagnicekaaGreatDoorM36

set_option linter.unusedVariables false
set_option linter.unusedSimpArgs false
set_option linter.all false
namespace Go.Proofs.YtgopcdagnicekaaGreatDoor.W
open Go.RowKit Anv Go.Lib
theorem tF {b:Bool} {A:Option Addr} {c N:Nat} {z:Int} {w:World} (h:eT w A (nl N) c (L N)) (hz:sg b N=z):
  Calls Tryz.prog 64 #[.bool b,.slice A (nl N) c] w fun e w'=>∃v,e=.returned v/\pj w' v z/\Below w.heap.size w w':=by
 subst hz
 exact (jT h).mono fun _ _ ⟨he,hz,hb⟩=>⟨_,he,⟨_,_,rfl,hz⟩,hb⟩
def PX (f:Nat) (d:List UInt8) (k:Nat):Prop:=
 ((d.getD k 0).toNat<48∨57<(d.getD k 0).toNat)∨(k=1/\(d.getD 0 0).toNat=48)∨(k=0/\f=1/\(d.getD 0 0).toNat=48)
def Fb (f:Nat) (d:List UInt8) (b:Nat):Prop:=((b<d.length/\PX f d b)∨(b=0/\d.length=0))/\∀q,q<b->¬PX f d q
def Ok (f:Nat) (d:List UInt8):Prop:=0<d.length/\∀q,q<d.length->¬PX f d q
theorem Kx {f k:Nat} {d:List UInt8} (h:¬PX f d k):48<=(d.getD k 0).toNat/\(d.getD k 0).toNat<=57/\(k=1->(d.getD 0 0).toNat≠48)/\(k=0->f=1->(d.getD 0 0).toNat≠48):=by
 unfold PX at h
 refine ⟨by omega,by omega,fun h1 h2=>h (.inr (.inl ⟨h1,h2⟩)),fun h1 h2 h3=>h (.inr (.inr ⟨h1,h2,h3⟩))⟩
theorem Ok.ok {f:Nat} {d:List UInt8} (h:Ok f d):∀j,j<d.length->¬YH d j:=by
 intro j hj hb
 have h1:=h.2 j hj
 obtain ⟨a1,a2,_,_⟩:=Kx h1
 unfold YH at hb
 have h48:0<j/\(d.getD 0 0).toNat=48:=ae
 have h2:=Kx (h.2 1 ae)
 exact h2.2.2.1 rfl h48.2
end Go.Proofs.YtgopcdagnicekaaGreatDoor.W
