/- integer.Read: the number of a text. Printed by pv/gen_iread.py. No condition. -/
import Derived.Test.YtgopcdagnicekaaGreatDoorM35
import Derived.Test.YtgopcdagnicekaaGreatDoorM36
set_option linter.all false
open Go.Proofs.Tryz
namespace Go.Proofs.YtgopcdagnicekaaGreatDoor.W
open Go.RowKit Anv Go.Lib
theorem wM {b:Bool} {A:Option Addr} {c N:Nat} {z:Int} {w:World} (h:kp w A (nl N) c (L N)) (hz:sg b N=z):
  Calls prog 64 #[.bool b,.slice A (nl N) c] w fun e w'=>∃v,e=.returned v/\sL w' v z/\Below w.heap.size w w':=by
 subst hz
 exact (nA h).mono fun _ _ ⟨he,hz,hb⟩=>⟨_,he,⟨_,_,I,hz⟩,hb⟩
def RU (f:Nat) (d:List UInt8) (k:Nat):Prop:=
 ((d.getD k 0).toNat<48∨57<(d.getD k 0).toNat)∨(k=1/\(d.getD 0 0).toNat=48)∨(k=0/\f=1/\(d.getD 0 0).toNat=48)
def Fb (f:Nat) (d:List UInt8) (b:Nat):Prop:=((b<d.length/\RU f d b)∨(b=0/\d.length=0))/\∀q,q<b->¬RU f d q
def Ok (f:Nat) (d:List UInt8):Prop:=0<d.length/\∀q,q<d.length->¬RU f d q
variable {f:Nat} {d:List UInt8}
theorem Mf {k:Nat} (h:¬RU f d k):48<=(d.getD k 0).toNat/\(d.getD k 0).toNat<=57/\(k=1->(d.getD 0 0).toNat≠48)/\(k=0->f=1->(d.getD 0 0).toNat≠48):=by
 unfold RU at h
 refine ⟨by omega,by omega,fun h1 h2=>h (.inr (.inl ⟨h1,h2⟩)),fun h1 h2 h3=>h (.inr (.inr ⟨h1,h2,h3⟩))⟩
theorem Ok.ne (h:Ok f d):d≠[]:=by intro e; have:=h.1; rw [e] at this; simp at this
theorem Ok.ok (h:Ok f d):∀j,j<d.length->¬aaE d j:=by
 intro j hj hb
 have h1:=h.2 j hj
 obtain ⟨a1,a2,_,_⟩:=Mf h1
 unfold aaE at hb
 have h48:0<j/\(d.getD 0 0).toNat=48:=ae
 have h2:=Mf (h.2 1 ae)
 exact h2.2.2.1 I h48.2
end Go.Proofs.YtgopcdagnicekaaGreatDoor.W
