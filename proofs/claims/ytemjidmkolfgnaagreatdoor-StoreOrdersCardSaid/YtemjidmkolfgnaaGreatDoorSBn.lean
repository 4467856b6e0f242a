/-
  Short names. No condition.
-/
import Derived.Calls
import Derived.Below
import Derived.Lib.Hide
namespace Go.Proofs.YtemjidmkolfgnaaGreatDoor
theorem nl (n:Nat):n≤n:=Nat.le_refl n
theorem zr {n:Nat}:n≤n:=Nat.le_refl n
theorem zb {B:Nat} (w:Go.World):Go.RowKit.Below B w w:=Go.RowKit.Below.refl B w
theorem zh {p:Prop} (h:p):Go.RowKit.Hid p:=h
theorem pz:(∀(a:Go.Act) (d:Nat) (v:Go.Value),a.put (some d) v={a with tmps:=a.tmps.setIfInBounds d v })∧(∀(a:Go.Act) (v:Go.Value),a.put none v=a):=⟨λ_ _ _=>rfl,λ_ _=>rfl⟩
theorem pw {α:Type}:(∀(l:List α) (i:Nat) (a:α),l.toArray.setIfInBounds i a=(l.set i a).toArray)∧(∀(a b:α) (l:List α),(a::l).set 0 b=b::l)∧(∀(a b:α) (l:List α) (n:Nat),(a::l).set (n+1) b=a::l.set n b):=⟨λ_ _ _=>List.setIfInBounds_toArray ..,λ_ _ _=>rfl,λ_ _ _ _=>rfl⟩
end Go.Proofs.YtemjidmkolfgnaaGreatDoor
