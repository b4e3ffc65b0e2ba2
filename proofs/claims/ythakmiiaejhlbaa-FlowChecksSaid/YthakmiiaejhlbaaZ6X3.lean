/-
  Solutions of least support of homogeneous equations: what elimination keeps. No program is named.
-/
import Derived.Test.YthakmiiaejhlbaaZ6X2
set_option linter.all false
namespace Go.M
open Go.K
def Sol (n c:Nat) (A:Nat→Nat→Int) (y:Nat→Int):Prop:=(∀ i,i < n→0≤y i)∧∀ j,j < c→sumN (fun i=>y i*A i j) n=0
def NZ (n:Nat) (y:Nat→Int):Prop:=∃ i,i < n∧y i≠0
def Sup (n:Nat) (y z:Nat→Int):Prop:=∀ i,i < n→y i≠0→z i≠0
def MinS (n c:Nat) (A:Nat→Nat→Int) (y:Nat→Int):Prop:=Sol n c A y∧NZ n y∧∀ z,Sol n c A z→NZ n z→Sup n z y→Sup n y z
def EqN (n:Nat) (y z:Nat→Int):Prop:=∀ i,i < n→y i=z i
theorem Sup.trans {n:Nat} {x y z:Nat→Int} (h1:Sup n x y) (h2:Sup n y z):Sup n x z:=fun i hi h=>h2 i hi (h1 i hi h)
theorem Sup.refl (n:Nat) (x:Nat→Int):Sup n x x:=fun _ _ h=>h
variable {n c:Nat} {A:Nat→Nat→Int}
def gN (y:Nat→Int):Nat→Nat
 | 0 => 0
 | n + 1 => Nat.gcd (gN y n) (y n).natAbs
def Prim (n:Nat) (y:Nat→Int):Prop:=gN y n=1
end Go.M
