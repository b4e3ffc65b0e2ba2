/-
  Determinants: expansion by the last row, Cramer's rule, bounds, products. No program is named.
-/
import Derived.Test.YthakmiiaejhlbaaZ6X1
set_option linter.all false
namespace Go.M
open Go.K
def eu (s:Nat):Nat→Int:=fun k=>if k=s then 1 else 0
theorem q108 {f:Nat→Int}:∀ {n:Nat},(∀ k,k < n→0≤f k)→0≤sumN f n
 | 0, _ => Int.le_refl _
 | n + 1, h => by
   have:=q108 (n:=n) fun k hk=>h k (by omega)
   have:=h n (by omega)
   show 0≤sumN f n+f n
   omega
def Inj (q:Nat→Nat) (k C:Nat):Prop:=(∀ b,b < k→q b < C)∧∀ a b,a < k→b < k→q a=q b→a=b
def insr (j:Nat) (f:Nat→Int):Nat→Int:=fun c=>if c=j then 0 else f (if c < j then c else c - 1)
def ins (n j:Nat) (w:Nat→Nat→Int):Nat→Nat→Int:=fun i=>if i < n then insr j (w i) else eu j
end Go.M
