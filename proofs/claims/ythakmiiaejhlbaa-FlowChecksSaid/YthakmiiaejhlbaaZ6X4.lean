/-
  Solutions of least support: how great their numbers can be. No program is named.
-/
import Derived.Test.YthakmiiaejhlbaaZ6X3
set_option linter.all false
namespace Go.M
open Go.K
section
variable {n c:Nat} {A:Nat→Nat→Int} {y:Nat→Int}
def MinQ (n c:Nat) (A:Nat→Nat→Int) (y:Nat→Int) (r:Nat) (q p:Nat→Nat):Prop :=
 (∀ a,a < r→q a < n∧y (q a)≠0)∧(∀ b,b < r→p b < c)∧det r (fun a b=>A (q b) (p a))≠0
theorem MinQ.p {r:Nat} {q p:Nat→Nat} (h:MinQ n c A y r q p):Inj p r c:=by
 refine ⟨h.2.1,fun a b ha hb e=>?_⟩
 apply Classical.byContradiction
 intro hne
 exact h.2.2 ((qzc r).eq' ha hb hne (by funext k; show A (q k) (p a)=A (q k) (p b); rw [e]))
theorem MinQ.q {r:Nat} {q p:Nat→Nat} (h:MinQ n c A y r q p):Inj q r n:=by
 refine ⟨fun a ha=>(h.1 a ha).1,fun a b ha hb e=>?_⟩
 apply Classical.byContradiction
 intro hne
 exact h.2.2 ((qzf r).eq' (v:=fun b a=>A (q b) (p a)) ha hb hne (by funext k; show A (q a) (p k)=A (q b) (p k); rw [e]))
end
end Go.M
