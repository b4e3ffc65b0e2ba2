/-
  Freechoice: the classes of a net, by uniting (the program) and by spreading (the reference).
-/
import Derived.Test.YtdhfhpdadbopkaaGreatZ3G2
set_option linter.all false
namespace Go.Proofs.YtdhfhpdadbopkaaGreat
open Go.K Go.M
def InB(M:Nat)(ts:List af):Prop:=∀t∈ts,(t.2.1.length≤60∧t.2.2.1.length≤60)∧(∀x∈t.2.1,0≤x∧x<(M:Int))∧∀x∈t.2.2.1,0≤x∧x<(M:Int)
def qh5(f:Nat→Bool):Nat→Nat
 |0=>0
 |n+1=>qh5 f n+(if f n=true then 0 else 1)
theorem qm9{f g:Nat→Bool}(h:∀z,f z=true→g z=true):∀n,qh5 g n≤qh5 f n
 |0=>Nat.le_refl _
 |n+1=>by
  have:=qm9 h n;have:=h n;unfold qh5;split<;>split<;>first|omega|(rename_i h1 h2;exact absurd (h n h2) h1)
theorem jdz{f g:Nat→Bool}(h:∀z,f z=true→g z=true):∀{n z:Nat},z<n→f z=false→g z=true→qh5 g n<qh5 f n
 |0,_,hz,_,_=>by omega
 |n+1,z,hz,h1,h2=>by
  unfold qh5;by_cases e:z=n
  ·subst e;have:=qm9 h z;rw[if_pos h2,if_neg (by simp[h1])];omega
  ·have:=jdz h (n:=n) (z:=z) (by omega) h1 h2;have:=h n;split<;>split<;>first|omega|(rename_i h3 h4;exact absurd (h n h4) h3)
theorem jdy(f:Nat→Bool):∀n,qh5 f n≤n
 |0=>Nat.le_refl _
 |n+1=>by have:=jdy f n;unfold qh5;split<;>omega
def qqp(f:Nat→Bool)(i:Nat):Nat→Bool:=fun z=>if z=i then true else f z
abbrev bL(N:Nat)(f:Nat→Bool):List Bool:=c6 N f
theorem qk0(N:Nat)(f:Nat→Bool):(bL N f).length=N:=jk6 _ _
theorem qzz{N:Nat}{f:Nat→Bool}{i:Nat}(h:i<N):(bL N f).getD i false=f i:=ji8 h
theorem jbx{N:Nat}{f:Nat→Bool}(i:Nat):(bL N f).set i true=bL N (qqp f i):=je2
structure Swp (N : Nat) (c : Nat → Nat) (r : Nat) (es : List (Nat × Nat)) (m : Bool) (f : Nat → Bool) (m' : Bool) (f' : Nat → Bool) : Prop where
 up : ∀ z, f z = true → f' z = true
 cls : ∀ z, f' z = true → c z = r
 no : m' = false → m = false ∧ f' = f ∧ ∀ e ∈ es, f e.1 = f e.2
 yes : m' = true → m = true ∨ qh5 f' N < qh5 f N
theorem Swp.trans{N:Nat}{c:Nat→Nat}{r:Nat}{es es' :List (Nat×Nat)}{m m' m'' :Bool}{f f' f'' :Nat→Bool}(h:Swp N c r es m f m' f')(h' :Swp N c r es' m' f' m'' f''):Swp N c r (es++es') m f m'' f'' :=by
 refine⟨fun z hz=>h'.up z (h.up z hz),h'.cls,fun e=> ?_,fun e=> ?_⟩
 ·obtain⟨a1,a2,a3⟩:=h'.no e;obtain⟨b1,b2,b3⟩:=h.no a1;subst b2;refine⟨b1,a2,fun e he=> ?_⟩;rcases List.mem_append.1 he with he|he
  ·exact b3 e he
  ·exact a3 e he
 ·have l1:=qm9 h.up N;have l2:=qm9 h'.up N;rcases h'.yes e with e|e
  ·rcases h.yes e with e|e
   ·exact .inl e
   ·exact .inr (by omega)
  ·exact .inr (by omega)
end Go.Proofs.YtdhfhpdadbopkaaGreat
