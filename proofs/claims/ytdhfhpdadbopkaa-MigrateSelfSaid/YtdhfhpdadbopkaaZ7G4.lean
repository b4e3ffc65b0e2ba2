/-
  Freechoice: the classes of a net, by uniting (the program) and by spreading (the reference).
-/
import Derived.Test.YtdhfhpdadbopkaaZ7G2
set_option linter.all false
namespace Go.Proofs.Ytdhfhpdadbopkaa
open Go.K Go.M
def InB(M:Nat)(ts:List af):Prop:=∀t∈ts,(t.2.1.length≤60∧t.2.2.1.length≤60)∧(∀x∈t.2.1,0≤x∧x<(M:Int))∧∀x∈t.2.2.1,0≤x∧x<(M:Int)
def qhd(f:Nat→Bool):Nat→Nat
 |0=>0
 |n+1=>qhd f n+(if f n=true then 0 else 1)
theorem qlv{f g:Nat→Bool}(h:∀z,f z=true→g z=true):∀n,qhd g n≤qhd f n
 |0=>Nat.le_refl _
 |n+1=>by
  have:=qlv h n;have:=h n;unfold qhd;split<;>split<;>first|omega|(rename_i h1 h2;exact absurd (h n h2) h1)
theorem q9w{f g:Nat→Bool}(h:∀z,f z=true→g z=true):∀{n z:Nat},z<n→f z=false→g z=true→qhd g n<qhd f n
 |0,_,hz,_,_=>by omega
 |n+1,z,hz,h1,h2=>by
  unfold qhd;by_cases e:z=n
  ·subst e;have:=qlv h z;rw[if_pos h2,if_neg (by simp[h1])];omega
  ·have:=q9w h (n:=n) (z:=z) (by omega) h1 h2;have:=h n;split<;>split<;>first|omega|(rename_i h3 h4;exact absurd (h n h4) h3)
theorem q9v(f:Nat→Bool):∀n,qhd f n≤n
 |0=>Nat.le_refl _
 |n+1=>by have:=q9v f n;unfold qhd;split<;>omega
def qo4(f:Nat→Bool)(i:Nat):Nat→Bool:=fun z=>if z=i then true else f z
abbrev bL(N:Nat)(f:Nat→Bool):List Bool:=cz N f
theorem qjs(N:Nat)(f:Nat→Bool):(bL N f).length=N:=jg1 _ _
theorem qww{N:Nat}{f:Nat→Bool}{i:Nat}(h:i<N):(bL N f).getD i false=f i:=je6 h
theorem q7s{N:Nat}{f:Nat→Bool}(i:Nat):(bL N f).set i true=bL N (qo4 f i):=jay
structure Swp (N : Nat) (c : Nat → Nat) (r : Nat) (es : List (Nat × Nat)) (m : Bool) (f : Nat → Bool) (m' : Bool) (f' : Nat → Bool) : Prop where
 up : ∀ z, f z = true → f' z = true
 cls : ∀ z, f' z = true → c z = r
 no : m' = false → m = false ∧ f' = f ∧ ∀ e ∈ es, f e.1 = f e.2
 yes : m' = true → m = true ∨ qhd f' N < qhd f N
theorem Swp.trans{N:Nat}{c:Nat→Nat}{r:Nat}{es es' :List (Nat×Nat)}{m m' m'' :Bool}{f f' f'' :Nat→Bool}(h:Swp N c r es m f m' f')(h' :Swp N c r es' m' f' m'' f''):Swp N c r (es++es') m f m'' f'' :=by
 refine⟨fun z hz=>h'.up z (h.up z hz),h'.cls,fun e=> ?_,fun e=> ?_⟩
 ·obtain⟨a1,a2,a3⟩:=h'.no e;obtain⟨b1,b2,b3⟩:=h.no a1;subst b2;refine⟨b1,a2,fun e he=> ?_⟩;rcases List.mem_append.1 he with he|he
  ·exact b3 e he
  ·exact a3 e he
 ·have l1:=qlv h.up N;have l2:=qlv h'.up N;rcases h'.yes e with e|e
  ·rcases h.yes e with e|e
   ·exact .inl e
   ·exact .inr (by omega)
  ·exact .inr (by omega)
end Go.Proofs.Ytdhfhpdadbopkaa
