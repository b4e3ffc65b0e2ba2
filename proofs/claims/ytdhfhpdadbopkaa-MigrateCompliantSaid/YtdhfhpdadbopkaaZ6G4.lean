/-
  Freechoice: the classes of a net, by uniting (the program) and by spreading (the reference).
-/
import Derived.Test.YtdhfhpdadbopkaaZ6G2
set_option linter.all false
namespace Go.Proofs.Ytdhfhpdadbopkaa
open Go.K Go.M
def InB(M:Nat)(ts:List af):Prop:=∀t∈ts,(t.2.1.length≤60∧t.2.2.1.length≤60)∧(∀x∈t.2.1,0≤x∧x<(M:Int))∧∀x∈t.2.2.1,0≤x∧x<(M:Int)
def qfe(f:Nat→Bool):Nat→Nat
 |0=>0
 |n+1=>qfe f n+(if f n=true then 0 else 1)
theorem qjp{f g:Nat→Bool}(h:∀z,f z=true→g z=true):∀n,qfe g n≤qfe f n
 |0=>Nat.le_refl _
 |n+1=>by
  have:=qjp h n;have:=h n;unfold qfe;split<;>split<;>first|omega|(rename_i h1 h2;exact absurd (h n h2) h1)
theorem q65{f g:Nat→Bool}(h:∀z,f z=true→g z=true):∀{n z:Nat},z<n→f z=false→g z=true→qfe g n<qfe f n
 |0,_,hz,_,_=>by omega
 |n+1,z,hz,h1,h2=>by
  unfold qfe;by_cases e:z=n
  ·subst e;have:=qjp h z;rw[if_pos h2,if_neg (by simp[h1])];omega
  ·have:=q65 h (n:=n) (z:=z) (by omega) h1 h2;have:=h n;split<;>split<;>first|omega|(rename_i h3 h4;exact absurd (h n h4) h3)
theorem q64(f:Nat→Bool):∀n,qfe f n≤n
 |0=>Nat.le_refl _
 |n+1=>by have:=q64 f n;unfold qfe;split<;>omega
def qm3(f:Nat→Bool)(i:Nat):Nat→Bool:=fun z=>if z=i then true else f z
abbrev bL(N:Nat)(f:Nat→Bool):List Bool:=b9 N f
theorem qhp(N:Nat)(f:Nat→Bool):(bL N f).length=N:=jdk _ _
theorem quw{N:Nat}{f:Nat→Bool}{i:Nat}(h:i<N):(bL N f).getD i false=f i:=jbv h
theorem q42{N:Nat}{f:Nat→Bool}(i:Nat):(bL N f).set i true=bL N (qm3 f i):=q74
structure Swp (N : Nat) (c : Nat → Nat) (r : Nat) (es : List (Nat × Nat)) (m : Bool) (f : Nat → Bool) (m' : Bool) (f' : Nat → Bool) : Prop where
 up : ∀ z, f z = true → f' z = true
 cls : ∀ z, f' z = true → c z = r
 no : m' = false → m = false ∧ f' = f ∧ ∀ e ∈ es, f e.1 = f e.2
 yes : m' = true → m = true ∨ qfe f' N < qfe f N
theorem Swp.trans{N:Nat}{c:Nat→Nat}{r:Nat}{es es' :List (Nat×Nat)}{m m' m'' :Bool}{f f' f'' :Nat→Bool}(h:Swp N c r es m f m' f')(h' :Swp N c r es' m' f' m'' f''):Swp N c r (es++es') m f m'' f'' :=by
 refine⟨fun z hz=>h'.up z (h.up z hz),h'.cls,fun e=> ?_,fun e=> ?_⟩
 ·obtain⟨a1,a2,a3⟩:=h'.no e;obtain⟨b1,b2,b3⟩:=h.no a1;subst b2;refine⟨b1,a2,fun e he=> ?_⟩;rcases List.mem_append.1 he with he|he
  ·exact b3 e he
  ·exact a3 e he
 ·have l1:=qjp h.up N;have l2:=qjp h'.up N;rcases h'.yes e with e|e
  ·rcases h.yes e with e|e
   ·exact .inl e
   ·exact .inr (by omega)
  ·exact .inr (by omega)
end Go.Proofs.Ytdhfhpdadbopkaa
