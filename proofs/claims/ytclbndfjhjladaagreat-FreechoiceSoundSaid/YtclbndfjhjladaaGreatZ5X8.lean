/-
  Free-choice nets in plain Lean: Commoner's theorem. No program is named.
-/
import Derived.KernelRfl
set_option linter.all false
namespace Go.M.FC
def fire(I O:Nat→Nat→Prop)[∀t p,Decidable (I t p)][∀t p,Decidable (O t p)](x:Nat→Int)(t:Nat):Nat→Int:=fun p=>x p-(if I t p then 1 else 0)+(if O t p then 1 else 0)
section
variable (N T : Nat) (I O : Nat → Nat → Prop) [∀ t p, Decidable (I t p)] [∀ t p, Decidable (O t p)]
def En(x:Nat→Int)(t:Nat):Prop:=∀p,p<N→I t p→1≤x p
inductive Rea (x : Nat → Int) : (Nat → Int) → Prop
 | refl : Rea x x
 | step {y : Nat → Int} (t : Nat) (h : Rea x y) (ht : t < T) (he : En N I y t) : Rea x (fire I O y t)
def jgo:Prop:=∀t u p,t<T→u<T→p<N→I t p→I u p→∀q,q<N→(I t q↔I u q)
def Siphon(S:Nat→Prop):Prop:=∀t,t<T→∀p,p<N→O t p→S p→∃q,q<N∧I t q∧S q
def Live(m:Nat→Int):Prop:=∀t,t<T→∀x,Rea N T I O m x→∃y,Rea N T I O x y∧En N I y t
def qar(x:Nat→Int)(t:Nat):Prop:=∀y,Rea N T I O x y→¬En N I y t
end
variable {N T : Nat} {I O : Nat → Nat → Prop} [∀ t p, Decidable (I t p)] [∀ t p, Decidable (O t p)]
theorem Rea.trans{x y z:Nat→Int}(h1:Rea N T I O x y)(h2:Rea N T I O y z):Rea N T I O x z:=by
 induction h2 with
 |refl=>exact h1
 |step t _ ht he ih=>exact .step t ih ht he
theorem js9{x:Nat→Int}{t:Nat}(hx:∀p,p<N→0≤x p)(he:En N I x t):∀p,p<N→0≤fire I O x t p:=fun p hp=>by
 have h1:=hx p hp;have h2:=he p hp;unfold fire;by_cases hi:I t p
 ·have:=h2 hi;rw[if_pos hi];split<;>omega
 ·rw[if_neg hi];split<;>omega
theorem Rea.nn{x y:Nat→Int}(h:Rea N T I O x y)(hx:∀p,p<N→0≤x p):∀p,p<N→0≤y p:=by
 induction h with
 |refl=>exact hx
 |step t _ _ he ih=>exact js9 ih he
theorem qar.mono{x y:Nat→Int}{t:Nat}(h:qar N T I O x t)(hr:Rea N T I O x y):qar N T I O y t:=fun z hz=>h z (hr.trans hz)
theorem keep{x y:Nat→Int}{t p:Nat}(hF:jgo N T I)(ht:t<T)(hp:p<N)(hi:I t p)(hd:qar N T I O x t)(h:Rea N T I O x y){z:Nat→Int}(h2:Rea N T I O y z):y p≤z p:=by
 induction h2 with
 |refl=>exact Int.le_refl _
 | @step z u hr hu he ih=>
  have hn:¬I u p:=fun hi2=>hd z (h.trans hr) fun q hq hiq=>he q hq ((hF t u p ht hu hp hi hi2 q hq).1 hiq)
  unfold fire;rw[if_neg hn];split<;>omega
open Classical in
noncomputable def cnt(N T:Nat)(I O:Nat→Nat→Prop)[∀t p,Decidable (I t p)][∀t p,Decidable (O t p)](x:Nat→Int):Nat→Nat
 |0=>0
 |k+1=>cnt N T I O x k+if qar N T I O x k then 1 else 0
theorem jhc(x:Nat→Int):∀k,cnt N T I O x k≤k
 |0=>Nat.le_refl _
 |k+1=>by
  have:=jhc x k;unfold cnt;split<;>omega
theorem jeg{x y:Nat→Int}(h:Rea N T I O x y):∀k,cnt N T I O x k≤cnt N T I O y k
 |0=>Nat.le_refl _
 |k+1=>by
  have h1:=jeg h k;unfold cnt;by_cases hd:qar N T I O x k
  ·rw[if_pos hd,if_pos (hd.mono h)];omega
  ·rw[if_neg hd];omega
theorem jhd{x y:Nat→Int}(h:Rea N T I O x y){t:Nat}(h1:¬qar N T I O x t)(h2:qar N T I O y t):∀{k},t<k→cnt N T I O x k<cnt N T I O y k
 |0,hk=>by omega
 |k+1,hk=>by
  unfold cnt;by_cases e:t=k
  ·subst e;have:=jeg h t;rw[if_neg h1,if_pos h2];omega
  ·have h3:=jhd h h1 h2 (k:=k) (by omega);by_cases hd:qar N T I O x k
   ·rw[if_pos hd,if_pos (hd.mono h)];omega
   ·rw[if_neg hd];omega
theorem j2c(x:Nat→Int):∃y,Rea N T I O x y∧∀z,Rea N T I O y z→∀t,t<T→qar N T I O z t→qar N T I O y t:=by
 have key:∀k x,T-cnt N T I O x T≤k→∃y,Rea N T I O x y∧∀z,Rea N T I O y z→∀t,t<T→qar N T I O z t→qar N T I O y t:=by
  intro k
  induction k with
  |zero=>
   intro x hx;refine⟨x, .refl,fun z hz t ht hd=>Classical.byContradiction fun hn=> ?_⟩;have h1:=jhd hz hn hd ht;have h2:=jhc (N:=N) (T:=T) (I:=I) (O:=O) z T;omega
  |succ k ih=>
   intro x hx;by_cases hs:∀z,Rea N T I O x z→∀t,t<T→qar N T I O z t→qar N T I O x t
   ·exact⟨x, .refl,hs⟩
   ·have:∃z,Rea N T I O x z∧∃t,t<T∧qar N T I O z t∧¬qar N T I O x t:=Classical.byContradiction fun hc=>hs fun z hz t ht hd=>Classical.byContradiction fun hn=>hc ⟨z,hz,t,ht,hd,hn⟩
    obtain⟨z,hz,t,ht,hd,hn⟩:=this;have h1:=jhd hz hn hd ht;have h2:=jhc (N:=N) (T:=T) (I:=I) (O:=O) z T;obtain⟨y,hy,hys⟩:=ih z (by omega);exact⟨y,hz.trans hy,hys⟩
 exact key _ x (Nat.le_refl _)
def Lvl(N T:Nat)(I O:Nat→Nat→Prop)(S:Nat→Prop):Nat→Nat→Prop
 |0,p=>S p
 |k+1,p=>Lvl N T I O S k p∧∀t,t<T→I t p→∃q,q<N∧O t q∧Lvl N T I O S k q
theorem Lvl.mono{S:Nat→Prop}{p:Nat}{j:Nat}:∀{k:Nat},j≤k→Lvl N T I O S k p→Lvl N T I O S j p
 |0,hj,h=>by rw[show j=0 by omega];exact h
 |k+1,hj,h=>by
  by_cases e:j=k+1
  ·rw[e];exact h
  ·exact Lvl.mono (k:=k) (by omega) h.1
theorem jj6{P:Nat→Prop}:∀{n:Nat},P n→∃k,P k∧∀j,j<k→¬P j:=fun{n}=>by
 induction n using Nat.strongRecOn with
 |_ n ih=>
  intro h;by_cases hc:∃j,j<n∧P j
  ·obtain⟨j,hj,hp⟩:=hc;exact ih j hj hp
  ·exact⟨n,h,fun j hj hp=>hc ⟨j,hj,hp⟩⟩
def sz(f:Nat→Int):Nat→Int
 |0=>0
 |n+1=>sz f n+f n
end Go.M.FC
