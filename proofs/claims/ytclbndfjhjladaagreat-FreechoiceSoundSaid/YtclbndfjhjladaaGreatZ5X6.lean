/-
  Classes that are made by uniting: representatives, parents, and sets that are closed under the pairs. No program is named.
-/
import Derived.Test.YtclbndfjhjladaaGreatZ5KE
set_option linter.all false
namespace Go.K
open Go.M
def mrg(c:Nat→Nat)(e:Nat×Nat):Nat→Nat:=fun z=>if c z=max (c e.1) (c e.2)then min (c e.1) (c e.2)else c z
def yn(es:List (Nat×Nat)):Nat→Nat:=es.foldl mrg id
structure Rep (c : Nat → Nat) : Prop where
 le : ∀ z, c z ≤ z
 idem : ∀ z, c (c z) = c z
theorem Rep.id:Rep id:=⟨fun z=>Nat.le_refl z,fun z=>rfl⟩
theorem Rep.mrg{c:Nat→Nat}(h:Rep c)(e:Nat×Nat):Rep (mrg c e):=by
 have ha:=h.idem e.1;have hb:=h.idem e.2;refine⟨fun z=> ?_,fun z=> ?_⟩
 ·have:=h.le z;unfold Go.K.mrg;split<;>omega
 ·have hz:=h.idem z;unfold Go.K.mrg;by_cases h1:c z=max (c e.1) (c e.2)
  ·rw[if_pos h1];have hm:c (min (c e.1) (c e.2))=min (c e.1) (c e.2):=by
    rcases Nat.le_total (c e.1) (c e.2)with h2|h2
    ·rw[Nat.min_eq_left h2];exact ha
    ·rw[Nat.min_eq_right h2];exact hb
   rw[hm];split<;>omega
  ·rw[if_neg h1,hz,if_neg h1]
theorem que(es:List (Nat×Nat)):Rep (yn es):=by
 unfold yn
 suffices H:∀(es:List (Nat×Nat)) (c:Nat→Nat),Rep c→Rep (es.foldl mrg c)from H es _ Rep.id
 intro es
 induction es with
 |nil=>intro c h;exact h
 |cons e es ih=>intro c h;exact ih _ (h.mrg e)
theorem jqe{c:Nat→Nat}{e:Nat×Nat}{x y:Nat}(h:c x=c y):mrg c e x=mrg c e y:=by unfold mrg;rw[h]
theorem jqf(c:Nat→Nat)(e:Nat×Nat):mrg c e e.1=mrg c e e.2:=by
 unfold mrg;rcases Nat.lt_trichotomy (c e.1) (c e.2)with h|h|h
 ·rw[if_neg (by omega),if_pos (by omega)];omega
 ·rw[h]
 ·rw[if_pos (by omega),if_neg (by omega)];omega
theorem jhp(es:List (Nat×Nat)):∀(c:Nat→Nat) {x y:Nat},c x=c y→es.foldl mrg c x=es.foldl mrg c y:=by
 induction es with
 |nil=>intro c x y h;exact h
 |cons e es ih=>intro c x y h;exact ih _ (jqe h)
theorem jed{es:List (Nat×Nat)}:∀{e:Nat×Nat},e∈es→yn es e.1=yn es e.2:=by
 unfold yn
 suffices H:∀(es:List (Nat×Nat)) (c:Nat→Nat) (e:Nat×Nat),e∈es→es.foldl mrg c e.1=es.foldl mrg c e.2 from fun{e} h=>H es _ e h
 intro es
 induction es with
 |nil=>intro c e h;cases h
 |cons d es ih=>
  intro c e h;rcases List.mem_cons.1 h with h|h
  ·subst h;exact jhp es _ (jqf c e)
  ·exact ih _ e h
theorem jha{es:List (Nat×Nat)}{S:Nat→Prop}(hS:∀e∈es,S e.1↔S e.2){x y:Nat}(h:yn es x=yn es y):S x↔S y:=by
 unfold yn at h
 suffices H:∀(es:List (Nat×Nat)) (c:Nat→Nat),(∀e∈es,S e.1↔S e.2)→(∀x y,c x=c y→(S x↔S y))→∀x y,es.foldl mrg c x=es.foldl mrg c y→(S x↔S y)from
  H es _ hS (fun x y (h:x=y)=>by rw[h]) x y h
 intro es
 induction es with
 |nil=>intro c _ hc x y h;exact hc x y h
 |cons e es ih=>
  intro c hS hc x y h;refine ih (mrg c e) (fun d hd=>hS d (List.mem_cons_of_mem _ hd)) (fun x y hxy=> ?_) x y h;have he:=hS e List.mem_cons_self;unfold mrg at hxy;rcases Nat.lt_trichotomy (c e.1) (c e.2)with hl|hl|hl
  all_goals by_cases h1:c x=max (c e.1) (c e.2)<;>by_cases h2:c y=max (c e.1) (c e.2)
  all_goals first|rw[if_pos h1,if_pos h2]at hxy|rw[if_pos h1,if_neg h2]at hxy|rw[if_neg h1,if_pos h2]at hxy|rw[if_neg h1,if_neg h2]at hxy
  all_goals first
   |exact hc x y (by omega)
   |(rw[hc x e.1 (by omega),hc y e.2 (by omega)];exact he)
   |(rw[hc x e.2 (by omega),hc y e.1 (by omega)];exact he.symm)
structure UF (p c : Nat → Nat) : Prop where
 le : ∀ i, p i ≤ i
 par : ∀ i, c (p i) = c i
 root : ∀ i, p i = i → c i = i
def q3l(p:Nat→Nat)(i x:Nat):Nat→Nat:=fun z=>if z=i then x else p z
theorem UF.id:UF id id:=⟨fun i=>Nat.le_refl i,fun i=>rfl,fun i h=>h⟩
theorem UF.halve{p c:Nat→Nat}(h:UF p c){i:Nat}(hi:p i≠i):UF (q3l p i (p (p i))) c:=by
 refine⟨fun z=> ?_,fun z=> ?_,fun z hz=> ?_⟩
 ·unfold q3l;split
  ·rename_i e;subst e;have:=h.le z;have:=h.le (p z);omega
  ·exact h.le z
 ·unfold q3l;split
  ·rename_i e;subst e;rw[h.par,h.par]
  ·exact h.par z
 ·unfold q3l at hz;split at hz
  ·rename_i e;subst e;have:=h.le z;have:=h.le (p z);omega
  ·exact h.root z hz
theorem UF.unite{p c:Nat→Nat}(h:UF p c){e:Nat×Nat}(h1:p (c e.1)=c e.1)(h2:p (c e.2)=c e.2):UF (q3l p (max (c e.1) (c e.2)) (min (c e.1) (c e.2))) (mrg c e):=by
 have r1:=h.root _ h1;have r2:=h.root _ h2;have hmin:c (min (c e.1) (c e.2))=min (c e.1) (c e.2):=by
  rcases Nat.le_total (c e.1) (c e.2)with h2|h2
  ·rw[Nat.min_eq_left h2];exact r1
  ·rw[Nat.min_eq_right h2];exact r2
 have hmax:c (max (c e.1) (c e.2))=max (c e.1) (c e.2):=by
  rcases Nat.le_total (c e.1) (c e.2)with h2|h2
  ·rw[Nat.max_eq_right h2];exact r2
  ·rw[Nat.max_eq_left h2];exact r1
 refine⟨fun z=> ?_,fun z=> ?_,fun z hz=> ?_⟩
 ·unfold q3l;split
  ·omega
  ·exact h.le z
 ·unfold q3l;split
  ·rename_i e1;subst e1;unfold mrg;rw[hmin,hmax,if_pos rfl];split<;>omega
  ·exact jqe (h.par z)
 ·unfold q3l at hz;split at hz
  ·rename_i e1;subst e1;unfold mrg;rw[hmax,if_pos rfl];exact hz
  ·rename_i hne;have:=h.root z hz;unfold mrg;rw[this,if_neg hne]
end Go.K
