/-
  Migrate: certificates go together.
-/
import Derived.Test.YtdhfhpdadbopkaaZ7M5
set_option linter.all false
namespace Go.Proofs.Ytdhfhpdadbopkaa
open Go.K Go.M
theorem jgd{l:List Pr}{x y:List Int}:inB l x y=true↔∃p∈l,p.1=x∧p.2.1=y:=by
 unfold inB;rw[List.any_eq_true];simp only[Bool.and_eq_true,decide_eq_true_iff]
theorem jds{old new:az}{f:List Int→List Int→Bool}{x y:List Int}(h:m6 old new f x y=true)(he:x=qpn old):y=qpn new:=by
 rw[qxe,Bool.and_eq_true,decide_eq_true he]at h;simpa using h.1
theorem jbr{old new:az}{f:List Int→List Int→Bool}{x y:List Int}(h:m6 old new f x y=true){t:Nat}(ht:t<old.2.1.length)(hc:xj (old.2.1.getD t af.z) x=true):
  xc old x t=true∧((qhv old t=true∧f (bj old x t).2 y=true)∨∃u,u<new.2.1.length∧eqS (ns new u) (ns old t)=true∧xc new y u=true∧f (bj old x t).2 (bj new y u).2=true):=by
 rw[qxe,Bool.and_eq_true,List.all_eq_true]at h;have:=h.2 t (List.mem_range.2 ht);unfold jep at this;rw[hc,Bool.not_true,Bool.false_or,Bool.and_eq_true]at this;refine⟨this.1,?_⟩;have h2:=this.2;unfold qjr at h2;rw[q9n,Bool.or_eq_true,Bool.and_eq_true,List.any_eq_true]at h2;rcases h2 with⟨g1,g2⟩|⟨u,hu,g⟩
 ·exact .inl ⟨g1,g2⟩
 ·rw[Bool.and_eq_true,Bool.and_eq_true]at g;exact .inr ⟨u,List.mem_range.1 hu,g.1,g.2.1,g.2.2⟩
theorem q92{old new:az}{f:List Int→List Int→Bool}{x y:List Int}(he:x=qpn old→y=qpn new)
  (hs:∀t,t<old.2.1.length→xj (old.2.1.getD t af.z) x=true→xc old x t=true∧((qhv old t=true∧f (bj old x t).2 y=true)∨∃u,u<new.2.1.length∧eqS (ns new u) (ns old t)=true∧xc new y u=true∧f (bj old x t).2 (bj new y u).2=true)):
  m6 old new f x y=true:=by
 rw[qxe,Bool.and_eq_true,List.all_eq_true];constructor
 ·by_cases h:x=qpn old
  ·rw[decide_eq_true (he h)];simp
  ·rw[decide_eq_false h];rfl
 ·intro t ht;unfold jep;cases hc:xj (old.2.1.getD t af.z) x with
  |false=>rfl
  |true=>
   obtain⟨g1,g2⟩:=hs t (List.mem_range.1 ht) hc;rw[g1,Bool.not_true,Bool.false_or,Bool.true_and];unfold qjr;rw[q9n,Bool.or_eq_true,Bool.and_eq_true,List.any_eq_true];rcases g2 with⟨k1,k2⟩|⟨u,hu,k1,k2,k3⟩
   ·exact .inl ⟨k1,k2⟩
   ·exact .inr ⟨u,List.mem_range.2 hu,by rw[Bool.and_eq_true,Bool.and_eq_true];exact⟨k1,k2,k3⟩⟩
end Go.Proofs.Ytdhfhpdadbopkaa
