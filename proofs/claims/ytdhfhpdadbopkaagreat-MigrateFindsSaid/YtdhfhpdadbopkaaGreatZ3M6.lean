/-
  Migrate: certificates go together.
-/
import Derived.Test.YtdhfhpdadbopkaaGreatZ3M5
set_option linter.all false
namespace Go.Proofs.YtdhfhpdadbopkaaGreat
open Go.K Go.M
theorem q66{l:List Pr}{x y:List Int}:n8 l x y=true↔∃p∈l,p.1=x∧p.2.1=y:=by
 unfold n8;rw[List.any_eq_true];simp only[Bool.and_eq_true,decide_eq_true_iff]
theorem jhx{old new:a7}{f:List Int→List Int→Bool}{x y:List Int}(h:gb old new f x y=true)(he:x=qkj old):y=qkj new:=by
 rw[qrc,Bool.and_eq_true,decide_eq_true he]at h;simpa using h.1
theorem jfv{old new:a7}{f:List Int→List Int→Bool}{x y:List Int}(h:gb old new f x y=true){t:Nat}(ht:t<old.2.1.length)(hc:wn (old.2.1.getD t af.z) x=true):
  tj old x t=true∧((qly old t=true∧f (bm old x t).2 y=true)∨∃u,u<new.2.1.length∧eqS (mu new u) (mu old t)=true∧tj new y u=true∧f (bm old x t).2 (bm new y u).2=true):=by
 rw[qrc,Bool.and_eq_true,List.all_eq_true]at h;have:=h.2 t (List.mem_range.2 ht);unfold q4z at this;rw[hc,Bool.not_true,Bool.false_or,Bool.and_eq_true]at this;refine⟨this.1,?_⟩;have h2:=this.2;unfold qh3 at h2;rw[q6p,Bool.or_eq_true,Bool.and_eq_true,List.any_eq_true]at h2;rcases h2 with⟨g1,g2⟩|⟨u,hu,g⟩
 ·exact .inl ⟨g1,g2⟩
 ·rw[Bool.and_eq_true,Bool.and_eq_true]at g;exact .inr ⟨u,List.mem_range.1 hu,g.1,g.2.1,g.2.2⟩
theorem jkh{old new:a7}{f:List Int→List Int→Bool}{x y:List Int}(he:x=qkj old→y=qkj new)
  (hs:∀t,t<old.2.1.length→wn (old.2.1.getD t af.z) x=true→tj old x t=true∧((qly old t=true∧f (bm old x t).2 y=true)∨∃u,u<new.2.1.length∧eqS (mu new u) (mu old t)=true∧tj new y u=true∧f (bm old x t).2 (bm new y u).2=true)):
  gb old new f x y=true:=by
 rw[qrc,Bool.and_eq_true,List.all_eq_true];constructor
 ·by_cases h:x=qkj old
  ·rw[decide_eq_true (he h)];simp
  ·rw[decide_eq_false h];rfl
 ·intro t ht;unfold q4z;cases hc:wn (old.2.1.getD t af.z) x with
  |false=>rfl
  |true=>
   obtain⟨g1,g2⟩:=hs t (List.mem_range.1 ht) hc;rw[g1,Bool.not_true,Bool.false_or,Bool.true_and];unfold qh3;rw[q6p,Bool.or_eq_true,Bool.and_eq_true,List.any_eq_true];rcases g2 with⟨k1,k2⟩|⟨u,hu,k1,k2,k3⟩
   ·exact .inl ⟨k1,k2⟩
   ·exact .inr ⟨u,List.mem_range.2 hu,by rw[Bool.and_eq_true,Bool.and_eq_true];exact⟨k1,k2,k3⟩⟩
end Go.Proofs.YtdhfhpdadbopkaaGreat
