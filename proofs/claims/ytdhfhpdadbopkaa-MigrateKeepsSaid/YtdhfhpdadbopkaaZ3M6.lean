/-
  Migrate: certificates go together.
-/
import Derived.Test.YtdhfhpdadbopkaaZ3M5
set_option linter.all false
namespace Go.Proofs.Ytdhfhpdadbopkaa
open Go.K Go.M
theorem q65{l:List Pr}{x y:List Int}:inB l x y=true↔∃p∈l,p.1=x∧p.2.1=y:=by
 unfold inB;rw[List.any_eq_true];simp only[Bool.and_eq_true,decide_eq_true_iff]
theorem q8n{a b c:ByteArray}(h:eqS a b=true)(h' :eqS b c=true):eqS a c=true:=beq_iff_eq.2 ((beq_iff_eq.1 h).trans (beq_iff_eq.1 h'))
theorem jar{old new:a8}{f:List Int→List Int→Bool}{x y:List Int}(h:qey old new f x y=true)(he:x=qn7 old):y=qn7 new:=by
 rw[q3i,Bool.and_eq_true,decide_eq_true he]at h;simpa using h.1
theorem q8s{old new:a8}{f:List Int→List Int→Bool}{x y:List Int}(h:qey old new f x y=true){t:Nat}(ht:t<old.2.1.length)(hc:qbu (old.2.1.getD t ae.z) x=true):
  okB old x t=true∧((q3z old t=true∧f (cp old x t).2 y=true)∨∃u,u<new.2.1.length∧eqS (yj new u) (yj old t)=true∧okB new y u=true∧f (cp old x t).2 (cp new y u).2=true):=by
 rw[q3i,Bool.and_eq_true,List.all_eq_true]at h;have:=h.2 t (List.mem_range.2 ht);unfold jdr at this;rw[hc,Bool.not_true,Bool.false_or,Bool.and_eq_true]at this;refine⟨this.1,?_⟩;have h2:=this.2;unfold qx2 at h2;rw[jcn,Bool.or_eq_true,Bool.and_eq_true,List.any_eq_true]at h2;rcases h2 with⟨g1,g2⟩|⟨u,hu,g⟩
 ·exact .inl ⟨g1,g2⟩
 ·rw[Bool.and_eq_true,Bool.and_eq_true]at g;exact .inr ⟨u,List.mem_range.1 hu,g.1,g.2.1,g.2.2⟩
end Go.Proofs.Ytdhfhpdadbopkaa
