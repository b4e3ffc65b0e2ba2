/-
  Siphon: the greatest siphon, or trap, in a set; the law SiphonForms.
-/
import Derived.Test.YtdhfhpdadbopkaaZ3G7
set_option linter.all false
namespace Go.Proofs.Ytdhfhpdadbopkaa
open Go.K Go.M
def jqz(t:ae)(trap:Bool):List Int:=bif trap then t.2.1 else t.2.2.1
def jq0(t:ae)(trap:Bool):List Int:=bif trap then t.2.2.1 else t.2.1
structure SmallT (ts : List ae) : Prop where
 trans : ts.length ≤ 100
 ins : ∀ t ∈ ts, t.2.1.length ≤ 60
 outs : ∀ t ∈ ts, t.2.2.1.length ≤ 60
theorem Small.T{n:a8}(h:Small n):SmallT n.2.1:=⟨h.trans,h.ins,h.outs⟩
theorem SmallT.a{ts:List ae}(h:SmallT ts){t:ae}(ht:t∈ts)(trap:Bool):(jqz t trap).length≤60:=by
 cases trap
 ·exact h.outs t ht
 ·exact h.ins t ht
theorem SmallT.b{ts:List ae}(h:SmallT ts){t:ae}(ht:t∈ts)(trap:Bool):(jq0 t trap).length≤60:=by
 cases trap
 ·exact h.ins t ht
 ·exact h.outs t ht
theorem q5e{α:Type}{p:α→Bool}{x:α}(h:p x=false):[x].filter p=[]:=by rw[List.filter_cons,h];rfl
theorem q5f{α:Type}{p:α→Bool}{x:α}(h:p x=true):[x].filter p=[x]:=by rw[List.filter_cons,h];rfl
end Go.Proofs.Ytdhfhpdadbopkaa
