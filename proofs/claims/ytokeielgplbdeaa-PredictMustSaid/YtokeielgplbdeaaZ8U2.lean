/-
  Siphon: the greatest siphon, or trap, in a set; the law SiphonForms.
-/
import Derived.Test.YtokeielgplbdeaaZ8G2
set_option linter.all false
namespace Go.Proofs.Ytokeielgplbdeaa
open Go.K Go.M
def jr4(t:ag)(trap:Bool):List Int:=bif trap then t.2.1 else t.2.2.1
def jr5(t:ag)(trap:Bool):List Int:=bif trap then t.2.2.1 else t.2.1
structure SmallT (ts : List ag) : Prop where
 trans : ts.length ≤ 100
 ins : ∀ t ∈ ts, t.2.1.length ≤ 60
 outs : ∀ t ∈ ts, t.2.2.1.length ≤ 60
theorem Small.T{n:cj}(h:Small n):SmallT n.2.1:=⟨h.trans,h.ins,h.outs⟩
theorem SmallT.a{ts:List ag}(h:SmallT ts){t:ag}(ht:t∈ts)(trap:Bool):(jr4 t trap).length≤60:=by
 cases trap
 ·exact h.outs t ht
 ·exact h.ins t ht
theorem SmallT.b{ts:List ag}(h:SmallT ts){t:ag}(ht:t∈ts)(trap:Bool):(jr5 t trap).length≤60:=by
 cases trap
 ·exact h.ins t ht
 ·exact h.outs t ht
theorem jh2{α:Type}{p:α→Bool}{x:α}(h:p x=false):[x].filter p=[]:=by rw[List.filter_cons,h];rfl
theorem jh3{α:Type}{p:α→Bool}{x:α}(h:p x=true):[x].filter p=[x]:=by rw[List.filter_cons,h];rfl
end Go.Proofs.Ytokeielgplbdeaa
