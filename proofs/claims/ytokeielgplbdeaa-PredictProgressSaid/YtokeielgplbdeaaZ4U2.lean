/-
  Siphon: the greatest siphon, or trap, in a set; the law SiphonForms.
-/
import Derived.Test.YtokeielgplbdeaaZ4G2
set_option linter.all false
namespace Go.Proofs.Ytokeielgplbdeaa
open Go.K Go.M
def jo7(t:ai)(trap:Bool):List Int:=bif trap then t.2.1 else t.2.2.1
def jo8(t:ai)(trap:Bool):List Int:=bif trap then t.2.2.1 else t.2.1
structure SmallT (ts : List ai) : Prop where
 trans : ts.length ≤ 100
 ins : ∀ t ∈ ts, t.2.1.length ≤ 60
 outs : ∀ t ∈ ts, t.2.2.1.length ≤ 60
theorem Small.T{n:c8}(h:Small n):SmallT n.2.1:=⟨h.trans,h.ins,h.outs⟩
theorem SmallT.a{ts:List ai}(h:SmallT ts){t:ai}(ht:t∈ts)(trap:Bool):(jo7 t trap).length≤60:=by
 cases trap
 ·exact h.outs t ht
 ·exact h.ins t ht
theorem SmallT.b{ts:List ai}(h:SmallT ts){t:ai}(ht:t∈ts)(trap:Bool):(jo8 t trap).length≤60:=by
 cases trap
 ·exact h.ins t ht
 ·exact h.outs t ht
theorem je6{α:Type}{p:α→Bool}{x:α}(h:p x=false):[x].filter p=[]:=by rw[List.filter_cons,h];rfl
theorem je7{α:Type}{p:α→Bool}{x:α}(h:p x=true):[x].filter p=[x]:=by rw[List.filter_cons,h];rfl
end Go.Proofs.Ytokeielgplbdeaa
