/-
  Predict: Bounds and Ways.
-/
import Derived.Test.YtokeielgplbdeaaZ8C9
set_option linter.all false
namespace Go.Proofs.Ytokeielgplbdeaa
open Go.K Go.M
theorem jh1{n:cj}{m:List Int}{ts:List af}(h:Few n m ts):Small n∧n.2.1.length≤20∧m.length≤1000∧ts.length≤1000:=⟨h.small,by have:=h.trans;omega,by have:=h.mark;omega,by have:=h.times;omega⟩
end Go.Proofs.Ytokeielgplbdeaa
