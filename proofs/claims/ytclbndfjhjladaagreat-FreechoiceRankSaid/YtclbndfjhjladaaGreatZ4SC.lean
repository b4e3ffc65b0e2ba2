/-
  Siphon: the law SiphonGreatest.
-/
import Derived.Test.YtclbndfjhjladaaGreatZ4SB
set_option linter.all false
namespace Go.Proofs.YtclbndfjhjladaaGreat
open Go.K Go.M
theorem juh{ts:List af}{trap:Bool}{l G:List Int}(h:jl3 ts trap l G):∀x∈G,x∈l:=by
 obtain⟨⟨⟨p,rfl⟩,_⟩,_⟩:=h;exact fun x hx=>(List.mem_filter.1 hx).1
end Go.Proofs.YtclbndfjhjladaaGreat
