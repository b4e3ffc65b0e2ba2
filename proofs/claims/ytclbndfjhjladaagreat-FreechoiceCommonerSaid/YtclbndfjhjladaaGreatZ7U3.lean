/-
  Siphon: the law SiphonGreatest.
-/
import Derived.Test.YtclbndfjhjladaaGreatZ7U2
set_option linter.all false
namespace Go.Proofs.YtclbndfjhjladaaGreat
open Go.K Go.M
theorem j0r{ts:List ab}{trap:Bool}{l G:List Int}(h:jle ts trap l G):G.length≤l.length:=by
 obtain⟨⟨⟨p,rfl⟩,_⟩,_⟩:=h;exact List.length_filter_le _ _
theorem j0s{ts:List ab}{trap:Bool}{l G:List Int}(h:jle ts trap l G):∀x∈G,x∈l:=by
 obtain⟨⟨⟨p,rfl⟩,_⟩,_⟩:=h;exact fun x hx=>(List.mem_filter.1 hx).1
end Go.Proofs.YtclbndfjhjladaaGreat
