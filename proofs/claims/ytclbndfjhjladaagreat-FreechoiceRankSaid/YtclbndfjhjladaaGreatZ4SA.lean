/-
  Siphon: names, lists of places, nets: the program and the reference reckon alike.
-/
import Derived.Test.YtclbndfjhjladaaGreatZ4Q4
set_option linter.all false
namespace Go.Proofs.YtclbndfjhjladaaGreat
open Go.K Go.M
def yf(a b:List Int):Bool:=a.any fun p=>cn b p
theorem qq8(a b:List Int)(ha:a.length≤1000000)(hb:b.length≤1000000):uj a b=some (yf a b):=by
 have hL:qs3 a b 0=some (bif a.any (fun p=>cn b p)then .inr true else .inl ()):=by
  refine f7 a 0 (fun p=>cn b p) true (by omega) (fun i hi=> ?_) ?_
  ·simp(disch:=omega)only[xa,rx b hb,rs];rw[ag];cases cn b (a.getD i 0)<;>rfl
  ·simp(disch:=omega)only[xa,rs]
 unfold uj yf;rw[hL,au];cases a.any (fun p=>cn b p)<;>rfl
end Go.Proofs.YtclbndfjhjladaaGreat
