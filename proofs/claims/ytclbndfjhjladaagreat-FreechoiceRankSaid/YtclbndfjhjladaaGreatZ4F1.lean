/-
  Flow: names, lists of places, nets, incidences: the program and the reference reckon alike.
-/
import Derived.Test.YtclbndfjhjladaaGreatZ4RA
import Derived.Test.YtclbndfjhjladaaGreatZ4Ky
set_option linter.all false
namespace Go.Proofs.YtclbndfjhjladaaGreat
open Go.K Go.M
theorem jl4(l:List Int)(h:l.length≤1000000)(x:Int):ql3 l x=some (cn l x):=by
 have hL:q60 l x 0=some (bif l.any (fun y=>decide (y=x))then .inr true else .inl ()):=by
  refine f7 l 0 (fun y=>decide (y=x)) true (by omega) (fun i hi=> ?_) ?_
  ·simp(disch:=omega)only[qgm,rs];rw[ag];cases decide (l.getD i 0=x)<;>rfl
  ·simp(disch:=omega)only[qgm,rs]
 unfold ql3 cn;have e:(l.any fun y=>decide (x=y))=l.any fun y=>decide (y=x):=ja9 fun y _=>decide_eq_decide.2 ⟨Eq.symm,Eq.symm⟩
 rw[hL,au,e];cases l.any (fun y=>decide (y=x))<;>rfl
def jfx(t:af)(p:Int):Int:=(if cn t.2.2.1 p then 1 else 0)-(if cn t.2.1 p then 1 else 0)
theorem jat(t:af)(p:Int): -1≤jfx t p∧jfx t p≤1:=by unfold jfx;repeat' split<;>omega
theorem jg8(t:af)(p:Int)(h1:t.2.1.length≤1000000)(h2:t.2.2.1.length≤1000000):x6 t p=some (jfx t p):=by
 unfold x6 jfx;rw[om _ h1,om _ h2];cases cn t.2.1 p<;>cases cn t.2.2.1 p<;>rfl
theorem j2a(t:af)(p:Int)(h1:t.2.1.length≤1000000)(h2:t.2.2.1.length≤1000000):qs9 t p=some (jfx t p):=by
 unfold qs9 jfx;rw[jl4 _ h1,jl4 _ h2];cases cn t.2.1 p<;>cases cn t.2.2.1 p<;>rfl
end Go.Proofs.YtclbndfjhjladaaGreat
