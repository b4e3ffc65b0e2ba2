/-
  Siphon: names, lists of places, nets: the program and the reference reckon alike.
-/
import Derived.Test.YtclbndfjhjladaaGreatZ7G2
import Derived.KernelRfl
set_option linter.all false
namespace Go.Proofs.YtclbndfjhjladaaGreat
open Go.K Go.M
def qb1(a b:List Int):Bool:=a.any fun p=>u7 b p
theorem jm2(a b:List Int)(ha:a.length≤1000000)(hb:b.length≤1000000):qfl a b=some (qb1 a b):=by
 have hL:yo a b (a.length:Int) 0=some (q38 (fun i=>(i:Int)) (zm (fun p=>u7 b p) a)):=by
  refine kq a 0 (fun p=>u7 b p) (fun i=>(i:Int)) (by omega) (fun i hi=> ?_) ?_
  ·simp(disch:=omega)only[iq,qvl,qip b hb,rs];rw[ar];cases u7 b (a.getD i 0)<;>rfl
  ·simp(disch:=omega)only[iq,rs]
 unfold qfl m5 p4;rw[hL,ao,qbc,ao,ao,qfa];rfl
end Go.Proofs.YtclbndfjhjladaaGreat
