/-
  Siphon: names, lists of places, nets: the program and the reference reckon alike.
-/
import Derived.Test.YtclbndfjhjladaaGreatZ6G2
import Derived.KernelRfl
set_option linter.all false
namespace Go.Proofs.YtclbndfjhjladaaGreat
open Go.K Go.M
def tk(a b:List Int):Bool:=a.any fun p=>ls b p
theorem jkk(a b:List Int)(ha:a.length≤1000000)(hb:b.length≤1000000):qc9 a b=some (tk a b):=by
 have hL:wj a b (a.length:Int) 0=some (q6l (fun i=>(i:Int)) (qas (fun p=>ls b p) a)):=by
  refine ny a 0 (fun p=>ls b p) (fun i=>(i:Int)) (by omega) (fun i hi=> ?_) ?_
  ·simp(disch:=omega)only[ip,qr1,qsg b hb,ba,aj,ai,ar,ax,bc,a8,am,a7,al,az,ak,a9,ao,aq,af,ae,ag,au,ay,Int.toNat_natCast,decide_true];rw[bq];cases ls b (a.getD i 0)<;>rfl
  ·simp(disch:=omega)only[ip,ba,aj,ai,ar,ax,bc,a8,am,a7,al,az,ak,a9,ao,aq,af,ae,ag,au,ay,Int.toNat_natCast,decide_true]
 unfold qc9 l9 ow;rw[hL,ag,qiv,ag,ag,qny];rfl
theorem q1i(a b:List Int)(ha:a.length≤1000000)(hb:b.length≤1000000):qc8 a b=some (tk a b):=by
 have hL:q3i a b 0=some (bif a.any (fun p=>ls b p)then .inr true else .inl ()):=by
  refine qb2 a 0 (fun p=>ls b p) true (by omega) (fun i hi=> ?_) ?_
  ·simp(disch:=omega)only[qfd,joq b hb,ba,aj,ai,ar,ax,bc,a8,am,a7,al,az,ak,a9,ao,aq,af,ae,ag,au,ay,Int.toNat_natCast,decide_true];rw[bq];cases ls b (a.getD i 0)<;>rfl
  ·simp(disch:=omega)only[qfd,ba,aj,ai,ar,ax,bc,a8,am,a7,al,az,ak,a9,ao,aq,af,ae,ag,au,ay,Int.toNat_natCast,decide_true]
 unfold qc8 tk;rw[hL,ag];cases a.any (fun p=>ls b p)<;>rfl
end Go.Proofs.YtclbndfjhjladaaGreat
