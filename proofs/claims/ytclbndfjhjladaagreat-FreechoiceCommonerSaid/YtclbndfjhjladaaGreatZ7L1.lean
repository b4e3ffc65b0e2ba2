/-
  Freechoice: Live: the program and the reference reckon alike.
-/
import Derived.Test.YtclbndfjhjladaaGreatZ7G2
import Derived.Test.YtclbndfjhjladaaGreatZ7W5
set_option linter.all false
namespace Go.Proofs.YtclbndfjhjladaaGreat
open Go.K Go.M
theorem juh(n:dj)(m:List Int)(hm:m.length≤1000000):qba n m=some (l4 n.1 m):=by
 have hL:ya m (m.length:Int) 0=some (q38 (fun i=>(i:Int)) (zm q7g m)):=by
  refine kq m 0 q7g (fun i=>(i:Int)) (by omega) (fun i hi=> ?_) ?_
  ·unfold q7g;simp(disch:=omega)only[ij,qd9,rs];rw[ar];cases decide (m.getD i 0<0)<;>cases decide (100<m.getD i 0)<;>rfl
  ·simp(disch:=omega)only[ij,rs]
 have hC:ig m=some (m.any q7g):=by
  unfold ig pu;rw[hL,ao,qbc,ao,qfa]
 unfold qba l4;rw[hC];cases decide ((m.length:Int)=n.1)<;>cases m.any q7g<;>rfl
def jvr(ts:List ab)(p:Int):Bool:=ts.any fun t=>u7 t.2.1 p
section
variable {ts : List ab} (hl : ts.length ≤ 100) (hi' : ∀ t ∈ ts, t.2.1.length ≤ 60)
include hl hi'
theorem jte(p:Int):dk ts p=some (jvr ts p):=by
 have hL:l7 ts p (ts.length:Int) 0=some (q38 (fun i=>(i:Int)) (zm (fun t:ab=>u7 t.2.1 p) ts)):=by
  refine kq ts ab.z (fun t:ab=>u7 t.2.1 p) (fun i=>(i:Int)) (by omega) (fun i hi=> ?_) ?_
  ·have h1:=hi' _ (bm ab.z hi);simp(disch:=omega)only[dl,qk9,rs];rw[qip _ (by omega),ar];simp only[ao];exact q7b
  ·simp(disch:=omega)only[dl,rs]
 unfold dk gn;rw[hL,ao,qbc,ao,qfa];rfl
theorem j65(M:Nat)(hM:M≤1000)(a b:Int):qbw ((M:Int),ts,a,b,())=some ((List.range M).all fun p=>jvr ts (p:Int)):=by
 have hL:qwo (M:Int) (M:Int) ts a b 0=some (bif (List.range M).all (fun p=>jvr ts (p:Int))then .inl ()else .inr false):=by
  refine qlc (fun i:Nat=>(i:Int)) M (fg (by omega)) (fun p=>jvr ts (p:Int)) () false ?_ ?_ ?_
  ·intro i hi hp;simp(disch:=omega)only[rf,jte hl hi',hp,Bool.not_true,rs];rw[ar]
  ·intro i hi hp;simp(disch:=omega)only[rf,jte hl hi',hp,Bool.not_false,rs]
  ·simp(disch:=omega)only[rf,rs]
 unfold qbw;simp only;rw[hL,ao];cases(List.range M).all fun p=>jvr ts (p:Int)<;>rfl
end
end Go.Proofs.YtclbndfjhjladaaGreat
