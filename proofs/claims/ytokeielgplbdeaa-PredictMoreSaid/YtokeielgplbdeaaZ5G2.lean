/-
  Freechoice: free-choice nets, lists with a common number.
-/
import Derived.Test.YtokeielgplbdeaaZ5G1
set_option linter.all false
namespace Go.Proofs.Ytokeielgplbdeaa
open Go.K Go.M
theorem q4u(a b:List Int)(ha:a.length≤1000000):dl a b=some (decide (a=b)):=by
 unfold dl;by_cases hl:a.length=b.length
 ·rw[qgq (by simp[hl])];have hloop:td a b (a.length:Int) 0=some (bif (List.range a.length).all (fun i=>decide (a.getD i 0=b.getD i 0))then .inl ()else .inr false):=by
   refine qbg (fun i:Nat=>(i:Int)) a.length (bz (by omega)) _ () false ?_ ?_ ?_
   ·intro i hi hp;have hp' :a.getD i 0=b.getD i 0:=of_decide_eq_true hp;simp(disch:=omega)only[ge,rs];rw[aq]
   ·intro i hi hp;have hp' :a.getD i 0≠b.getD i 0:=of_decide_eq_false hp;simp(disch:=omega)only[ge,rs]
   ·simp(disch:=omega)only[ge,rs]
  rw[hloop,jl];have hall:(List.range a.length).all (fun i=>decide (a.getD i 0=b.getD i 0))=decide (a=b):=by
   rw[Bool.eq_iff_iff,List.all_eq_true,decide_eq_true_iff];constructor
   ·intro h;refine List.ext_getElem hl fun i h1 h2=> ?_
    have:=of_decide_eq_true (h i (List.mem_range.2 h1));rw[m6 a i 0 h1,m6 b i 0 h2]at this;exact this
   ·rintro rfl i _;simp
  rw[hall];cases decide (a=b)<;>rfl
 ·have:¬a=b:=fun h=>hl (by rw[h])
  rw[qgr (by simp;omega),decide_eq_false this]
end Go.Proofs.Ytokeielgplbdeaa
