/-
  Freechoice: free-choice nets, lists with a common number.
-/
import Derived.Test.YtokeielgplbdeaaZ8G1
set_option linter.all false
namespace Go.Proofs.Ytokeielgplbdeaa
open Go.K Go.M
theorem q8w(a b:List Int)(ha:a.length≤1000000):dh a b=some (decide (a=b)):=by
 unfold dh;by_cases hl:a.length=b.length
 ·rw[qib (by simp[hl])];have hloop:ug a b (a.length:Int) 0=some (bif (List.range a.length).all (fun i=>decide (a.getD i 0=b.getD i 0))then .inl ()else .inr false):=by
   refine qck (fun i:Nat=>(i:Int)) a.length (bm (by omega)) _ () false ?_ ?_ ?_
   ·intro i hi hp;have hp' :a.getD i 0=b.getD i 0:=of_decide_eq_true hp;simp(disch:=omega)only[gb,rs];rw[al]
   ·intro i hi hp;have hp' :a.getD i 0≠b.getD i 0:=of_decide_eq_false hp;simp(disch:=omega)only[gb,rs]
   ·simp(disch:=omega)only[gb,rs]
  rw[hloop,i5];have hall:(List.range a.length).all (fun i=>decide (a.getD i 0=b.getD i 0))=decide (a=b):=by
   rw[Bool.eq_iff_iff,List.all_eq_true,decide_eq_true_iff];constructor
   ·intro h;refine List.ext_getElem hl fun i h1 h2=> ?_
    have:=of_decide_eq_true (h i (List.mem_range.2 h1));rw[jx a i 0 h1,jx b i 0 h2]at this;exact this
   ·rintro rfl i _;simp
  rw[hall];cases decide (a=b)<;>rfl
 ·have:¬a=b:=fun h=>hl (by rw[h])
  rw[qic (by simp;omega),decide_eq_false this]
end Go.Proofs.Ytokeielgplbdeaa
