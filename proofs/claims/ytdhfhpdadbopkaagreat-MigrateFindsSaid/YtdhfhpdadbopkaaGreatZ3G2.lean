/-
  Freechoice: free-choice nets, lists with a common number.
-/
import Derived.Test.YtdhfhpdadbopkaaGreatZ3G1
set_option linter.all false
namespace Go.Proofs.YtdhfhpdadbopkaaGreat
open Go.K Go.M
theorem jgw(a b:List Int)(ha:a.length≤1000000):bz a b=some (decide (a=b)):=by
 unfold bz;by_cases hl:a.length=b.length
 ·rw[qm7 (by simp[hl])];have hloop:zq a b (a.length:Int) 0=some (bif (List.range a.length).all (fun i=>decide (a.getD i 0=b.getD i 0))then .inl ()else .inr false):=by
   refine ou (fun i:Nat=>(i:Int)) a.length (cr (by omega)) _ () false ?_ ?_ ?_
   ·intro i hi hp;have hp' :a.getD i 0=b.getD i 0:=of_decide_eq_true hp;simp(disch:=omega)only[gv,rs];rw[ai]
   ·intro i hi hp;have hp' :a.getD i 0≠b.getD i 0:=of_decide_eq_false hp;simp(disch:=omega)only[gv,rs]
   ·simp(disch:=omega)only[gv,rs]
  rw[hloop,ah];have hall:(List.range a.length).all (fun i=>decide (a.getD i 0=b.getD i 0))=decide (a=b):=by
   rw[Bool.eq_iff_iff,List.all_eq_true,decide_eq_true_iff];constructor
   ·intro h;refine List.ext_getElem hl fun i h1 h2=> ?_
    have:=of_decide_eq_true (h i (List.mem_range.2 h1));rw[ld a i 0 h1,ld b i 0 h2]at this;exact this
   ·rintro rfl i _;simp
  rw[hall];cases decide (a=b)<;>rfl
 ·have:¬a=b:=fun h=>hl (by rw[h])
  rw[qm8 (by simp;omega),decide_eq_false this]
theorem qz1{b:Bool}:(lk (bif b then(.inl ():Unit⊕Bool)else .inr false) (fun _=>some true) fun r=>some r)=some b:=by cases b<;>rfl
end Go.Proofs.YtdhfhpdadbopkaaGreat
