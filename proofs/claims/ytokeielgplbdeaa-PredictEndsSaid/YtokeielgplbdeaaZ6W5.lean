/-
  Siphon: Commoner; the law SiphonCommoner.
-/
import Derived.Test.YtokeielgplbdeaaZ6U4
set_option linter.all false
namespace Go.Proofs.Ytokeielgplbdeaa
open Go.K Go.M
def enN(n:c9)(m:List Int)(i:Nat):List Nat:=(List.range i).filter fun j=>kw (n.2.1.getD j ai.z) m
def enL(n:c9)(m:List Int):List Int:=(enN n m n.2.1.length).map fun(j:Nat)=>(j:Int)
theorem u4{n:c9}(h:Small n)(m:List Int)(hm:m.length≤1000000):oa n m=some (bif de n&&df n.1 m then(0,enL n m)else(1,[])):=by
 unfold oa;rw[qu h m hm];cases hv:de n with
 |false=>rfl
 |true=>
  cases hk:df n.1 m with
  |false=>rfl
  |true=>
   have hlen:=h.trans;have hL:qfi m n.2.1 (n.2.1.length:Int) (0,[])=some (.inl (enL n m)):=by
    unfold enL;refine iw (fun i:Nat=>((i:Int),(enN n m i).map fun(j:Nat)=>(j:Int))) n.2.1.length (bm (by omega)) _ (fun i hi=> ?_) ?_ _ rfl
    ·have ht:=az ai.z hi;have hb:=(qsv.1 (qta hv ht).1).1;have hml:=(ma.1 hk).1;have e1:=qqu (n.2.1.getD i ai.z) m (Nat.le_trans (h.ins _ ht) (by omega)) (fun p hp=>by have:=hb p hp;omega);have e2:enN n m (i+1)=bif kw (n.2.1.getD i ai.z) m then enN n m i++[i]else enN n m i:=by
      unfold enN;rw[List.range_succ,List.filter_append];cases hc:kw (n.2.1.getD i ai.z) m with
      |true=>rw[jfu (p:=fun j=>kw (n.2.1.getD j ai.z) m) hc];rfl
      |false=>rw[jft (p:=fun j=>kw (n.2.1.getD j ai.z) m) hc,List.append_nil];rfl
     have hle:((enN n m i).map fun(j:Nat)=>(j:Int)).length≤i:=by
      rw[List.length_map];have:=List.length_filter_le (fun j=>kw (n.2.1.getD j ai.z) m) (List.range i);rw[List.length_range]at this;exact this
     rw[e2];cases hc:kw (n.2.1.getD i ai.z) m with
     |true=>
      rw[hc]at e1;simp only[mc,Int.toNat_natCast,e1,iz];simp(disch:=omega)only[rs];rw[aj,List.map_append];rfl
     |false=>
      rw[hc]at e1;simp only[mc,Int.toNat_natCast,e1,iz];simp(disch:=omega)only[rs];rw[aj]
    ·simp(disch:=omega)only[mc,rs]
   simp only[Bool.and_self,iz,Bool.not_true,cond_false,hL,qwp,cond_true]
end Go.Proofs.Ytokeielgplbdeaa
