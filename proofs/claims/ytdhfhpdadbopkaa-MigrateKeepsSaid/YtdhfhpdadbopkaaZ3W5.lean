/-
  Siphon: Commoner; the law SiphonCommoner.
-/
import Derived.Test.YtdhfhpdadbopkaaZ3U4
set_option linter.all false
namespace Go.Proofs.Ytdhfhpdadbopkaa
open Go.K Go.M
def enN(n:a8)(m:List Int)(i:Nat):List Nat:=(List.range i).filter fun j=>qbu (n.2.1.getD j ae.z) m
def enL(n:a8)(m:List Int):List Int:=(enN n m n.2.1.length).map fun(j:Nat)=>(j:Int)
theorem quz{n:a8}(h:Small n)(m:List Int)(hm:m.length≤1000000):m2 n m=some (bif bv n&&c7 n.1 m then(0,enL n m)else(1,[])):=by
 unfold m2;rw[o7 h m hm];cases hv:bv n with
 |false=>rfl
 |true=>
  cases hk:c7 n.1 m with
  |false=>rfl
  |true=>
   have hlen:=h.trans;have hL:qhs m n.2.1 (n.2.1.length:Int) (0,[])=some (.inl (enL n m)):=by
    unfold enL;refine wa (fun i:Nat=>((i:Int),(enN n m i).map fun(j:Nat)=>(j:Int))) n.2.1.length (h8 (by omega)) _ (fun i hi=> ?_) ?_ _ rfl
    ·have ht:=ba ae.z hi;have hb:=(qkc.1 (qxz hv ht).1).1;have hml:=(qb6.1 hk).1;have e1:=qvd (n.2.1.getD i ae.z) m (Nat.le_trans (h.ins _ ht) (by omega)) (fun p hp=>by have:=hb p hp;omega);have e2:enN n m (i+1)=bif qbu (n.2.1.getD i ae.z) m then enN n m i++[i]else enN n m i:=by
      unfold enN;rw[List.range_succ,List.filter_append];cases hc:qbu (n.2.1.getD i ae.z) m with
      |true=>rw[q5f (p:=fun j=>qbu (n.2.1.getD j ae.z) m) hc];rfl
      |false=>rw[q5e (p:=fun j=>qbu (n.2.1.getD j ae.z) m) hc,List.append_nil];rfl
     have hle:((enN n m i).map fun(j:Nat)=>(j:Int)).length≤i:=by
      rw[List.length_map];have:=List.length_filter_le (fun j=>qbu (n.2.1.getD j ae.z) m) (List.range i);rw[List.length_range]at this;exact this
     rw[e2];cases hc:qbu (n.2.1.getD i ae.z) m with
     |true=>
      rw[hc]at e1;simp only[ni,Int.toNat_natCast,e1,al];simp(disch:=omega)only[rs];rw[am,List.map_append];rfl
     |false=>
      rw[hc]at e1;simp only[ni,Int.toNat_natCast,e1,al];simp(disch:=omega)only[rs];rw[am]
    ·simp(disch:=omega)only[ni,rs]
   simp only[Bool.and_self,al,Bool.not_true,cond_false,hL,qi7,cond_true]
end Go.Proofs.Ytdhfhpdadbopkaa
