/-
  Siphon: Commoner; the law SiphonCommoner.
-/
import Derived.Test.YtokeielgplbdeaaZ3U4
set_option linter.all false
namespace Go.Proofs.Ytokeielgplbdeaa
open Go.K Go.M
def enN(n:cx)(m:List Int)(i:Nat):List Nat:=(List.range i).filter fun j=>k6 (n.2.1.getD j ag.z) m
def enL(n:cx)(m:List Int):List Int:=(enN n m n.2.1.length).map fun(j:Nat)=>(j:Int)
theorem ur{n:cx}(h:Small n)(m:List Int)(hm:m.length≤1000000):n8 n m=some (bif ey n&&di n.1 m then(0,enL n m)else(1,[])):=by
 unfold n8;rw[qfn h m hm];cases hv:ey n with
 |false=>rfl
 |true=>
  cases hk:di n.1 m with
  |false=>rfl
  |true=>
   have hlen:=h.trans;have hL:qfo m n.2.1 (n.2.1.length:Int) (0,[])=some (.inl (enL n m)):=by
    unfold enL;refine jh (fun i:Nat=>((i:Int),(enN n m i).map fun(j:Nat)=>(j:Int))) n.2.1.length (bv (by omega)) _ (fun i hi=> ?_) ?_ _ rfl
    ·have ht:=ba ag.z hi;have hb:=(qvw.1 (qwb hv ht).1).1;have hml:=(rb.1 hk).1;have e1:=qth (n.2.1.getD i ag.z) m (Nat.le_trans (h.ins _ ht) (by omega)) (fun p hp=>by have:=hb p hp;omega);have e2:enN n m (i+1)=bif k6 (n.2.1.getD i ag.z) m then enN n m i++[i]else enN n m i:=by
      unfold enN;rw[List.range_succ,List.filter_append];cases hc:k6 (n.2.1.getD i ag.z) m with
      |true=>rw[jjl (p:=fun j=>k6 (n.2.1.getD j ag.z) m) hc];rfl
      |false=>rw[jjk (p:=fun j=>k6 (n.2.1.getD j ag.z) m) hc,List.append_nil];rfl
     have hle:((enN n m i).map fun(j:Nat)=>(j:Int)).length≤i:=by
      rw[List.length_map];have:=List.length_filter_le (fun j=>k6 (n.2.1.getD j ag.z) m) (List.range i);rw[List.length_range]at this;exact this
     rw[e2];cases hc:k6 (n.2.1.getD i ag.z) m with
     |true=>
      rw[hc]at e1;simp only[l8,Int.toNat_natCast,e1,jf];simp(disch:=omega)only[rs];rw[al,List.map_append];rfl
     |false=>
      rw[hc]at e1;simp only[l8,Int.toNat_natCast,e1,jf];simp(disch:=omega)only[rs];rw[al]
    ·simp(disch:=omega)only[l8,rs]
   simp only[Bool.and_self,jf,Bool.not_true,cond_false,hL,qz5,cond_true]
end Go.Proofs.Ytokeielgplbdeaa
