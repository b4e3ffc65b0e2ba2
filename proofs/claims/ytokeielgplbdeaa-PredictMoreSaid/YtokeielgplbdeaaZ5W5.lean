/-
  Siphon: Commoner; the law SiphonCommoner.
-/
import Derived.Test.YtokeielgplbdeaaZ5U4
set_option linter.all false
namespace Go.Proofs.Ytokeielgplbdeaa
open Go.K Go.M
def enN(n:dr)(m:List Int)(i:Nat):List Nat:=(List.range i).filter fun j=>kq (n.2.1.getD j aj.z) m
def enL(n:dr)(m:List Int):List Int:=(enN n m n.2.1.length).map fun(j:Nat)=>(j:Int)
theorem oq{n:dr}(h:Small n)(m:List Int)(hm:m.length≤1000000):ld n m=some (bif em n&&dg n.1 m then(0,enL n m)else(1,[])):=by
 unfold ld;rw[qed h m hm];cases hv:em n with
 |false=>rfl
 |true=>
  cases hk:dg n.1 m with
  |false=>rfl
  |true=>
   have hlen:=h.trans;have hL:qee m n.2.1 (n.2.1.length:Int) (0,[])=some (.inl (enL n m)):=by
    unfold enL;refine jo (fun i:Nat=>((i:Int),(enN n m i).map fun(j:Nat)=>(j:Int))) n.2.1.length (bz (by omega)) _ (fun i hi=> ?_) ?_ _ rfl
    ·have ht:=ba aj.z hi;have hb:=(qq2.1 (qrh hv ht).1).1;have hml:=(q9.1 hk).1;have e1:=qo3 (n.2.1.getD i aj.z) m (Nat.le_trans (h.ins _ ht) (by omega)) (fun p hp=>by have:=hb p hp;omega);have e2:enN n m (i+1)=bif kq (n.2.1.getD i aj.z) m then enN n m i++[i]else enN n m i:=by
      unfold enN;rw[List.range_succ,List.filter_append];cases hc:kq (n.2.1.getD i aj.z) m with
      |true=>rw[jdy (p:=fun j=>kq (n.2.1.getD j aj.z) m) hc];rfl
      |false=>rw[jdx (p:=fun j=>kq (n.2.1.getD j aj.z) m) hc,List.append_nil];rfl
     have hle:((enN n m i).map fun(j:Nat)=>(j:Int)).length≤i:=by
      rw[List.length_map];have:=List.length_filter_le (fun j=>kq (n.2.1.getD j aj.z) m) (List.range i);rw[List.length_range]at this;exact this
     rw[e2];cases hc:kq (n.2.1.getD i aj.z) m with
     |true=>
      rw[hc]at e1;simp only[l8,Int.toNat_natCast,e1,jl];simp(disch:=omega)only[rs];rw[aq,List.map_append];rfl
     |false=>
      rw[hc]at e1;simp only[l8,Int.toNat_natCast,e1,jl];simp(disch:=omega)only[rs];rw[aq]
    ·simp(disch:=omega)only[l8,rs]
   simp only[Bool.and_self,jl,Bool.not_true,cond_false,hL,quy,cond_true]
end Go.Proofs.Ytokeielgplbdeaa
