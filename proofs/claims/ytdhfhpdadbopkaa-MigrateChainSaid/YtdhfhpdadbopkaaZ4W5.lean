/-
  Siphon: Commoner; the law SiphonCommoner.
-/
import Derived.Test.YtdhfhpdadbopkaaZ4U4
set_option linter.all false
namespace Go.Proofs.Ytdhfhpdadbopkaa
open Go.K Go.M
def enN(n:a8)(m:List Int)(i:Nat):List Nat:=(List.range i).filter fun j=>xn (n.2.1.getD j ae.z) m
def enL(n:a8)(m:List Int):List Int:=(enN n m n.2.1.length).map fun(j:Nat)=>(j:Int)
theorem qql{n:a8}(h:Small n)(m:List Int)(hm:m.length≤1000000):mc n m=some (bif cj n&&dx n.1 m then(0,enL n m)else(1,[])):=by
 unfold mc;rw[rv h m hm];cases hv:cj n with
 |false=>rfl
 |true=>
  cases hk:dx n.1 m with
  |false=>rfl
  |true=>
   have hlen:=h.trans;have hL:qe6 m n.2.1 (n.2.1.length:Int) (0,[])=some (.inl (enL n m)):=by
    unfold enL;refine xa (fun i:Nat=>((i:Int),(enN n m i).map fun(j:Nat)=>(j:Int))) n.2.1.length (gg (by omega)) _ (fun i hi=> ?_) ?_ _ rfl
    ·have ht:=a7 ae.z hi;have hb:=(qhh.1 (qs8 hv ht).1).1;have hml:=(zq.1 hk).1;have e1:=qq0 (n.2.1.getD i ae.z) m (Nat.le_trans (h.ins _ ht) (by omega)) (fun p hp=>by have:=hb p hp;omega);have e2:enN n m (i+1)=bif xn (n.2.1.getD i ae.z) m then enN n m i++[i]else enN n m i:=by
      unfold enN;rw[List.range_succ,List.filter_append];cases hc:xn (n.2.1.getD i ae.z) m with
      |true=>rw[qv1 (p:=fun j=>xn (n.2.1.getD j ae.z) m) hc];rfl
      |false=>rw[qv0 (p:=fun j=>xn (n.2.1.getD j ae.z) m) hc,List.append_nil];rfl
     have hle:((enN n m i).map fun(j:Nat)=>(j:Int)).length≤i:=by
      rw[List.length_map];have:=List.length_filter_le (fun j=>xn (n.2.1.getD j ae.z) m) (List.range i);rw[List.length_range]at this;exact this
     rw[e2];cases hc:xn (n.2.1.getD i ae.z) m with
     |true=>
      rw[hc]at e1;simp only[mr,Int.toNat_natCast,e1,au];simp(disch:=omega)only[rs];rw[am,List.map_append];rfl
     |false=>
      rw[hc]at e1;simp only[mr,Int.toNat_natCast,e1,au];simp(disch:=omega)only[rs];rw[am]
    ·simp(disch:=omega)only[mr,rs]
   simp only[Bool.and_self,au,Bool.not_true,cond_false,hL,qjq,cond_true]
end Go.Proofs.Ytdhfhpdadbopkaa
