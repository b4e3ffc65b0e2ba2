/-
  Siphon: Commoner; the law SiphonCommoner.
-/
import Derived.Test.YtdhfhpdadbopkaaZ7U4
set_option linter.all false
namespace Go.Proofs.Ytdhfhpdadbopkaa
open Go.K Go.M
def enN(n:az)(m:List Int)(i:Nat):List Nat:=(List.range i).filter fun j=>xj (n.2.1.getD j af.z) m
def enL(n:az)(m:List Int):List Int:=(enN n m n.2.1.length).map fun(j:Nat)=>(j:Int)
theorem qn5{n:az}(h:Small n)(m:List Int)(hm:m.length≤1000000):l9 n m=some (bif bv n&&bu n.1 m then(0,enL n m)else(1,[])):=by
 unfold l9;rw[vy h m hm];cases hv:bv n with
 |false=>rfl
 |true=>
  cases hk:bu n.1 m with
  |false=>rfl
  |true=>
   have hlen:=h.trans;have hL:qiu m n.2.1 (n.2.1.length:Int) (0,[])=some (.inl (enL n m)):=by
    unfold enL;refine nt (fun i:Nat=>((i:Int),(enN n m i).map fun(j:Nat)=>(j:Int))) n.2.1.length (dl (by omega)) _ (fun i hi=> ?_) ?_ _ rfl
    ·have ht:=aw af.z hi;have hb:=(qln.1 (qzw hv ht).1).1;have hml:=(qc9.1 hk).1;have e1:=qw5 (n.2.1.getD i af.z) m (Nat.le_trans (h.ins _ ht) (by omega)) (fun p hp=>by have:=hb p hp;omega);have e2:enN n m (i+1)=bif xj (n.2.1.getD i af.z) m then enN n m i++[i]else enN n m i:=by
      unfold enN;rw[List.range_succ,List.filter_append];cases hc:xj (n.2.1.getD i af.z) m with
      |true=>rw[q3d (p:=fun j=>xj (n.2.1.getD j af.z) m) hc];rfl
      |false=>rw[qw8 (p:=fun j=>xj (n.2.1.getD j af.z) m) hc,List.append_nil];rfl
     have hle:((enN n m i).map fun(j:Nat)=>(j:Int)).length≤i:=by
      rw[List.length_map];have:=List.length_filter_le (fun j=>xj (n.2.1.getD j af.z) m) (List.range i);rw[List.length_range]at this;exact this
     rw[e2];cases hc:xj (n.2.1.getD i af.z) m with
     |true=>
      rw[hc]at e1;simp only[o3,Int.toNat_natCast,e1,ah];simp(disch:=omega)only[rs];rw[aj,List.map_append];rfl
     |false=>
      rw[hc]at e1;simp only[o3,Int.toNat_natCast,e1,ah];simp(disch:=omega)only[rs];rw[aj]
    ·simp(disch:=omega)only[o3,rs]
   simp only[Bool.and_self,ah,Bool.not_true,cond_false,hL,lq,cond_true]
end Go.Proofs.Ytdhfhpdadbopkaa
