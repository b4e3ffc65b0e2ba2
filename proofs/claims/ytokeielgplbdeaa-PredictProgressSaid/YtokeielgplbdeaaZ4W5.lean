/-
  Siphon: Commoner; the law SiphonCommoner.
-/
import Derived.Test.YtokeielgplbdeaaZ4U4
set_option linter.all false
namespace Go.Proofs.Ytokeielgplbdeaa
open Go.K Go.M
def enN(n:c8)(m:List Int)(i:Nat):List Nat:=(List.range i).filter fun j=>jl (n.2.1.getD j ai.z) m
def enL(n:c8)(m:List Int):List Int:=(enN n m n.2.1.length).map fun(j:Nat)=>(j:Int)
theorem o4{n:c8}(h:Small n)(m:List Int)(hm:m.length≤1000000):li n m=some (bif db n&&de n.1 m then(0,enL n m)else(1,[])):=by
 unfold li;rw[qfd h m hm];cases hv:db n with
 |false=>rfl
 |true=>
  cases hk:de n.1 m with
  |false=>rfl
  |true=>
   have hlen:=h.trans;have hL:qfe m n.2.1 (n.2.1.length:Int) (0,[])=some (.inl (enL n m)):=by
    unfold enL;refine iz (fun i:Nat=>((i:Int),(enN n m i).map fun(j:Nat)=>(j:Int))) n.2.1.length (bh (by omega)) _ (fun i hi=> ?_) ?_ _ rfl
    ·have ht:=aw ai.z hi;have hb:=(qr5.1 (qsk hv ht).1).1;have hml:=(ko.1 hk).1;have e1:=qp9 (n.2.1.getD i ai.z) m (Nat.le_trans (h.ins _ ht) (by omega)) (fun p hp=>by have:=hb p hp;omega);have e2:enN n m (i+1)=bif jl (n.2.1.getD i ai.z) m then enN n m i++[i]else enN n m i:=by
      unfold enN;rw[List.range_succ,List.filter_append];cases hc:jl (n.2.1.getD i ai.z) m with
      |true=>rw[je7 (p:=fun j=>jl (n.2.1.getD j ai.z) m) hc];rfl
      |false=>rw[je6 (p:=fun j=>jl (n.2.1.getD j ai.z) m) hc,List.append_nil];rfl
     have hle:((enN n m i).map fun(j:Nat)=>(j:Int)).length≤i:=by
      rw[List.length_map];have:=List.length_filter_le (fun j=>jl (n.2.1.getD j ai.z) m) (List.range i);rw[List.length_range]at this;exact this
     rw[e2];cases hc:jl (n.2.1.getD i ai.z) m with
     |true=>
      rw[hc]at e1;simp only[me,Int.toNat_natCast,e1,i4];simp(disch:=omega)only[rs];rw[aj,List.map_append];rfl
     |false=>
      rw[hc]at e1;simp only[me,Int.toNat_natCast,e1,i4];simp(disch:=omega)only[rs];rw[aj]
    ·simp(disch:=omega)only[me,rs]
   simp only[Bool.and_self,i4,Bool.not_true,cond_false,hL,qv1,cond_true]
end Go.Proofs.Ytokeielgplbdeaa
