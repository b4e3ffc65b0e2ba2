/-
  Siphon: Commoner; the law SiphonCommoner.
-/
import Derived.Test.YtokeielgplbdeaaZ8U4
set_option linter.all false
namespace Go.Proofs.Ytokeielgplbdeaa
open Go.K Go.M
def enN(n:cj)(m:List Int)(i:Nat):List Nat:=(List.range i).filter fun j=>jm (n.2.1.getD j ag.z) m
def enL(n:cj)(m:List Int):List Int:=(enN n m n.2.1.length).map fun(j:Nat)=>(j:Int)
theorem rv{n:cj}(h:Small n)(m:List Int)(hm:m.length≤1000000):om n m=some (bif b9 n&&c8 n.1 m then(0,enL n m)else(1,[])):=by
 unfold om;rw[qfl h m hm];cases hv:b9 n with
 |false=>rfl
 |true=>
  cases hk:c8 n.1 m with
  |false=>rfl
  |true=>
   have hlen:=h.trans;have hL:qfm m n.2.1 (n.2.1.length:Int) (0,[])=some (.inl (enL n m)):=by
    unfold enL;refine jy (fun i:Nat=>((i:Int),(enN n m i).map fun(j:Nat)=>(j:Int))) n.2.1.length (bm (by omega)) _ (fun i hi=> ?_) ?_ _ rfl
    ·have ht:=aw ag.z hi;have hb:=(ue.1 (qkv hv ht).1).1;have hml:=(ja.1 hk).1;have e1:=qrw (n.2.1.getD i ag.z) m (Nat.le_trans (h.ins _ ht) (by omega)) (fun p hp=>by have:=hb p hp;omega);have e2:enN n m (i+1)=bif jm (n.2.1.getD i ag.z) m then enN n m i++[i]else enN n m i:=by
      unfold enN;rw[List.range_succ,List.filter_append];cases hc:jm (n.2.1.getD i ag.z) m with
      |true=>rw[jh3 (p:=fun j=>jm (n.2.1.getD j ag.z) m) hc];rfl
      |false=>rw[jh2 (p:=fun j=>jm (n.2.1.getD j ag.z) m) hc,List.append_nil];rfl
     have hle:((enN n m i).map fun(j:Nat)=>(j:Int)).length≤i:=by
      rw[List.length_map];have:=List.length_filter_le (fun j=>jm (n.2.1.getD j ag.z) m) (List.range i);rw[List.length_range]at this;exact this
     rw[e2];cases hc:jm (n.2.1.getD i ag.z) m with
     |true=>
      rw[hc]at e1;simp only[mi,Int.toNat_natCast,e1,i5];simp(disch:=omega)only[rs];rw[al,List.map_append];rfl
     |false=>
      rw[hc]at e1;simp only[mi,Int.toNat_natCast,e1,i5];simp(disch:=omega)only[rs];rw[al]
    ·simp(disch:=omega)only[mi,rs]
   simp only[Bool.and_self,i5,Bool.not_true,cond_false,hL,qyb,cond_true]
end Go.Proofs.Ytokeielgplbdeaa
