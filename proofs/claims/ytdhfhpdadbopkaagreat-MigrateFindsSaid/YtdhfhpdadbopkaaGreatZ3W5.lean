/-
  Siphon: Commoner; the law SiphonCommoner.
-/
import Derived.Test.YtdhfhpdadbopkaaGreatZ3U4
set_option linter.all false
namespace Go.Proofs.YtdhfhpdadbopkaaGreat
open Go.K Go.M
def enN(n:a7)(m:List Int)(i:Nat):List Nat:=(List.range i).filter fun j=>wn (n.2.1.getD j af.z) m
def enL(n:a7)(m:List Int):List Int:=(enN n m n.2.1.length).map fun(j:Nat)=>(j:Int)
theorem qpm{n:a7}(h:Small n)(m:List Int)(hm:m.length≤1000000):lu n m=some (bif bu n&&bq n.1 m then(0,enL n m)else(1,[])):=by
 unfold lu;rw[wb h m hm];cases hv:bu n with
 |false=>rfl
 |true=>
  cases hk:bq n.1 m with
  |false=>rfl
  |true=>
   have hlen:=h.trans;have hL:qjn m n.2.1 (n.2.1.length:Int) (0,[])=some (.inl (enL n m)):=by
    unfold enL;refine f9 (fun i:Nat=>((i:Int),(enN n m i).map fun(j:Nat)=>(j:Int))) n.2.1.length (cr (by omega)) _ (fun i hi=> ?_) ?_ _ rfl
    ·have ht:=au af.z hi;have hb:=(qm0.1 (q3i hv ht).1).1;have hml:=(qdp.1 hk).1;have e1:=qz9 (n.2.1.getD i af.z) m (Nat.le_trans (h.ins _ ht) (by omega)) (fun p hp=>by have:=hb p hp;omega);have e2:enN n m (i+1)=bif wn (n.2.1.getD i af.z) m then enN n m i++[i]else enN n m i:=by
      unfold enN;rw[List.range_succ,List.filter_append];cases hc:wn (n.2.1.getD i af.z) m with
      |true=>rw[qt9 (p:=fun j=>wn (n.2.1.getD j af.z) m) hc];rfl
      |false=>rw[qpp (p:=fun j=>wn (n.2.1.getD j af.z) m) hc,List.append_nil];rfl
     have hle:((enN n m i).map fun(j:Nat)=>(j:Int)).length≤i:=by
      rw[List.length_map];have:=List.length_filter_le (fun j=>wn (n.2.1.getD j af.z) m) (List.range i);rw[List.length_range]at this;exact this
     rw[e2];cases hc:wn (n.2.1.getD i af.z) m with
     |true=>
      rw[hc]at e1;simp only[oy,Int.toNat_natCast,e1,ah];simp(disch:=omega)only[rs];rw[ai,List.map_append];rfl
     |false=>
      rw[hc]at e1;simp only[oy,Int.toNat_natCast,e1,ah];simp(disch:=omega)only[rs];rw[ai]
    ·simp(disch:=omega)only[oy,rs]
   simp only[Bool.and_self,ah,Bool.not_true,cond_false,hL,gf,cond_true]
end Go.Proofs.YtdhfhpdadbopkaaGreat
