/-
  Migrate: what can be fired; when a pair satisfies the conditions of a simulation.
-/
import Derived.Test.YtdhfhpdadbopkaaZ6M2
set_option linter.all false
namespace Go.Proofs.Ytdhfhpdadbopkaa
open Go.K Go.M
def okB(n:az)(m:List Int)(t:Nat):Bool:=decide ((ek n m t).1=0)
def q0g(n:az)(m:List Int)(t:Nat):Stp:=((t:Int),(ek n m t).2,())
def okT(n:az)(m:List Int)(i:Nat):List Nat:=(List.range i).filter (okB n m)
def j8(n:az)(m:List Int):List Stp:=(okT n m n.2.1.length).map (q0g n m)
theorem ja5(n:az)(m:List Int)(i:Nat):okT n m (i+1)=if okB n m i=true then okT n m i++[i]else okT n m i:=by
 unfold okT;rw[List.range_succ,List.filter_append];split
 ·rename_i h;rw[jad h]
 ·rename_i h;rw[jac (by simpa using h),List.append_nil]
theorem q7j(n:az)(m:List Int)(i:Nat):(okT n m i).length≤i:=by
 have:=List.length_filter_le (okB n m) (List.range i);rwa[List.length_range]at this
theorem jbp{n:az}(h:Small n)(hv:cd n=true){m:List Int}(hm:fa n.1 m=true):fm n m=some (j8 n m):=by
 have ht:=h.trans;have hL:qgo m (n.2.1.length:Int) n.1 n.2.1 n.2.2.1 n.2.2.2.1 (0,[])=some (.inl (j8 n m)):=by
  refine x0 (fun i=>((i:Int),(okT n m i).map (q0g n m))) n.2.1.length (i6 (by omega)) _ (fun i hi=> ?_) ?_ _ rfl
  ·have hF:=q6u h hv hm hi;have hlen:=q7j n m i;have hl:((okT n m i).map (q0g n m)).length=(okT n m i).length:=List.length_map _;have hF:xk (n.1,n.2.1,n.2.2.1,n.2.2.2.1,()) m (i:Int)=some (ek n m i):=hF;unfold qe;rw[fo (by omega),hF,ja5];simp only[aq];cases ho:okB n m i with
   |true=>
    have:decide ((ek n m i).1=0)=true:=ho;rw[this,if_pos rfl,List.map_append];simp(disch:=omega)only[am,hl,rs];rfl
   |false=>
    have:decide ((ek n m i).1=0)=false:=ho;rw[this,if_neg (by simp)];simp(disch:=omega)only[am,rs]
  ·simp(disch:=omega)only[qe,rs];rfl
 unfold fm;rw[hL];rfl
theorem jbo{n:az}{m:List Int}{i:Nat}(hi:i<(j8 n m).length):∃t,t<n.2.1.length∧okB n m t=true∧(j8 n m).getD i ag.z=q0g n m t:=by
 have h1:=a7 ag.z hi;obtain⟨t,ht,e⟩:=List.mem_map.1 h1;have:=List.mem_filter.1 ht;exact⟨t,List.mem_range.1 this.1,this.2,e.symm⟩
theorem q9d(n:az)(m:List Int):(j8 n m).length≤n.2.1.length:=by
 unfold j8;rw[List.length_map];exact q7j _ _ _
theorem jc9{n:az}(h:Small n)(hv:cd n=true){m:List Int}(hm:fa n.1 m=true){t:Nat}(ht:t<n.2.1.length)(ho:okB n m t=true):fa n.1 (ek n m t).2=true:=qu9 h hv hm ht (of_decide_eq_true ho)
def q4a(n:az)(p:Int):List Int:=(List.replicate n.1.toNat (0:Int)).set p.toNat 1
abbrev jjl(n:az):List Int:=q4a n n.2.2.2.1
abbrev qdl(n:az):List Int:=q4a n n.2.2.1
theorem ja7(n:az)(p:Int):(q4a n p).length=n.1.toNat:=by unfold q4a;rw[List.length_set,List.length_replicate]
theorem q52{n:az}(h:Small n)(hv:cd n=true){p:Int}(hp:0≤p∧p<n.1):qei n p=some (0,q4a n p)∧qel n p=some (q4a n p):=by
 obtain⟨p1,p2,_⟩:=fq hv h;have hl:(List.replicate n.1.toNat (0:Int)).length=n.1.toNat:=List.length_replicate;constructor
 ·unfold qei;rw[qna h,hv];simp(disch:=omega)only[Bool.not_true,hl,rs];rfl
 ·unfold qel;simp(disch:=omega)only[hl,rs];rfl
theorem qut{n:az}(h:Small n)(hv:cd n=true):r0 n=some (qdl n,0):=by
 obtain⟨p1,p2,p3,p4,p5,_⟩:=fq hv h;unfold r0;rw[(q52 h hv p4).1];rfl
theorem qn9{n:az}(h:Small n)(hv:cd n=true)(p:Int):fa n.1 (q4a n p)=true:=by
 obtain⟨p1,p2,_⟩:=fq hv h;refine qds.2 ⟨by rw[ja7];omega,fun i hi=> ?_⟩;unfold q4a at hi⊢;rw[List.length_set,List.length_replicate]at hi;rw[List.getD_eq_getElem?_getD,List.getElem?_set];split
 ·split
  ·simp
  ·simp
 ·rw[List.getElem?_replicate,if_pos hi];simp
def qdp(n:az)(t:Nat):ByteArray:=(n.2.1.getD t af.z).1
def jqj(new:az)(f:List Int→List Int→Bool)(lab:ByteArray)(x y:List Int):Bool:=(j8 new y).any fun a=>eqS (qdp new a.1.toNat) lab&&f x a.2.1
def jqk(old new:az)(f:List Int→List Int→Bool)(y:List Int)(s:Stp):Bool:=(eqS (qdp old s.1.toNat) ⟨#[]⟩&&f s.2.1 y)||jqj new f (qdp old s.1.toNat) s.2.1 y
def jlt(old new:az)(f:List Int→List Int→Bool)(x y:List Int):Bool:=
 (!decide (x=jjl old)||decide (y=jjl new))&& !decide ((j8 old x).length<(enL old x).length)&&(j8 old x).all (jqk old new f y)
end Go.Proofs.Ytdhfhpdadbopkaa
