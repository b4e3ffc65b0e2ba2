/-
  Freechoice: the clusters of a net.
-/
import Derived.Test.YtclbndfjhjladaaGreatZ4G4
set_option linter.all false
namespace Go.Proofs.YtclbndfjhjladaaGreat
open Go.K Go.M
abbrev Clu:Type:=ae
def qf(c:Nat→Nat)(i:Nat):List Nat:=(List.range i).filter fun r=>decide (c r=r)
def plC(c:Nat→Nat)(M i r:Nat):List Int:=((List.range i).filter fun z=>decide (z<M)&&decide (c z=r)).map fun(z:Nat)=>(z:Int)
def trC(c:Nat→Nat)(M i r:Nat):List Int:=((List.range i).filter fun z=> !decide (z<M)&&decide (c z=r)).map fun(z:Nat)=>(z:Int)-(M:Int)
def qg0(c:Nat→Nat)(M i r:Nat):Clu:=(plC c M i r,trC c M i r,())
def qod(c:Nat→Nat)(M i:Nat):List Clu:=(qf c i).map (qg0 c M i)
theorem qcw(c:Nat→Nat)(i:Nat):qf c (i+1)=if c i=i then qf c i++[i]else qf c i:=by
 unfold qf;rw[List.range_succ,List.filter_append];split
 ·rename_i h;rw[List.filter_cons,if_pos (by simpa using h)];rfl
 ·rename_i h;rw[List.filter_cons,if_neg (by simpa using h)];simp
theorem jh6{c:Nat→Nat}{i r:Nat}:r∈qf c i↔r<i∧c r=r:=by simp[qf]
theorem quk(c:Nat→Nat)(i:Nat):(qf c i).length≤i:=by
 have:=List.length_filter_le (fun r=>decide (c r=r)) (List.range i);rwa[List.length_range]at this
theorem q68{c:Nat→Nat}{r:Nat}(hr:c r=r):∀{i:Nat},r<i→∃B,qf c i=qf c r++r::B∧∀x∈B,r<x
 |0,h=>by omega
 |i+1,h=>by
  by_cases e:r=i
  ·subst e;exact⟨[],by rw[qcw,if_pos hr],fun x hx=>by cases hx⟩
  ·obtain⟨B,h1,h2⟩:=q68 hr (i:=i) (by omega);rw[qcw];split
   ·exact⟨B++[i],by rw[h1,List.append_assoc];rfl,fun x hx=>by rcases List.mem_append.1 hx with hx|hx;exact h2 x hx;rw[List.mem_singleton.1 hx];omega⟩
   ·exact⟨B,h1,h2⟩
theorem qgp(c:Nat→Nat)(M i r:Nat):qg0 c M (i+1) r=if c i=r then(if i<M then(plC c M i r++[(i:Int)],trC c M i r,())else(plC c M i r,trC c M i r++[(i:Int)-(M:Int)],()))else qg0 c M i r:=by
 unfold qg0 plC trC;simp only[List.range_succ,List.filter_append,List.filter_cons,List.filter_nil,List.map_append];by_cases h1:c i=r<;>by_cases h2:i<M<;>simp[h1,h2]
theorem jws{c:Nat→Nat}(hc:Rep c){M i:Nat}:qg0 c M i i=([],[],()):=by
 have:∀z∈List.range i,¬c z=i:=fun z hz=>by have:=hc.le z;have:=List.mem_range.1 hz;omega
 unfold qg0 plC trC;rw[List.filter_eq_nil_iff.2 (fun z hz=>by simp[this z hz]),List.filter_eq_nil_iff.2 (fun z hz=>by simp[this z hz])];rfl
theorem jmm(c:Nat→Nat)(M i r:Nat):(qg0 c M i r).1.length≤i∧(qg0 c M i r).2.1.length≤i:=by
 unfold qg0 plC trC;simp only[List.length_map];have h1:=List.length_filter_le (fun z=>decide (z<M)&&decide (c z=r)) (List.range i);have h2:=List.length_filter_le (fun z=> !decide (z<M)&&decide (c z=r)) (List.range i);rw[List.length_range]at h1 h2;exact⟨h1,h2⟩
theorem jcz{β:Type}(k k' :Int)(x:β):∀(l:List (Int×β)),qb7 (.int .i64) k (qxb (.int .i64) k' x l)=bif k==k' then some x else qb7 (.int .i64) k l
 |[]=>rfl
 |e::l=>by
  have ih:=jcz k k' x l;show qb7 (.int .i64) k (bif k' ==e.1 then(k',x)::l else e::qxb (.int .i64) k' x l)=bif k==k' then some x else(bif k==e.1 then some e.2 else qb7 (.int .i64) k l);cases h1:k' ==e.1 with
  |true=>
   have h1:=eq_of_beq h1;subst h1;show(bif k==e.1 then some x else qb7 (.int .i64) k l)=_;cases k==e.1<;>rfl
  |false=>
   show(bif k==e.1 then some e.2 else qb7 (.int .i64) k (qxb (.int .i64) k' x l))=_;rw[ih];cases h2:k==e.1<;>cases h3:k==k' <;>first|rfl|(have h2:=eq_of_beq h2;have h3:=eq_of_beq h3;subst h2;subst h3;simp at h1)
theorem j2d(X Z:List Clu)(y:Clu)(i M:Nat)(hi:i≤1000)(hM:M≤1000)(hX:X.length≤1000)(hZ:Z.length≤1000)(hy:y.1.length≤1000∧y.2.1.length≤1000)(a b c d:Int)(ts:List af)(P:Int)(mp:List (Int×Int))(ps:List Int)(k:Int)(hk:k=(X.length:Int)):
  kl (i:Int) k a b (M:Int) ts c d P mp (X++y::Z) ps=some (.inl (X++(if i<M then(y.1++[(i:Int)],y.2.1,())else(y.1,y.2.1++[(i:Int)-(M:Int)],()))::Z)):=by
 subst hk;have hg:(X++y::Z).getD X.length ae.z=y:=by simp[List.getD_eq_getElem?_getD]
 have hs:∀v,(X++y::Z).set X.length v=X++v::Z:=fun v=>by simp[List.set_append]
 have hl:∀v:Clu,(X++v::Z).length=X.length+(Z.length+1):=fun v=>by simp
 obtain⟨h1,h2⟩:=hy;unfold kl;by_cases e:i<M
 ·rw[if_pos e];simp(disch:=omega)only[jl,hg,hs,hl,ls,rs]
 ·rw[if_neg e];simp(disch:=omega)only[jl,hg,hs,hl,ls,rs]
section
variable {M T : Nat} (hM : M ≤ 100) (hT : T ≤ 100) {c : Nat → Nat} (hc : Rep c)
include hM hT hc
theorem ji9{p:Nat→Nat}(hp:UF p c)(ts:List af)(a b:Int):
  rz ((M+T:Nat):Int) (M:Int) ts a b (0,(M:Int),[],[],pL (M+T) p)=some (.inl (qod c M (M+T))):=by
 have hL:∃o,rz ((M+T:Nat):Int) (M:Int) ts a b (0,(M:Int),[],[],pL (M+T) p)=some o∧o= .inl (qod c M (M+T)):=by
  refine da (fun(s:Int×Int×List (Int×Int)×List Clu×List Int)=>∃(i:Nat) (m:List (Int×Int)) (q:Nat→Nat),s=((i:Int),(M:Int),m,qod c M i,pL (M+T) q)∧i≤M+T∧UF q c∧∀z:Nat,c z=z→qb7 (.int .i64) (z:Int) m=if z<i then some ((qf c z).length:Int)else none) (fun s=>M+T-s.1.toNat) _ _ ⟨0,[],p,rfl,Nat.zero_le _,hp,fun z _=>rfl⟩ (by unfold many;simp;omega) ?_;rintro _ ⟨i,m,q,rfl,hi,hq,hm⟩;by_cases e:i=M+T
  ·subst e;refine⟨.done (qod c M (M+T)),?_,rfl⟩;simp(disch:=omega)only[f5,rs]
  ·obtain⟨q',hq',hroot⟩:=q13 (N:=M+T) (by omega) hc (M:Int) hq (show i<M+T by omega);have hidem:=hc.idem i;have hle:=hc.le i;have hfind:=hm (c i) hidem;have hlen:=quk c i;have hlen2:=quk c (c i);have holen:(qod c M i).length=(qf c i).length:=List.length_map _;by_cases hnew:c i<i
   ·rw[if_pos hnew]at hfind;obtain⟨B,hsplit,hBgt⟩:=q68 hidem hnew;have hBl:(qf c i).length=(qf c (c i)).length+(B.length+1):=by rw[hsplit];simp
    have hout:qod c M i=(qf c (c i)).map (qg0 c M i)++qg0 c M i (c i)::B.map (qg0 c M i):=by
     unfold qod;rw[hsplit,List.map_append];rfl
    have hnext:qod c M (i+1)=(qf c (c i)).map (qg0 c M i)++(if i<M then((qg0 c M i (c i)).1++[(i:Int)],(qg0 c M i (c i)).2.1,())else((qg0 c M i (c i)).1,(qg0 c M i (c i)).2.1++[(i:Int)-(M:Int)],()))::B.map (qg0 c M i):=by
     unfold qod;rw[qcw,if_neg (by omega),hsplit,List.map_append,List.map_cons,qgp,if_pos rfl];congr 1
     ·refine List.map_congr_left fun r hr=> ?_
      rw[qgp,if_neg (by have:=(jh6.1 hr).1;omega)]
     ·congr 1;refine List.map_congr_left fun r hr=> ?_
      rw[qgp,if_neg (by have:=hBgt r hr;omega)]
    refine⟨.next (((i+1:Nat):Int),(M:Int),m,qod c M (i+1),pL (M+T) q'),?_,⟨i+1,m,q',rfl,by omega,hq',fun z hz=> ?_⟩,?_⟩
    ·unfold f5;rw[qq5 (by omega),hroot];simp only[au,qcl,decide_true,ls];rw[hfind];simp only[Option.isSome_some,Bool.not_true,cond_false,Option.getD_some];obtain⟨l1,l2⟩:=jmm c M i (c i);rw[hout,j2d _ _ _ i M (by omega) (by omega) (by rw[List.length_map];omega) (by rw[List.length_map];omega) ⟨by omega,by omega⟩ _ _ _ _ _ _ _ _ _ (by rw[List.length_map]),←hnext];simp(disch:=omega)only[rs];rw[ag]
    ·rw[hm z hz];by_cases e1:z<i
     ·rw[if_pos e1,if_pos (by omega)]
     ·rw[if_neg e1];by_cases e2:z=i
      ·subst e2;omega
      ·rw[if_neg (by omega)]
    ·simp only[Int.toNat_natCast];omega
   ·have hci:c i=i:=by omega
    rw[if_neg hnew]at hfind;rw[hci]at hfind hroot;have hnext:qod c M (i+1)=qod c M i++[if i<M then(([]:List Int)++[(i:Int)],([]:List Int),())else(([]:List Int),([]:List Int)++[(i:Int)-(M:Int)],())]:=by
     unfold qod;rw[qcw,if_pos hci,List.map_append,List.map_cons,List.map_nil,qgp,if_pos hci];have hn:=jws hc (M:=M) (i:=i);unfold qg0 at hn;simp only[Prod.mk.injEq,and_true]at hn;rw[hn.1,hn.2];congr 1;refine List.map_congr_left fun r hr=> ?_
     rw[qgp,if_neg (by have:=(jh6.1 hr).1;omega)]
    refine⟨.next (((i+1:Nat):Int),(M:Int),qxb (.int .i64) (i:Int) ((qf c i).length:Int) m,qod c M (i+1),pL (M+T) q'),?_,⟨i+1,_,q',rfl,by omega,hq',fun z hz=> ?_⟩,?_⟩
    ·unfold f5;rw[qq5 (by omega),hroot];simp only[au,qcl,decide_true,ls];rw[hfind,holen];simp only[Option.isSome_none,Bool.not_false,cond_true];rw[qyp (by omega) (by omega)];refine(congrArg (fun o=>bnd o _) (j2d (qod c M i) [] ([],[],()) i M (by omega) (by omega) (by omega) (by simp) (by simp) _ _ _ _ _ _ _ _ _ (by rw[holen]))).trans ?_;simp only[au,mo];rw[←hnext];simp(disch:=omega)only[rs];rw[ag]
    ·rw[jcz,hm z hz];by_cases e2:z=i
     ·subst e2;rw[if_pos (show z<z+1 by omega)];simp
     ·have:((z:Int)==(i:Int))=false:=by rw[beq_eq_false_iff_ne];omega
      rw[this,cond_false];by_cases e1:z<i
      ·rw[if_pos e1,if_pos (by omega)]
      ·rw[if_neg e1,if_neg (by omega)]
    ·simp only[Int.toNat_natCast];omega
 obtain⟨_,ho,rfl⟩:=hL;exact ho
end
theorem jmn{M:Nat}{ts:List af}(hM:M≤100)(hT:ts.length≤100)(hB:InB M ts)(a b:Int):de ((M:Int),ts,a,b,())=some (qod (s9 (edA M false ts ts.length)) M (M+ts.length)):=by
 obtain⟨p,hp,h1⟩:=ji8 hM hT hB (M:Int) a b;unfold de;rw[qvm _ ⟨by simp,by simp;omega⟩ hT];simp only[au,Int.toNat_natCast];rw[h1];simp only[au,mo,qcl];rw[ji9 hM hT (qyr _) hp];rfl
section
variable {M T : Nat} (hM : M ≤ 100) (hT : T ≤ 100) {c : Nat → Nat} (hc : Rep c)
include hM hT hc
theorem jn4(r:Nat)(ts:List af)(a b:Int):qdu ((M:Int),ts,a,b,()) (bL (M+T) fun z=>decide (c z=r))=some (qg0 c M (M+T) r):=by
 have hL:qp3 (bL (M+T) fun z=>decide (c z=r)) (M:Int) ts a b [] [] (0,[],[])=some (.inl (plC c M (M+T) r,trC c M (M+T) r)):=by
  refine a9 (fun i=>((i:Int),(plC c M i r),(trC c M i r))) (M+T) (aw (by omega)) _ (fun i hi=> ?_) ?_ _ rfl
  ·have hs:=qgp c M i r;obtain⟨l1,l2⟩:=jmm c M i r;unfold qg0 at hs l1 l2;simp only at l1 l2;unfold um;rw[qq5 (by rw[pf];omega)];simp(disch:=omega)only[pf,qij,rs];by_cases e1:c i=r
   ·rw[if_pos e1]at hs;rw[decide_eq_true e1];by_cases e2:i<M
    ·rw[if_pos e2]at hs;simp only[Prod.mk.injEq,and_true]at hs;simp(disch:=omega)only[hs.1,hs.2,ag,rs]
    ·rw[if_neg e2]at hs;simp only[Prod.mk.injEq,and_true]at hs;simp(disch:=omega)only[hs.1,hs.2,ag,rs]
   ·rw[if_neg e1]at hs;simp only[Prod.mk.injEq,and_true]at hs;rw[decide_eq_false e1];simp(disch:=omega)only[hs.1,hs.2,ag,rs]
  ·simp(disch:=omega)only[um,pf,rs]
 unfold qdu;simp only;rw[hL];rfl
theorem jyh{i:Nat}(hi:c i=i)(x:Int)(a b d:Int)(ts:List af)(o:List Clu):
  ql4 x (bL (M+T) fun z=>decide (c z=i)) a ts b d o (0,bL (M+T) fun z=>decide (c z<i))=some (.inl (bL (M+T) fun z=>decide (c z<i+1))):=by
 refine a9 (fun k=>((k:Int),bL (M+T) fun z=>if z<k then decide (c z<i+1)else decide (c z<i))) (M+T) (aw (by omega)) _ (fun k hk=> ?_) ?_ _ ?_
 ·have hset:∀v:Bool,(v=decide (c k<i+1))→(bL (M+T) fun z=>if z<k then decide (c z<i+1)else decide (c z<i)).set k v=bL (M+T) fun z=>if z<k+1 then decide (c z<i+1)else decide (c z<i):=fun v hv=>by
   rw[ml];refine bp fun z _=> ?_
   by_cases e:z=k
   ·subst e;rw[if_pos rfl,if_pos (by omega),hv]
   ·rw[if_neg e];by_cases e2:z<k
    ·rw[if_pos e2,if_pos (by omega)]
    ·rw[if_neg e2,if_neg (by omega)]
  unfold sx;simp(disch:=omega)only[pf,qij,Nat.lt_irrefl,if_false,rs];by_cases e:c k<i
  ·rw[decide_eq_true e,cond_true,hset true (by simp;omega),ag]
  ·rw[decide_eq_false e,cond_false,hset (decide (c k=i)) (by rw[Bool.eq_iff_iff];simp;omega),ag]
 ·simp(disch:=omega)only[sx,pf,rs];congr 2;exact bp fun z hz=>if_pos hz
 ·congr 1
end
theorem je8{M:Nat}{ts:List af}(hM:M≤100)(hT:ts.length≤100)(hB:InB M ts)(a b:Int):tn ((M:Int),ts,a,b,())=some (qod (s9 (edA M false ts ts.length)) M (M+ts.length)):=by
 have hsp:=fun{i:Nat} (hi:i<M+ts.length)=>jie hM hT hB false hi a b
 have hc:=qyr (edA M false ts ts.length);generalize s9 (edA M false ts ts.length)=c at hsp hc;have hL:ql5 (M:Int) ts a b (0,bL (M+ts.length) (fun _=>false),[])=some (.inl ((qf c (M+ts.length)).map (qg0 c M (M+ts.length)))):=by
  refine a9 (fun i=>((i:Int),bL (M+ts.length) (fun z=>decide (c z<i)),(qf c i).map (qg0 c M (M+ts.length)))) (M+ts.length) (aw (by omega)) _ (fun i hi=> ?_) ?_ _ ?_
  ·have hle:=hc.le i;have hlen:=quk c i;unfold sy;simp(disch:=omega)only[pf,qij,rs];by_cases e:c i<i
   ·rw[decide_eq_true e,cond_true,qcw,if_neg (by omega),ag];congr 4;refine bp fun z _=> ?_
    rw[Bool.eq_iff_iff];simp only[decide_eq_true_iff];constructor
    ·intro h;omega
    ·intro h;rcases Nat.lt_or_ge (c z) i with h1|h1
     ·exact h1
     ·have h2:c z=i:=by omega
      have:=hc.idem z;rw[h2]at this;omega
   ·have hci:c i=i:=by omega
    rw[decide_eq_false e,cond_false,hsp hi];simp only[au,hci];rw[jyh hM hT hc hci];simp only[au,mo];rw[jn4 hM hT hc];rw[qcw,if_pos hci];simp(disch:=omega)only[List.map_append,List.map_cons,List.map_nil,List.length_map,ag,rs]
  ·simp(disch:=omega)only[sy,pf,rs]
  ·congr 2
 have eN:Int.toNat ((M:Int)+(ts.length:Int))=M+ts.length:=by omega
 unfold tn;simp(disch:=omega)only[eN,rs];rw[qa9,hL];rfl
end Go.Proofs.YtclbndfjhjladaaGreat
