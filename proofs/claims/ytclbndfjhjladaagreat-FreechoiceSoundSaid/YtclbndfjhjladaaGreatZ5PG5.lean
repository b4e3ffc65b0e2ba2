/-
  Freechoice: the clusters of a net.
-/
import Derived.Test.YtclbndfjhjladaaGreatZ5PG4
set_option linter.all false
namespace Go.Proofs.YtclbndfjhjladaaGreat
open Go.K Go.M
abbrev Clu:Type:=ag
def dv(c:Nat→Nat)(i:Nat):List Nat:=(List.range i).filter fun r=>decide (c r=r)
def plC(c:Nat→Nat)(M i r:Nat):List Int:=((List.range i).filter fun z=>decide (z<M)&&decide (c z=r)).map fun(z:Nat)=>(z:Int)
def trC(c:Nat→Nat)(M i r:Nat):List Int:=((List.range i).filter fun z=> !decide (z<M)&&decide (c z=r)).map fun(z:Nat)=>(z:Int)-(M:Int)
def qk4(c:Nat→Nat)(M i r:Nat):Clu:=(plC c M i r,trC c M i r,())
def qoq(c:Nat→Nat)(M i:Nat):List Clu:=(dv c i).map (qk4 c M i)
theorem qmj(c:Nat→Nat)(i:Nat):dv c (i+1)=if c i=i then dv c i++[i]else dv c i:=by
 unfold dv;rw[List.range_succ,List.filter_append];split
 ·rename_i h;rw[List.filter_cons,if_pos (by simpa using h)];rfl
 ·rename_i h;rw[List.filter_cons,if_neg (by simpa using h)];simp
theorem q0e{c:Nat→Nat}{i r:Nat}:r∈dv c i↔r<i∧c r=r:=by simp[dv]
theorem q0d(c:Nat→Nat)(i:Nat):(dv c i).length≤i:=by
 have:=List.length_filter_le (fun r=>decide (c r=r)) (List.range i);rwa[List.length_range]at this
theorem ya{c:Nat→Nat}{r:Nat}(hr:c r=r):∀{i:Nat},r<i→∃B,dv c i=dv c r++r::B∧∀x∈B,r<x
 |0,h=>by omega
 |i+1,h=>by
  by_cases e:r=i
  ·subst e;exact⟨[],by rw[qmj,if_pos hr],fun x hx=>by cases hx⟩
  ·obtain⟨B,h1,h2⟩:=ya hr (i:=i) (by omega);rw[qmj];split
   ·exact⟨B++[i],by rw[h1,List.append_assoc];rfl,fun x hx=>by rcases List.mem_append.1 hx with hx|hx;exact h2 x hx;rw[List.mem_singleton.1 hx];omega⟩
   ·exact⟨B,h1,h2⟩
theorem qi5(c:Nat→Nat)(M i r:Nat):qk4 c M (i+1) r=if c i=r then(if i<M then(plC c M i r++[(i:Int)],trC c M i r,())else(plC c M i r,trC c M i r++[(i:Int)-(M:Int)],()))else qk4 c M i r:=by
 unfold qk4 plC trC;simp only[List.range_succ,List.filter_append,List.filter_cons,List.filter_nil,List.map_append];by_cases h1:c i=r<;>by_cases h2:i<M<;>simp[h1,h2]
theorem jou{c:Nat→Nat}(hc:Rep c){M i:Nat}:qk4 c M i i=([],[],()):=by
 have:∀z∈List.range i,¬c z=i:=fun z hz=>by have:=hc.le z;have:=List.mem_range.1 hz;omega
 unfold qk4 plC trC;rw[List.filter_eq_nil_iff.2 (fun z hz=>by simp[this z hz]),List.filter_eq_nil_iff.2 (fun z hz=>by simp[this z hz])];rfl
theorem jot(c:Nat→Nat)(M i r:Nat):(qk4 c M i r).1.length≤i∧(qk4 c M i r).2.1.length≤i:=by
 unfold qk4 plC trC;simp only[List.length_map];have h1:=List.length_filter_le (fun z=>decide (z<M)&&decide (c z=r)) (List.range i);have h2:=List.length_filter_le (fun z=> !decide (z<M)&&decide (c z=r)) (List.range i);rw[List.length_range]at h1 h2;exact⟨h1,h2⟩
theorem q6a{β:Type}(k k' :Int)(x:β):∀(l:List (Int×β)),qbq (.int .i64) k (qtn (.int .i64) k' x l)=bif k==k' then some x else qbq (.int .i64) k l
 |[]=>rfl
 |e::l=>by
  have ih:=q6a k k' x l;show qbq (.int .i64) k (bif k' ==e.1 then(k',x)::l else e::qtn (.int .i64) k' x l)=bif k==k' then some x else(bif k==e.1 then some e.2 else qbq (.int .i64) k l);cases h1:k' ==e.1 with
  |true=>
   have h1:=eq_of_beq h1;subst h1;show(bif k==e.1 then some x else qbq (.int .i64) k l)=_;cases k==e.1<;>rfl
  |false=>
   show(bif k==e.1 then some e.2 else qbq (.int .i64) k (qtn (.int .i64) k' x l))=_;rw[ih];cases h2:k==e.1<;>cases h3:k==k' <;>first|rfl|(have h2:=eq_of_beq h2;have h3:=eq_of_beq h3;subst h2;subst h3;simp at h1)
theorem jur(X Z:List Clu)(y:Clu)(i M:Nat)(hi:i≤1000)(hM:M≤1000)(hX:X.length≤1000)(hZ:Z.length≤1000)(hy:y.1.length≤1000∧y.2.1.length≤1000)(a b c d:Int)(ts:List ae)(P:Int)(mp:List (Int×Int))(ps:List Int)(k:Int)(hk:k=(X.length:Int)):
  ls (i:Int) k a b (M:Int) ts c d P mp (X++y::Z) ps=some (.inl (X++(if i<M then(y.1++[(i:Int)],y.2.1,())else(y.1,y.2.1++[(i:Int)-(M:Int)],()))::Z)):=by
 subst hk;have hg:(X++y::Z).getD X.length ag.z=y:=by simp[List.getD_eq_getElem?_getD]
 have hs:∀v,(X++y::Z).set X.length v=X++v::Z:=fun v=>by simp[List.set_append]
 have hl:∀v:Clu,(X++v::Z).length=X.length+(Z.length+1):=fun v=>by simp
 obtain⟨h1,h2⟩:=hy;unfold ls;by_cases e:i<M
 ·rw[if_pos e];simp(disch:=omega)only[kd,hg,hs,hl,nu,rs]
 ·rw[if_neg e];simp(disch:=omega)only[kd,hg,hs,hl,nu,rs]
section
variable {M T : Nat} (hM : M ≤ 100) (hT : T ≤ 100) {c : Nat → Nat} (hc : Rep c)
include hM hT hc
theorem jbb{p:Nat→Nat}(hp:UF p c)(ts:List ae)(a b:Int):
  sy ((M+T:Nat):Int) (M:Int) ts a b (0,(M:Int),[],[],pL (M+T) p)=some (.inl (qoq c M (M+T))):=by
 have hL:∃o,sy ((M+T:Nat):Int) (M:Int) ts a b (0,(M:Int),[],[],pL (M+T) p)=some o∧o= .inl (qoq c M (M+T)):=by
  refine og (fun(s:Int×Int×List (Int×Int)×List Clu×List Int)=>∃(i:Nat) (m:List (Int×Int)) (q:Nat→Nat),s=((i:Int),(M:Int),m,qoq c M i,pL (M+T) q)∧i≤M+T∧UF q c∧∀z:Nat,c z=z→qbq (.int .i64) (z:Int) m=if z<i then some ((dv c z).length:Int)else none) (fun s=>M+T-s.1.toNat) _ _ ⟨0,[],p,rfl,Nat.zero_le _,hp,fun z _=>rfl⟩ (by unfold many;simp;omega) ?_;rintro _ ⟨i,m,q,rfl,hi,hq,hm⟩;by_cases e:i=M+T
  ·subst e;refine⟨.done (qoq c M (M+T)),?_,rfl⟩;simp(disch:=omega)only[gq,rs]
  ·obtain⟨q',hq',hroot⟩:=qwr (N:=M+T) (by omega) hc (M:Int) hq (show i<M+T by omega);have hidem:=hc.idem i;have hle:=hc.le i;have hfind:=hm (c i) hidem;have hlen:=q0d c i;have hlen2:=q0d c (c i);have holen:(qoq c M i).length=(dv c i).length:=List.length_map _;by_cases hnew:c i<i
   ·rw[if_pos hnew]at hfind;obtain⟨B,hsplit,hBgt⟩:=ya hidem hnew;have hBl:(dv c i).length=(dv c (c i)).length+(B.length+1):=by rw[hsplit];simp
    have hout:qoq c M i=(dv c (c i)).map (qk4 c M i)++qk4 c M i (c i)::B.map (qk4 c M i):=by
     unfold qoq;rw[hsplit,List.map_append];rfl
    have hnext:qoq c M (i+1)=(dv c (c i)).map (qk4 c M i)++(if i<M then((qk4 c M i (c i)).1++[(i:Int)],(qk4 c M i (c i)).2.1,())else((qk4 c M i (c i)).1,(qk4 c M i (c i)).2.1++[(i:Int)-(M:Int)],()))::B.map (qk4 c M i):=by
     unfold qoq;rw[qmj,if_neg (by omega),hsplit,List.map_append,List.map_cons,qi5,if_pos rfl];congr 1
     ·refine List.map_congr_left fun r hr=> ?_
      rw[qi5,if_neg (by have:=(q0e.1 hr).1;omega)]
     ·congr 1;refine List.map_congr_left fun r hr=> ?_
      rw[qi5,if_neg (by have:=hBgt r hr;omega)]
    refine⟨.next (((i+1:Nat):Int),(M:Int),m,qoq c M (i+1),pL (M+T) q'),?_,⟨i+1,m,q',rfl,by omega,hq',fun z hz=> ?_⟩,?_⟩
    ·unfold gq;rw[ve (by omega),hroot];simp only[ax,qb2,decide_true,nu];rw[hfind];simp only[Option.isSome_some,Bool.not_true,cond_false,Option.getD_some];obtain⟨l1,l2⟩:=jot c M i (c i);rw[hout,jur _ _ _ i M (by omega) (by omega) (by rw[List.length_map];omega) (by rw[List.length_map];omega) ⟨by omega,by omega⟩ _ _ _ _ _ _ _ _ _ (by rw[List.length_map]),←hnext];simp(disch:=omega)only[rs];rw[ah]
    ·rw[hm z hz];by_cases e1:z<i
     ·rw[if_pos e1,if_pos (by omega)]
     ·rw[if_neg e1];by_cases e2:z=i
      ·subst e2;omega
      ·rw[if_neg (by omega)]
    ·simp only[Int.toNat_natCast];omega
   ·have hci:c i=i:=by omega
    rw[if_neg hnew]at hfind;rw[hci]at hfind hroot;have hnext:qoq c M (i+1)=qoq c M i++[if i<M then(([]:List Int)++[(i:Int)],([]:List Int),())else(([]:List Int),([]:List Int)++[(i:Int)-(M:Int)],())]:=by
     unfold qoq;rw[qmj,if_pos hci,List.map_append,List.map_cons,List.map_nil,qi5,if_pos hci];have hn:=jou hc (M:=M) (i:=i);unfold qk4 at hn;simp only[Prod.mk.injEq,and_true]at hn;rw[hn.1,hn.2];congr 1;refine List.map_congr_left fun r hr=> ?_
     rw[qi5,if_neg (by have:=(q0e.1 hr).1;omega)]
    refine⟨.next (((i+1:Nat):Int),(M:Int),qtn (.int .i64) (i:Int) ((dv c i).length:Int) m,qoq c M (i+1),pL (M+T) q'),?_,⟨i+1,_,q',rfl,by omega,hq',fun z hz=> ?_⟩,?_⟩
    ·unfold gq;rw[ve (by omega),hroot];simp only[ax,qb2,decide_true,nu];rw[hfind,holen];simp only[Option.isSome_none,Bool.not_false,cond_true];rw[q4o (by omega) (by omega)];refine(congrArg (fun o=>bnd o _) (jur (qoq c M i) [] ([],[],()) i M (by omega) (by omega) (by omega) (by simp) (by simp) _ _ _ _ _ _ _ _ _ (by rw[holen]))).trans ?_;simp only[ax,lj];rw[←hnext];simp(disch:=omega)only[rs];rw[ah]
    ·rw[q6a,hm z hz];by_cases e2:z=i
     ·subst e2;rw[if_pos (show z<z+1 by omega)];simp
     ·have:((z:Int)==(i:Int))=false:=by rw[beq_eq_false_iff_ne];omega
      rw[this,cond_false];by_cases e1:z<i
      ·rw[if_pos e1,if_pos (by omega)]
      ·rw[if_neg e1,if_neg (by omega)]
    ·simp only[Int.toNat_natCast];omega
 obtain⟨_,ho,rfl⟩:=hL;exact ho
end
theorem jee{M:Nat}{ts:List ae}(hM:M≤100)(hT:ts.length≤100)(hB:InB M ts)(a b:Int):dp ((M:Int),ts,a,b,())=some (qoq (yn (edA M false ts ts.length)) M (M+ts.length)):=by
 obtain⟨p,hp,h1⟩:=jba hM hT hB (M:Int) a b;unfold dp;rw[qsc _ ⟨by simp,by simp;omega⟩ hT];simp only[ax,Int.toNat_natCast];rw[h1];simp only[ax,lj,qb2];rw[jbb hM hT (que _) hp];rfl
end Go.Proofs.YtclbndfjhjladaaGreat
