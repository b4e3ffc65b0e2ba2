/-
  Predict: the arcs of a graph, by states.
-/
import Derived.Test.YtokeielgplbdeaaZ8B1
set_option linter.all false
namespace Go.Proofs.Ytokeielgplbdeaa
open Go.K Go.M
def kIx(es:Ens)(i:Nat):Option Nat:=k9 (fun p:Nat×List (Nat×Nat)=>decide (p.1=i)) es
def q7i(es:Ens)(e:Eg):Ens:=match kIx es e.1 with|some j=>es.set j (e.1,(es.getD j (0,[])).2++[e.2])|none=>es++[(e.1,[e.2])]
def jh(L:List Eg)(i:Nat):List (Nat×Nat):=(L.filter fun e=>decide (e.1=i)).map fun e=>e.2
abbrev grp(L:List Eg):Ens:=L.foldl q7i []
theorem sj(L:List Eg)(e:Eg)(i:Nat):jh (L++[e]) i=if e.1=i then jh L i++[e.2]else jh L i:=by
 unfold jh;rw[List.filter_append];by_cases h:e.1=i
 ·rw[if_pos h,List.filter_cons_of_pos (by rw[decide_eq_true h]),List.filter_nil,List.map_append];rfl
 ·rw[if_neg h,List.filter_cons_of_neg (by rw[decide_eq_false h];decide),List.filter_nil,List.append_nil]
theorem ff{L:List Eg}{i:Nat}{q:Nat×Nat}:q∈jh L i↔(i,q.1,q.2)∈L:=by
 unfold jh;rw[List.mem_map];constructor
 ·rintro⟨e,he,rfl⟩;obtain⟨h1,h2⟩:=List.mem_filter.1 he;rw[←of_decide_eq_true h2];exact h1
 ·intro h;exact⟨(i,q.1,q.2),List.mem_filter.2 ⟨h,decide_eq_true rfl⟩,rfl⟩
structure GrpOK (L : List Eg) (es : Ens) : Prop where
 row : ∀ p ∈ es, p.2 = jh L p.1 ∧ p.2 ≠ []
 nd : (es.map (·.1)).Nodup
 key : ∀ i, jh L i ≠ [] → ∃ p ∈ es, p.1 = i
 len : (y4 es).length = L.length
theorem q0n{es:Ens}{i j:Nat}(h:kIx es i=some j):j<es.length∧(es.getD j (0,[])).1=i:=by
 obtain⟨h1,h2,_⟩:=vm (0,[]) h;exact⟨h1,of_decide_eq_true h2⟩
theorem jae{es:Ens}{i:Nat}(h:kIx es i=none):∀p∈es,p.1≠i:=fun p hp=>of_decide_eq_false (qcf h p hp)
theorem qo8:∀(es:Ens) (j:Nat) (q:Nat×Nat),j<es.length→(y4 (es.set j ((es.getD j (0,[])).1,(es.getD j (0,[])).2++[q]))).length=(y4 es).length+1
 |[],j,q,h=>by simp at h
 |p::es,0,q,_=>by
  show(y4 ((p.1,p.2++[q])::es)).length=_;rw[qcg,qcg,List.length_append,List.length_append];unfold edA;simp only[List.length_map,List.length_append,List.length_cons,List.length_nil];omega
 |p::es,j+1,q,h=>by
  have:=qo8 es j q (by simpa using h);have e:(p::es).getD (j+1) (0,[])=es.getD j (0,[]):=by simp
  rw[e];show(y4 (p::es.set j _)).length=_;rw[qcg,qcg,List.length_append,List.length_append,this];omega
theorem qxt(es:Ens)(i:Nat)(q:Nat×Nat):(y4 (es++[(i,[q])])).length=(y4 es).length+1:=by
 unfold y4;rw[List.flatMap_append,List.length_append];rfl
theorem q92{L:List Eg}{es:Ens}(h:GrpOK L es)(e:Eg):GrpOK (L++[e]) (q7i es e):=by
 unfold q7i;cases hk:kIx es e.1 with
 |none=>
  have hn:=jae hk;have hr:jh L e.1=[]:=by
   cases hr:jh L e.1 with
   |nil=>rfl
   |cons a l=>
    obtain⟨p,hp,hpe⟩:=h.key e.1 (by rw[hr];exact List.cons_ne_nil _ _);exact absurd hpe (hn p hp)
  refine⟨fun p hp=> ?_,?_,fun i hi=> ?_,by simp only[qxt,h.len,List.length_append,List.length_cons,List.length_nil]⟩
  ·rcases List.mem_append.1 hp with hp|hp
   ·rw[sj,if_neg (fun e' =>hn p hp e'.symm)];exact h.row p hp
   ·rw[List.mem_singleton.1 hp,sj,if_pos rfl,hr];exact⟨rfl,List.cons_ne_nil _ _⟩
  ·rw[List.map_append];refine List.nodup_append.2 ⟨h.nd,by simp,fun a ha b hb=> ?_⟩;obtain⟨p,hp,rfl⟩:=List.mem_map.1 ha;simp only[List.map_cons,List.map_nil,List.mem_singleton]at hb;rw[hb];exact hn p hp
  ·rw[sj]at hi;by_cases hc:e.1=i
   ·exact⟨_,List.mem_append_right _ (List.mem_singleton.2 rfl),hc⟩
   ·rw[if_neg hc]at hi;obtain⟨p,hp,hpi⟩:=h.key i hi;exact⟨p,List.mem_append_left _ hp,hpi⟩
 |some j=>
  obtain⟨h1,h2⟩:=q0n hk;have hmem:=aw (0,[]) h1;obtain⟨r1,r2⟩:=h.row _ hmem;rw[h2]at r1;have hkeys:(es.set j (e.1,(es.getD j (0,[])).2++[e.2])).map (·.1)=es.map (·.1):=by
   rw[List.map_set];have:(es.map (·.1))[j]? =some e.1:=by
    rw[List.getElem?_map,List.getElem?_eq_getElem h1,Option.map_some,←h2,jx es j _ h1]
   exact List.ext_getElem? fun k=>by
    rw[List.getElem?_set];by_cases hjk:j=k
    ·subst hjk;rw[if_pos rfl,if_pos (by rw[List.length_map];exact h1),this]
    ·rw[if_neg hjk]
  refine⟨fun p hp=> ?_,by simp only[];rw[hkeys];exact h.nd,fun i hi=> ?_,?_⟩
  ·rcases List.mem_or_eq_of_mem_set hp with hp' |rfl
   ·by_cases hpe:p.1=e.1
    ·
     obtain⟨k,hkl,hkp⟩:=List.mem_iff_getElem.1 hp;have hkl' :k<es.length:=by rw[List.length_set]at hkl;exact hkl
     by_cases hjk:j=k
     ·subst hjk;rw[List.getElem_set_self]at hkp;rw[←hkp,sj,if_pos rfl,r1];exact⟨rfl,by simp⟩
     ·rw[List.getElem_set_ne hjk]at hkp;have e1:(es.map (·.1))[k]? =some e.1:=by rw[List.getElem?_map,List.getElem?_eq_getElem hkl',Option.map_some,hkp,hpe]
      have e2:(es.map (·.1))[j]? =some e.1:=by rw[List.getElem?_map,List.getElem?_eq_getElem h1,Option.map_some,←h2,jx es j _ h1]
      exact absurd ((List.getElem?_inj (by rw[List.length_map];exact h1) h.nd).1 (e2.trans e1.symm)) hjk
    ·rw[sj,if_neg (fun e' =>hpe e'.symm)];exact h.row p hp'
   ·rw[sj,if_pos rfl,r1];exact⟨rfl,by simp⟩
  ·rw[sj]at hi;have:∃p∈es,p.1=i:=by
    by_cases hc:e.1=i
    ·exact⟨_,hmem,h2.trans hc⟩
    ·rw[if_neg hc]at hi;exact h.key i hi
   obtain⟨p,hp,hpi⟩:=this;have hm:i∈es.map (·.1):=List.mem_map.2 ⟨p,hp,hpi⟩;rw[←hkeys]at hm;obtain⟨p',hp',hpi'⟩:=List.mem_map.1 hm;exact⟨p',hp',hpi'⟩
  ·have:=qo8 es j e.2 h1;rw[h2]at this;simp only[List.length_append,List.length_cons,List.length_nil];rw[this,h.len]
theorem qxv(L:List Eg):GrpOK L (grp L):=by
 refine q1n (P:=fun L=>GrpOK L (grp L)) ⟨(fun p hp=>by cases hp),List.nodup_nil,fun i hi=>absurd rfl hi,rfl⟩ (fun L e ih=> ?_) L;have:grp (L++[e])=q7i (grp L) e:=by unfold grp;rw[List.foldl_append];rfl
 rw[this];exact q92 ih e
theorem q5c{L:List Eg}{es:Ens}(h:GrpOK L es)(e:Eg):e∈y4 es↔e∈L:=by
 unfold y4;rw[List.mem_flatMap];constructor
 ·rintro⟨p,hp,he⟩;unfold edA at he;obtain⟨q,hq,rfl⟩:=List.mem_map.1 he;rw[(h.row p hp).1]at hq;exact ff.1 hq
 ·intro he;have h1:e.2∈jh L e.1:=ff.2 he;obtain⟨p,hp,hpe⟩:=h.key e.1 (List.ne_nil_of_mem h1);refine⟨p,hp,List.mem_map.2 ⟨e.2,by rw[(h.row p hp).1,hpe];exact h1,?_⟩⟩;rw[hpe]
theorem q91{N TT:Nat}{L:List Eg}{es:Ens}(h:GrpOK L es)(hL:∀e∈L,GdE N TT e):qre N TT es:=fun p hp=>by
 have h1:∀e∈edA p.1 p.2,GdE N TT e:=fun e he=>hL e ((q5c h e).1 (List.mem_flatMap.2 ⟨p,hp,he⟩))
 refine⟨?_,h1⟩;cases hr:p.2 with
 |nil=>exact absurd hr (h.row p hp).2
 |cons q l=>
  exact(h1 (p.1,q.1,q.2) (by rw[hr];exact List.mem_map.2 ⟨q,List.mem_cons_self,rfl⟩)).a
theorem q29(i:Nat):∀(es:Ens) (k:Nat),mIx (.int .i64) (i:Int) (es.map kf) k=Option.map (fun j:Nat=>j+k) (kIx es i)
 |[],k=>rfl
 |p::es,k=>by
  have hq:∀b:Bool,(bif b then some k else mIx (.int .i64) (i:Int) (es.map kf) (k+1))=Option.map (fun j:Nat=>j+k) (bif b then some 0 else(kIx es i).map (·+1)):=fun b=>by
   cases b with
   |true=>simp
   |false=>
    rw[cond_false,cond_false,q29 i es (k+1)];cases kIx es i with
    |none=>rfl
    |some j=>simp;omega
  have e1:qfi (i:Int) (kf p).1=decide (p.1=i):=by
   unfold qfi kf;rw[Bool.eq_iff_iff];simp;omega
  show(bif qfi (i:Int) (kf p).1 then some k else mIx (.int .i64) (i:Int) (es.map kf) (k+1))=_;rw[e1];exact hq _
theorem q0w(i:Nat):∀(es:Ens),cb (.int .i64) (i:Int) (es.map kf)=Option.map (fun p:Nat×List (Nat×Nat)=>p.2.map bw) (es.find? fun p=>decide (p.1=i))
 |[]=>rfl
 |p::es=>by
  have e1:qfi (i:Int) (kf p).1=decide (p.1=i):=by
   unfold qfi kf;rw[Bool.eq_iff_iff];simp;omega
  show(bif qfi (i:Int) (kf p).1 then some (kf p).2 else cb (.int .i64) (i:Int) (es.map kf))=_;rw[e1,List.find?_cons,q0w i es];cases decide (p.1=i)<;>rfl
theorem q4n{L:List Eg}{es:Ens}(h:GrpOK L es)(i:Nat):jb ab.ty (cb (.int .i64) (i:Int) (es.map kf))=(jh L i).map bw:=by
 refine(congrArg (fun o:Option (List ab)=>jb ab.ty o) (q0w i es)).trans ?_;cases hf:es.find? fun p=>decide (p.1=i)with
 |some p=>
  have h1:=List.find?_some hf;have h2:=List.mem_of_find?_eq_some hf;show p.2.map bw=_;rw[(h.row p h2).1,of_decide_eq_true h1]
 |none=>
  have hr:jh L i=[]:=by
   cases hr:jh L i with
   |nil=>rfl
   |cons a l=>
    obtain⟨p,hp,hpi⟩:=h.key i (by rw[hr];exact List.cons_ne_nil _ _);have:=List.find?_eq_none.1 hf p hp;exact absurd (decide_eq_true hpi) this
  rw[hr];rfl
end Go.Proofs.Ytokeielgplbdeaa
