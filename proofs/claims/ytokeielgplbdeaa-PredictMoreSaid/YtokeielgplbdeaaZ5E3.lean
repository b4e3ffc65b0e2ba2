/-
  Predict: More.
-/
import Derived.Test.YtokeielgplbdeaaZ5E5
set_option linter.all false
namespace Go.Proofs.Ytokeielgplbdeaa
open Go.K Go.M
theorem q2t(l:List af)(h:l.length≤1000000):cp l=some l:=by
 unfold cp db;simp(disch:=omega)only[List.nil_append,rs]
theorem q9q(a:af)(limit:Int)(h:a.2.2.1=false→a.1≤a.2.1):bj limit (qd9 a limit) a.1 a.2.1 a.2.2.1=some (.inr true):=by
 obtain⟨al,ag,ao,⟨⟩⟩:=a;unfold bj qd9;simp only[];cases ao with
 |true=>
  by_cases c1:limit<al
  ·rw[decide_eq_true c1];simp only[Bool.not_true,Bool.false_and,cond_false,cond_true];simp(disch:=omega)only[eh,decide_eq_true c1,rs]
  ·rw[decide_eq_false c1];simp only[Bool.not_true,Bool.false_and,cond_false,cond_true];simp(disch:=omega)only[eh,decide_eq_false c1,rs]
 |false=>
  have h:al≤ag:=h rfl;by_cases c1:ag≤limit
  ·rw[decide_eq_true c1];simp only[Bool.not_false,Bool.true_and,cond_false,cond_true];simp(disch:=omega)only[eh,decide_eq_true c1,Bool.not_false,rs]
  ·rw[decide_eq_false c1];by_cases c2:limit<al
   ·rw[decide_eq_true c2];simp only[Bool.not_false,Bool.true_and,cond_false,cond_true];simp(disch:=omega)only[eh,decide_eq_true c2,rs]
   ·rw[decide_eq_false c2];have c3:limit<ag:=by omega
    simp only[Bool.not_false,Bool.true_and,cond_false,cond_true];simp(disch:=omega)only[eh,decide_eq_false c2,decide_eq_true c3,rs]
theorem q9r{n:dr}(h:Small n)(htr:n.2.1.length≤20){m:List Int}(hl:m.length≤1000){ts:List af}(hts:ts.length≤1000){most:Int}(hmost:most≤60)(limit:Int){ts' :List af}(hts' :ts'.length≤1000)(hL:cq ts n.2.1.length=true→cq ts' n.2.1.length=true→Longer n.2.1.length ts ts'):lw m ts limit most ts' n.1 n.2.1 n.2.2.1 n.2.2.2.1=some (.inr true):=by
 obtain⟨x,f,hx,_⟩:=q3q h htr hl hts (most:=most) (by omega) limit;have hRT:=mr (ts:=ts') (by omega) n.2.1.length;obtain⟨B,e,hB,_,hBg⟩:=qqx (res h htr hl hts (most:=most) (by omega));unfold lw;rcases jgf h htr hl hts (most:=most) (by omega) limit with⟨B',e',he,hr⟩|⟨a,ha,hta,hla,hb⟩
 ·simp(disch:=omega)only[dk,hr,hx,decide_eq_false he,Bool.not_false,rs]
 ·have hBg:a.2.2.1=false→a.1≤a.2.1:=by
   rw[ha]at hB;cases hB;exact hBg rfl
  by_cases hlim:limit<0∨1099511627776<limit
  ·rw[if_pos hlim]at hla;simp(disch:=omega)only[dk,ha,hla,Bool.not_true,Bool.not_false,rs]
  ·rw[if_neg hlim]at hla;cases htb:cq ts' n.2.1.length with
   |false=>
    rw[htb]at hRT;simp(disch:=omega)only[dk,ha,hla,hRT,Bool.not_true,Bool.not_false,rs]
   |true=>
    rw[htb]at hRT;obtain⟨b,hrb,hlb,hM⟩:=hb ts' hts' htb (hL hta htb);rw[if_neg hlim]at hlb;have h1:=hM.l;have h2:=hM.o;have h3:=hM.g;have hT1:=q9q a limit hBg;have hle:=q3x hM limit;have hyx:decide (qd9 b limit<qd9 a limit)=false:=decide_eq_false (by omega);have hT0:br limit (qd9 a limit) false a.1 a.2.1 a.2.2.1=some (.inl ()):=rfl;have hba:decide (b.1<a.1)=false:=decide_eq_false (by omega);cases hao:a.2.2.1 with
    |true=>
     have hbo:=h2 hao;rw[hao]at hT0 hT1;simp(disch:=omega)only[dk,ha,hla,hRT,hrb,hlb,hba,hao,hbo,hyx,hT0,hT1,Bool.not_true,Bool.not_false,rs]
    |false=>
     rw[hao]at hT0 hT1;cases hbo:b.2.2.1 with
     |true=>
      simp(disch:=omega)only[dk,ha,hla,hRT,hrb,hlb,hba,hao,hbo,hyx,hT0,hT1,Bool.not_true,Bool.not_false,rs]
     |false=>
      have h4:=h3 hao hbo;have hgg:decide (b.2.1<a.2.1)=false:=decide_eq_false (by omega);simp(disch:=omega)only[dk,ha,hla,hRT,hrb,hlb,hba,hao,hbo,hgg,hyx,hT0,hT1,Bool.not_true,Bool.not_false,rs]
theorem ze{ts:List af}{k t:Nat}(hk:k<ts.length)(x:af):(ts.set k x).getD t af.z=if t=k then x else ts.getD t af.z:=by
 rw[List.getD_eq_getElem?_getD,List.getD_eq_getElem?_getD];by_cases h:t=k
 ·rw[if_pos h,h,List.getElem?_set_self hk];rfl
 ·rw[if_neg h,List.getElem?_set_ne (fun e=>h e.symm)]
theorem qpq{ts:List af}{k T:Nat}(hk:k<ts.length){x:af}(h1:(ts.getD k af.z).1≤x.1)(h2:(ts.getD k af.z).2.1≤x.2.1)(h3:x.2.2.1=(ts.getD k af.z).2.2.1):Longer T ts (ts.set k x):=by
 refine⟨fun t _=> ?_,fun t _=> ?_,fun t _=> ?_⟩
 ·rw[ze hk];by_cases h:t=k
  ·rw[if_pos h,h];exact h1
  ·rw[if_neg h];exact Int.le_refl _
 ·rw[ze hk];by_cases h:t=k
  ·rw[if_pos h,h];exact h2
  ·rw[if_neg h];exact Int.le_refl _
 ·unfold opT;rw[ze hk];by_cases h:t=k
  ·rw[if_pos h,h];exact h3
  ·rw[if_neg h]
theorem joa(n:dr)(m:List Int)(ts:List af)(limit most t more:Int)(ht:0≤t∧t≤255)(hmo:0≤more∧more≤255):sm n m ts limit most t more=some true:=by
 obtain⟨b,hb,hf⟩:=jdv n m ts;unfold sm;cases b with
 |false=>
  simp(disch:=omega)only[qfe,hb,Bool.not_true,Bool.not_false,rs]
 |true=>
  by_cases h60:60<most
  ·simp(disch:=omega)only[qfe,hb,Bool.not_true,Bool.not_false,rs]
  ·obtain⟨a1,a2,a3,a4⟩:=jdw (hf rfl);by_cases h0:ts.length=0
   ·simp(disch:=omega)only[qfe,hb,Bool.not_true,Bool.not_false,rs]
   ·obtain⟨tn,rfl⟩:∃tn:Nat,t=(tn:Int):=⟨t.toNat,by omega⟩;obtain⟨mn,rfl⟩:∃mn:Nat,more=(mn:Int):=⟨more.toNat,by omega⟩;have ht:=ht.2;have hmo:=hmo.2;have e1:IntKind.wrap .i64 (tn:Int)=(tn:Int):=qcu (by omega) (by omega);have e2:IntKind.wrap .i64 (mn:Int)=(mn:Int):=qcu (by omega) (by omega);have e3:Int.tmod (tn:Int) (ts.length:Int)=((tn % ts.length:Nat):Int):=rfl;have e4:Int.tdiv (mn:Int) 2=((mn/2:Nat):Int):=rfl;have e5:IntKind.wrap .i64 ((mn/2:Nat):Int)=((mn/2:Nat):Int):=qcu (by omega) (by omega);have hk:tn % ts.length<ts.length:=Nat.mod_lt _ (by omega);have hhf:mn/2≤255:=by omega
    generalize tn % ts.length=k at e3 hk;generalize mn/2=hq at e4 e5 hhf;have hC:=q2t ts (by omega);have hset:∀x:af,(ts.set k x).getD k af.z=x:=fun x=>by rw[ze hk,if_pos rfl]
    have hsl:∀x:af,(ts.set k x).length=ts.length:=fun x=>List.length_set
    have hss:∀x y:af,(ts.set k x).set k y=ts.set k y:=fun x y=>List.set_set _
    have hnz:decide ((ts.length:Int)=0)=false:=decide_eq_false (by omega);have hT:=fun(x:af) (hx:cq ts n.2.1.length=true→Longer n.2.1.length ts (ts.set k x))=>q9r a1 a2 a3 a4 (most:=most) (by omega) limit (ts' :=ts.set k x) (by rw[hsl];exact a4) fun q _=>hx q
    have hvb:=fun(q:cq ts n.2.1.length=true)=>qv3 q hk
    cases ho:(ts.getD k af.z).2.2.1 with
    |true=>
     have hT:=hT (IntKind.wrap .i64 ((ts.getD k af.z).1+(hq:Int)),(ts.getD k af.z).2.1,true,()) fun q=>by
      have:=hvb q;refine qpq hk ?_ (Int.le_refl _) ho.symm;show _≤IntKind.wrap .i64 ((ts.getD k af.z).1+(hq:Int));rw[qcu (by omega) (by omega)];omega
     simp(disch:=omega)only[qfe,hb,hnz,hC,e1,e2,e3,e4,e5,Int.toNat_natCast,hset,hsl,ho,hT,Bool.not_true,Bool.not_false,rs];rfl
    |false=>
     have hT:=hT (IntKind.wrap .i64 ((ts.getD k af.z).1+(hq:Int)),IntKind.wrap .i64 ((ts.getD k af.z).2.1+(mn:Int)),false,()) fun q=>by
      have:=hvb q;refine qpq hk ?_ ?_ ho.symm
      ·show _≤IntKind.wrap .i64 ((ts.getD k af.z).1+(hq:Int));rw[qcu (by omega) (by omega)];omega
      ·show _≤IntKind.wrap .i64 ((ts.getD k af.z).2.1+(mn:Int));rw[qcu (by omega) (by omega)];omega
     simp(disch:=omega)only[qfe,hb,hnz,hC,e1,e2,e3,e4,e5,Int.toNat_natCast,hset,hsl,hss,ho,hT,Bool.not_true,Bool.not_false,rs];rfl
end Go.Proofs.Ytokeielgplbdeaa
