/-
  Predict: which times are valid.
-/
import Derived.Test.YtokeielgplbdeaaZ5B3
set_option linter.all false
namespace Go.Proofs.Ytokeielgplbdeaa
open Go.K Go.M
def qot(b:af):Bool:=(b.2.2.1&& !decide (b.2.1=0))||(!b.2.2.1&&(decide (b.2.1<b.1)||decide ((1048576:Int)<b.2.1)))||decide (b.1<0)||decide ((1048576:Int)<b.1)
theorem q4n(b:af):qn b=some (qot b):=by
 obtain⟨l,g,o,u⟩:=b;unfold qn qot;simp only[];cases o<;>cases decide (g=0)<;>cases decide (g<l)<;>cases decide ((1048576:Int)<g)<;>cases decide (l<0)<;>cases decide ((1048576:Int)<l)<;>rfl
def cq(ts:List af)(T:Nat):Bool:=decide (ts.length=T)&& !ts.any qot
theorem qmd{n:dr}{ts:List af}(hl:ts.length≤1000000):qi n ts=some (cq ts n.2.1.length):=by
 have hL:gh ts (ts.length:Int) 0=some (qwu (fun i=>(i:Int)) (kw qot ts)):=by
  refine uj ts af.z qot (fun i=>(i:Int)) (by omega) (fun i hi=> ?_) ?_
  ·simp(disch:=omega)only[b9,q4n,rs];rw[aq];exact qx4
  ·simp(disch:=omega)only[b9,rs]
 unfold qi df dv cq;rw[hL,jl,qgt,jl,jl,qn9];have e:decide ((ts.length:Int)=(n.2.1.length:Int))=decide (ts.length=n.2.1.length):=by
  rw[Bool.eq_iff_iff,decide_eq_true_iff,decide_eq_true_iff];omega
 rw[e];cases decide (ts.length=n.2.1.length)<;>rfl
theorem mr{ts:List af}(hl:ts.length≤1000000)(T:Nat):rq ts (T:Int)=some (cq ts T):=by
 unfold rq cq;by_cases hT:ts.length=T
 ·subst hT;have hL:qh2 ts (ts.length:Int) 0=some (bif ts.any qot then .inr false else .inl ()):=by
   refine yh ts af.z qot false (by omega) (fun i hi=> ?_) ?_
   ·have key:o9 ts (ts.length:Int) (i:Int) (fun a' =>some (LR.next a' :LR Int Unit Bool)) (fun e=>some (.done e)) (fun r=>some (.ret r))=some (bif qot (ts.getD i af.z)then .ret false else .next ((i+1:Nat):Int)):=by
     simp(disch:=omega)only[o9,rs];unfold qot;rw[←aq];generalize ts.getD i af.z=b;obtain⟨l,g,o,u⟩:=b;simp only[];have hr:∀m:Option (LR Int Unit Bool),ar (ea .i64 ((i:Int)+1)) m=m:=fun m=>qn7 (by omega) (by omega)
     cases o<;>cases decide (g=0)<;>cases decide (g<l)<;>cases decide ((1048576:Int)<g)<;>cases decide (l<0)<;>cases decide ((1048576:Int)<l)<;>first|rfl|exact hr _
    rw[key]
   ·simp(disch:=omega)only[o9,rs]
  rw[hL,decide_eq_true rfl,decide_eq_true rfl];cases ts.any qot<;>rfl
 ·have h1:¬(ts.length:Int)=(T:Int):=by omega
  rw[decide_eq_false h1,decide_eq_false hT];rfl
theorem qv3{ts:List af}{T:Nat}(h:cq ts T=true){t:Nat}(ht:t<ts.length):
  0≤(ts.getD t af.z).1∧(ts.getD t af.z).1≤1048576∧0≤(ts.getD t af.z).2.1∧(ts.getD t af.z).2.1≤1048576∧((ts.getD t af.z).2.2.1=true→(ts.getD t af.z).2.1=0)∧((ts.getD t af.z).2.2.1=false→(ts.getD t af.z).1≤(ts.getD t af.z).2.1):=by
 unfold cq at h;rw[Bool.and_eq_true,Bool.not_eq_true']at h;have:=List.any_eq_false.1 h.2 _ (ba af.z ht);generalize ts.getD t af.z=b at this;obtain⟨l,g,o,u⟩:=b;unfold qot at this;cases o<;>simp at this⊢<;>omega
theorem j8{ts:List af}{T:Nat}(h:cq ts T=true):ts.length=T:=by
 unfold cq at h;rw[Bool.and_eq_true]at h;exact of_decide_eq_true h.1
theorem wv{ts:List af}{T:Nat}(h:cq ts T=true)(sl:Bool):∀t,t<ts.length→0≤j9 ts sl t∧j9 ts sl t≤1048576:=fun t ht=>by
 have:=qv3 h ht;unfold j9;cases sl
 ·simp only[cond_false];omega
 ·simp only[cond_true];omega
end Go.Proofs.Ytokeielgplbdeaa
