/-
  Predict: which times are valid.
-/
import Derived.Test.YtokeielgplbdeaaZ3B3
set_option linter.all false
namespace Go.Proofs.Ytokeielgplbdeaa
open Go.K Go.M
def qs7(b:af):Bool:=(b.2.2.1&& !decide (b.2.1=0))||(!b.2.2.1&&(decide (b.2.1<b.1)||decide ((1048576:Int)<b.2.1)))||decide (b.1<0)||decide ((1048576:Int)<b.1)
theorem jaf(b:af):qn b=some (qs7 b):=by
 obtain⟨l,g,o,u⟩:=b;unfold qn qs7;simp only[];cases o<;>cases decide (g=0)<;>cases decide (g<l)<;>cases decide ((1048576:Int)<g)<;>cases decide (l<0)<;>cases decide ((1048576:Int)<l)<;>rfl
def df(ts:List af)(T:Nat):Bool:=decide (ts.length=T)&& !ts.any qs7
theorem q9w{n:cx}{ts:List af}(hl:ts.length≤1000000):v4 n ts=some (df ts n.2.1.length):=by
 have hL:f9 ts (ts.length:Int) 0=some (q2c (fun i=>(i:Int)) (kl qs7 ts)):=by
  refine uw ts af.z qs7 (fun i=>(i:Int)) (by omega) (fun i hi=> ?_) ?_
  ·simp(disch:=omega)only[b7,jaf,rs];rw[al];exact q3r
  ·simp(disch:=omega)only[b7,rs]
 unfold v4 c8 dk df;rw[hL,jf,qil,jf,jf,qso];have e:decide ((ts.length:Int)=(n.2.1.length:Int))=decide (ts.length=n.2.1.length):=by
  rw[Bool.eq_iff_iff,decide_eq_true_iff,decide_eq_true_iff];omega
 rw[e];cases decide (ts.length=n.2.1.length)<;>rfl
theorem sd{ts:List af}(hl:ts.length≤1000000)(T:Nat):qau ts (T:Int)=some (df ts T):=by
 unfold qau df;by_cases hT:ts.length=T
 ·subst hT;have hL:qkd ts (ts.length:Int) 0=some (bif ts.any qs7 then .inr false else .inl ()):=by
   refine yz ts af.z qs7 false (by omega) (fun i hi=> ?_) ?_
   ·have key:pg ts (ts.length:Int) (i:Int) (fun a' =>some (LR.next a' :LR Int Unit Bool)) (fun e=>some (.done e)) (fun r=>some (.ret r))=some (bif qs7 (ts.getD i af.z)then .ret false else .next ((i+1:Nat):Int)):=by
     simp(disch:=omega)only[pg,rs];unfold qs7;rw[←al];generalize ts.getD i af.z=b;obtain⟨l,g,o,u⟩:=b;simp only[];have hr:∀m:Option (LR Int Unit Bool),am (db .i64 ((i:Int)+1)) m=m:=fun m=>qsm (by omega) (by omega)
     cases o<;>cases decide (g=0)<;>cases decide (g<l)<;>cases decide ((1048576:Int)<g)<;>cases decide (l<0)<;>cases decide ((1048576:Int)<l)<;>first|rfl|exact hr _
    rw[key]
   ·simp(disch:=omega)only[pg,rs]
  rw[hL,decide_eq_true rfl,decide_eq_true rfl];cases ts.any qs7<;>rfl
 ·have h1:¬(ts.length:Int)=(T:Int):=by omega
  rw[decide_eq_false h1,decide_eq_false hT];rfl
theorem q8i{ts:List af}{T:Nat}(h:df ts T=true){t:Nat}(ht:t<ts.length):
  0≤(ts.getD t af.z).1∧(ts.getD t af.z).1≤1048576∧0≤(ts.getD t af.z).2.1∧(ts.getD t af.z).2.1≤1048576∧((ts.getD t af.z).2.2.1=true→(ts.getD t af.z).2.1=0)∧((ts.getD t af.z).2.2.1=false→(ts.getD t af.z).1≤(ts.getD t af.z).2.1):=by
 unfold df at h;rw[Bool.and_eq_true,Bool.not_eq_true']at h;have:=List.any_eq_false.1 h.2 _ (ba af.z ht);generalize ts.getD t af.z=b at this;obtain⟨l,g,o,u⟩:=b;unfold qs7 at this;cases o<;>simp at this⊢<;>omega
theorem im{ts:List af}{T:Nat}(h:df ts T=true):ts.length=T:=by
 unfold df at h;rw[Bool.and_eq_true]at h;exact of_decide_eq_true h.1
theorem tw{ts:List af}{T:Nat}(h:df ts T=true)(sl:Bool):∀t,t<ts.length→0≤kj ts sl t∧kj ts sl t≤1048576:=fun t ht=>by
 have:=q8i h ht;unfold kj;cases sl
 ·simp only[cond_false];omega
 ·simp only[cond_true];omega
end Go.Proofs.Ytokeielgplbdeaa
