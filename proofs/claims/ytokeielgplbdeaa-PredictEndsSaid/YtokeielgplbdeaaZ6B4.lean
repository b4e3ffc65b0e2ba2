/-
  Predict: which times are valid.
-/
import Derived.Test.YtokeielgplbdeaaZ6B3
set_option linter.all false
namespace Go.Proofs.Ytokeielgplbdeaa
open Go.K Go.M
def qqk(b:af):Bool:=(b.2.2.1&& !decide (b.2.1=0))||(!b.2.2.1&&(decide (b.2.1<b.1)||decide ((1048576:Int)<b.2.1)))||decide (b.1<0)||decide ((1048576:Int)<b.1)
theorem q6o(b:af):qw b=some (qqk b):=by
 obtain⟨l,g,o,u⟩:=b;unfold qw qqk;simp only[];cases o<;>cases decide (g=0)<;>cases decide (g<l)<;>cases decide ((1048576:Int)<g)<;>cases decide (l<0)<;>cases decide ((1048576:Int)<l)<;>rfl
def c8(ts:List af)(T:Nat):Bool:=decide (ts.length=T)&& !ts.any qqk
theorem q55{n:c9}{ts:List af}(hl:ts.length≤1000000):wb n ts=some (c8 ts n.2.1.length):=by
 have hL:f9 ts (ts.length:Int) 0=some (qv2 (fun i=>(i:Int)) (km qqk ts)):=by
  refine rv ts af.z qqk (fun i=>(i:Int)) (by omega) (fun i hi=> ?_) ?_
  ·simp(disch:=omega)only[bw,q6o,rs];rw[aj];exact qz0
  ·simp(disch:=omega)only[bw,rs]
 unfold wb c7 dp c8;rw[hL,iz,qee,iz,iz,qle];have e:decide ((ts.length:Int)=(n.2.1.length:Int))=decide (ts.length=n.2.1.length):=by
  rw[Bool.eq_iff_iff,decide_eq_true_iff,decide_eq_true_iff];omega
 rw[e];cases decide (ts.length=n.2.1.length)<;>rfl
theorem sw{ts:List af}(hl:ts.length≤1000000)(T:Nat):qhn ts (T:Int)=some (c8 ts T):=by
 unfold qhn c8;by_cases hT:ts.length=T
 ·subst hT;have hL:qjl ts (ts.length:Int) 0=some (bif ts.any qqk then .inr false else .inl ()):=by
   refine y7 ts af.z qqk false (by omega) (fun i hi=> ?_) ?_
   ·have key:tx ts (ts.length:Int) (i:Int) (fun a' =>some (LR.next a' :LR Int Unit Bool)) (fun e=>some (.done e)) (fun r=>some (.ret r))=some (bif qqk (ts.getD i af.z)then .ret false else .next ((i+1:Nat):Int)):=by
     simp(disch:=omega)only[tx,rs];unfold qqk;rw[←aj];generalize ts.getD i af.z=b;obtain⟨l,g,o,u⟩:=b;simp only[];have hr:∀m:Option (LR Int Unit Bool),am (cx .i64 ((i:Int)+1)) m=m:=fun m=>qpx (by omega) (by omega)
     cases o<;>cases decide (g=0)<;>cases decide (g<l)<;>cases decide ((1048576:Int)<g)<;>cases decide (l<0)<;>cases decide ((1048576:Int)<l)<;>first|rfl|exact hr _
    rw[key]
   ·simp(disch:=omega)only[tx,rs]
  rw[hL,decide_eq_true rfl,decide_eq_true rfl];cases ts.any qqk<;>rfl
 ·have h1:¬(ts.length:Int)=(T:Int):=by omega
  rw[decide_eq_false h1,decide_eq_false hT];rfl
theorem q4r{ts:List af}{T:Nat}(h:c8 ts T=true){t:Nat}(ht:t<ts.length):
  0≤(ts.getD t af.z).1∧(ts.getD t af.z).1≤1048576∧0≤(ts.getD t af.z).2.1∧(ts.getD t af.z).2.1≤1048576∧((ts.getD t af.z).2.2.1=true→(ts.getD t af.z).2.1=0)∧((ts.getD t af.z).2.2.1=false→(ts.getD t af.z).1≤(ts.getD t af.z).2.1):=by
 unfold c8 at h;rw[Bool.and_eq_true,Bool.not_eq_true']at h;have:=List.any_eq_false.1 h.2 _ (az af.z ht);generalize ts.getD t af.z=b at this;obtain⟨l,g,o,u⟩:=b;unfold qqk at this;cases o<;>simp at this⊢<;>omega
theorem gq{ts:List af}{T:Nat}(h:c8 ts T=true):ts.length=T:=by
 unfold c8 at h;rw[Bool.and_eq_true]at h;exact of_decide_eq_true h.1
theorem n8{ts:List af}{T:Nat}(h:c8 ts T=true)(sl:Bool):∀t,t<ts.length→0≤i5 ts sl t∧i5 ts sl t≤1048576:=fun t ht=>by
 have:=q4r h ht;unfold i5;cases sl
 ·simp only[cond_false];omega
 ·simp only[cond_true];omega
end Go.Proofs.Ytokeielgplbdeaa
