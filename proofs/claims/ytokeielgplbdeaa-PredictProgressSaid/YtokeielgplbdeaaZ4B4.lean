/-
  Predict: which times are valid.
-/
import Derived.Test.YtokeielgplbdeaaZ4B3
set_option linter.all false
namespace Go.Proofs.Ytokeielgplbdeaa
open Go.K Go.M
def qp0(b:af):Bool:=(b.2.2.1&& !decide (b.2.1=0))||(!b.2.2.1&&(decide (b.2.1<b.1)||decide ((1048576:Int)<b.2.1)))||decide (b.1<0)||decide ((1048576:Int)<b.1)
theorem q5u(b:af):qw b=some (qp0 b):=by
 obtain⟨l,g,o,u⟩:=b;unfold qw qp0;simp only[];cases o<;>cases decide (g=0)<;>cases decide (g<l)<;>cases decide ((1048576:Int)<g)<;>cases decide (l<0)<;>cases decide ((1048576:Int)<l)<;>rfl
def c7(ts:List af)(T:Nat):Bool:=decide (ts.length=T)&& !ts.any qp0
theorem q5a{n:c8}{ts:List af}(hl:ts.length≤1000000):wa n ts=some (c7 ts n.2.1.length):=by
 have hL:ge ts (ts.length:Int) 0=some (qvf (fun i=>(i:Int)) (km qp0 ts)):=by
  refine ro ts af.z qp0 (fun i=>(i:Int)) (by omega) (fun i hi=> ?_) ?_
  ·simp(disch:=omega)only[bx,q5u,rs];rw[aj];exact qy7
  ·simp(disch:=omega)only[bx,rs]
 unfold wa da dl c7;rw[hL,i4,qd8,i4,i4,qku];have e:decide ((ts.length:Int)=(n.2.1.length:Int))=decide (ts.length=n.2.1.length):=by
  rw[Bool.eq_iff_iff,decide_eq_true_iff,decide_eq_true_iff];omega
 rw[e];cases decide (ts.length=n.2.1.length)<;>rfl
theorem sk{ts:List af}(hl:ts.length≤1000000)(T:Nat):qhf ts (T:Int)=some (c7 ts T):=by
 unfold qhf c7;by_cases hT:ts.length=T
 ·subst hT;have hL:qi3 ts (ts.length:Int) 0=some (bif ts.any qp0 then .inr false else .inl ()):=by
   refine y7 ts af.z qp0 false (by omega) (fun i hi=> ?_) ?_
   ·have key:tm ts (ts.length:Int) (i:Int) (fun a' =>some (LR.next a' :LR Int Unit Bool)) (fun e=>some (.done e)) (fun r=>some (.ret r))=some (bif qp0 (ts.getD i af.z)then .ret false else .next ((i+1:Nat):Int)):=by
     simp(disch:=omega)only[tm,rs];unfold qp0;rw[←aj];generalize ts.getD i af.z=b;obtain⟨l,g,o,u⟩:=b;simp only[];have hr:∀m:Option (LR Int Unit Bool),am (dh .i64 ((i:Int)+1)) m=m:=fun m=>qpb (by omega) (by omega)
     cases o<;>cases decide (g=0)<;>cases decide (g<l)<;>cases decide ((1048576:Int)<g)<;>cases decide (l<0)<;>cases decide ((1048576:Int)<l)<;>first|rfl|exact hr _
    rw[key]
   ·simp(disch:=omega)only[tm,rs]
  rw[hL,decide_eq_true rfl,decide_eq_true rfl];cases ts.any qp0<;>rfl
 ·have h1:¬(ts.length:Int)=(T:Int):=by omega
  rw[decide_eq_false h1,decide_eq_false hT];rfl
theorem qw4{ts:List af}{T:Nat}(h:c7 ts T=true){t:Nat}(ht:t<ts.length):
  0≤(ts.getD t af.z).1∧(ts.getD t af.z).1≤1048576∧0≤(ts.getD t af.z).2.1∧(ts.getD t af.z).2.1≤1048576∧((ts.getD t af.z).2.2.1=true→(ts.getD t af.z).2.1=0)∧((ts.getD t af.z).2.2.1=false→(ts.getD t af.z).1≤(ts.getD t af.z).2.1):=by
 unfold c7 at h;rw[Bool.and_eq_true,Bool.not_eq_true']at h;have:=List.any_eq_false.1 h.2 _ (aw af.z ht);generalize ts.getD t af.z=b at this;obtain⟨l,g,o,u⟩:=b;unfold qp0 at this;cases o<;>simp at this⊢<;>omega
theorem gz{ts:List af}{T:Nat}(h:c7 ts T=true):ts.length=T:=by
 unfold c7 at h;rw[Bool.and_eq_true]at h;exact of_decide_eq_true h.1
theorem oe{ts:List af}{T:Nat}(h:c7 ts T=true)(sl:Bool):∀t,t<ts.length→0≤gg ts sl t∧gg ts sl t≤1048576:=fun t ht=>by
 have:=qw4 h ht;unfold gg;cases sl
 ·simp only[cond_false];omega
 ·simp only[cond_true];omega
end Go.Proofs.Ytokeielgplbdeaa
