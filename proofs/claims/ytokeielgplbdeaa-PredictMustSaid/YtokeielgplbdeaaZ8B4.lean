/-
  Predict: which times are valid.
-/
import Derived.Test.YtokeielgplbdeaaZ8B3
set_option linter.all false
namespace Go.Proofs.Ytokeielgplbdeaa
open Go.K Go.M
def qrk(b:af):Bool:=(b.2.2.1&& !decide (b.2.1=0))||(!b.2.2.1&&(decide (b.2.1<b.1)||decide ((1048576:Int)<b.2.1)))||decide (b.1<0)||decide ((1048576:Int)<b.1)
theorem q8q(b:af):rq b=some (qrk b):=by
 obtain⟨l,g,o,u⟩:=b;unfold rq qrk;simp only[];cases o<;>cases decide (g=0)<;>cases decide (g<l)<;>cases decide ((1048576:Int)<g)<;>cases decide (l<0)<;>cases decide ((1048576:Int)<l)<;>rfl
def du(ts:List af)(T:Nat):Bool:=decide (ts.length=T)&& !ts.any qrk
theorem q73{n:cj}{ts:List af}(hl:ts.length≤1000000):wz n ts=some (du ts n.2.1.length):=by
 have hL:gf ts (ts.length:Int) 0=some (qxp (fun i=>(i:Int)) (k9 qrk ts)):=by
  refine su ts af.z qrk (fun i=>(i:Int)) (by omega) (fun i hi=> ?_) ?_
  ·simp(disch:=omega)only[bx,q8q,rs];rw[al];exact q1o
  ·simp(disch:=omega)only[bx,rs]
 unfold wz da dr du;rw[hL,i5,qei,i5,i5,qlp];have e:decide ((ts.length:Int)=(n.2.1.length:Int))=decide (ts.length=n.2.1.length):=by
  rw[Bool.eq_iff_iff,decide_eq_true_iff,decide_eq_true_iff];omega
 rw[e];cases decide (ts.length=n.2.1.length)<;>rfl
theorem ta{ts:List af}(hl:ts.length≤1000000)(T:Nat):qhx ts (T:Int)=some (du ts T):=by
 unfold qhx du;by_cases hT:ts.length=T
 ·subst hT;have hL:qjs ts (ts.length:Int) 0=some (bif ts.any qrk then .inr false else .inl ()):=by
   refine zm ts af.z qrk false (by omega) (fun i hi=> ?_) ?_
   ·have key:ud ts (ts.length:Int) (i:Int) (fun a' =>some (LR.next a' :LR Int Unit Bool)) (fun e=>some (.done e)) (fun r=>some (.ret r))=some (bif qrk (ts.getD i af.z)then .ret false else .next ((i+1:Nat):Int)):=by
     simp(disch:=omega)only[ud,rs];unfold qrk;rw[←al];generalize ts.getD i af.z=b;obtain⟨l,g,o,u⟩:=b;simp only[];have hr:∀m:Option (LR Int Unit Bool),am (di .i64 ((i:Int)+1)) m=m:=fun m=>qqw (by omega) (by omega)
     cases o<;>cases decide (g=0)<;>cases decide (g<l)<;>cases decide ((1048576:Int)<g)<;>cases decide (l<0)<;>cases decide ((1048576:Int)<l)<;>first|rfl|exact hr _
    rw[key]
   ·simp(disch:=omega)only[ud,rs]
  rw[hL,decide_eq_true rfl,decide_eq_true rfl];cases ts.any qrk<;>rfl
 ·have h1:¬(ts.length:Int)=(T:Int):=by omega
  rw[decide_eq_false h1,decide_eq_false hT];rfl
theorem q6o{ts:List af}{T:Nat}(h:du ts T=true){t:Nat}(ht:t<ts.length):
  0≤(ts.getD t af.z).1∧(ts.getD t af.z).1≤1048576∧0≤(ts.getD t af.z).2.1∧(ts.getD t af.z).2.1≤1048576∧((ts.getD t af.z).2.2.1=true→(ts.getD t af.z).2.1=0)∧((ts.getD t af.z).2.2.1=false→(ts.getD t af.z).1≤(ts.getD t af.z).2.1):=by
 unfold du at h;rw[Bool.and_eq_true,Bool.not_eq_true']at h;have:=List.any_eq_false.1 h.2 _ (aw af.z ht);generalize ts.getD t af.z=b at this;obtain⟨l,g,o,u⟩:=b;unfold qrk at this;cases o<;>simp at this⊢<;>omega
theorem jl{ts:List af}{T:Nat}(h:du ts T=true):ts.length=T:=by
 unfold du at h;rw[Bool.and_eq_true]at h;exact of_decide_eq_true h.1
theorem ul{ts:List af}{T:Nat}(h:du ts T=true)(sl:Bool):∀t,t<ts.length→0≤kd ts sl t∧kd ts sl t≤1048576:=fun t ht=>by
 have:=q6o h ht;unfold kd;cases sl
 ·simp only[cond_false];omega
 ·simp only[cond_true];omega
end Go.Proofs.Ytokeielgplbdeaa
