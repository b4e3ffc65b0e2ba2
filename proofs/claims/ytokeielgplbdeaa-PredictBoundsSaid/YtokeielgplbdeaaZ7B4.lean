/-
  Predict: which times are valid.
-/
import Derived.Test.YtokeielgplbdeaaZ7B3
set_option linter.all false
namespace Go.Proofs.Ytokeielgplbdeaa
open Go.K Go.M
def qr5(b:af):Bool:=(b.2.2.1&& !decide (b.2.1=0))||(!b.2.2.1&&(decide (b.2.1<b.1)||decide ((1048576:Int)<b.2.1)))||decide (b.1<0)||decide ((1048576:Int)<b.1)
theorem q9o(b:af):qp b=some (qr5 b):=by
 obtain⟨l,g,o,u⟩:=b;unfold qp qr5;simp only[];cases o<;>cases decide (g=0)<;>cases decide (g<l)<;>cases decide ((1048576:Int)<g)<;>cases decide (l<0)<;>cases decide ((1048576:Int)<l)<;>rfl
def dk(ts:List af)(T:Nat):Bool:=decide (ts.length=T)&& !ts.any qr5
theorem qxr{n:cz}{ts:List af}(hl:ts.length≤1000000):qk n ts=some (dk ts n.2.1.length):=by
 have hL:gb ts (ts.length:Int) 0=some (q1l (fun i=>(i:Int)) (kl qr5 ts)):=by
  refine uo ts af.z qr5 (fun i=>(i:Int)) (by omega) (fun i hi=> ?_) ?_
  ·simp(disch:=omega)only[bx,q9o,rs];rw[al];exact q22
  ·simp(disch:=omega)only[bx,rs]
 unfold qk c8 dj dk;rw[hL,jj,qhw,jj,jj,qrm];have e:decide ((ts.length:Int)=(n.2.1.length:Int))=decide (ts.length=n.2.1.length):=by
  rw[Bool.eq_iff_iff,decide_eq_true_iff,decide_eq_true_iff];omega
 rw[e];cases decide (ts.length=n.2.1.length)<;>rfl
theorem pe{ts:List af}(hl:ts.length≤1000000)(T:Nat):wu ts (T:Int)=some (dk ts T):=by
 unfold wu dk;by_cases hT:ts.length=T
 ·subst hT;have hL:qjq ts (ts.length:Int) 0=some (bif ts.any qr5 then .inr false else .inl ()):=by
   refine yu ts af.z qr5 false (by omega) (fun i hi=> ?_) ?_
   ·have key:pd ts (ts.length:Int) (i:Int) (fun a' =>some (LR.next a' :LR Int Unit Bool)) (fun e=>some (.done e)) (fun r=>some (.ret r))=some (bif qr5 (ts.getD i af.z)then .ret false else .next ((i+1:Nat):Int)):=by
     simp(disch:=omega)only[pd,rs];unfold qr5;rw[←al];generalize ts.getD i af.z=b;obtain⟨l,g,o,u⟩:=b;simp only[];have hr:∀m:Option (LR Int Unit Bool),ao (dx .i64 ((i:Int)+1)) m=m:=fun m=>qrk (by omega) (by omega)
     cases o<;>cases decide (g=0)<;>cases decide (g<l)<;>cases decide ((1048576:Int)<g)<;>cases decide (l<0)<;>cases decide ((1048576:Int)<l)<;>first|rfl|exact hr _
    rw[key]
   ·simp(disch:=omega)only[pd,rs]
  rw[hL,decide_eq_true rfl,decide_eq_true rfl];cases ts.any qr5<;>rfl
 ·have h1:¬(ts.length:Int)=(T:Int):=by omega
  rw[decide_eq_false h1,decide_eq_false hT];rfl
theorem q7q{ts:List af}{T:Nat}(h:dk ts T=true){t:Nat}(ht:t<ts.length):
  0≤(ts.getD t af.z).1∧(ts.getD t af.z).1≤1048576∧0≤(ts.getD t af.z).2.1∧(ts.getD t af.z).2.1≤1048576∧((ts.getD t af.z).2.2.1=true→(ts.getD t af.z).2.1=0)∧((ts.getD t af.z).2.2.1=false→(ts.getD t af.z).1≤(ts.getD t af.z).2.1):=by
 unfold dk at h;rw[Bool.and_eq_true,Bool.not_eq_true']at h;have:=List.any_eq_false.1 h.2 _ (ba af.z ht);generalize ts.getD t af.z=b at this;obtain⟨l,g,o,u⟩:=b;unfold qr5 at this;cases o<;>simp at this⊢<;>omega
theorem j5{ts:List af}{T:Nat}(h:dk ts T=true):ts.length=T:=by
 unfold dk at h;rw[Bool.and_eq_true]at h;exact of_decide_eq_true h.1
theorem xc{ts:List af}{T:Nat}(h:dk ts T=true)(sl:Bool):∀t,t<ts.length→0≤k6 ts sl t∧k6 ts sl t≤1048576:=fun t ht=>by
 have:=q7q h ht;unfold k6;cases sl
 ·simp only[cond_false];omega
 ·simp only[cond_true];omega
end Go.Proofs.Ytokeielgplbdeaa
