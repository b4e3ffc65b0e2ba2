/-
  Freechoice: liveness in the space of a net.
-/
import Derived.Test.YtclbndfjhjladaaGreatZ7E4
import Derived.Test.YtclbndfjhjladaaGreatZ7X8
set_option linter.all false
namespace Go.Proofs.YtclbndfjhjladaaGreat
open Go.K Go.M
def Ip(n:dj)(t p:Nat):Prop:=(p:Int)∈(n.2.1.getD t ab.z).2.1
def Op(n:dj)(t p:Nat):Prop:=(p:Int)∈(n.2.1.getD t ab.z).2.2.1
instance (n : dj) (t p : Nat) : Decidable (Ip n t p) := inferInstanceAs (Decidable ((p : Int) ∈ (n.2.1.getD t ab.z).2.1))
instance (n : dj) (t p : Nat) : Decidable (Op n t p) := inferInstanceAs (Decidable ((p : Int) ∈ (n.2.1.getD t ab.z).2.2.1))
def mkF(x:List Int):Nat→Int:=fun p=>x.getD p 0
abbrev zae(n:dj):=FC.Rea n.1.toNat n.2.1.length (Ip n) (Op n)
abbrev EnN(n:dj):=FC.En n.1.toNat (Ip n)
abbrev jx7(n:dj):=FC.Live n.1.toNat n.2.1.length (Ip n) (Op n)
section
variable {n : dj} (h : Small n) (hv : n5 n = true)
include h hv
theorem jrn{x:List Int}(hx:l4 n.1 x=true){t:Nat}(ht:t<n.2.1.length):qk (n.2.1.getD t ab.z) x=true↔EnN n (mkF x) t:=by
 have F:=j2y h hv hx ht;have hml:=(qfi.1 hx).1;constructor
 ·intro hc p hp hi;have:=F.can hc _ hi;rw[Int.toNat_natCast]at this;exact this
 ·intro he;unfold qk;rw[Bool.not_eq_true',List.any_eq_false];intro p hp;have hb:=F.i1 p hp;have h1:=he p.toNat (by omega) (by show((p.toNat:Nat):Int)∈_;rw[Int.toNat_of_nonneg hb.1];exact hp);have h1:1≤x.getD p.toNat 0:=h1;rw[decide_eq_true_iff];omega
theorem jt5{x:List Int}(hx:l4 n.1 x=true){t:Nat}(ht:t<n.2.1.length):mkF (l3 (n.2.1.getD t ab.z) x)=FC.fire (Ip n) (Op n) (mkF x) t:=by
 have F:=j2y h hv hx ht;funext q;show(l3 (n.2.1.getD t ab.z) x).getD q 0=x.getD q 0-(if Ip n t q then 1 else 0)+(if Op n t q then 1 else 0);rw[F.at_ q];by_cases h1:(q:Int)∈(n.2.1.getD t ab.z).2.1
 ·rw[if_pos h1,if_pos (show Ip n t q from h1)];by_cases h2:(q:Int)∈(n.2.1.getD t ab.z).2.2.1
  ·rw[if_pos h2,if_pos (show Op n t q from h2)];omega
  ·rw[if_neg h2,if_neg (show¬Op n t q from h2)];omega
 ·rw[if_neg h1,if_neg (show¬Ip n t q from h1)];by_cases h2:(q:Int)∈(n.2.1.getD t ab.z).2.2.1
  ·rw[if_pos h2,if_pos (show Op n t q from h2)];omega
  ·rw[if_neg h2,if_neg (show¬Op n t q from h2)];omega
theorem ju5{a b t a' b' t' :Nat}(h:mvA a b t=mvA a' b' t'):a=a' ∧b=b' ∧t=t' :=by
 have h1:(a:Int)=a' :=congrArg (fun x:a8=>x.1) h;have h2:(b:Int)=b' :=congrArg (fun x:a8=>x.2.1) h;have h3:(t:Int)=t' :=congrArg (fun x:a8=>x.2.2.1) h;omega
variable {M : Nat} {m : List Int} {σ : Sig} (P : SpcOK n M m σ)
include P
theorem jz0{i j:Nat}(hw:Way σ.2.2 i j):zae n (mkF (gg σ i)) (mkF (gg σ j)):=by
 induction hw with
 |refl=>exact .refl
 | @step a b c t hx _ ih=>
  obtain⟨a',b',t',e,h1,h2,h3,h4,h5⟩:=P.mv _ hx;obtain⟨rfl,rfl,rfl⟩:=ju5 h hv e;have hm:l4 n.1 (gg σ a)=true:=P.sp.mks _ (bm [] h1);have e2:mkF (gg σ b)=FC.fire (Ip n) (Op n) (mkF (gg σ a)) t:=by rw[←h5];exact jt5 h hv hm h3
  have h6:zae n (mkF (gg σ a)) (FC.fire (Ip n) (Op n) (mkF (gg σ a)) t):= .step t .refl h3 ((jrn h hv hm h3).1 h4);rw[←e2]at h6;exact h6.trans ih
theorem jzc(hf:σ.1=true){i:Nat}(hi:i<σ.2.1.length){y:Nat→Int}(hr:zae n (mkF (gg σ i)) y):∃j,j<σ.2.1.length∧y=mkF (gg σ j)∧Way σ.2.2 i j:=by
 induction hr with
 |refl=>exact⟨i,hi,rfl, .refl i⟩
 | @step y t _ ht he ih=>
  obtain⟨j,hj,rfl,hw⟩:=ih;have hm:l4 n.1 (gg σ j)=true:=P.sp.mks _ (bm [] hj);have hc:=(jrn h hv hm ht).2 he;obtain⟨b,hb⟩:=P.full hf j t hj ht hc;obtain⟨a',b',t',e,h1,h2,h3,h4,h5⟩:=P.mv _ hb;obtain⟨rfl,rfl,rfl⟩:=ju5 h hv e;refine⟨b,h2,?_,hw.trans (.step t hb (.refl b))⟩;rw[←h5];exact(jt5 h hv hm ht).symm
theorem zjw:∀(k j:Nat),j≤k→j<σ.2.1.length→Way σ.2.2 0 j
 |0,j,hk,_=>by rw[show j=0 by omega];exact .refl 0
 |k+1,j,hk,hj=>by
  by_cases h0:j=0
  ·rw[h0];exact .refl 0
  ·obtain⟨a,t,ha,hx⟩:=P.rch j (by omega) hj;exact(zjw k a (by omega) (by omega)).trans (.step t hx (.refl j))
theorem j3j(hf:σ.1=true):jx7 n (mkF m)↔∀t,t<n.2.1.length→∀i,i<σ.2.1.length→∃j,Way σ.2.2 i j∧j<σ.2.1.length∧qk (n.2.1.getD t ab.z) (gg σ j)=true:=by
 have hp:=P.sp.pos;have hst:mkF (gg σ 0)=mkF m:=by rw[P.fst]
 constructor
 ·intro hL t ht i hi;have h1:=jz0 h hv P (zjw h hv P i i (Nat.le_refl _) hi);rw[hst]at h1;obtain⟨y,h2,h3⟩:=hL t ht _ h1;obtain⟨j,hj,rfl,hw⟩:=jzc h hv P hf hi h2;exact⟨j,hw,hj,(jrn h hv (P.sp.mks _ (bm [] hj)) ht).2 h3⟩
 ·intro hG t ht x hx;rw[←hst]at hx;obtain⟨i,hi,rfl,_⟩:=jzc h hv P hf hp hx;obtain⟨j,hw,hj,hc⟩:=hG t ht i hi;exact⟨_,jz0 h hv P hw,(jrn h hv (P.sp.mks _ (bm [] hj)) ht).1 hc⟩
end
end Go.Proofs.YtclbndfjhjladaaGreat
