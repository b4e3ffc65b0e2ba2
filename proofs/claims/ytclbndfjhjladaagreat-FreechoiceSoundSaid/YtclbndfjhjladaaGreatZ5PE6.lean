/-
  Freechoice: liveness in the space of a net.
-/
import Derived.Test.YtclbndfjhjladaaGreatZ5PE4
import Derived.Test.YtclbndfjhjladaaGreatZ5X8
set_option linter.all false
namespace Go.Proofs.YtclbndfjhjladaaGreat
open Go.K Go.M
def Ip(n:bp)(t p:Nat):Prop:=(p:Int)∈(n.2.1.getD t ae.z).2.1
def Op(n:bp)(t p:Nat):Prop:=(p:Int)∈(n.2.1.getD t ae.z).2.2.1
instance (n : bp) (t p : Nat) : Decidable (Ip n t p) := inferInstanceAs (Decidable ((p : Int) ∈ (n.2.1.getD t ae.z).2.1))
instance (n : bp) (t p : Nat) : Decidable (Op n t p) := inferInstanceAs (Decidable ((p : Int) ∈ (n.2.1.getD t ae.z).2.2.1))
def mkF(x:List Int):Nat→Int:=fun p=>x.getD p 0
abbrev tv(n:bp):=FC.Rea n.1.toNat n.2.1.length (Ip n) (Op n)
abbrev EnN(n:bp):=FC.En n.1.toNat (Ip n)
section
variable {n : bp} (h : Small n) (hv : ck n = true)
include h hv
theorem jbm{x:List Int}(hx:mt n.1 x=true){t:Nat}(ht:t<n.2.1.length):qd4 (n.2.1.getD t ae.z) x=true↔EnN n (mkF x) t:=by
 have F:=jpf h hv hx ht;have hml:=(sr.1 hx).1;constructor
 ·intro hc p hp hi;have:=F.can hc _ hi;rw[Int.toNat_natCast]at this;exact this
 ·intro he;unfold qd4;rw[Bool.not_eq_true',List.any_eq_false];intro p hp;have hb:=F.i1 p hp;have h1:=he p.toNat (by omega) (by show((p.toNat:Nat):Int)∈_;rw[Int.toNat_of_nonneg hb.1];exact hp);have h1:1≤x.getD p.toNat 0:=h1;rw[decide_eq_true_iff];omega
theorem jer{x:List Int}(hx:mt n.1 x=true){t:Nat}(ht:t<n.2.1.length):mkF (im (n.2.1.getD t ae.z) x)=FC.fire (Ip n) (Op n) (mkF x) t:=by
 have F:=jpf h hv hx ht;funext q;show(im (n.2.1.getD t ae.z) x).getD q 0=x.getD q 0-(if Ip n t q then 1 else 0)+(if Op n t q then 1 else 0);rw[F.at_ q];by_cases h1:(q:Int)∈(n.2.1.getD t ae.z).2.1
 ·rw[if_pos h1,if_pos (show Ip n t q from h1)];by_cases h2:(q:Int)∈(n.2.1.getD t ae.z).2.2.1
  ·rw[if_pos h2,if_pos (show Op n t q from h2)];omega
  ·rw[if_neg h2,if_neg (show¬Op n t q from h2)];omega
 ·rw[if_neg h1,if_neg (show¬Ip n t q from h1)];by_cases h2:(q:Int)∈(n.2.1.getD t ae.z).2.2.1
  ·rw[if_pos h2,if_pos (show Op n t q from h2)];omega
  ·rw[if_neg h2,if_neg (show¬Op n t q from h2)];omega
theorem q6g{a b t a' b' t' :Nat}(h:mvA a b t=mvA a' b' t'):a=a' ∧b=b' ∧t=t' :=by
 have h1:(a:Int)=a' :=congrArg (fun x:ar=>x.1) h;have h2:(b:Int)=b' :=congrArg (fun x:ar=>x.2.1) h;have h3:(t:Int)=t' :=congrArg (fun x:ar=>x.2.2.1) h;omega
variable {M : Nat} {m : List Int} {σ : Sig} (P : SpcOK n M m σ)
include P
theorem jli{i j:Nat}(hw:Way σ.2.2 i j):tv n (mkF (df σ i)) (mkF (df σ j)):=by
 induction hw with
 |refl=>exact .refl
 | @step a b c t hx _ ih=>
  obtain⟨a',b',t',e,h1,h2,h3,h4,h5⟩:=P.mv _ hx;obtain⟨rfl,rfl,rfl⟩:=q6g h hv e;have hm:mt n.1 (df σ a)=true:=P.sp.mks _ (au [] h1);have e2:mkF (df σ b)=FC.fire (Ip n) (Op n) (mkF (df σ a)) t:=by rw[←h5];exact jer h hv hm h3
  have h6:tv n (mkF (df σ a)) (FC.fire (Ip n) (Op n) (mkF (df σ a)) t):= .step t .refl h3 ((jbm h hv hm h3).1 h4);rw[←e2]at h6;exact h6.trans ih
theorem jkm(hf:σ.1=true){i:Nat}(hi:i<σ.2.1.length){y:Nat→Int}(hr:tv n (mkF (df σ i)) y):∃j,j<σ.2.1.length∧y=mkF (df σ j)∧Way σ.2.2 i j:=by
 induction hr with
 |refl=>exact⟨i,hi,rfl, .refl i⟩
 | @step y t _ ht he ih=>
  obtain⟨j,hj,rfl,hw⟩:=ih;have hm:mt n.1 (df σ j)=true:=P.sp.mks _ (au [] hj);have hc:=(jbm h hv hm ht).2 he;obtain⟨b,hb⟩:=P.full hf j t hj ht hc;obtain⟨a',b',t',e,h1,h2,h3,h4,h5⟩:=P.mv _ hb;obtain⟨rfl,rfl,rfl⟩:=q6g h hv e;refine⟨b,h2,?_,hw.trans (.step t hb (.refl b))⟩;rw[←h5];exact(jer h hv hm ht).symm
theorem j70:∀(k j:Nat),j≤k→j<σ.2.1.length→Way σ.2.2 0 j
 |0,j,hk,_=>by rw[show j=0 by omega];exact .refl 0
 |k+1,j,hk,hj=>by
  by_cases h0:j=0
  ·rw[h0];exact .refl 0
  ·obtain⟨a,t,ha,hx⟩:=P.rch j (by omega) hj;exact(j70 k a (by omega) (by omega)).trans (.step t hx (.refl j))
end
end Go.Proofs.YtclbndfjhjladaaGreat
set_option linter.all false
namespace Go.Proofs.YtclbndfjhjladaaGreat
open Go.K Go.M
theorem juc{n:bp}{N:Nat}(hN:N≤12){W:List Int}(hb:∀x∈W,(0:Int)≤x∧x<(N:Int))(hc:xd n.2.1 false W)(hne:W≠[]):∃k,k<2 ^ N∧qrr n N k=true∧∀x∈ij N k,x∈W:=by
 have h16:2 ^ N≤2 ^ 16:=Nat.pow_le_pow_right (by omega) (by omega);have hlt:=jcj hb;have key:∀k,k<2 ^ N→1≤k→jnz k (k7 W)→clo n N k=true→∃f,f<2 ^ N∧qrr n N f=true∧jnz f (k7 W):=by
  intro k
  induction k using Nat.strongRecOn with
  |_ k ih=>
   intro hk h1 hs hcl;cases hsub:xq n N N k with
   |false=>exact⟨k,hk,by unfold qrr;rw[hsub,hcl,decide_eq_true h1];rfl,hs⟩
   |true=>
    unfold xq at hsub;obtain⟨p,hp,h2⟩:=List.any_eq_true.1 hsub;rw[Bool.and_eq_true,qqs]at h2;obtain⟨h2,g,g1,g2,g3⟩:=h2;have h3:=jor (k:=k) (p:=p) (by omega) h2;have h4:=jdi g2;exact ih g (by omega) (by omega) g1 (fun i hi=>hs i (ja8 (by omega) i (g2 i hi))) g3
 obtain⟨f,hf,h1,h2⟩:=key (k7 W) hlt (jp2 (fun x hx=>(hb x hx).1) hne) (fun _ h=>h) (jyk hb hc);refine⟨f,hf,h1,fun x hx=> ?_⟩;obtain⟨p,_,hp,rfl⟩:=qft.1 hx;have:=h2 p hp;rw[qgh fun x hx=>(hb x hx).1,f9]at this;exact this
theorem jkr{n:bp}{N:Nat}{row:List Int}:row∈srt (fu n N)↔∃k,k<2 ^ N∧qrr n N k=true∧row=ij N k:=by
 have hp:=wo (fu n N);rw[show(row∈srt (fu n N))↔row∈fu n N from hp.mem_iff];unfold fu o5;rw[List.mem_map];constructor
 ·rintro⟨k,hk,rfl⟩;rw[List.mem_filter,List.mem_range]at hk;exact⟨k,hk.1,hk.2,rfl⟩
 ·rintro⟨k,h1,h2,rfl⟩;exact⟨k,List.mem_filter.2 ⟨List.mem_range.2 h1,h2⟩,rfl⟩
section
variable {n : bp} (h : Small n) (hv : ck n = true)
include hv
theorem jmf{t:ae}(ht:t∈n.2.1):(∀x∈t.2.1,0≤x∧x<n.1)∧∀x∈t.2.2.1,0≤x∧x<n.1:=
 ⟨(qdq.1 (qms hv ht).1).1,(qdq.1 (qms hv ht).2).1⟩
theorem jq8(S:Nat→Prop):∃W:List Int,∀x:Int,x∈W↔∃p:Nat,p<n.1.toNat∧S p∧(p:Int)=x:=by
 refine⟨((List.range n.1.toNat).filter fun p=> @decide (S p) (Classical.propDecidable _)).map fun p:Nat=>(p:Int),fun x=> ?_⟩;rw[List.mem_map];constructor
 ·rintro⟨p,hp,rfl⟩;rw[List.mem_filter,List.mem_range]at hp;exact⟨p,hp.1,(@decide_eq_true_iff _ (Classical.propDecidable _)).1 hp.2,rfl⟩
 ·rintro⟨p,h1,h2,rfl⟩;exact⟨p,List.mem_filter.2 ⟨List.mem_range.2 h1,(@decide_eq_true_iff _ (Classical.propDecidable _)).2 h2⟩,rfl⟩
theorem jin{S:Nat→Prop}{W:List Int}(hW:∀x:Int,x∈W↔∃p:Nat,p<n.1.toNat∧S p∧(p:Int)=x)(hS:FC.Siphon n.1.toNat n.2.1.length (Ip n) (Op n) S):xd n.2.1 false W:=by
 refine qs8.2 fun t ht ⟨x,hx,hw⟩=> ?_
 obtain⟨i,hi,rfl⟩:=t8 ae.z ht;obtain⟨p,hp,hs,rfl⟩:=(hW x).1 hw;obtain⟨q,hq,h1,h2⟩:=hS i hi p hp hx hs;exact⟨q,h1,(hW _).2 ⟨q,hq,h2,rfl⟩⟩
theorem jg9{W:List Int}(hc:xd n.2.1 false W):FC.Siphon n.1.toNat n.2.1.length (Ip n) (Op n) (fun p=>(p:Int)∈W):=fun t ht p _ hi hw=>by
 obtain⟨x,hx,hxw⟩:=qs8.1 hc _ (au ae.z ht) ⟨(p:Int),hi,hw⟩;have hb:=(jmf hv (au ae.z ht)).1 x hx;refine⟨x.toNat,by omega,?_,?_⟩
 ·show((x.toNat:Nat):Int)∈_;rw[Int.toNat_of_nonneg hb.1];exact hx
 ·show((x.toNat:Nat):Int)∈W;rw[Int.toNat_of_nonneg hb.1];exact hxw
include h
end
end Go.Proofs.YtclbndfjhjladaaGreat
