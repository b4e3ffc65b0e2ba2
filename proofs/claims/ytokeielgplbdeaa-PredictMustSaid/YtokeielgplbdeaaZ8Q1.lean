/-
  Predict: a net in which a transition needs a further place.
-/
import Derived.Test.YtokeielgplbdeaaZ8P2
set_option linter.all false
namespace Go.Proofs.Ytokeielgplbdeaa
open Go.K Go.M
def exT(n:cj)(t:Nat):List ag:=n.2.1.set t ((oi n t).1,(oi n t).2.1++[n.1],(oi n t).2.2.1,())
def exN(n:cj)(t:Nat):cj:=(n.1+1,exT n t,n.2.2.1,n.2.2.2.1,())
theorem qeb(n:cj)(t:Nat):(exT n t).length=n.2.1.length:=List.length_set
theorem q9s{n:cj}{t s:Nat}(h:s≠t):oi (exN n t) s=oi n s:=by
 show(n.2.1.set t _).getD s ag.z=n.2.1.getD s ag.z;rw[List.getD_eq_getElem?_getD,List.getElem?_set_ne (fun e=>h e.symm),←List.getD_eq_getElem?_getD]
theorem je0{n:cj}{t:Nat}(h:t<n.2.1.length):oi (exN n t) t=((oi n t).1,(oi n t).2.1++[n.1],(oi n t).2.2.1,()):=by
 show(n.2.1.set t _).getD t ag.z=_;rw[List.getD_eq_getElem?_getD,List.getElem?_set_self h];rfl
theorem q2v{n:cj}{t:Nat}{T:ag}(ht:t<n.2.1.length)(h:T∈exT n t):(∃s,s<n.2.1.length∧T=oi n s)∨T=((oi n t).1,(oi n t).2.1++[n.1],(oi n t).2.2.1,()):=by
 obtain⟨s,hs,rfl⟩:=ig ag.z h;rw[qeb]at hs;by_cases hst:s=t
 ·subst hst;exact .inr (je0 hs)
 ·exact .inl ⟨s,hs,q9s hst⟩
theorem q0d{n:cj}{t:Nat}(ht:t<n.2.1.length)(hl:n.2.1.length≤20)(hi:∀T∈n.2.1,T.2.1.length≤20)(ho:∀T∈n.2.1,T.2.2.1.length≤20):Small (exN n t):=by
 refine⟨by show(exT n t).length≤_;rw[qeb];omega,fun T hT=> ?_,fun T hT=> ?_⟩
 ·rcases q2v ht hT with⟨s,hs,rfl⟩|rfl
  ·have:(oi n s).2.1.length≤20:=hi _ (aw ag.z hs);omega
  ·have:(oi n t).2.1.length≤20:=hi _ (aw ag.z ht);show((oi n t).2.1++[n.1]).length≤60;rw[List.length_append,List.length_singleton];omega
 ·rcases q2v ht hT with⟨s,hs,rfl⟩|rfl
  ·have:(oi n s).2.2.1.length≤20:=ho _ (aw ag.z hs);omega
  ·have:(oi n t).2.2.1.length≤20:=ho _ (aw ag.z ht);show(oi n t).2.2.1.length≤60;omega
theorem qoq{N:Int}{l:List Int}(h:za N l=true):za (N+1) l=true:=by
 obtain⟨h1,h2⟩:=ue.1 h;exact ue.2 ⟨fun x hx=>by have:=h1 x hx;omega,h2⟩
theorem q8d{N:Int}{l:List Int}(hN:0≤N)(h:za N l=true):za (N+1) (l++[N])=true:=by
 obtain⟨h1,h2⟩:=ue.1 h;refine ue.2 ⟨fun x hx=> ?_,List.pairwise_append.2 ⟨h2,List.pairwise_singleton _ _,fun a ha b hb=> ?_⟩⟩
 ·rcases List.mem_append.1 hx with hx|hx
  ·have:=h1 x hx;omega
  ·rw[List.mem_singleton.1 hx];omega
 ·rw[List.mem_singleton.1 hb];exact(h1 a ha).2
theorem q0e{n:cj}{t:Nat}(hv:b9 n=true)(ht:t<n.2.1.length):b9 (exN n t)=decide (n.1≤39):=by
 have hs:∀T∈n.2.1,(!eqS T.1 ⟨#[]⟩&& !qpd T.1)=false∧za n.1 T.2.1=true∧za n.1 T.2.2.1=true:=fun T hT=>by
  unfold b9 at hv;simp only[Bool.and_eq_true,Bool.not_eq_true']at hv;have:=List.any_eq_false.1 hv.1.1.2 T hT;unfold qk5 at this;simp only[Bool.or_eq_true,not_or,Bool.not_eq_true]at this;refine⟨this.1.1,?_,?_⟩
  ·have h2:=this.1.2;cases hb:za n.1 T.2.1 with
   |true=>rfl
   |false=>rw[hb]at h2;cases h2
  ·have h2:=this.2;cases hb:za n.1 T.2.2.1 with
   |true=>rfl
   |false=>rw[hb]at h2;cases h2
 obtain⟨h1,h2,h3,h4,h5⟩:=ru hv;have h6:0≤n.2.2.1∧n.2.2.1<n.1:=by
  unfold b9 at hv;simp only[Bool.and_eq_true,decide_eq_true_eq]at hv;exact hv.1.2
 have hb:(exT n t).any (qk5 (n.1+1))=false:=List.any_eq_false.2 fun T hT=>by
  rcases q2v ht hT with⟨s,hs',rfl⟩|rfl
  ·obtain⟨g1,g2,g3⟩:=hs _ (aw ag.z hs');unfold qk5;have g2' :=qoq g2;have g3' :=qoq g3;rw[show(n.2.1.getD s ag.z)=oi n s from rfl]at g1 g2' g3';rw[g1,g2',g3']
   decide
  ·obtain⟨g1,g2,g3⟩:=hs _ (aw ag.z ht);unfold qk5;have g2' :=q8d (by omega) g2;have g3' :=qoq g3;rw[show(n.2.1.getD t ag.z)=oi n t from rfl]at g1 g2' g3';simp only[g1,g2',g3']
   decide
 unfold b9 exN;simp only[qeb,hb];rw[decide_eq_true (show 1≤n.1+1 by omega),decide_eq_true h5,decide_eq_true h6.1,decide_eq_true (show n.2.2.1<n.1+1 by omega),decide_eq_true h3,decide_eq_true (show n.2.2.2.1<n.1+1 by omega)];by_cases h39:n.1≤39
 ·rw[decide_eq_true h39,decide_eq_true (show n.1+1≤40 by omega)];rfl
 ·rw[decide_eq_false h39,decide_eq_false (show¬n.1+1≤40 by omega)];rfl
theorem qns(y:List Int)(q:Nat):(y++[0]).getD q 0=y.getD q 0:=by
 rw[List.getD_eq_getElem?_getD,List.getD_eq_getElem?_getD];by_cases h:q<y.length
 ·rw[List.getElem?_append_left h]
 ·rw[List.getElem?_append_right (by omega),List.getElem?_eq_none (show y.length≤q by omega)];cases q-y.length<;>rfl
theorem q2u{n:cj}{t s:Nat}(h:s≠t)(y:List Int):jm (oi (exN n t) s) (y++[0])=jm (oi n s) y:=by
 rw[q9s h];unfold jm;simp only[qns]
theorem q48{n:cj}{t:Nat}(ht:t<n.2.1.length){y:List Int}(hy:(y.length:Int)=n.1):jm (oi (exN n t) t) (y++[0])=false:=by
 rw[je0 ht];unfold jm;have e:(y++[0]).getD n.1.toNat 0=0:=by
  rw[qns,List.getD_eq_getElem?_getD,List.getElem?_eq_none (by omega)];rfl
 have e2:([n.1].any fun p=>decide ((y++[0]).getD p.toNat 0=0))=true:=by
  rw[List.any_cons,decide_eq_true e];rfl
 show(!((oi n t).2.1++[n.1]).any fun p=>decide ((y++[0]).getD p.toNat 0=0))=false;rw[List.any_append,e2,Bool.or_true];rfl
theorem qrg(c:Int)(z:List Int):∀(l m:List Int),(∀p∈l,p.toNat<m.length)→fl c l (m++z)=fl c l m++z
 |[],m,_=>rfl
 |p::l,m,h=>by
  have hp:=h p List.mem_cons_self;show fl c l ((m++z).set p.toNat ((m++z).getD p.toNat 0+c))=fl c l (m.set p.toNat (m.getD p.toNat 0+c))++z;rw[List.set_append_left _ _ hp,List.getD_eq_getElem?_getD,List.getElem?_append_left hp,←List.getD_eq_getElem?_getD];exact qrg c z l _ fun q hq=>by rw[List.length_set];exact h q (List.mem_cons_of_mem _ hq)
theorem qxn{n:cj}(hv:b9 n=true){t s:Nat}(hs:s<n.2.1.length)(h:s≠t){y:List Int}(hy:(y.length:Int)=n.1):ca (oi (exN n t) s) (y++[0])=ca (oi n s) y++[0]:=by
 rw[q9s h];obtain⟨h1,h2⟩:=qkv hv (aw ag.z hs);obtain⟨b1,_⟩:=ue.1 h1;obtain⟨b2,_⟩:=ue.1 h2;unfold ca;rw[qrg _ _ _ _ fun p hp=>by have:=b1 p hp;omega,qrg _ _ _ _ fun p hp=>by have:=b2 p hp;rw[pe];omega]
theorem q0f(T:ag)(m:List Int):(ca T m).length=m.length:=(pe _ _ _).trans (pe _ _ _)
theorem je2{n:cj}(hv:b9 n=true){t:Nat}(ht:t<n.2.1.length){z:List Int}:∀{ks:List Nat} {y:List Int},(y.length:Int)=n.1→t∉ks→Fs n y ks z→Fs (exN n t) (y++[0]) ks (z++[0])
 |[],y,_,_,h=>by rw[show y=z from h];rfl
 |s::ks,y,hy,hn,⟨h1,h2,h3⟩=>by
  have hst:s≠t:=fun e=>hn (by rw[e];exact List.mem_cons_self)
  refine⟨by show s<(exT n t).length;rw[qeb];exact h1,by rw[q2u hst];exact h2,?_⟩;rw[qxn hv h1 hst hy];exact je2 hv ht (by rw[q0f];exact hy) (fun hm=>hn (List.mem_cons_of_mem _ hm)) h3
theorem je1{n:cj}(hv:b9 n=true){t:Nat}(ht:t<n.2.1.length){w:List Int}:∀{ks:List Nat} {y:List Int},(y.length:Int)=n.1→Fs (exN n t) (y++[0]) ks w→t∉ks∧∃z,w=z++[0]∧Fs n y ks z
 |[],y,_,h=>⟨by simp,y,h.symm,rfl⟩
 |s::ks,y,hy,⟨h1,h2,h3⟩=>by
  have h1:s<n.2.1.length:=by rw[←qeb n t];exact h1
  have hst:s≠t:=fun e=>by
   rw[e,q48 ht hy]at h2;cases h2
  rw[qxn hv h1 hst hy]at h3;obtain⟨g1,z,g2,g3⟩:=je1 hv ht (by rw[q0f];exact hy) h3;rw[q2u hst]at h2;refine⟨fun hm=> ?_,z,g2,h1,h2,g3⟩;rcases List.mem_cons.1 hm with e|e
  ·exact hst e.symm
  ·exact g1 e
theorem q70{N p:Int}(hN:0≤N)(hp:p<N):qcq (N+1) p=qcq N p++[0]:=by
 unfold qcq;rw[show(N+1).toNat=N.toNat+1 by omega,qub,if_neg (by omega)]
theorem q9r{n:cj}(hv:b9 n=true){t:Nat}(ht:t<n.2.1.length){y:List Int}(hy:(y.length:Int)=n.1){ks:List Nat}:Cmp (exN n t) (y++[0]) ks↔Cmp n y ks∧t∉ks:=by
 obtain⟨h1,h2,h3,h4,_⟩:=ru hv;have he:qcq (exN n t).1 (exN n t).2.2.2.1=qcq n.1 n.2.2.2.1++[0]:=q70 (by omega) h4;unfold Cmp;rw[he];constructor
 ·intro h;obtain⟨g1,z,g2,g3⟩:=je1 hv ht hy h;have:z=qcq n.1 n.2.2.2.1:=(List.append_inj_left' g2 rfl).symm;exact⟨by rw[←this];exact g3,g1⟩
 ·rintro⟨h,hn⟩;exact je2 hv ht hy hn h
theorem q49{N:Int}{y:List Int}(h:c8 N y=true):c8 (N+1) (y++[0])=true:=by
 obtain⟨h1,h2⟩:=ja.1 h;refine ja.2 ⟨by rw[List.length_append,List.length_singleton];omega,fun i hi=> ?_⟩;rw[qns];by_cases hy:i<y.length
 ·exact h2 i hy
 ·rw[List.getD_eq_getElem?_getD,List.getElem?_eq_none (by omega)];exact⟨Int.le_refl _,by decide⟩
theorem jhz{n:cj}{M:Nat}{S:List (List Int)}(h:Clo n M S)(hv:b9 n=true){t:Nat}(ht:t<n.2.1.length):Clo (exN n t) M (S.map fun y=>y++[0]):=by
 refine⟨by rw[List.length_map];exact h.len,fun x hx=> ?_,fun x hx s hs hc=> ?_⟩
 ·obtain⟨y,hy,rfl⟩:=List.mem_map.1 hx;exact q49 (h.mks y hy)
 ·obtain⟨y,hy,rfl⟩:=List.mem_map.1 hx;have hyl:=(ja.1 (h.mks y hy)).1;have hs:s<n.2.1.length:=by rw[←qeb n t];exact hs
  have hst:s≠t:=fun e=>by
   rw[e,q48 ht hyl]at hc;cases hc
  rw[qxn hv hs hst hyl];rw[q2u hst]at hc;exact List.mem_map.2 ⟨_,h.cl y hy s hs hc,rfl⟩
end Go.Proofs.Ytokeielgplbdeaa
