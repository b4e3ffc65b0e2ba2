/-
  Predict: runs along walks, and their times.
-/
import Derived.Test.YtokeielgplbdeaaZ6E2
set_option linter.all false
namespace Go.Proofs.Ytokeielgplbdeaa
open Go.K Go.M
theorem q5i{n:c9}(h:Small n)(hv:de n=true){x:List Int}(hx:df n.1 x=true){t:Nat}(ht:t<n.2.1.length):q8 n x (t:Int)=some (qyq n x t):=by
 have h1:=q2p h hv hx ht;have hml:=(ma.1 hx).1;have F:=qyp h hv hx ht;have hN:=F.N;have hp:iy n x=some true:=by rw[qu h x (by omega),hv,hx];rfl
 unfold zd at h1;rw[hp]at h1;cases hf:q8 n x (t:Int)with
 |none=>rw[hf]at h1;cases h1
 |some r=>rw[hf]at h1;exact h1
section
variable {n : c9} {m : List Int} {M : Nat} {σ : p2} {N g : Nat} {nE : List Eg} {c : Mk}
theorem GG.edge(h:GG n m M σ N g nE c){e:Eg}(he:e∈nE):kw (trA n e.2.2) (cp σ e.1)=true∧cw (trA n e.2.2) (cp σ e.1)=cp σ e.2.1:=by
 rw[h.eE]at he;obtain⟨x,hx,hxe⟩:=List.mem_map.1 (show e∈σ.2.2.map fun x=>(x.1.toNat,x.2.1.toNat,x.2.2.1.toNat)from he);obtain⟨a,b,t,rfl,h1,h2,h3,h4,h5⟩:=h.ok.mv x hx;subst hxe;simp only[mvA,Int.toNat_natCast];exact⟨h4,h5⟩
theorem GG.mark(h:GG n m M σ N g nE c){i:Nat}(hi:i<N):df n.1 (cp σ i)=true:=h.ok.sp.mks _ (az [] (by rw[←h.eN];exact hi))
theorem GG.fire(h:GG n m M σ N g nE c)(hS:Small n)(hv:de n=true){e:Eg}(he:e∈nE):q8 n (cp σ e.1) (e.2.2:Int)=some (0,cp σ e.2.1):=by
 have hg:=h.good e he;have hm:=h.mark hg.a;obtain⟨h1,h2⟩:=h.edge he;have F:=qyp hS hv hm hg.t;have h3:=qyr F h1;rw[q5i hS hv hm hg.t,h3];have h4:cw (n.2.1.getD e.2.2 ai.z) (cp σ e.1)=cp σ e.2.1:=h2;rw[h4,h.mark hg.b];rfl
theorem q4o{l:List Eg}{k:Nat}(hk:k<l.length):(px l).getD k 0=((l.getD k (0,0,0)).2.2:Int):=ii _ _ _ _ _ hk
theorem q9f(h:GG n m M σ N g nE c)(hS:Small n)(hv:de n=true)(l0:List Eg)(hl0:l0.length≤1000)(j:Nat):∀(l:List Eg) (i k:Nat),l0.drop k=l→k≤l0.length→IsW (fun e=>e∈nE) i l j→
  ky (fun a=>te (px l0) (px l0) ((px l0).length:Int) n.1 n.2.1 n.2.2.1 n.2.2.2.1 a.1 a.2 (fun a' =>some (.next a')) (fun e=>some (.done e)) (fun r=>some (.ret r))) (l.length+1) (cp σ i,(k:Int))=some (.inl (cp σ j))
 |[],i,k,hd,hk,hw=>by
  have hlen:(px l0).length=l0.length:=List.length_map _;have hkl:¬k<l0.length:=fun hlt=>by rw[qh4 l0 k (0,0,0) hlt]at hd;cases hd
  rw[show i=j from hw,be];simp(disch:=omega)only[te,rs];rfl
 |e::l,i,k,hd,hk,⟨h1,h2,h3⟩=>by
  have hlen:(px l0).length=l0.length:=List.length_map _;have hkl:k<l0.length:=by
   by_cases hlt:k<l0.length
   ·exact hlt
   ·rw[List.drop_eq_nil_of_le (by omega)]at hd;cases hd
  rw[qh4 l0 k (0,0,0) hkl]at hd;injection hd with hd1 hd2
  have ih:=q9f h hS hv l0 hl0 j l e.2.1 (k+1) hd2 (by omega) h3;have hs:=q4o hkl;rw[hd1]at hs;have hf:=h.fire hS hv h2;rw[h1]at hf;rw[List.length_cons,be,←ih];simp(disch:=omega)only[te,hs,hf,Bool.not_true,aj,rs];rfl
theorem q9e(h:GG n m M σ N g nE c)(hS:Small n)(hv:de n=true)(l:List Eg)(hl:l.length≤1000){j:Nat}(hw:IsW (fun e=>e∈nE) 0 l j):yz n m (px l)=some (cp σ j,(l.length:Int),0):=by
 have hlen:(px l).length=l.length:=List.length_map _;have h0:=h.ok.fst;have hmk:=h.mark h.pos;rw[h0]at hmk;have hml:=(ma.1 hmk).1;have hN:1≤n.1∧n.1≤40:=by
  unfold de at hv;simp only[Bool.and_eq_true,decide_eq_true_eq]at hv;exact hv.1.1.1.1
 have hp:iy n m=some true:=by rw[qu hS m (by omega),hv,hmk];rfl
 have hc:=qqb m (by omega);have hr:=q9f h hS hv l hl j l 0 0 rfl (Nat.zero_le _) hw;rw[h0]at hr;have hL:qos (px l) (px l) ((px l).length:Int) n.1 n.2.1 n.2.2.1 n.2.2.2.1 (m,0)=some (.inl (cp σ j)):=i7 hr (bm (by omega));unfold yz;simp(disch:=omega)only[hp,hc,hL,Bool.not_true,rs];rw[hlen]
end
abbrev qpc(ts:List af)(l:List Eg):Bool:=l.any fun e=>opT ts e.2.2
theorem q0a{ts:List af}(hts:c8 ts ts.length=true)(l:List Eg)(hl:l.length≤1000)(ht:∀e∈l,e.2.2<ts.length):rq (px l) ts=some (zx (i5 ts false) l,zx (i5 ts true) l,qpc ts l,true):=by
 have hlen:(px l).length=l.length:=List.length_map _;have hL:qiz ts (px l) ((px l).length:Int) (0,0,false,0)=some (.inl (zx (i5 ts false) l,zx (i5 ts true) l,qpc ts l)):=by
  have eT:l=l.take l.length:=by rw[List.take_length]
  have e3:(some (.inl (zx (i5 ts false) l,zx (i5 ts true) l,qpc ts l)):Option ((Int×Int×Bool)⊕(Int×Int×Bool×Bool)))=some (.inl (zx (i5 ts false) (l.take l.length),zx (i5 ts true) (l.take l.length),qpc ts (l.take l.length))):=by rw[←eT]
  rw[e3,hlen];refine iw (fun k:Nat=>(zx (i5 ts false) (l.take k),zx (i5 ts true) (l.take k),qpc ts (l.take k),(k:Int))) l.length (bm (by omega)) _ (fun k hk=> ?_) ?_ _ (by rfl)
  ·have e1:∀w:Nat→Int,zx w (l.take (k+1))=zx w (l.take k)+w (l.getD k (0,0,0)).2.2:=fun w=>by
    rw[cb l k (0,0,0) hk,qqa,qs];simp[zx,qz7]
   have e2:qpc ts (l.take (k+1))=(qpc ts (l.take k)||opT ts (l.getD k (0,0,0)).2.2):=by
    unfold qpc;rw[cb l k (0,0,0) hk,List.any_append];simp
   have hb:∀sl:Bool,0≤zx (i5 ts sl) (l.take k)∧zx (i5 ts sl) (l.take k)≤1048576*((l.take k).length:Int):=fun sl=>q2o fun e he=>n8 hts sl _ (ht e (List.mem_of_mem_take he))
   have hb1:=hb false;have hb2:=hb true;have hlt:(l.take k).length≤1000:=by rw[List.length_take];omega
   rw[e1,e1,e2];have hs:=q4o hk;have htk:=ht _ (az (0,0,0) hk);have hw1:=n8 hts false _ htk;have hw2:=n8 hts true _ htk;have hd1:i5 ts false (l.getD k (0,0,0)).2.2=(ts.getD (l.getD k (0,0,0)).2.2 af.z).1:=rfl;have hd2:i5 ts true (l.getD k (0,0,0)).2.2=(ts.getD (l.getD k (0,0,0)).2.2 af.z).2.1:=rfl;rw[hd1]at hw1⊢;rw[hd2]at hw2⊢;unfold opT;generalize zx (i5 ts false) (l.take k)=A at hb1;generalize zx (i5 ts true) (l.take k)=B at hb2;generalize(l.getD k (0,0,0)).2.2=t at hs htk hw1 hw2;generalize qpc ts (l.take k)=o;cases o with
   |true=>
    simp only[Bool.true_or];simp(disch:=omega)only[o4,hs,aj,rs]
   |false=>
    simp only[Bool.false_or];simp(disch:=omega)only[o4,hs,aj,rs]
  ·simp(disch:=omega)only[o4,hlen,rs]
 unfold rq;simp(disch:=omega)only[hL,rs]
end Go.Proofs.Ytokeielgplbdeaa
