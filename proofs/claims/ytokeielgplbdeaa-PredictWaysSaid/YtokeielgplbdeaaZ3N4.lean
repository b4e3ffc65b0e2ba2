/-
  Predict: the program's search of a space.
-/
import Derived.Test.YtokeielgplbdeaaZ3N3
set_option linter.all false
namespace Go.Proofs.Ytokeielgplbdeaa
open Go.K Go.M
theorem iy{α β:Type}(f:α→β)(l:List α)(i:Nat)(d:α)(d' :β)(h:i<l.length):(l.map f).getD i d' =f (l.getD i d):=by
 rw[List.getD_eq_getElem?_getD,List.getElem?_map,List.getD_eq_getElem?_getD,List.getElem?_eq_getElem h];rfl
theorem jew{n:cx}{m:List Int}{i t:Nat}:t∈enN n m i↔t<i∧k6 (n.2.1.getD t ag.z) m=true:=by
 unfold enN;rw[List.mem_filter,List.mem_range]
theorem jey{n:cx}(h:Small n)(hv:ey n=true){M:Nat}(hM:M≤100){σ:q4}(hs:SpI n M σ){i:Nat}(hi:i<σ.2.1.length)(hmv:σ.2.2.length≤10000):
  qf6 (M:Int) (i:Int) (enL n (dg σ i)) ((enL n (dg σ i)).length:Int) n.1 n.2.1 n.2.2.1 n.2.2.2.1 [] [] false (0,σ.1,qy4 σ.2.1,σ.2.1,σ.2.2)=
   some (.inl ((lm n M i (List.range n.2.1.length) σ).1,qy4 (lm n M i (List.range n.2.1.length) σ).2.1,(lm n M i (List.range n.2.1.length) σ).2.1,(lm n M i (List.range n.2.1.length) σ).2.2)):=by
 have hT:=h.trans;have hN:=qix hv;rw[←qh9 (dg σ i) (List.range n.2.1.length) hi rfl];have hen:(List.range n.2.1.length).filter (fun t=>k6 (trA n t) (dg σ i))=enN n (dg σ i) n.2.1.length:=rfl;rw[hen];have hlen:(enL n (dg σ i)).length=(enN n (dg σ i) n.2.1.length).length:=by unfold enL;rw[List.length_map]
 have hle:(enN n (dg σ i) n.2.1.length).length≤n.2.1.length:=by
  unfold enN;exact Nat.le_trans (List.length_filter_le _ _) (by simp)
 have hg:∀k,k<(enN n (dg σ i) n.2.1.length).length→(enL n (dg σ i)).getD k 0=(((enN n (dg σ i) n.2.1.length).getD k 0:Nat):Int):=fun k hk=>iy _ _ _ 0 _ hk
 have hmem:∀k,k<(enN n (dg σ i) n.2.1.length).length→(enN n (dg σ i) n.2.1.length).getD k 0<n.2.1.length∧k6 (trA n ((enN n (dg σ i) n.2.1.length).getD k 0)) (dg σ i)=true:=fun k hk=>jew.1 (ba 0 hk)
 clear hen;generalize enL n (dg σ i)=L at hlen hg;generalize enN n (dg σ i) n.2.1.length=l at hlen hle hg hmem;have eT:lm n M i l σ=lm n M i (l.take l.length) σ:=by rw[List.take_length]
 rw[eT];refine jh (fun k:Nat=>((k:Int),(lm n M i (l.take k) σ).1,qy4 (lm n M i (l.take k) σ).2.1,(lm n M i (l.take k) σ).2.1,(lm n M i (l.take k) σ).2.2)) l.length (bv (by omega)) _ (fun k hk=> ?_) ?_ _ (by rfl)
 ·obtain⟨f1,f2,f3,f4⟩:=qy (n:=n) (M:=M) (i:=i) (l.take k) hs;have e1:lm n M i (l.take (k+1)) σ=uo n M i (lm n M i (l.take k) σ) (l.getD k 0):=by
   rw[cq _ k 0 hk];unfold lm;rw[List.foldl_append];rfl
  have hst:=f2 i hi;obtain⟨ht,hc⟩:=hmem k hk;have hg:=hg k hk;have hkL:k<L.length:=by rw[hlen];exact hk
  have hml:(l.take k).length≤100:=by rw[List.length_take];omega
  generalize lm n M i (l.take k) σ=τ at f1 f2 f3 f4 e1 hst;rw[e1];generalize l.getD k 0=t at ht hc hg e1;have hmS:di n.1 (dg τ i)=true:=f1.mks _ (ba [] (by omega));rw[←hst]at hc;have F:=jbg h hv hmS ht;have hF:=jdv h hv hmS ht;rw[jbh F hc]at hF;have en:((n.1,n.2.1,n.2.2.1,n.2.2.2.1,()):cx)=n:=rfl;have hil:i<τ.2.1.length:=by omega
  have hlenM:=f1.len;rcases ph n M i τ t with⟨g1,e⟩|⟨g1,g2,e⟩|⟨g1,g2,q,g3,e⟩|⟨g1,g2,g3,g4,e⟩|⟨g1,g2,g3,g4,e⟩
  ·rw[show k6 (trA n t) (dg τ i)=true from hc]at g1;cases g1
  ·rw[e];rw[show di n.1 (c6 (n.2.1.getD t ag.z) (dg τ i))=false from g2,cond_false]at hF;simp(disch:=omega)only[il,hg,en,hF,rs];rfl
  ·rw[e];rw[show di n.1 (c6 (n.2.1.getD t ag.z) (dg τ i))=true from g2,cond_true]at hF;have hky:=qsp (N:=n.1) (by omega) g2;have hat:=qon (N:=n.1) _ g2 τ.2.1 f1.mks f1.nd;rw[show kl (fun y:List Int=>decide (y=c6 (n.2.1.getD t ag.z) (dg τ i))) τ.2.1=some q from g3]at hat;have hml' :(τ.2.2++[((i:Int),(q:Int),(t:Int),())]).length=τ.2.2.length+1:=by simp
   simp(disch:=omega)only[il,hg,en,hF,hky,hat,Option.map_some,Option.isSome_some,Option.getD_some,Bool.not_true,hml',rs];rfl
  ·rw[e];rw[show di n.1 (c6 (n.2.1.getD t ag.z) (dg τ i))=true from g2,cond_true]at hF;have hky:=qsp (N:=n.1) (by omega) g2;have hat:=qon (N:=n.1) _ g2 τ.2.1 f1.mks f1.nd;rw[show kl (fun y:List Int=>decide (y=c6 (n.2.1.getD t ag.z) (dg τ i))) τ.2.1=none from g3]at hat;have hml' :(τ.2.2++[((i:Int),(τ.2.1.length:Int),(t:Int),())]).length=τ.2.2.length+1:=by simp
   simp only[qxo];simp(disch:=omega)only[il,hg,en,hF,hky,hat,Option.map_none,Option.isSome_none,Bool.not_false,hml',rs];rfl
  ·rw[e];rw[show di n.1 (c6 (n.2.1.getD t ag.z) (dg τ i))=true from g2,cond_true]at hF;have hky:=qsp (N:=n.1) (by omega) g2;have hat:=qon (N:=n.1) _ g2 τ.2.1 f1.mks f1.nd;rw[show kl (fun y:List Int=>decide (y=c6 (n.2.1.getD t ag.z) (dg τ i))) τ.2.1=none from g3]at hat;simp(disch:=omega)only[il,hg,en,hF,hky,hat,Option.map_none,Option.isSome_none,Bool.not_false,rs];rfl
 ·rw[←hlen];simp(disch:=omega)only[il,rs]
theorem jg{S E R:Type}{step:S→Option (LR S E R)}{o:E⊕R}{n:Nat}{s:S}(h:k8 step n s=some o)(hn:n<many):bz step s=some o:=qx4 h (by omega)
theorem jc4{n:cx}{M i:Nat}{σ:q4}(h:Small n)(hs:SpI n M σ)(hm:σ.2.2.length≤100*i):(lm n M i (List.range n.2.1.length) σ).2.2.length≤100*(i+1):=by
 have:=(qy (n:=n) (M:=M) (i:=i) (List.range n.2.1.length) hs).2.2.2;have hT:=h.trans;rw[List.length_range]at this;omega
theorem jez{n:cx}(h:Small n)(hv:ey n=true){M:Nat}(hM:M≤100):∀(f i:Nat) {σ:q4},SpI n M σ→M<f+i→σ.2.2.length≤100*i→
  k8 (fun a=>j1 (M:Int) n.1 n.2.1 n.2.2.1 n.2.2.2.1 [] [] false a.1 a.2.1 a.2.2.1 a.2.2.2.1 a.2.2.2.2 (fun a' =>some (.next a')) (fun e=>some (.done e)) (fun r=>some (.ret r))) (f+1) ((i:Int),σ.1,qy4 σ.2.1,σ.2.1,σ.2.2)=
   some (.inl ((we n M f i σ).1,(we n M f i σ).2.1,(we n M f i σ).2.2)):=by
 intro f
 induction f with
 |zero=>
  intro i σ hs hf hm;have:=hs.len;rw[bk];simp(disch:=omega)only[j1,rs];rfl
 |succ f ih=>
  intro i σ hs hf hm;have hlen:=hs.len;rw[bk];by_cases hi:i<σ.2.1.length
  ·have e0:we n M (f+1) i σ=we n M f (i+1) (lm n M i (List.range n.2.1.length) σ):=by
    show(if i<σ.2.1.length then _ else _)=_;rw[if_pos hi]
   have hN:=qix hv;have hmS:di n.1 (dg σ i)=true:=hs.mks _ (ba [] hi);have hml:=(rb.1 hmS).1;have hE:=ur h (dg σ i) (by omega);rw[hv,hmS]at hE;have hL:=jey h hv hM hs hi (by omega);have en:((n.1,n.2.1,n.2.2.1,n.2.2.2.1,()):cx)=n:=rfl;have ihh:=ih (i+1) (qy (n:=n) (M:=M) (i:=i) (List.range n.2.1.length) hs).1 (by omega) (jc4 h hs hm);rw[e0,←ihh];simp(disch:=omega)only[j1,en,hE,Bool.and_self,hL,al,rs];rfl
  ·have e0:we n M (f+1) i σ=σ:=by
    show(if i<σ.2.1.length then _ else _)=_;rw[if_neg hi]
   rw[e0];simp(disch:=omega)only[j1,rs];rfl
def jlw(m:List Int):q4:=(true,[m],[])
theorem q1d{n:cx}{M:Nat}{m:List Int}(hm:di n.1 m=true)(hM:1≤M):SpI n M (jlw m):=by
 refine⟨fun x hx=> ?_,List.pairwise_singleton _ _,by show 1≤M;exact hM,Nat.one_pos⟩;rw[List.mem_singleton.1 hx];exact hm
def spc(n:cx)(M:Nat)(m:List Int):q4:=we n M (M+1) 0 (jlw m)
theorem q4c{n:cx}(h:Small n)(m:List Int)(hl:m.length≤1000000)(most:Int)(hmost:¬(100<most∧most≤2000)):wa n m most=
  some (bif ey n&&di n.1 m then(if most<1∨2000<most then(([],[],false,()),2)else(((spc n most.toNat m).2.1,(spc n most.toNat m).2.2,(spc n most.toNat m).1,()),0))else(([],[],false,()),1)):=by
 have hE:=ur h m hl;unfold wa;cases hvm:(ey n&&di n.1 m)with
 |false=>
  rw[hvm]at hE;simp(disch:=omega)only[hE,rs]
 |true=>
  rw[hvm]at hE;have hv:=(Bool.and_eq_true _ _▸hvm).1;have hmk:=(Bool.and_eq_true _ _▸hvm).2;by_cases h1:most<1
  ·rw[if_pos (.inl h1)];simp(disch:=omega)only[hE,rs]
  ·by_cases h2:2000<most
   ·rw[if_pos (.inr h2)];simp(disch:=omega)only[hE,rs]
   ·rw[if_neg (by omega)];obtain⟨M,rfl⟩:∃M:Nat,most=(M:Int):=⟨most.toNat,by omega⟩;have hN:=qix hv;have hk:=qsp (N:=n.1) (by omega) hmk;have hC:=q1t m hl;have hL:=jez h hv (M:=M) (by omega) (M+1) 0 (q1d hmk (by omega)) (by omega) (Nat.zero_le _);have hL2:qf7 (M:Int) n.1 n.2.1 n.2.2.1 n.2.2.2.1 [] [] false (0,true,jcq (qmm m) 0 [],[m],[])=some (.inl ((spc n M m).1,(spc n M m).2.1,(spc n M m).2.2)):=jg hL (bv (by omega));have ep:t4 .str (qmm m) (0:Int) ([]:List (ByteArray×Int))=jcq (qmm m) 0 []:=rfl;simp(disch:=omega)only[hE,hk,hC,ep,hL2,rs]
end Go.Proofs.Ytokeielgplbdeaa
