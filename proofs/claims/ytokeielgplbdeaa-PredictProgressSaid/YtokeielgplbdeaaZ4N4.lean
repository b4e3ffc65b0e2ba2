/-
  Predict: the program's search of a space.
-/
import Derived.Test.YtokeielgplbdeaaZ4N3
set_option linter.all false
namespace Go.Proofs.Ytokeielgplbdeaa
open Go.K Go.M
theorem gv{α β:Type}(f:α→β)(l:List α)(i:Nat)(d:α)(d' :β)(h:i<l.length):(l.map f).getD i d' =f (l.getD i d):=by
 rw[List.getD_eq_getElem?_getD,List.getElem?_map,List.getD_eq_getElem?_getD,List.getElem?_eq_getElem h];rfl
theorem q2m{n:c8}{m:List Int}{i t:Nat}:t∈enN n m i↔t<i∧jl (n.2.1.getD t ai.z) m=true:=by
 unfold enN;rw[List.mem_filter,List.mem_range]
theorem jad{n:c8}(h:Small n)(hv:db n=true){M:Nat}(hM:M≤100){σ:ox}(hs:SpI n M σ){i:Nat}(hi:i<σ.2.1.length)(hmv:σ.2.2.length≤10000):
  qfs (M:Int) (i:Int) (enL n (bu σ i)) ((enL n (bu σ i)).length:Int) n.1 n.2.1 n.2.2.1 n.2.2.2.1 [] [] false (0,σ.1,qux σ.2.1,σ.2.1,σ.2.2)=
   some (.inl ((k9 n M i (List.range n.2.1.length) σ).1,qux (k9 n M i (List.range n.2.1.length) σ).2.1,(k9 n M i (List.range n.2.1.length) σ).2.1,(k9 n M i (List.range n.2.1.length) σ).2.2)):=by
 have hT:=h.trans;have hN:=qe1 hv;rw[←qhj (bu σ i) (List.range n.2.1.length) hi rfl];have hen:(List.range n.2.1.length).filter (fun t=>jl (wh n t) (bu σ i))=enN n (bu σ i) n.2.1.length:=rfl;rw[hen];have hlen:(enL n (bu σ i)).length=(enN n (bu σ i) n.2.1.length).length:=by unfold enL;rw[List.length_map]
 have hle:(enN n (bu σ i) n.2.1.length).length≤n.2.1.length:=by
  unfold enN;exact Nat.le_trans (List.length_filter_le _ _) (by simp)
 have hg:∀k,k<(enN n (bu σ i) n.2.1.length).length→(enL n (bu σ i)).getD k 0=(((enN n (bu σ i) n.2.1.length).getD k 0:Nat):Int):=fun k hk=>gv _ _ _ 0 _ hk
 have hmem:∀k,k<(enN n (bu σ i) n.2.1.length).length→(enN n (bu σ i) n.2.1.length).getD k 0<n.2.1.length∧jl (wh n ((enN n (bu σ i) n.2.1.length).getD k 0)) (bu σ i)=true:=fun k hk=>q2m.1 (aw 0 hk)
 clear hen;generalize enL n (bu σ i)=L at hlen hg;generalize enN n (bu σ i) n.2.1.length=l at hlen hle hg hmem;have eT:k9 n M i l σ=k9 n M i (l.take l.length) σ:=by rw[List.take_length]
 rw[eT];refine iz (fun k:Nat=>((k:Int),(k9 n M i (l.take k) σ).1,qux (k9 n M i (l.take k) σ).2.1,(k9 n M i (l.take k) σ).2.1,(k9 n M i (l.take k) σ).2.2)) l.length (bh (by omega)) _ (fun k hk=> ?_) ?_ _ (by rfl)
 ·obtain⟨f1,f2,f3,f4⟩:=pm (n:=n) (M:=M) (i:=i) (l.take k) hs;have e1:k9 n M i (l.take (k+1)) σ=sn n M i (k9 n M i (l.take k) σ) (l.getD k 0):=by
   rw[cb _ k 0 hk];unfold k9;rw[List.foldl_append];rfl
  have hst:=f2 i hi;obtain⟨ht,hc⟩:=hmem k hk;have hg:=hg k hk;have hkL:k<L.length:=by rw[hlen];exact hk
  have hml:(l.take k).length≤100:=by rw[List.length_take];omega
  generalize k9 n M i (l.take k) σ=τ at f1 f2 f3 f4 e1 hst;rw[e1];generalize l.getD k 0=t at ht hc hg e1;have hmS:de n.1 (bu τ i)=true:=f1.mks _ (aw [] (by omega));rw[←hst]at hc;have F:=q2r h hv hmS ht;have hF:=q1v h hv hmS ht;rw[qxx F hc]at hF;have en:((n.1,n.2.1,n.2.2.1,n.2.2.2.1,()):c8)=n:=rfl;have hil:i<τ.2.1.length:=by omega
  have hlenM:=f1.len;rcases ne n M i τ t with⟨g1,e⟩|⟨g1,g2,e⟩|⟨g1,g2,q,g3,e⟩|⟨g1,g2,g3,g4,e⟩|⟨g1,g2,g3,g4,e⟩
  ·rw[show jl (wh n t) (bu τ i)=true from hc]at g1;cases g1
  ·rw[e];rw[show de n.1 (ce (n.2.1.getD t ai.z) (bu τ i))=false from g2,cond_false]at hF;simp(disch:=omega)only[iu,hg,en,hF,rs];rfl
  ·rw[e];rw[show de n.1 (ce (n.2.1.getD t ai.z) (bu τ i))=true from g2,cond_true]at hF;have hky:=qpe (N:=n.1) (by omega) g2;have hat:=qmh (N:=n.1) _ g2 τ.2.1 f1.mks f1.nd;rw[show km (fun y:List Int=>decide (y=ce (n.2.1.getD t ai.z) (bu τ i))) τ.2.1=some q from g3]at hat;have hml' :(τ.2.2++[((i:Int),(q:Int),(t:Int),())]).length=τ.2.2.length+1:=by simp
   simp(disch:=omega)only[iu,hg,en,hF,hky,hat,Option.map_some,Option.isSome_some,Option.getD_some,Bool.not_true,hml',rs];rfl
  ·rw[e];rw[show de n.1 (ce (n.2.1.getD t ai.z) (bu τ i))=true from g2,cond_true]at hF;have hky:=qpe (N:=n.1) (by omega) g2;have hat:=qmh (N:=n.1) _ g2 τ.2.1 f1.mks f1.nd;rw[show km (fun y:List Int=>decide (y=ce (n.2.1.getD t ai.z) (bu τ i))) τ.2.1=none from g3]at hat;have hml' :(τ.2.2++[((i:Int),(τ.2.1.length:Int),(t:Int),())]).length=τ.2.2.length+1:=by simp
   simp only[qth];simp(disch:=omega)only[iu,hg,en,hF,hky,hat,Option.map_none,Option.isSome_none,Bool.not_false,hml',rs];rfl
  ·rw[e];rw[show de n.1 (ce (n.2.1.getD t ai.z) (bu τ i))=true from g2,cond_true]at hF;have hky:=qpe (N:=n.1) (by omega) g2;have hat:=qmh (N:=n.1) _ g2 τ.2.1 f1.mks f1.nd;rw[show km (fun y:List Int=>decide (y=ce (n.2.1.getD t ai.z) (bu τ i))) τ.2.1=none from g3]at hat;simp(disch:=omega)only[iu,hg,en,hF,hky,hat,Option.map_none,Option.isSome_none,Bool.not_false,rs];rfl
 ·rw[←hlen];simp(disch:=omega)only[iu,rs]
theorem iy{S E R:Type}{step:S→Option (LR S E R)}{o:E⊕R}{n:Nat}{s:S}(h:kz step n s=some o)(hn:n<many):bv step s=some o:=qtx h (by omega)
theorem q8k{n:c8}{M i:Nat}{σ:ox}(h:Small n)(hs:SpI n M σ)(hm:σ.2.2.length≤100*i):(k9 n M i (List.range n.2.1.length) σ).2.2.length≤100*(i+1):=by
 have:=(pm (n:=n) (M:=M) (i:=i) (List.range n.2.1.length) hs).2.2.2;have hT:=h.trans;rw[List.length_range]at this;omega
theorem jae{n:c8}(h:Small n)(hv:db n=true){M:Nat}(hM:M≤100):∀(f i:Nat) {σ:ox},SpI n M σ→M<f+i→σ.2.2.length≤100*i→
  kz (fun a=>j8 (M:Int) n.1 n.2.1 n.2.2.1 n.2.2.2.1 [] [] false a.1 a.2.1 a.2.2.1 a.2.2.2.1 a.2.2.2.2 (fun a' =>some (.next a')) (fun e=>some (.done e)) (fun r=>some (.ret r))) (f+1) ((i:Int),σ.1,qux σ.2.1,σ.2.1,σ.2.2)=
   some (.inl ((s3 n M f i σ).1,(s3 n M f i σ).2.1,(s3 n M f i σ).2.2)):=by
 intro f
 induction f with
 |zero=>
  intro i σ hs hf hm;have:=hs.len;rw[ba];simp(disch:=omega)only[j8,rs];rfl
 |succ f ih=>
  intro i σ hs hf hm;have hlen:=hs.len;rw[ba];by_cases hi:i<σ.2.1.length
  ·have e0:s3 n M (f+1) i σ=s3 n M f (i+1) (k9 n M i (List.range n.2.1.length) σ):=by
    show(if i<σ.2.1.length then _ else _)=_;rw[if_pos hi]
   have hN:=qe1 hv;have hmS:de n.1 (bu σ i)=true:=hs.mks _ (aw [] hi);have hml:=(ko.1 hmS).1;have hE:=o4 h (bu σ i) (by omega);rw[hv,hmS]at hE;have hL:=jad h hv hM hs hi (by omega);have en:((n.1,n.2.1,n.2.2.1,n.2.2.2.1,()):c8)=n:=rfl;have ihh:=ih (i+1) (pm (n:=n) (M:=M) (i:=i) (List.range n.2.1.length) hs).1 (by omega) (q8k h hs hm);rw[e0,←ihh];simp(disch:=omega)only[j8,en,hE,Bool.and_self,hL,aj,rs];rfl
  ·have e0:s3 n M (f+1) i σ=σ:=by
    show(if i<σ.2.1.length then _ else _)=_;rw[if_neg hi]
   rw[e0];simp(disch:=omega)only[j8,rs];rfl
def jhk(m:List Int):ox:=(true,[m],[])
theorem qpm{n:c8}{M:Nat}{m:List Int}(hm:de n.1 m=true)(hM:1≤M):SpI n M (jhk m):=by
 refine⟨fun x hx=> ?_,List.pairwise_singleton _ _,by show 1≤M;exact hM,Nat.one_pos⟩;rw[List.mem_singleton.1 hx];exact hm
def spc(n:c8)(M:Nat)(m:List Int):ox:=s3 n M (M+1) 0 (jhk m)
theorem qps{n:c8}(h:Small n)(m:List Int)(hl:m.length≤1000000)(most:Int)(hmost:¬(100<most∧most≤2000)):wg n m most=
  some (bif db n&&de n.1 m then(if most<1∨2000<most then(([],[],false,()),2)else(((spc n most.toNat m).2.1,(spc n most.toNat m).2.2,(spc n most.toNat m).1,()),0))else(([],[],false,()),1)):=by
 have hE:=o4 h m hl;unfold wg;cases hvm:(db n&&de n.1 m)with
 |false=>
  rw[hvm]at hE;simp(disch:=omega)only[hE,rs]
 |true=>
  rw[hvm]at hE;have hv:=(Bool.and_eq_true _ _▸hvm).1;have hmk:=(Bool.and_eq_true _ _▸hvm).2;by_cases h1:most<1
  ·rw[if_pos (.inl h1)];simp(disch:=omega)only[hE,rs]
  ·by_cases h2:2000<most
   ·rw[if_pos (.inr h2)];simp(disch:=omega)only[hE,rs]
   ·rw[if_neg (by omega)];obtain⟨M,rfl⟩:∃M:Nat,most=(M:Int):=⟨most.toNat,by omega⟩;have hN:=qe1 hv;have hk:=qpe (N:=n.1) (by omega) hmk;have hC:=qxb m hl;have hL:=jae h hv (M:=M) (by omega) (M+1) 0 (qpm hmk (by omega)) (by omega) (Nat.zero_le _);have hL2:qft (M:Int) n.1 n.2.1 n.2.2.1 n.2.2.2.1 [] [] false (0,true,q77 (qkx m) 0 [],[m],[])=some (.inl ((spc n M m).1,(spc n M m).2.1,(spc n M m).2.2)):=iy hL (bh (by omega));have ep:t4 .str (qkx m) (0:Int) ([]:List (ByteArray×Int))=q77 (qkx m) 0 []:=rfl;simp(disch:=omega)only[hE,hk,hC,ep,hL2,rs]
end Go.Proofs.Ytokeielgplbdeaa
