/-
  Predict: the program's search of a space.
-/
import Derived.Test.YtokeielgplbdeaaZ8N3
set_option linter.all false
namespace Go.Proofs.Ytokeielgplbdeaa
open Go.K Go.M
theorem i9{α β:Type}(f:α→β)(l:List α)(i:Nat)(d:α)(d' :β)(h:i<l.length):(l.map f).getD i d' =f (l.getD i d):=by
 rw[List.getD_eq_getElem?_getD,List.getElem?_map,List.getD_eq_getElem?_getD,List.getElem?_eq_getElem h];rfl
theorem jda{n:cj}{m:List Int}{i t:Nat}:t∈enN n m i↔t<i∧jm (n.2.1.getD t ag.z) m=true:=by
 unfold enN;rw[List.mem_filter,List.mem_range]
theorem jdc{n:cj}(h:Small n)(hv:b9 n=true){M:Nat}(hM:M≤100){σ:pb}(hs:SpI n M σ){i:Nat}(hi:i<σ.2.1.length)(hmv:σ.2.2.length≤10000):
  qf2 (M:Int) (i:Int) (enL n (c7 σ i)) ((enL n (c7 σ i)).length:Int) n.1 n.2.1 n.2.2.1 n.2.2.2.1 [] [] false (0,σ.1,qw4 σ.2.1,σ.2.1,σ.2.2)=
   some (.inl ((ll n M i (List.range n.2.1.length) σ).1,qw4 (ll n M i (List.range n.2.1.length) σ).2.1,(ll n M i (List.range n.2.1.length) σ).2.1,(ll n M i (List.range n.2.1.length) σ).2.2)):=by
 have hT:=h.trans;have hN:=ru hv;rw[←qh0 (c7 σ i) (List.range n.2.1.length) hi rfl];have hen:(List.range n.2.1.length).filter (fun t=>jm (oi n t) (c7 σ i))=enN n (c7 σ i) n.2.1.length:=rfl;rw[hen];have hlen:(enL n (c7 σ i)).length=(enN n (c7 σ i) n.2.1.length).length:=by unfold enL;rw[List.length_map]
 have hle:(enN n (c7 σ i) n.2.1.length).length≤n.2.1.length:=by
  unfold enN;exact Nat.le_trans (List.length_filter_le _ _) (by simp)
 have hg:∀k,k<(enN n (c7 σ i) n.2.1.length).length→(enL n (c7 σ i)).getD k 0=(((enN n (c7 σ i) n.2.1.length).getD k 0:Nat):Int):=fun k hk=>i9 _ _ _ 0 _ hk
 have hmem:∀k,k<(enN n (c7 σ i) n.2.1.length).length→(enN n (c7 σ i) n.2.1.length).getD k 0<n.2.1.length∧jm (oi n ((enN n (c7 σ i) n.2.1.length).getD k 0)) (c7 σ i)=true:=fun k hk=>jda.1 (aw 0 hk)
 clear hen;generalize enL n (c7 σ i)=L at hlen hg;generalize enN n (c7 σ i) n.2.1.length=l at hlen hle hg hmem;have eT:ll n M i l σ=ll n M i (l.take l.length) σ:=by rw[List.take_length]
 rw[eT];refine jy (fun k:Nat=>((k:Int),(ll n M i (l.take k) σ).1,qw4 (ll n M i (l.take k) σ).2.1,(ll n M i (l.take k) σ).2.1,(ll n M i (l.take k) σ).2.2)) l.length (bm (by omega)) _ (fun k hk=> ?_) ?_ _ (by rfl)
 ·obtain⟨f1,f2,f3,f4⟩:=pt (n:=n) (M:=M) (i:=i) (l.take k) hs;have e1:ll n M i (l.take (k+1)) σ=td n M i (ll n M i (l.take k) σ) (l.getD k 0):=by
   rw[cr _ k 0 hk];unfold ll;rw[List.foldl_append];rfl
  have hst:=f2 i hi;obtain⟨ht,hc⟩:=hmem k hk;have hg:=hg k hk;have hkL:k<L.length:=by rw[hlen];exact hk
  have hml:(l.take k).length≤100:=by rw[List.length_take];omega
  generalize ll n M i (l.take k) σ=τ at f1 f2 f3 f4 e1 hst;rw[e1];generalize l.getD k 0=t at ht hc hg e1;have hmS:c8 n.1 (c7 τ i)=true:=f1.mks _ (aw [] (by omega));rw[←hst]at hc;have F:=q9v h hv hmS ht;have hF:=jcd h hv hmS ht;rw[q9w F hc]at hF;have en:((n.1,n.2.1,n.2.2.1,n.2.2.2.1,()):cj)=n:=rfl;have hil:i<τ.2.1.length:=by omega
  have hlenM:=f1.len;rcases nk n M i τ t with⟨g1,e⟩|⟨g1,g2,e⟩|⟨g1,g2,q,g3,e⟩|⟨g1,g2,g3,g4,e⟩|⟨g1,g2,g3,g4,e⟩
  ·rw[show jm (oi n t) (c7 τ i)=true from hc]at g1;cases g1
  ·rw[e];rw[show c8 n.1 (ca (n.2.1.getD t ag.z) (c7 τ i))=false from g2,cond_false]at hF;simp(disch:=omega)only[iw,hg,en,hF,rs];rfl
  ·rw[e];rw[show c8 n.1 (ca (n.2.1.getD t ag.z) (c7 τ i))=true from g2,cond_true]at hF;have hky:=qqy (N:=n.1) (by omega) g2;have hat:=qnh (N:=n.1) _ g2 τ.2.1 f1.mks f1.nd;rw[show k9 (fun y:List Int=>decide (y=ca (n.2.1.getD t ag.z) (c7 τ i))) τ.2.1=some q from g3]at hat;have hml' :(τ.2.2++[((i:Int),(q:Int),(t:Int),())]).length=τ.2.2.length+1:=by simp
   simp(disch:=omega)only[iw,hg,en,hF,hky,hat,Option.map_some,Option.isSome_some,Option.getD_some,Bool.not_true,hml',rs];rfl
  ·rw[e];rw[show c8 n.1 (ca (n.2.1.getD t ag.z) (c7 τ i))=true from g2,cond_true]at hF;have hky:=qqy (N:=n.1) (by omega) g2;have hat:=qnh (N:=n.1) _ g2 τ.2.1 f1.mks f1.nd;rw[show k9 (fun y:List Int=>decide (y=ca (n.2.1.getD t ag.z) (c7 τ i))) τ.2.1=none from g3]at hat;have hml' :(τ.2.2++[((i:Int),(τ.2.1.length:Int),(t:Int),())]).length=τ.2.2.length+1:=by simp
   simp only[qvj];simp(disch:=omega)only[iw,hg,en,hF,hky,hat,Option.map_none,Option.isSome_none,Bool.not_false,hml',rs];rfl
  ·rw[e];rw[show c8 n.1 (ca (n.2.1.getD t ag.z) (c7 τ i))=true from g2,cond_true]at hF;have hky:=qqy (N:=n.1) (by omega) g2;have hat:=qnh (N:=n.1) _ g2 τ.2.1 f1.mks f1.nd;rw[show k9 (fun y:List Int=>decide (y=ca (n.2.1.getD t ag.z) (c7 τ i))) τ.2.1=none from g3]at hat;simp(disch:=omega)only[iw,hg,en,hF,hky,hat,Option.map_none,Option.isSome_none,Bool.not_false,rs];rfl
 ·rw[←hlen];simp(disch:=omega)only[iw,rs]
theorem ib{S E R:Type}{step:S→Option (LR S E R)}{o:E⊕R}{n:Nat}{s:S}(h:la step n s=some o)(hn:n<many):bv step s=some o:=qvz h (by omega)
theorem jbm{n:cj}{M i:Nat}{σ:pb}(h:Small n)(hs:SpI n M σ)(hm:σ.2.2.length≤100*i):(ll n M i (List.range n.2.1.length) σ).2.2.length≤100*(i+1):=by
 have:=(pt (n:=n) (M:=M) (i:=i) (List.range n.2.1.length) hs).2.2.2;have hT:=h.trans;rw[List.length_range]at this;omega
theorem jdd{n:cj}(h:Small n)(hv:b9 n=true){M:Nat}(hM:M≤100):∀(f i:Nat) {σ:pb},SpI n M σ→M<f+i→σ.2.2.length≤100*i→
  la (fun a=>kh (M:Int) n.1 n.2.1 n.2.2.1 n.2.2.2.1 [] [] false a.1 a.2.1 a.2.2.1 a.2.2.2.1 a.2.2.2.2 (fun a' =>some (.next a')) (fun e=>some (.done e)) (fun r=>some (.ret r))) (f+1) ((i:Int),σ.1,qw4 σ.2.1,σ.2.1,σ.2.2)=
   some (.inl ((tn n M f i σ).1,(tn n M f i σ).2.1,(tn n M f i σ).2.2)):=by
 intro f
 induction f with
 |zero=>
  intro i σ hs hf hm;have:=hs.len;rw[a8];simp(disch:=omega)only[kh,rs];rfl
 |succ f ih=>
  intro i σ hs hf hm;have hlen:=hs.len;rw[a8];by_cases hi:i<σ.2.1.length
  ·have e0:tn n M (f+1) i σ=tn n M f (i+1) (ll n M i (List.range n.2.1.length) σ):=by
    show(if i<σ.2.1.length then _ else _)=_;rw[if_pos hi]
   have hN:=ru hv;have hmS:c8 n.1 (c7 σ i)=true:=hs.mks _ (aw [] hi);have hml:=(ja.1 hmS).1;have hE:=rv h (c7 σ i) (by omega);rw[hv,hmS]at hE;have hL:=jdc h hv hM hs hi (by omega);have en:((n.1,n.2.1,n.2.2.1,n.2.2.2.1,()):cj)=n:=rfl;have ihh:=ih (i+1) (pt (n:=n) (M:=M) (i:=i) (List.range n.2.1.length) hs).1 (by omega) (jbm h hs hm);rw[e0,←ihh];simp(disch:=omega)only[kh,en,hE,Bool.and_self,hL,al,rs];rfl
  ·have e0:tn n M (f+1) i σ=σ:=by
    show(if i<σ.2.1.length then _ else _)=_;rw[if_neg hi]
   rw[e0];simp(disch:=omega)only[kh,rs];rfl
def jkh(m:List Int):pb:=(true,[m],[])
theorem qq8{n:cj}{M:Nat}{m:List Int}(hm:c8 n.1 m=true)(hM:1≤M):SpI n M (jkh m):=by
 refine⟨fun x hx=> ?_,List.pairwise_singleton _ _,by show 1≤M;exact hM,Nat.one_pos⟩;rw[List.mem_singleton.1 hx];exact hm
def spc(n:cj)(M:Nat)(m:List Int):pb:=tn n M (M+1) 0 (jkh m)
theorem qrc{n:cj}(h:Small n)(m:List Int)(hl:m.length≤1000000)(most:Int)(hmost:¬(100<most∧most≤2000)):xe n m most=
  some (bif b9 n&&c8 n.1 m then(if most<1∨2000<most then(([],[],false,()),2)else(((spc n most.toNat m).2.1,(spc n most.toNat m).2.2,(spc n most.toNat m).1,()),0))else(([],[],false,()),1)):=by
 have hE:=rv h m hl;unfold xe;cases hvm:(b9 n&&c8 n.1 m)with
 |false=>
  rw[hvm]at hE;simp(disch:=omega)only[hE,rs]
 |true=>
  rw[hvm]at hE;have hv:=(Bool.and_eq_true _ _▸hvm).1;have hmk:=(Bool.and_eq_true _ _▸hvm).2;by_cases h1:most<1
  ·rw[if_pos (.inl h1)];simp(disch:=omega)only[hE,rs]
  ·by_cases h2:2000<most
   ·rw[if_pos (.inr h2)];simp(disch:=omega)only[hE,rs]
   ·rw[if_neg (by omega)];obtain⟨M,rfl⟩:∃M:Nat,most=(M:Int):=⟨most.toNat,by omega⟩;have hN:=ru hv;have hk:=qqy (N:=n.1) (by omega) hmk;have hC:=qkz m hl;have hL:=jdd h hv (M:=M) (by omega) (M+1) 0 (qq8 hmk (by omega)) (by omega) (Nat.zero_le _);have hL2:qf3 (M:Int) n.1 n.2.1 n.2.2.1 n.2.2.2.1 [] [] false (0,true,ja9 (qls m) 0 [],[m],[])=some (.inl ((spc n M m).1,(spc n M m).2.1,(spc n M m).2.2)):=ib hL (bm (by omega));have ep:ur .str (qls m) (0:Int) ([]:List (ByteArray×Int))=ja9 (qls m) 0 []:=rfl;simp(disch:=omega)only[hE,hk,hC,ep,hL2,rs]
end Go.Proofs.Ytokeielgplbdeaa
