/-
  Predict: the program's search of a space.
-/
import Derived.Test.YtokeielgplbdeaaZ6N3
set_option linter.all false
namespace Go.Proofs.Ytokeielgplbdeaa
open Go.K Go.M
theorem ii{α β:Type}(f:α→β)(l:List α)(i:Nat)(d:α)(d' :β)(h:i<l.length):(l.map f).getD i d' =f (l.getD i d):=by
 rw[List.getD_eq_getElem?_getD,List.getElem?_map,List.getD_eq_getElem?_getD,List.getElem?_eq_getElem h];rfl
theorem ja4{n:c9}{m:List Int}{i t:Nat}:t∈enN n m i↔t<i∧kw (n.2.1.getD t ai.z) m=true:=by
 unfold enN;rw[List.mem_filter,List.mem_range]
theorem ja7{n:c9}(h:Small n)(hv:de n=true){M:Nat}(hM:M≤100){σ:p2}(hs:SpI n M σ){i:Nat}(hi:i<σ.2.1.length)(hmv:σ.2.2.length≤10000):
  qfx (M:Int) (i:Int) (enL n (cp σ i)) ((enL n (cp σ i)).length:Int) n.1 n.2.1 n.2.2.1 n.2.2.2.1 [] [] false (0,σ.1,qvm σ.2.1,σ.2.1,σ.2.2)=
   some (.inl ((lq n M i (List.range n.2.1.length) σ).1,qvm (lq n M i (List.range n.2.1.length) σ).2.1,(lq n M i (List.range n.2.1.length) σ).2.1,(lq n M i (List.range n.2.1.length) σ).2.2)):=by
 have hT:=h.trans;have hN:=qig hv;rw[←qhr (cp σ i) (List.range n.2.1.length) hi rfl];have hen:(List.range n.2.1.length).filter (fun t=>kw (trA n t) (cp σ i))=enN n (cp σ i) n.2.1.length:=rfl;rw[hen];have hlen:(enL n (cp σ i)).length=(enN n (cp σ i) n.2.1.length).length:=by unfold enL;rw[List.length_map]
 have hle:(enN n (cp σ i) n.2.1.length).length≤n.2.1.length:=by
  unfold enN;exact Nat.le_trans (List.length_filter_le _ _) (by simp)
 have hg:∀k,k<(enN n (cp σ i) n.2.1.length).length→(enL n (cp σ i)).getD k 0=(((enN n (cp σ i) n.2.1.length).getD k 0:Nat):Int):=fun k hk=>ii _ _ _ 0 _ hk
 have hmem:∀k,k<(enN n (cp σ i) n.2.1.length).length→(enN n (cp σ i) n.2.1.length).getD k 0<n.2.1.length∧kw (trA n ((enN n (cp σ i) n.2.1.length).getD k 0)) (cp σ i)=true:=fun k hk=>ja4.1 (az 0 hk)
 clear hen;generalize enL n (cp σ i)=L at hlen hg;generalize enN n (cp σ i) n.2.1.length=l at hlen hle hg hmem;have eT:lq n M i l σ=lq n M i (l.take l.length) σ:=by rw[List.take_length]
 rw[eT];refine iw (fun k:Nat=>((k:Int),(lq n M i (l.take k) σ).1,qvm (lq n M i (l.take k) σ).2.1,(lq n M i (l.take k) σ).2.1,(lq n M i (l.take k) σ).2.2)) l.length (bm (by omega)) _ (fun k hk=> ?_) ?_ _ (by rfl)
 ·obtain⟨f1,f2,f3,f4⟩:=ri (n:=n) (M:=M) (i:=i) (l.take k) hs;have e1:lq n M i (l.take (k+1)) σ=uz n M i (lq n M i (l.take k) σ) (l.getD k 0):=by
   rw[cb _ k 0 hk];unfold lq;rw[List.foldl_append];rfl
  have hst:=f2 i hi;obtain⟨ht,hc⟩:=hmem k hk;have hg:=hg k hk;have hkL:k<L.length:=by rw[hlen];exact hk
  have hml:(l.take k).length≤100:=by rw[List.length_take];omega
  generalize lq n M i (l.take k) σ=τ at f1 f2 f3 f4 e1 hst;rw[e1];generalize l.getD k 0=t at ht hc hg e1;have hmS:df n.1 (cp τ i)=true:=f1.mks _ (az [] (by omega));rw[←hst]at hc;have F:=qyp h hv hmS ht;have hF:=q2p h hv hmS ht;rw[qyr F hc]at hF;have en:((n.1,n.2.1,n.2.2.1,n.2.2.2.1,()):c9)=n:=rfl;have hil:i<τ.2.1.length:=by omega
  have hlenM:=f1.len;rcases pg n M i τ t with⟨g1,e⟩|⟨g1,g2,e⟩|⟨g1,g2,q,g3,e⟩|⟨g1,g2,g3,g4,e⟩|⟨g1,g2,g3,g4,e⟩
  ·rw[show kw (trA n t) (cp τ i)=true from hc]at g1;cases g1
  ·rw[e];rw[show df n.1 (cw (n.2.1.getD t ai.z) (cp τ i))=false from g2,cond_false]at hF;simp(disch:=omega)only[iq,hg,en,hF,rs];rfl
  ·rw[e];rw[show df n.1 (cw (n.2.1.getD t ai.z) (cp τ i))=true from g2,cond_true]at hF;have hky:=qpz (N:=n.1) (by omega) g2;have hat:=qm3 (N:=n.1) _ g2 τ.2.1 f1.mks f1.nd;rw[show km (fun y:List Int=>decide (y=cw (n.2.1.getD t ai.z) (cp τ i))) τ.2.1=some q from g3]at hat;have hml' :(τ.2.2++[((i:Int),(q:Int),(t:Int),())]).length=τ.2.2.length+1:=by simp
   simp(disch:=omega)only[iq,hg,en,hF,hky,hat,Option.map_some,Option.isSome_some,Option.getD_some,Bool.not_true,hml',rs];rfl
  ·rw[e];rw[show df n.1 (cw (n.2.1.getD t ai.z) (cp τ i))=true from g2,cond_true]at hF;have hky:=qpz (N:=n.1) (by omega) g2;have hat:=qm3 (N:=n.1) _ g2 τ.2.1 f1.mks f1.nd;rw[show km (fun y:List Int=>decide (y=cw (n.2.1.getD t ai.z) (cp τ i))) τ.2.1=none from g3]at hat;have hml' :(τ.2.2++[((i:Int),(τ.2.1.length:Int),(t:Int),())]).length=τ.2.2.length+1:=by simp
   simp only[qt6];simp(disch:=omega)only[iq,hg,en,hF,hky,hat,Option.map_none,Option.isSome_none,Bool.not_false,hml',rs];rfl
  ·rw[e];rw[show df n.1 (cw (n.2.1.getD t ai.z) (cp τ i))=true from g2,cond_true]at hF;have hky:=qpz (N:=n.1) (by omega) g2;have hat:=qm3 (N:=n.1) _ g2 τ.2.1 f1.mks f1.nd;rw[show km (fun y:List Int=>decide (y=cw (n.2.1.getD t ai.z) (cp τ i))) τ.2.1=none from g3]at hat;simp(disch:=omega)only[iq,hg,en,hF,hky,hat,Option.map_none,Option.isSome_none,Bool.not_false,rs];rfl
 ·rw[←hlen];simp(disch:=omega)only[iq,rs]
theorem i7{S E R:Type}{step:S→Option (LR S E R)}{o:E⊕R}{n:Nat}{s:S}(h:ky step n s=some o)(hn:n<many):bt step s=some o:=qul h (by omega)
theorem q9d{n:c9}{M i:Nat}{σ:p2}(h:Small n)(hs:SpI n M σ)(hm:σ.2.2.length≤100*i):(lq n M i (List.range n.2.1.length) σ).2.2.length≤100*(i+1):=by
 have:=(ri (n:=n) (M:=M) (i:=i) (List.range n.2.1.length) hs).2.2.2;have hT:=h.trans;rw[List.length_range]at this;omega
theorem ja8{n:c9}(h:Small n)(hv:de n=true){M:Nat}(hM:M≤100):∀(f i:Nat) {σ:p2},SpI n M σ→M<f+i→σ.2.2.length≤100*i→
  ky (fun a=>j5 (M:Int) n.1 n.2.1 n.2.2.1 n.2.2.2.1 [] [] false a.1 a.2.1 a.2.2.1 a.2.2.2.1 a.2.2.2.2 (fun a' =>some (.next a')) (fun e=>some (.done e)) (fun r=>some (.ret r))) (f+1) ((i:Int),σ.1,qvm σ.2.1,σ.2.1,σ.2.2)=
   some (.inl ((wm n M f i σ).1,(wm n M f i σ).2.1,(wm n M f i σ).2.2)):=by
 intro f
 induction f with
 |zero=>
  intro i σ hs hf hm;have:=hs.len;rw[be];simp(disch:=omega)only[j5,rs];rfl
 |succ f ih=>
  intro i σ hs hf hm;have hlen:=hs.len;rw[be];by_cases hi:i<σ.2.1.length
  ·have e0:wm n M (f+1) i σ=wm n M f (i+1) (lq n M i (List.range n.2.1.length) σ):=by
    show(if i<σ.2.1.length then _ else _)=_;rw[if_pos hi]
   have hN:=qig hv;have hmS:df n.1 (cp σ i)=true:=hs.mks _ (az [] hi);have hml:=(ma.1 hmS).1;have hE:=u4 h (cp σ i) (by omega);rw[hv,hmS]at hE;have hL:=ja7 h hv hM hs hi (by omega);have en:((n.1,n.2.1,n.2.2.1,n.2.2.2.1,()):c9)=n:=rfl;have ihh:=ih (i+1) (ri (n:=n) (M:=M) (i:=i) (List.range n.2.1.length) hs).1 (by omega) (q9d h hs hm);rw[e0,←ihh];simp(disch:=omega)only[j5,en,hE,Bool.and_self,hL,aj,rs];rfl
  ·have e0:wm n M (f+1) i σ=σ:=by
    show(if i<σ.2.1.length then _ else _)=_;rw[if_neg hi]
   rw[e0];simp(disch:=omega)only[j5,rs];rfl
def jh5(m:List Int):p2:=(true,[m],[])
theorem qxq{n:c9}{M:Nat}{m:List Int}(hm:df n.1 m=true)(hM:1≤M):SpI n M (jh5 m):=by
 refine⟨fun x hx=> ?_,List.pairwise_singleton _ _,by show 1≤M;exact hM,Nat.one_pos⟩;rw[List.mem_singleton.1 hx];exact hm
def spc(n:c9)(M:Nat)(m:List Int):p2:=wm n M (M+1) 0 (jh5 m)
theorem q0n{n:c9}(h:Small n)(m:List Int)(hl:m.length≤1000000)(most:Int)(hmost:¬(100<most∧most≤2000)):wh n m most=
  some (bif de n&&df n.1 m then(if most<1∨2000<most then(([],[],false,()),2)else(((spc n most.toNat m).2.1,(spc n most.toNat m).2.2,(spc n most.toNat m).1,()),0))else(([],[],false,()),1)):=by
 have hE:=u4 h m hl;unfold wh;cases hvm:(de n&&df n.1 m)with
 |false=>
  rw[hvm]at hE;simp(disch:=omega)only[hE,rs]
 |true=>
  rw[hvm]at hE;have hv:=(Bool.and_eq_true _ _▸hvm).1;have hmk:=(Bool.and_eq_true _ _▸hvm).2;by_cases h1:most<1
  ·rw[if_pos (.inl h1)];simp(disch:=omega)only[hE,rs]
  ·by_cases h2:2000<most
   ·rw[if_pos (.inr h2)];simp(disch:=omega)only[hE,rs]
   ·rw[if_neg (by omega)];obtain⟨M,rfl⟩:∃M:Nat,most=(M:Int):=⟨most.toNat,by omega⟩;have hN:=qig hv;have hk:=qpz (N:=n.1) (by omega) hmk;have hC:=qqb m hl;have hL:=ja8 h hv (M:=M) (by omega) (M+1) 0 (qxq hmk (by omega)) (by omega) (Nat.zero_le _);have hL2:qfy (M:Int) n.1 n.2.1 n.2.2.1 n.2.2.2.1 [] [] false (0,true,q8z (qli m) 0 [],[m],[])=some (.inl ((spc n M m).1,(spc n M m).2.1,(spc n M m).2.2)):=i7 hL (bm (by omega));have ep:ua .str (qli m) (0:Int) ([]:List (ByteArray×Int))=q8z (qli m) 0 []:=rfl;simp(disch:=omega)only[hE,hk,hC,ep,hL2,rs]
end Go.Proofs.Ytokeielgplbdeaa
