/-
  Migrate: positions of the reference.
-/
import Derived.Test.YtdhfhpdadbopkaaZ7MA
set_option linter.all false
namespace Go.Proofs.Ytdhfhpdadbopkaa
open Go.K Go.M
theorem q6h{out:List iu}{j:Nat}{k:Int}{m:List Int}(h:ct (out.take j) k m=true):ct out k m=true:=by
 obtain⟨p,hp,h1,h2⟩:=qdl.1 h;exact qdl.2 ⟨p,List.mem_of_mem_take hp,h1,h2⟩
theorem jby(w:List ByteArray)(N i t k:Int)(m:List Int)(n:az)(out:List iu)(hl:out.length≤1000000)(hm:∀p∈out,p.2.1.length≤1000000)(b:Bool):
  yu w N i t k m n.1 n.2.1 n.2.2.1 n.2.2.2.1 out (b,0)=some (.inl (b||ct out k m)):=by
 have hL:∃o,yu w N i t k m n.1 n.2.1 n.2.2.1 n.2.2.2.1 out (b,0)=some o∧match o with| .inl c=>c=(b||ct out k m)| .inr _=>False:=by
  refine ij (fun(st:Bool×Int)=>∃j:Nat,st.2=(j:Int)∧j≤out.length∧st.1=(b||ct (out.take j) k m)) (fun st=>((out.length:Int)-st.2).toNat) (fun(o:Bool⊕(Bool×List iu))=>match o with| .inl c=>c=(b||ct out k m)| .inr _=>False) _ ⟨0,rfl,Nat.zero_le _,by rw[List.take_zero];show b=(b||false);rw[Bool.or_false]⟩ (by show((out.length:Int)-0).toNat<many;unfold many;omega) ?_;rintro⟨c,_⟩ ⟨j,rfl,h1,h2⟩;have h2:c=(b||ct (out.take j) k m):=h2;by_cases hlt:j<out.length
  ·have hμ:((out.length:Int)-((j+1:Nat):Int)).toNat<((out.length:Int)-(j:Int)).toNat:=by omega
   cases c with
   |true=>
    refine⟨.done true,?_,?_⟩
    ·unfold p8;dsimp only;rw[cj (by omega),Bool.not_true,cond_false]
    ·show true=(b||ct out k m);cases b with
     |true=>rfl
     |false=>
      rw[Bool.false_or]at h2⊢;exact(q6h h2.symm).symm
   |false=>
    have hb:b=false∧ct (out.take j) k m=false:=by
     cases b with
     |true=>cases h2
     |false=>exact⟨rfl,by rw[Bool.false_or]at h2;exact h2.symm⟩
    have hq:=hm _ (aw ae.z hlt);refine⟨.next (decide ((out.getD j ae.z).1=k)&&decide ((out.getD j ae.z).2.1=m),((j+1:Nat):Int)),?_,⟨j+1,rfl,by omega,?_⟩,hμ⟩
    ·unfold p8;dsimp only;rw[cj (by omega),Bool.not_false,cond_true,ao (by omega) (by omega),ao (by omega) (by omega)];simp only[Int.toNat_natCast];by_cases hk:(out.getD j ae.z).1=k
     ·rw[decide_eq_true hk,cond_true,ao (by omega) (by omega),ao (by omega) (by omega),q82 _ _ hq,ah,ci (by omega) (by omega),aj,Bool.true_and]
     ·rw[decide_eq_false hk,cond_false,ci (by omega) (by omega),aj,Bool.false_and]
    ·show(decide ((out.getD j ae.z).1=k)&&decide ((out.getD j ae.z).2.1=m))=(b||ct (out.take (j+1)) k m);rw[bn out j ae.z hlt,qev,hb.2,hb.1,Bool.false_or,Bool.or_false]
  ·obtain rfl:j=out.length:=by omega
   rw[List.take_length]at h2;refine⟨.done c,?_,h2⟩;unfold p8;dsimp only;rw[df (by omega)]
 obtain⟨o,h1,h2⟩:=hL;rw[h1];cases o with
 |inl c=>rw[show c=_ from h2]
 |inr r=>exact absurd h2 id
def jjo(n:az)(w:List ByteArray)(out:List iu)(x:iu)(t:Nat):List iu:=match q6r n w x t with|none=>out|some c=>bif ct out c.1 c.2.1 then out else out++[c]
section
variable {n : az} (h : Small n) (hv : bv n = true) {w : List ByteArray} (hw : w.length ≤ 1000) {M : Nat} (hM : M ≤ 2000)
include h hv hw hM
theorem jmv{out:List iu}{i:Nat}(hi:i<out.length)(hall:∀p∈out,PosOK n w p∧p.2.2.1.length≤100000)(ho:out.length≤3000){t:Nat}(ht:t<n.2.1.length)(k:Int):
  rm w (M:Int) (i:Int) (t:Int) k n.1 n.2.1 n.2.2.1 n.2.2.2.1 out=some (.inl (bif xc n (out.getD i ae.z).2.1 t&& !ct out k (bj n (out.getD i ae.z).2.1 t).2 then out++[(k,(bj n (out.getD i ae.z).2.1 t).2,(out.getD i ae.z).2.2.1++[(t:Int)],())]else out)):=by
 obtain⟨p1,p2,_⟩:=bi hv h;obtain⟨hx,hxl⟩:=hall _ (aw ae.z hi);have hF:mw (n.1,n.2.1,n.2.2.1,n.2.2.2.1,()) (out.getD i ae.z).2.1 (t:Int)=some (bj n (out.getD i ae.z).2.1 t):=qo3 h hv (hx.mark h hv) ht;have hk:=fun b=>jby w (M:Int) (i:Int) (t:Int) k (bj n (out.getD i ae.z).2.1 t).2 n out (by omega) (fun p hp=>by have:=c0 ((hall p hp).1.mark h hv);omega) b
 have e1:decide ((bj n (out.getD i ae.z).2.1 t).1=0)=xc n (out.getD i ae.z).2.1 t:=rfl;unfold rm qef;rw[ao (by omega) (by omega),ao (by omega) (by omega)];simp only[Int.toNat_natCast];rw[hF,ah,e1,hk,ah,lq];cases hok:xc n (out.getD i ae.z).2.1 t with
 |false=>rfl
 |true=>
  cases hkn:ct out k (bj n (out.getD i ae.z).2.1 t).2 with
  |true=>rfl
  |false=>
   simp only[Bool.not_true,Bool.or_false,Bool.not_false,cond_true,Bool.and_self,List.nil_append];rw[ao (by omega) (by omega),ao (by omega) (by omega),gl (by omega) (by omega),gl (by omega) (by omega),gl (by omega) (by omega)]
theorem jjk{out:List iu}{i:Nat}(hi:i<out.length)(hall:∀p∈out,PosOK n w p∧p.2.2.1.length≤100000)(ho:out.length≤M){t:Nat}(ht:t<n.2.1.length):
  jm w (M:Int) (i:Int) n.1 n.2.1 n.2.2.1 n.2.2.2.1 (R:=LR (Int×List iu) (List iu) (Bool×List iu)) (t:Int) out (fun a' =>some (.next a')) (fun e=>some (.done e)) (fun r=>some (.ret r))=some (.next (((t+1:Nat):Int),jjo n w out (out.getD i ae.z) t)):=by
 have hts:=h.trans;obtain⟨hx,hxl⟩:=hall _ (aw ae.z hi);have k0:=hx.k0;have k1:=hx.k1;have hT:=fun k=>jmv h hv hw hM hi hall (by omega) ht k
 have e3:(n.2.1.getD t af.z).1=ns n t:=rfl;have e4:eqS (ns n t) ⟨#[]⟩=qhv n t:=rfl;unfold jm jjo q6r qcs;simp only[nr];rw[cj (by omega),qr0 (by omega),ao (by omega) (by omega),ao (by omega) (by omega),ao (by omega) (by omega),ao (by omega) (by omega)];simp only[Int.toNat_natCast];rw[e3,e4];cases hn:qhv n t with
 |true=>
  rw[Bool.not_true,cond_false,hT,ah,lq,ci (by omega) (by omega),aj];cases xc n (out.getD i ae.z).2.1 t with
  |false=>rfl
  |true=>
   dsimp only[cond_true,Option.map_some];cases ct out (out.getD i ae.z).1 (bj n (out.getD i ae.z).2.1 t).2<;>rfl
 |false=>
  rw[Bool.not_false,cond_true];by_cases hkw:(w.length:Int)≤(out.getD i ae.z).1
  ·rw[qr0 hkw,ci (by omega) (by omega),aj,decide_eq_false (show¬(out.getD i ae.z).1<(w.length:Int) by omega)];cases xc n (out.getD i ae.z).2.1 t<;>rfl
  ·rw[qhb (by omega),ao (by omega) (by omega),ao (by omega) (by omega),ao (by omega) (by omega),ao (by omega) (by omega),decide_eq_true (show(out.getD i ae.z).1<(w.length:Int) by omega)];cases hf:eqS (w.getD (out.getD i ae.z).1.toNat ⟨#[]⟩) (ns n t)with
   |false=>
    rw[Bool.not_false,cond_true,ci (by omega) (by omega),aj];cases xc n (out.getD i ae.z).2.1 t<;>rfl
   |true=>
    rw[Bool.not_true,cond_false,ci (by omega) (by omega),hT,ah,lq,ci (by omega) (by omega),aj];cases xc n (out.getD i ae.z).2.1 t with
    |false=>rfl
    |true=>
     show _=some (LR.next (((t+1:Nat):Int),bif ct out ((out.getD i ae.z).1+1) (bj n (out.getD i ae.z).2.1 t).2 then out else out++[((out.getD i ae.z).1+1,(bj n (out.getD i ae.z).2.1 t).2,(out.getD i ae.z).2.2.1++[(t:Int)],())]));cases ct out ((out.getD i ae.z).1+1) (bj n (out.getD i ae.z).2.1 t).2<;>rfl
theorem q8u{N t:Nat}(ht:t<N):(List.range N).drop t=t::(List.range N).drop (t+1):=by
 rw[List.drop_eq_getElem_cons (by rw[List.length_range];exact ht),List.getElem_range]
theorem jmu{out:List iu}{i:Nat}(hi:i<out.length)(hall:∀p∈out,PosOK n w p∧p.2.2.1.length≤i)(hiM:i≤M)(ho:out.length≤M):
  ∃o,rl w (M:Int) (i:Int) n.1 n.2.1 n.2.2.1 n.2.2.2.1 (0,out)=some (.inl o)∧((s8 M out (rx n w (out.getD i ae.z))= .inl o)∨∃o' c,s8 M out (rx n w (out.getD i ae.z))= .inr o' ∧o=o' ++[c]∧o'.length=M):=by
 have hts:=h.trans;have hL:∃o,rl w (M:Int) (i:Int) n.1 n.2.1 n.2.2.1 n.2.2.2.1 (0,out)=some o∧match o with| .inl o=>((s8 M out (rx n w (out.getD i ae.z))= .inl o)∨∃o' c,s8 M out (rx n w (out.getD i ae.z))= .inr o' ∧o=o' ++[c]∧o'.length=M)| .inr _=>False:=by
  refine ij (fun(st:Int×List iu)=>∃t:Nat,st.1=(t:Int)∧t≤n.2.1.length∧i<st.2.length∧(∀p∈st.2,PosOK n w p∧p.2.2.1.length≤i+1)∧st.2.getD i ae.z=out.getD i ae.z∧
    ((st.2.length≤M∧s8 M st.2 (q1t n w (out.getD i ae.z) ((List.range n.2.1.length).drop t))=s8 M out (rx n w (out.getD i ae.z)))∨∃o' c,s8 M out (rx n w (out.getD i ae.z))= .inr o' ∧st.2=o' ++[c]∧o'.length=M)) (fun st=>((n.2.1.length:Int)-st.1).toNat)
   (fun(o:List iu⊕(Bool×List iu))=>match o with| .inl o=>((s8 M out (rx n w (out.getD i ae.z))= .inl o)∨∃o' c,s8 M out (rx n w (out.getD i ae.z))= .inr o' ∧o=o' ++[c]∧o'.length=M)| .inr _=>False) _ ⟨0,rfl,Nat.zero_le _,hi,fun p hp=>⟨(hall p hp).1,by have:=(hall p hp).2;omega⟩,rfl, .inl ⟨ho,rfl⟩⟩ (by show((n.2.1.length:Int)-0).toNat<many;unfold many;omega) ?_
  rintro⟨_,q⟩ ⟨t,rfl,h1,h2,h3,h4,h5⟩;have h2:i<q.length:=h2;have h3:∀p∈q,PosOK n w p∧p.2.2.1.length≤i+1:=h3;have h4:q.getD i ae.z=out.getD i ae.z:=h4;rcases h5 with⟨h5,h6⟩|⟨o',c,h5,h6,h7⟩
  ·have h5:q.length≤M:=h5;by_cases hlt:t<n.2.1.length
   ·have hμ:((n.2.1.length:Int)-((t+1:Nat):Int)).toNat<((n.2.1.length:Int)-(t:Int)).toNat:=by omega
    have hK:=jjk h hv hw hM h2 (fun p hp=>⟨(h3 p hp).1,by have:=(h3 p hp).2;omega⟩) h5 hlt;rw[h4]at hK;have h6:s8 M q (q1t n w (out.getD i ae.z) ((List.range n.2.1.length).drop t))=s8 M out (rx n w (out.getD i ae.z)):=h6;rw[q8u h hv hw hM hlt]at h6;unfold q1t at h6;rw[List.filterMap_cons]at h6;refine⟨_,hK,⟨t+1,rfl,by omega,?_⟩,hμ⟩;unfold jjo;cases hn:q6r n w (out.getD i ae.z) t with
    |none=>
     rw[hn]at h6;exact⟨h2,h3,h4, .inl ⟨h5,h6⟩⟩
    |some c=>
     rw[hn]at h6;dsimp only at h6⊢;cases hk:ct q c.1 c.2.1 with
     |true=>
      rw[qhm hk]at h6;exact⟨h2,h3,h4, .inl ⟨h5,h6⟩⟩
     |false=>
      have hcm:c∈rx n w (q.getD i ae.z):=by
       rw[h4];exact List.mem_filterMap.2 ⟨t,List.mem_range.2 hlt,hn⟩
      have hx:=h3 _ (aw ae.z h2);have hcr:=qw0 h hv hw hM hcm;have hxo:=(hall _ (aw ae.z hi)).2;rw[h4]at hcr;refine⟨by show i<(q++[c]).length;rw[List.length_append];omega,fun p hp=> ?_,?_,?_⟩
      ·rcases List.mem_append.1 hp with hp|hp
       ·exact h3 p hp
       ·rw[List.mem_singleton.1 hp];exact⟨hx.1.next c hcm,by omega⟩
      ·show(q++[c]).getD i ae.z=_;rw[←h4,List.getD_eq_getElem?_getD,List.getD_eq_getElem?_getD,List.getElem?_append_left h2]
      ·by_cases hfull:q.length=M
       ·rw[qlz hk hfull]at h6;exact .inr ⟨q,c,h6.symm,rfl,hfull⟩
       ·rw[qpw hk hfull]at h6;exact .inl ⟨by show(q++[c]).length≤M;rw[List.length_append,List.length_singleton];omega,h6⟩
   ·obtain rfl:t=n.2.1.length:=by omega
    refine⟨.done q,?_, .inl ?_⟩
    ·unfold jm;dsimp only;rw[df (by omega)]
    ·rw[List.drop_eq_nil_of_le (by rw[List.length_range];exact Nat.le_refl _)]at h6;exact h6.symm
  ·have h6:q=o' ++[c]:=h6;have hql:q.length=M+1:=by rw[h6,List.length_append,List.length_singleton,h7]
   refine⟨.done q,?_, .inr ⟨o',c,h5,h6,h7⟩⟩;unfold jm;dsimp only;by_cases hlt:t<n.2.1.length
   ·rw[cj (by omega),qhb (by omega)]
   ·rw[df (by omega)]
 obtain⟨o,e1,e2⟩:=hL;cases o with
 |inl o=>exact⟨o,e1,e2⟩
 |inr r=>exact absurd e2 id
theorem jfh{out:List iu}(ho:M<out.length)(hol:out.length≤100000)(i:Int):rl w (M:Int) i n.1 n.2.1 n.2.2.1 n.2.2.2.1 (0,out)=some (.inl out):=by
 refine nt (fun _=>((0:Int),out)) 0 (dl (by omega)) out (fun i hi=>by omega) ?_ _ rfl;unfold jm;dsimp only;by_cases hlt:(0:Int)<(n.2.1.length:Int)
 ·rw[cj hlt,qhb (by omega)]
 ·rw[df (by omega)]
theorem qwd(hM1:1≤M):∃o,qce n w (M:Int)=some (decide ((M:Int)<(o.length:Int)),o)∧((m4 n w M (M+1) 0 (first n)= .inl o∧o.length≤M)∨∃o' c,m4 n w M (M+1) 0 (first n)= .inr o' ∧o=o' ++[c]∧o'.length=M):=by
 obtain⟨p1,p2,p3,p4,p5,_⟩:=bi hv h;have hL:∃o,qfd w (M:Int) n.1 n.2.1 n.2.2.1 n.2.2.2.1 (0,first n)=some o∧match o with| .inl o=>((m4 n w M (M+1) 0 (first n)= .inl o∧o.length≤M)∨∃o' c,m4 n w M (M+1) 0 (first n)= .inr o' ∧o=o' ++[c]∧o'.length=M)| .inr _=>False:=by
  refine ij (fun(st:Int×List iu)=>∃i:Nat,st.1=(i:Int)∧i≤M∧((i≤st.2.length∧st.2.length≤M∧(∀p∈st.2,PosOK n w p∧p.2.2.1.length≤i)∧m4 n w M (M+1-i) i st.2=m4 n w M (M+1) 0 (first n))∨∃o' c,m4 n w M (M+1) 0 (first n)= .inr o' ∧st.2=o' ++[c]∧o'.length=M)) (fun st=>((M:Int)+1-st.1).toNat)
   (fun(o:List iu⊕(Bool×List iu))=>match o with| .inl o=>((m4 n w M (M+1) 0 (first n)= .inl o∧o.length≤M)∨∃o' c,m4 n w M (M+1) 0 (first n)= .inr o' ∧o=o' ++[c]∧o'.length=M)| .inr _=>False) _ ⟨0,rfl,Nat.zero_le _, .inl ⟨Nat.zero_le _,hM1,fun p hp=>by rw[List.mem_singleton.1 hp];exact⟨PosOK.first n w,Nat.le_refl _⟩,rfl⟩⟩ (by show((M:Int)+1-0).toNat<many;unfold many;omega) ?_
  rintro⟨_,q⟩ ⟨i,rfl,hiM,h5⟩;rcases h5 with⟨h1,h2,h3,h4⟩|⟨o',c,h5,h6,h7⟩
  ·have h1:i≤q.length:=h1;have h2:q.length≤M:=h2;have h3:∀p∈q,PosOK n w p∧p.2.2.1.length≤i:=h3;have ef:M+1-i=(M+1-(i+1))+1:=by omega
   have h4:m4 n w M (M+1-i) i q=m4 n w M (M+1) 0 (first n):=h4;rw[ef]at h4;by_cases hlt:i<q.length
   ·obtain⟨o,e1,e2⟩:=jmu h hv hw hM hlt h3 (by omega) h2;refine⟨.next (((i+1:Nat):Int),o),?_,⟨i+1,rfl,by omega,?_⟩,by show((M:Int)+1-((i+1:Nat):Int)).toNat<((M:Int)+1-(i:Int)).toNat;omega⟩
    ·unfold my;dsimp only;rw[cj (by omega),cj (by omega),e1,ah,lq,ci (by omega) (by omega),aj]
    ·rcases e2 with e2|⟨o',c,e2,e3,e4⟩
     ·rw[q1o h hv hw hM hlt e2]at h4;obtain⟨o1,f1,f2,f3,f4,f5,f6,f7⟩:=v7 (cs:=rx n w (q.getD i ae.z)) h2;have:o1=o:=by
       rcases f1 with f1|⟨f1,_⟩
       ·rw[e2]at f1;injection f1 with f1;exact f1.symm
       ·rw[e2]at f1;cases f1
      subst this;obtain⟨hx,hxl⟩:=h3 _ (aw ae.z hlt);refine .inl ⟨by show i+1≤o1.length;omega,f2,fun p hp=> ?_,h4⟩;rcases f5 p hp with hp|hp
      ·exact⟨(h3 p hp).1,by have:=(h3 p hp).2;omega⟩
      ·exact⟨hx.next p hp,by have:=qw0 h hv hw hM hp;omega⟩
     ·rw[q1p h hv hw hM hlt e2]at h4;exact .inr ⟨o',c,h4.symm,e3,e4⟩
   ·rw[q5t h hv hw hM hlt]at h4;refine⟨.done q,?_, .inl ⟨h4.symm,h2⟩⟩;unfold my;dsimp only;rw[df (by omega)]
  ·have h6:q=o' ++[c]:=h6;have hql:q.length=M+1:=by rw[h6,List.length_append,List.length_singleton,h7]
   by_cases hlt:i<M
   ·refine⟨.next (((i+1:Nat):Int),q),?_,⟨i+1,rfl,by omega, .inr ⟨o',c,h5,h6,h7⟩⟩,by show((M:Int)+1-((i+1:Nat):Int)).toNat<((M:Int)+1-(i:Int)).toNat;omega⟩;unfold my;dsimp only;rw[cj (by omega),cj (by omega),jfh h hv hw hM (by omega) (by omega),ah,lq,ci (by omega) (by omega),aj]
   ·refine⟨.done q,?_, .inr ⟨o',c,h5,h6,h7⟩⟩;unfold my;dsimp only;rw[cj (by omega),df (by omega)]
 obtain⟨o,e1,e2⟩:=hL;unfold qce;rw[(qyh h hv p4).2,ah];cases o with
 |inl o=>
  refine⟨o,?_,e2⟩;refine(congrArg (fun z=>bnd z _) e1).trans ?_;rw[ah,lq]
 |inr r=>exact absurd e2 id
end
end Go.Proofs.Ytdhfhpdadbopkaa
