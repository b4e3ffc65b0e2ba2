/-
  Migrate: positions of the reference.
-/
import Derived.Test.YtdhfhpdadbopkaaZ6MA
set_option linter.all false
namespace Go.Proofs.Ytdhfhpdadbopkaa
open Go.K Go.M
theorem q3v{out:List m3}{j:Nat}{k:Int}{m:List Int}(h:df (out.take j) k m=true):df out k m=true:=by
 obtain⟨p,hp,h1,h2⟩:=qvm.1 h;exact qvm.2 ⟨p,List.mem_of_mem_take hp,h1,h2⟩
theorem q8x(w:List ByteArray)(N i t k:Int)(m:List Int)(n:az)(out:List m3)(hl:out.length≤1000000)(hm:∀p∈out,p.2.1.length≤1000000)(b:Bool):
  vx w N i t k m n.1 n.2.1 n.2.2.1 n.2.2.2.1 out (b,0)=some (.inl (b||df out k m)):=by
 have hL:∃o,vx w N i t k m n.1 n.2.1 n.2.2.1 n.2.2.2.1 out (b,0)=some o∧match o with| .inl c=>c=(b||df out k m)| .inr _=>False:=by
  refine pd (fun(st:Bool×Int)=>∃j:Nat,st.2=(j:Int)∧j≤out.length∧st.1=(b||df (out.take j) k m)) (fun st=>((out.length:Int)-st.2).toNat) (fun(o:Bool⊕(Bool×List m3))=>match o with| .inl c=>c=(b||df out k m)| .inr _=>False) _ ⟨0,rfl,Nat.zero_le _,by rw[List.take_zero];show b=(b||false);rw[Bool.or_false]⟩ (by show((out.length:Int)-0).toNat<many;unfold many;omega) ?_;rintro⟨c,_⟩ ⟨j,rfl,h1,h2⟩;have h2:c=(b||df (out.take j) k m):=h2;by_cases hlt:j<out.length
  ·have hμ:((out.length:Int)-((j+1:Nat):Int)).toNat<((out.length:Int)-(j:Int)).toNat:=by omega
   cases c with
   |true=>
    refine⟨.done true,?_,?_⟩
    ·unfold k8;dsimp only;rw[fo (by omega),Bool.not_true,cond_false]
    ·show true=(b||df out k m);cases b with
     |true=>rfl
     |false=>
      rw[Bool.false_or]at h2⊢;exact(q3v h2.symm).symm
   |false=>
    have hb:b=false∧df (out.take j) k m=false:=by
     cases b with
     |true=>cases h2
     |false=>exact⟨rfl,by rw[Bool.false_or]at h2;exact h2.symm⟩
    have hq:=hm _ (a7 ab.z hlt);refine⟨.next (decide ((out.getD j ab.z).1=k)&&decide ((out.getD j ab.z).2.1=m),((j+1:Nat):Int)),?_,⟨j+1,rfl,by omega,?_⟩,hμ⟩
    ·unfold k8;dsimp only;rw[fo (by omega),Bool.not_false,cond_true,a8 (by omega) (by omega),a8 (by omega) (by omega)];simp only[Int.toNat_natCast];by_cases hk:(out.getD j ab.z).1=k
     ·rw[decide_eq_true hk,cond_true,a8 (by omega) (by omega),a8 (by omega) (by omega),q6f _ _ hq,aq,gm (by omega) (by omega),am,Bool.true_and]
     ·rw[decide_eq_false hk,cond_false,gm (by omega) (by omega),am,Bool.false_and]
    ·show(decide ((out.getD j ab.z).1=k)&&decide ((out.getD j ab.z).2.1=m))=(b||df (out.take (j+1)) k m);rw[fp out j ab.z hlt,qcg,hb.2,hb.1,Bool.false_or,Bool.or_false]
  ·obtain rfl:j=out.length:=by omega
   rw[List.take_length]at h2;refine⟨.done c,?_,h2⟩;unfold k8;dsimp only;rw[lj (by omega)]
 obtain⟨o,h1,h2⟩:=hL;rw[h1];cases o with
 |inl c=>rw[show c=_ from h2]
 |inr r=>exact absurd h2 id
def jf6(n:az)(w:List ByteArray)(out:List m3)(x:m3)(t:Nat):List m3:=match q35 n w x t with|none=>out|some c=>bif df out c.1 c.2.1 then out else out++[c]
section
variable {n : az} (h : Small n) (hv : cd n = true) {w : List ByteArray} (hw : w.length ≤ 1000) {M : Nat} (hM : M ≤ 2000)
include h hv hw hM
theorem jjc{out:List m3}{i:Nat}(hi:i<out.length)(hall:∀p∈out,PosOK n w p∧p.2.2.1.length≤100000)(ho:out.length≤3000){t:Nat}(ht:t<n.2.1.length)(k:Int):
  o5 w (M:Int) (i:Int) (t:Int) k n.1 n.2.1 n.2.2.1 n.2.2.2.1 out=some (.inl (bif okB n (out.getD i ab.z).2.1 t&& !df out k (ek n (out.getD i ab.z).2.1 t).2 then out++[(k,(ek n (out.getD i ab.z).2.1 t).2,(out.getD i ab.z).2.2.1++[(t:Int)],())]else out)):=by
 obtain⟨p1,p2,_⟩:=fq hv h;obtain⟨hx,hxl⟩:=hall _ (a7 ab.z hi);have hF:ny (n.1,n.2.1,n.2.2.1,n.2.2.2.1,()) (out.getD i ab.z).2.1 (t:Int)=some (ek n (out.getD i ab.z).2.1 t):=qxj h hv (hx.mark h hv) ht;have hk:=fun b=>q8x w (M:Int) (i:Int) (t:Int) k (ek n (out.getD i ab.z).2.1 t).2 n out (by omega) (fun p hp=>by have:=qbc ((hall p hp).1.mark h hv);omega) b
 have e1:decide ((ek n (out.getD i ab.z).2.1 t).1=0)=okB n (out.getD i ab.z).2.1 t:=rfl;unfold o5 td;rw[a8 (by omega) (by omega),a8 (by omega) (by omega)];simp only[Int.toNat_natCast];rw[hF,aq,e1,hk,aq,qc9];cases hok:okB n (out.getD i ab.z).2.1 t with
 |false=>rfl
 |true=>
  cases hkn:df out k (ek n (out.getD i ab.z).2.1 t).2 with
  |true=>rfl
  |false=>
   simp only[Bool.not_true,Bool.or_false,Bool.not_false,cond_true,Bool.and_self,List.nil_append];rw[a8 (by omega) (by omega),a8 (by omega) (by omega),jj (by omega) (by omega),jj (by omega) (by omega),jj (by omega) (by omega)]
theorem jf2{out:List m3}{i:Nat}(hi:i<out.length)(hall:∀p∈out,PosOK n w p∧p.2.2.1.length≤100000)(ho:out.length≤M){t:Nat}(ht:t<n.2.1.length):
  ez w (M:Int) (i:Int) n.1 n.2.1 n.2.2.1 n.2.2.2.1 (R:=LR (Int×List m3) (List m3) (Bool×List m3)) (t:Int) out (fun a' =>some (.next a')) (fun e=>some (.done e)) (fun r=>some (.ret r))=some (.next (((t+1:Nat):Int),jf6 n w out (out.getD i ab.z) t)):=by
 have hts:=h.trans;obtain⟨hx,hxl⟩:=hall _ (a7 ab.z hi);have k0:=hx.k0;have k1:=hx.k1;have hT:=fun k=>jjc h hv hw hM hi hall (by omega) ht k
 have e3:(n.2.1.getD t af.z).1=qdp n t:=rfl;have e4:eqS (qdp n t) ⟨#[]⟩=qml n t:=rfl;unfold ez jf6 q35 qgs;simp only[sw];rw[fo (by omega),quy (by omega),a8 (by omega) (by omega),a8 (by omega) (by omega),a8 (by omega) (by omega),a8 (by omega) (by omega)];simp only[Int.toNat_natCast];rw[e3,e4];cases hn:qml n t with
 |true=>
  rw[Bool.not_true,cond_false,hT,aq,qc9,gm (by omega) (by omega),am];cases okB n (out.getD i ab.z).2.1 t with
  |false=>rfl
  |true=>
   dsimp only[cond_true,Option.map_some];cases df out (out.getD i ab.z).1 (ek n (out.getD i ab.z).2.1 t).2<;>rfl
 |false=>
  rw[Bool.not_false,cond_true];by_cases hkw:(w.length:Int)≤(out.getD i ab.z).1
  ·rw[quy hkw,gm (by omega) (by omega),am,decide_eq_false (show¬(out.getD i ab.z).1<(w.length:Int) by omega)];cases okB n (out.getD i ab.z).2.1 t<;>rfl
  ·rw[qjm (by omega),a8 (by omega) (by omega),a8 (by omega) (by omega),a8 (by omega) (by omega),a8 (by omega) (by omega),decide_eq_true (show(out.getD i ab.z).1<(w.length:Int) by omega)];cases hf:eqS (w.getD (out.getD i ab.z).1.toNat ⟨#[]⟩) (qdp n t)with
   |false=>
    rw[Bool.not_false,cond_true,gm (by omega) (by omega),am];cases okB n (out.getD i ab.z).2.1 t<;>rfl
   |true=>
    rw[Bool.not_true,cond_false,gm (by omega) (by omega),hT,aq,qc9,gm (by omega) (by omega),am];cases okB n (out.getD i ab.z).2.1 t with
    |false=>rfl
    |true=>
     show _=some (LR.next (((t+1:Nat):Int),bif df out ((out.getD i ab.z).1+1) (ek n (out.getD i ab.z).2.1 t).2 then out else out++[((out.getD i ab.z).1+1,(ek n (out.getD i ab.z).2.1 t).2,(out.getD i ab.z).2.2.1++[(t:Int)],())]));cases df out ((out.getD i ab.z).1+1) (ek n (out.getD i ab.z).2.1 t).2<;>rfl
theorem q57{N t:Nat}(ht:t<N):(List.range N).drop t=t::(List.range N).drop (t+1):=by
 rw[List.drop_eq_getElem_cons (by rw[List.length_range];exact ht),List.getElem_range]
theorem jja{out:List m3}{i:Nat}(hi:i<out.length)(hall:∀p∈out,PosOK n w p∧p.2.2.1.length≤i)(hiM:i≤M)(ho:out.length≤M):
  ∃o,o4 w (M:Int) (i:Int) n.1 n.2.1 n.2.2.1 n.2.2.2.1 (0,out)=some (.inl o)∧((qa M out (ud n w (out.getD i ab.z))= .inl o)∨∃o' c,qa M out (ud n w (out.getD i ab.z))= .inr o' ∧o=o' ++[c]∧o'.length=M):=by
 have hts:=h.trans;have hL:∃o,o4 w (M:Int) (i:Int) n.1 n.2.1 n.2.2.1 n.2.2.2.1 (0,out)=some o∧match o with| .inl o=>((qa M out (ud n w (out.getD i ab.z))= .inl o)∨∃o' c,qa M out (ud n w (out.getD i ab.z))= .inr o' ∧o=o' ++[c]∧o'.length=M)| .inr _=>False:=by
  refine pd (fun(st:Int×List m3)=>∃t:Nat,st.1=(t:Int)∧t≤n.2.1.length∧i<st.2.length∧(∀p∈st.2,PosOK n w p∧p.2.2.1.length≤i+1)∧st.2.getD i ab.z=out.getD i ab.z∧
    ((st.2.length≤M∧qa M st.2 (qzl n w (out.getD i ab.z) ((List.range n.2.1.length).drop t))=qa M out (ud n w (out.getD i ab.z)))∨∃o' c,qa M out (ud n w (out.getD i ab.z))= .inr o' ∧st.2=o' ++[c]∧o'.length=M)) (fun st=>((n.2.1.length:Int)-st.1).toNat)
   (fun(o:List m3⊕(Bool×List m3))=>match o with| .inl o=>((qa M out (ud n w (out.getD i ab.z))= .inl o)∨∃o' c,qa M out (ud n w (out.getD i ab.z))= .inr o' ∧o=o' ++[c]∧o'.length=M)| .inr _=>False) _ ⟨0,rfl,Nat.zero_le _,hi,fun p hp=>⟨(hall p hp).1,by have:=(hall p hp).2;omega⟩,rfl, .inl ⟨ho,rfl⟩⟩ (by show((n.2.1.length:Int)-0).toNat<many;unfold many;omega) ?_
  rintro⟨_,q⟩ ⟨t,rfl,h1,h2,h3,h4,h5⟩;have h2:i<q.length:=h2;have h3:∀p∈q,PosOK n w p∧p.2.2.1.length≤i+1:=h3;have h4:q.getD i ab.z=out.getD i ab.z:=h4;rcases h5 with⟨h5,h6⟩|⟨o',c,h5,h6,h7⟩
  ·have h5:q.length≤M:=h5;by_cases hlt:t<n.2.1.length
   ·have hμ:((n.2.1.length:Int)-((t+1:Nat):Int)).toNat<((n.2.1.length:Int)-(t:Int)).toNat:=by omega
    have hK:=jf2 h hv hw hM h2 (fun p hp=>⟨(h3 p hp).1,by have:=(h3 p hp).2;omega⟩) h5 hlt;rw[h4]at hK;have h6:qa M q (qzl n w (out.getD i ab.z) ((List.range n.2.1.length).drop t))=qa M out (ud n w (out.getD i ab.z)):=h6;rw[q57 h hv hw hM hlt]at h6;unfold qzl at h6;rw[List.filterMap_cons]at h6;refine⟨_,hK,⟨t+1,rfl,by omega,?_⟩,hμ⟩;unfold jf6;cases hn:q35 n w (out.getD i ab.z) t with
    |none=>
     rw[hn]at h6;exact⟨h2,h3,h4, .inl ⟨h5,h6⟩⟩
    |some c=>
     rw[hn]at h6;dsimp only at h6⊢;cases hk:df q c.1 c.2.1 with
     |true=>
      rw[qfn hk]at h6;exact⟨h2,h3,h4, .inl ⟨h5,h6⟩⟩
     |false=>
      have hcm:c∈ud n w (q.getD i ab.z):=by
       rw[h4];exact List.mem_filterMap.2 ⟨t,List.mem_range.2 hlt,hn⟩
      have hx:=h3 _ (a7 ab.z h2);have hcr:=qu2 h hv hw hM hcm;have hxo:=(hall _ (a7 ab.z hi)).2;rw[h4]at hcr;refine⟨by show i<(q++[c]).length;rw[List.length_append];omega,fun p hp=> ?_,?_,?_⟩
      ·rcases List.mem_append.1 hp with hp|hp
       ·exact h3 p hp
       ·rw[List.mem_singleton.1 hp];exact⟨hx.1.next c hcm,by omega⟩
      ·show(q++[c]).getD i ab.z=_;rw[←h4,List.getD_eq_getElem?_getD,List.getD_eq_getElem?_getD,List.getElem?_append_left h2]
      ·by_cases hfull:q.length=M
       ·rw[qju hk hfull]at h6;exact .inr ⟨q,c,h6.symm,rfl,hfull⟩
       ·rw[qnq hk hfull]at h6;exact .inl ⟨by show(q++[c]).length≤M;rw[List.length_append,List.length_singleton];omega,h6⟩
   ·obtain rfl:t=n.2.1.length:=by omega
    refine⟨.done q,?_, .inl ?_⟩
    ·unfold ez;dsimp only;rw[lj (by omega)]
    ·rw[List.drop_eq_nil_of_le (by rw[List.length_range];exact Nat.le_refl _)]at h6;exact h6.symm
  ·have h6:q=o' ++[c]:=h6;have hql:q.length=M+1:=by rw[h6,List.length_append,List.length_singleton,h7]
   refine⟨.done q,?_, .inr ⟨o',c,h5,h6,h7⟩⟩;unfold ez;dsimp only;by_cases hlt:t<n.2.1.length
   ·rw[fo (by omega),qjm (by omega)]
   ·rw[lj (by omega)]
 obtain⟨o,e1,e2⟩:=hL;cases o with
 |inl o=>exact⟨o,e1,e2⟩
 |inr r=>exact absurd e2 id
theorem jb3{out:List m3}(ho:M<out.length)(hol:out.length≤100000)(i:Int):o4 w (M:Int) i n.1 n.2.1 n.2.2.1 n.2.2.2.1 (0,out)=some (.inl out):=by
 refine x0 (fun _=>((0:Int),out)) 0 (i6 (by omega)) out (fun i hi=>by omega) ?_ _ rfl;unfold ez;dsimp only;by_cases hlt:(0:Int)<(n.2.1.length:Int)
 ·rw[fo hlt,qjm (by omega)]
 ·rw[lj (by omega)]
theorem qud(hM1:1≤M):∃o,s5 n w (M:Int)=some (decide ((M:Int)<(o.length:Int)),o)∧((p0 n w M (M+1) 0 (first n)= .inl o∧o.length≤M)∨∃o' c,p0 n w M (M+1) 0 (first n)= .inr o' ∧o=o' ++[c]∧o'.length=M):=by
 obtain⟨p1,p2,p3,p4,p5,_⟩:=fq hv h;have hL:∃o,qcz w (M:Int) n.1 n.2.1 n.2.2.1 n.2.2.2.1 (0,first n)=some o∧match o with| .inl o=>((p0 n w M (M+1) 0 (first n)= .inl o∧o.length≤M)∨∃o' c,p0 n w M (M+1) 0 (first n)= .inr o' ∧o=o' ++[c]∧o'.length=M)| .inr _=>False:=by
  refine pd (fun(st:Int×List m3)=>∃i:Nat,st.1=(i:Int)∧i≤M∧((i≤st.2.length∧st.2.length≤M∧(∀p∈st.2,PosOK n w p∧p.2.2.1.length≤i)∧p0 n w M (M+1-i) i st.2=p0 n w M (M+1) 0 (first n))∨∃o' c,p0 n w M (M+1) 0 (first n)= .inr o' ∧st.2=o' ++[c]∧o'.length=M)) (fun st=>((M:Int)+1-st.1).toNat)
   (fun(o:List m3⊕(Bool×List m3))=>match o with| .inl o=>((p0 n w M (M+1) 0 (first n)= .inl o∧o.length≤M)∨∃o' c,p0 n w M (M+1) 0 (first n)= .inr o' ∧o=o' ++[c]∧o'.length=M)| .inr _=>False) _ ⟨0,rfl,Nat.zero_le _, .inl ⟨Nat.zero_le _,hM1,fun p hp=>by rw[List.mem_singleton.1 hp];exact⟨PosOK.first n w,Nat.le_refl _⟩,rfl⟩⟩ (by show((M:Int)+1-0).toNat<many;unfold many;omega) ?_
  rintro⟨_,q⟩ ⟨i,rfl,hiM,h5⟩;rcases h5 with⟨h1,h2,h3,h4⟩|⟨o',c,h5,h6,h7⟩
  ·have h1:i≤q.length:=h1;have h2:q.length≤M:=h2;have h3:∀p∈q,PosOK n w p∧p.2.2.1.length≤i:=h3;have ef:M+1-i=(M+1-(i+1))+1:=by omega
   have h4:p0 n w M (M+1-i) i q=p0 n w M (M+1) 0 (first n):=h4;rw[ef]at h4;by_cases hlt:i<q.length
   ·obtain⟨o,e1,e2⟩:=jja h hv hw hM hlt h3 (by omega) h2;refine⟨.next (((i+1:Nat):Int),o),?_,⟨i+1,rfl,by omega,?_⟩,by show((M:Int)+1-((i+1:Nat):Int)).toNat<((M:Int)+1-(i:Int)).toNat;omega⟩
    ·unfold gl;dsimp only;rw[fo (by omega),fo (by omega),e1,aq,qc9,gm (by omega) (by omega),am]
    ·rcases e2 with e2|⟨o',c,e2,e3,e4⟩
     ·rw[qzg h hv hw hM hlt e2]at h4;obtain⟨o1,f1,f2,f3,f4,f5,f6,f7⟩:=qa9 (cs:=ud n w (q.getD i ab.z)) h2;have:o1=o:=by
       rcases f1 with f1|⟨f1,_⟩
       ·rw[e2]at f1;injection f1 with f1;exact f1.symm
       ·rw[e2]at f1;cases f1
      subst this;obtain⟨hx,hxl⟩:=h3 _ (a7 ab.z hlt);refine .inl ⟨by show i+1≤o1.length;omega,f2,fun p hp=> ?_,h4⟩;rcases f5 p hp with hp|hp
      ·exact⟨(h3 p hp).1,by have:=(h3 p hp).2;omega⟩
      ·exact⟨hx.next p hp,by have:=qu2 h hv hw hM hp;omega⟩
     ·rw[qzh h hv hw hM hlt e2]at h4;exact .inr ⟨o',c,h4.symm,e3,e4⟩
   ·rw[q27 h hv hw hM hlt]at h4;refine⟨.done q,?_, .inl ⟨h4.symm,h2⟩⟩;unfold gl;dsimp only;rw[lj (by omega)]
  ·have h6:q=o' ++[c]:=h6;have hql:q.length=M+1:=by rw[h6,List.length_append,List.length_singleton,h7]
   by_cases hlt:i<M
   ·refine⟨.next (((i+1:Nat):Int),q),?_,⟨i+1,rfl,by omega, .inr ⟨o',c,h5,h6,h7⟩⟩,by show((M:Int)+1-((i+1:Nat):Int)).toNat<((M:Int)+1-(i:Int)).toNat;omega⟩;unfold gl;dsimp only;rw[fo (by omega),fo (by omega),jb3 h hv hw hM (by omega) (by omega),aq,qc9,gm (by omega) (by omega),am]
   ·refine⟨.done q,?_, .inr ⟨o',c,h5,h6,h7⟩⟩;unfold gl;dsimp only;rw[fo (by omega),lj (by omega)]
 obtain⟨o,e1,e2⟩:=hL;unfold s5;rw[(q52 h hv p4).2,aq];cases o with
 |inl o=>
  refine⟨o,?_,e2⟩;refine(congrArg (fun z=>bnd z _) e1).trans ?_;rw[aq,qc9]
 |inr r=>exact absurd e2 id
end
end Go.Proofs.Ytdhfhpdadbopkaa
