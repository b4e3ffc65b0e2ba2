/-
  Migrate: positions of the reference.
-/
import Derived.Test.YtdhfhpdadbopkaaGreatZ3MA
set_option linter.all false
namespace Go.Proofs.YtdhfhpdadbopkaaGreat
open Go.K Go.M
theorem jaf{out:List jk}{j:Nat}{k:Int}{m:List Int}(h:dh (out.take j) k m=true):dh out k m=true:=by
 obtain⟨p,hp,h1,h2⟩:=q0r.1 h;exact q0r.2 ⟨p,List.mem_of_mem_take hp,h1,h2⟩
theorem jf2(w:List ByteArray)(N i t k:Int)(m:List Int)(n:a7)(out:List jk)(hl:out.length≤1000000)(hm:∀p∈out,p.2.1.length≤1000000)(b:Bool):
  zd w N i t k m n.1 n.2.1 n.2.2.1 n.2.2.2.1 out (b,0)=some (.inl (b||dh out k m)):=by
 have hL:∃o,zd w N i t k m n.1 n.2.1 n.2.2.1 n.2.2.2.1 out (b,0)=some o∧match o with| .inl c=>c=(b||dh out k m)| .inr _=>False:=by
  refine ig (fun(st:Bool×Int)=>∃j:Nat,st.2=(j:Int)∧j≤out.length∧st.1=(b||dh (out.take j) k m)) (fun st=>((out.length:Int)-st.2).toNat) (fun(o:Bool⊕(Bool×List jk))=>match o with| .inl c=>c=(b||dh out k m)| .inr _=>False) _ ⟨0,rfl,Nat.zero_le _,by rw[List.take_zero];show b=(b||false);rw[Bool.or_false]⟩ (by show((out.length:Int)-0).toNat<many;unfold many;omega) ?_;rintro⟨c,_⟩ ⟨j,rfl,h1,h2⟩;have h2:c=(b||dh (out.take j) k m):=h2;by_cases hlt:j<out.length
  ·have hμ:((out.length:Int)-((j+1:Nat):Int)).toNat<((out.length:Int)-(j:Int)).toNat:=by omega
   cases c with
   |true=>
    refine⟨.done true,?_,?_⟩
    ·unfold mn;dsimp only;rw[cg (by omega),Bool.not_true,cond_false]
    ·show true=(b||dh out k m);cases b with
     |true=>rfl
     |false=>
      rw[Bool.false_or]at h2⊢;exact(jaf h2.symm).symm
   |false=>
    have hb:b=false∧dh (out.take j) k m=false:=by
     cases b with
     |true=>cases h2
     |false=>exact⟨rfl,by rw[Bool.false_or]at h2;exact h2.symm⟩
    have hq:=hm _ (au ae.z hlt);refine⟨.next (decide ((out.getD j ae.z).1=k)&&decide ((out.getD j ae.z).2.1=m),((j+1:Nat):Int)),?_,⟨j+1,rfl,by omega,?_⟩,hμ⟩
    ·unfold mn;dsimp only;rw[cg (by omega),Bool.not_false,cond_true,ao (by omega) (by omega),ao (by omega) (by omega)];simp only[Int.toNat_natCast];by_cases hk:(out.getD j ae.z).1=k
     ·rw[decide_eq_true hk,cond_true,ao (by omega) (by omega),ao (by omega) (by omega),wz _ _ hq,ah,br (by omega) (by omega),ai,Bool.true_and]
     ·rw[decide_eq_false hk,cond_false,br (by omega) (by omega),ai,Bool.false_and]
    ·show(decide ((out.getD j ae.z).1=k)&&decide ((out.getD j ae.z).2.1=m))=(b||dh (out.take (j+1)) k m);rw[a8 out j ae.z hlt,qff,hb.2,hb.1,Bool.false_or,Bool.or_false]
  ·obtain rfl:j=out.length:=by omega
   rw[List.take_length]at h2;refine⟨.done c,?_,h2⟩;unfold mn;dsimp only;rw[cp (by omega)]
 obtain⟨o,h1,h2⟩:=hL;rw[h1];cases o with
 |inl c=>rw[show c=_ from h2]
 |inr r=>exact absurd h2 id
def jni(n:a7)(w:List ByteArray)(out:List jk)(x:jk)(t:Nat):List jk:=match jaq n w x t with|none=>out|some c=>bif dh out c.1 c.2.1 then out else out++[c]
section
variable {n : a7} (h : Small n) (hv : bu n = true) {w : List ByteArray} (hw : w.length ≤ 1000) {M : Nat} (hM : M ≤ 2000)
include h hv hw hM
theorem jqc{out:List jk}{i:Nat}(hi:i<out.length)(hall:∀p∈out,PosOK n w p∧p.2.2.1.length≤100000)(ho:out.length≤3000){t:Nat}(ht:t<n.2.1.length)(k:Int):
  rk w (M:Int) (i:Int) (t:Int) k n.1 n.2.1 n.2.2.1 n.2.2.2.1 out=some (.inl (bif tj n (out.getD i ae.z).2.1 t&& !dh out k (bm n (out.getD i ae.z).2.1 t).2 then out++[(k,(bm n (out.getD i ae.z).2.1 t).2,(out.getD i ae.z).2.2.1++[(t:Int)],())]else out)):=by
 obtain⟨p1,p2,_⟩:=ba hv h;obtain⟨hx,hxl⟩:=hall _ (au ae.z hi);have hF:gg (n.1,n.2.1,n.2.2.1,n.2.2.2.1,()) (out.getD i ae.z).2.1 (t:Int)=some (bm n (out.getD i ae.z).2.1 t):=qey h hv (hx.mark h hv) ht;have hk:=fun b=>jf2 w (M:Int) (i:Int) (t:Int) k (bm n (out.getD i ae.z).2.1 t).2 n out (by omega) (fun p hp=>by have:=b7 ((hall p hp).1.mark h hv);omega) b
 have e1:decide ((bm n (out.getD i ae.z).2.1 t).1=0)=tj n (out.getD i ae.z).2.1 t:=rfl;unfold rk wy;rw[ao (by omega) (by omega),ao (by omega) (by omega)];simp only[Int.toNat_natCast];rw[hF,ah,e1,hk,ah,gf];cases hok:tj n (out.getD i ae.z).2.1 t with
 |false=>rfl
 |true=>
  cases hkn:dh out k (bm n (out.getD i ae.z).2.1 t).2 with
  |true=>rfl
  |false=>
   simp only[Bool.not_true,Bool.or_false,Bool.not_false,cond_true,Bool.and_self,List.nil_append];rw[ao (by omega) (by omega),ao (by omega) (by omega),d9 (by omega) (by omega),d9 (by omega) (by omega),d9 (by omega) (by omega)]
theorem jnd{out:List jk}{i:Nat}(hi:i<out.length)(hall:∀p∈out,PosOK n w p∧p.2.2.1.length≤100000)(ho:out.length≤M){t:Nat}(ht:t<n.2.1.length):
  gh w (M:Int) (i:Int) n.1 n.2.1 n.2.2.1 n.2.2.2.1 (R:=LR (Int×List jk) (List jk) (Bool×List jk)) (t:Int) out (fun a' =>some (.next a')) (fun e=>some (.done e)) (fun r=>some (.ret r))=some (.next (((t+1:Nat):Int),jni n w out (out.getD i ae.z) t)):=by
 have hts:=h.trans;obtain⟨hx,hxl⟩:=hall _ (au ae.z hi);have k0:=hx.k0;have k1:=hx.k1;have hT:=fun k=>jqc h hv hw hM hi hall (by omega) ht k
 have e3:(n.2.1.getD t af.z).1=mu n t:=rfl;have e4:eqS (mu n t) ⟨#[]⟩=qly n t:=rfl;unfold gh jni jaq qjm;simp only[lb];rw[cg (by omega),qpo (by omega),ao (by omega) (by omega),ao (by omega) (by omega),ao (by omega) (by omega),ao (by omega) (by omega)];simp only[Int.toNat_natCast];rw[e3,e4];cases hn:qly n t with
 |true=>
  rw[Bool.not_true,cond_false,hT,ah,gf,br (by omega) (by omega),ai];cases tj n (out.getD i ae.z).2.1 t with
  |false=>rfl
  |true=>
   dsimp only[cond_true,Option.map_some];cases dh out (out.getD i ae.z).1 (bm n (out.getD i ae.z).2.1 t).2<;>rfl
 |false=>
  rw[Bool.not_false,cond_true];by_cases hkw:(w.length:Int)≤(out.getD i ae.z).1
  ·rw[qpo hkw,br (by omega) (by omega),ai,decide_eq_false (show¬(out.getD i ae.z).1<(w.length:Int) by omega)];cases tj n (out.getD i ae.z).2.1 t<;>rfl
  ·rw[qc9 (by omega),ao (by omega) (by omega),ao (by omega) (by omega),ao (by omega) (by omega),ao (by omega) (by omega),decide_eq_true (show(out.getD i ae.z).1<(w.length:Int) by omega)];cases hf:eqS (w.getD (out.getD i ae.z).1.toNat ⟨#[]⟩) (mu n t)with
   |false=>
    rw[Bool.not_false,cond_true,br (by omega) (by omega),ai];cases tj n (out.getD i ae.z).2.1 t<;>rfl
   |true=>
    rw[Bool.not_true,cond_false,br (by omega) (by omega),hT,ah,gf,br (by omega) (by omega),ai];cases tj n (out.getD i ae.z).2.1 t with
    |false=>rfl
    |true=>
     show _=some (LR.next (((t+1:Nat):Int),bif dh out ((out.getD i ae.z).1+1) (bm n (out.getD i ae.z).2.1 t).2 then out else out++[((out.getD i ae.z).1+1,(bm n (out.getD i ae.z).2.1 t).2,(out.getD i ae.z).2.2.1++[(t:Int)],())]));cases dh out ((out.getD i ae.z).1+1) (bm n (out.getD i ae.z).2.1 t).2<;>rfl
theorem jc0{N t:Nat}(ht:t<N):(List.range N).drop t=t::(List.range N).drop (t+1):=by
 rw[List.drop_eq_getElem_cons (by rw[List.length_range];exact ht),List.getElem_range]
theorem jqb{out:List jk}{i:Nat}(hi:i<out.length)(hall:∀p∈out,PosOK n w p∧p.2.2.1.length≤i)(hiM:i≤M)(ho:out.length≤M):
  ∃o,rj w (M:Int) (i:Int) n.1 n.2.1 n.2.2.1 n.2.2.2.1 (0,out)=some (.inl o)∧((s6 M out (uy n w (out.getD i ae.z))= .inl o)∨∃o' c,s6 M out (uy n w (out.getD i ae.z))= .inr o' ∧o=o' ++[c]∧o'.length=M):=by
 have hts:=h.trans;have hL:∃o,rj w (M:Int) (i:Int) n.1 n.2.1 n.2.2.1 n.2.2.2.1 (0,out)=some o∧match o with| .inl o=>((s6 M out (uy n w (out.getD i ae.z))= .inl o)∨∃o' c,s6 M out (uy n w (out.getD i ae.z))= .inr o' ∧o=o' ++[c]∧o'.length=M)| .inr _=>False:=by
  refine ig (fun(st:Int×List jk)=>∃t:Nat,st.1=(t:Int)∧t≤n.2.1.length∧i<st.2.length∧(∀p∈st.2,PosOK n w p∧p.2.2.1.length≤i+1)∧st.2.getD i ae.z=out.getD i ae.z∧
    ((st.2.length≤M∧s6 M st.2 (q5c n w (out.getD i ae.z) ((List.range n.2.1.length).drop t))=s6 M out (uy n w (out.getD i ae.z)))∨∃o' c,s6 M out (uy n w (out.getD i ae.z))= .inr o' ∧st.2=o' ++[c]∧o'.length=M)) (fun st=>((n.2.1.length:Int)-st.1).toNat)
   (fun(o:List jk⊕(Bool×List jk))=>match o with| .inl o=>((s6 M out (uy n w (out.getD i ae.z))= .inl o)∨∃o' c,s6 M out (uy n w (out.getD i ae.z))= .inr o' ∧o=o' ++[c]∧o'.length=M)| .inr _=>False) _ ⟨0,rfl,Nat.zero_le _,hi,fun p hp=>⟨(hall p hp).1,by have:=(hall p hp).2;omega⟩,rfl, .inl ⟨ho,rfl⟩⟩ (by show((n.2.1.length:Int)-0).toNat<many;unfold many;omega) ?_
  rintro⟨_,q⟩ ⟨t,rfl,h1,h2,h3,h4,h5⟩;have h2:i<q.length:=h2;have h3:∀p∈q,PosOK n w p∧p.2.2.1.length≤i+1:=h3;have h4:q.getD i ae.z=out.getD i ae.z:=h4;rcases h5 with⟨h5,h6⟩|⟨o',c,h5,h6,h7⟩
  ·have h5:q.length≤M:=h5;by_cases hlt:t<n.2.1.length
   ·have hμ:((n.2.1.length:Int)-((t+1:Nat):Int)).toNat<((n.2.1.length:Int)-(t:Int)).toNat:=by omega
    have hK:=jnd h hv hw hM h2 (fun p hp=>⟨(h3 p hp).1,by have:=(h3 p hp).2;omega⟩) h5 hlt;rw[h4]at hK;have h6:s6 M q (q5c n w (out.getD i ae.z) ((List.range n.2.1.length).drop t))=s6 M out (uy n w (out.getD i ae.z)):=h6;rw[jc0 h hv hw hM hlt]at h6;unfold q5c at h6;rw[List.filterMap_cons]at h6;refine⟨_,hK,⟨t+1,rfl,by omega,?_⟩,hμ⟩;unfold jni;cases hn:jaq n w (out.getD i ae.z) t with
    |none=>
     rw[hn]at h6;exact⟨h2,h3,h4, .inl ⟨h5,h6⟩⟩
    |some c=>
     rw[hn]at h6;dsimp only at h6⊢;cases hk:dh q c.1 c.2.1 with
     |true=>
      rw[qid hk]at h6;exact⟨h2,h3,h4, .inl ⟨h5,h6⟩⟩
     |false=>
      have hcm:c∈uy n w (q.getD i ae.z):=by
       rw[h4];exact List.mem_filterMap.2 ⟨t,List.mem_range.2 hlt,hn⟩
      have hx:=h3 _ (au ae.z h2);have hcr:=qz4 h hv hw hM hcm;have hxo:=(hall _ (au ae.z hi)).2;rw[h4]at hcr;refine⟨by show i<(q++[c]).length;rw[List.length_append];omega,fun p hp=> ?_,?_,?_⟩
      ·rcases List.mem_append.1 hp with hp|hp
       ·exact h3 p hp
       ·rw[List.mem_singleton.1 hp];exact⟨hx.1.next c hcm,by omega⟩
      ·show(q++[c]).getD i ae.z=_;rw[←h4,List.getD_eq_getElem?_getD,List.getD_eq_getElem?_getD,List.getElem?_append_left h2]
      ·by_cases hfull:q.length=M
       ·rw[qnd hk hfull]at h6;exact .inr ⟨q,c,h6.symm,rfl,hfull⟩
       ·rw[qrh hk hfull]at h6;exact .inl ⟨by show(q++[c]).length≤M;rw[List.length_append,List.length_singleton];omega,h6⟩
   ·obtain rfl:t=n.2.1.length:=by omega
    refine⟨.done q,?_, .inl ?_⟩
    ·unfold gh;dsimp only;rw[cp (by omega)]
    ·rw[List.drop_eq_nil_of_le (by rw[List.length_range];exact Nat.le_refl _)]at h6;exact h6.symm
  ·have h6:q=o' ++[c]:=h6;have hql:q.length=M+1:=by rw[h6,List.length_append,List.length_singleton,h7]
   refine⟨.done q,?_, .inr ⟨o',c,h5,h6,h7⟩⟩;unfold gh;dsimp only;by_cases hlt:t<n.2.1.length
   ·rw[cg (by omega),qc9 (by omega)]
   ·rw[cp (by omega)]
 obtain⟨o,e1,e2⟩:=hL;cases o with
 |inl o=>exact⟨o,e1,e2⟩
 |inr r=>exact absurd e2 id
theorem jji{out:List jk}(ho:M<out.length)(hol:out.length≤100000)(i:Int):rj w (M:Int) i n.1 n.2.1 n.2.2.1 n.2.2.2.1 (0,out)=some (.inl out):=by
 refine f9 (fun _=>((0:Int),out)) 0 (cr (by omega)) out (fun i hi=>by omega) ?_ _ rfl;unfold gh;dsimp only;by_cases hlt:(0:Int)<(n.2.1.length:Int)
 ·rw[cg hlt,qc9 (by omega)]
 ·rw[cp (by omega)]
theorem qkd(hM1:1≤M):∃o,wm n w (M:Int)=some (decide ((M:Int)<(o.length:Int)),o)∧((pf n w M (M+1) 0 (first n)= .inl o∧o.length≤M)∨∃o' c,pf n w M (M+1) 0 (first n)= .inr o' ∧o=o' ++[c]∧o'.length=M):=by
 obtain⟨p1,p2,p3,p4,p5,_⟩:=ba hv h;have hL:∃o,qfz w (M:Int) n.1 n.2.1 n.2.2.1 n.2.2.2.1 (0,first n)=some o∧match o with| .inl o=>((pf n w M (M+1) 0 (first n)= .inl o∧o.length≤M)∨∃o' c,pf n w M (M+1) 0 (first n)= .inr o' ∧o=o' ++[c]∧o'.length=M)| .inr _=>False:=by
  refine ig (fun(st:Int×List jk)=>∃i:Nat,st.1=(i:Int)∧i≤M∧((i≤st.2.length∧st.2.length≤M∧(∀p∈st.2,PosOK n w p∧p.2.2.1.length≤i)∧pf n w M (M+1-i) i st.2=pf n w M (M+1) 0 (first n))∨∃o' c,pf n w M (M+1) 0 (first n)= .inr o' ∧st.2=o' ++[c]∧o'.length=M)) (fun st=>((M:Int)+1-st.1).toNat)
   (fun(o:List jk⊕(Bool×List jk))=>match o with| .inl o=>((pf n w M (M+1) 0 (first n)= .inl o∧o.length≤M)∨∃o' c,pf n w M (M+1) 0 (first n)= .inr o' ∧o=o' ++[c]∧o'.length=M)| .inr _=>False) _ ⟨0,rfl,Nat.zero_le _, .inl ⟨Nat.zero_le _,hM1,fun p hp=>by rw[List.mem_singleton.1 hp];exact⟨PosOK.first n w,Nat.le_refl _⟩,rfl⟩⟩ (by show((M:Int)+1-0).toNat<many;unfold many;omega) ?_
  rintro⟨_,q⟩ ⟨i,rfl,hiM,h5⟩;rcases h5 with⟨h1,h2,h3,h4⟩|⟨o',c,h5,h6,h7⟩
  ·have h1:i≤q.length:=h1;have h2:q.length≤M:=h2;have h3:∀p∈q,PosOK n w p∧p.2.2.1.length≤i:=h3;have ef:M+1-i=(M+1-(i+1))+1:=by omega
   have h4:pf n w M (M+1-i) i q=pf n w M (M+1) 0 (first n):=h4;rw[ef]at h4;by_cases hlt:i<q.length
   ·obtain⟨o,e1,e2⟩:=jqb h hv hw hM hlt h3 (by omega) h2;refine⟨.next (((i+1:Nat):Int),o),?_,⟨i+1,rfl,by omega,?_⟩,by show((M:Int)+1-((i+1:Nat):Int)).toNat<((M:Int)+1-(i:Int)).toNat;omega⟩
    ·unfold jj;dsimp only;rw[cg (by omega),cg (by omega),e1,ah,gf,br (by omega) (by omega),ai]
    ·rcases e2 with e2|⟨o',c,e2,e3,e4⟩
     ·rw[q47 h hv hw hM hlt e2]at h4;obtain⟨o1,f1,f2,f3,f4,f5,f6,f7⟩:=qaq (cs:=uy n w (q.getD i ae.z)) h2;have:o1=o:=by
       rcases f1 with f1|⟨f1,_⟩
       ·rw[e2]at f1;injection f1 with f1;exact f1.symm
       ·rw[e2]at f1;cases f1
      subst this;obtain⟨hx,hxl⟩:=h3 _ (au ae.z hlt);refine .inl ⟨by show i+1≤o1.length;omega,f2,fun p hp=> ?_,h4⟩;rcases f5 p hp with hp|hp
      ·exact⟨(h3 p hp).1,by have:=(h3 p hp).2;omega⟩
      ·exact⟨hx.next p hp,by have:=qz4 h hv hw hM hp;omega⟩
     ·rw[q48 h hv hw hM hlt e2]at h4;exact .inr ⟨o',c,h4.symm,e3,e4⟩
   ·rw[q9o h hv hw hM hlt]at h4;refine⟨.done q,?_, .inl ⟨h4.symm,h2⟩⟩;unfold jj;dsimp only;rw[cp (by omega)]
  ·have h6:q=o' ++[c]:=h6;have hql:q.length=M+1:=by rw[h6,List.length_append,List.length_singleton,h7]
   by_cases hlt:i<M
   ·refine⟨.next (((i+1:Nat):Int),q),?_,⟨i+1,rfl,by omega, .inr ⟨o',c,h5,h6,h7⟩⟩,by show((M:Int)+1-((i+1:Nat):Int)).toNat<((M:Int)+1-(i:Int)).toNat;omega⟩;unfold jj;dsimp only;rw[cg (by omega),cg (by omega),jji h hv hw hM (by omega) (by omega),ah,gf,br (by omega) (by omega),ai]
   ·refine⟨.done q,?_, .inr ⟨o',c,h5,h6,h7⟩⟩;unfold jj;dsimp only;rw[cg (by omega),cp (by omega)]
 obtain⟨o,e1,e2⟩:=hL;unfold wm;rw[(qu8 h hv p4).2,ah];cases o with
 |inl o=>
  refine⟨o,?_,e2⟩;refine(congrArg (fun z=>bnd z _) e1).trans ?_;rw[ah,gf]
 |inr r=>exact absurd e2 id
end
end Go.Proofs.YtdhfhpdadbopkaaGreat
