/-
  Migrate: a case can be changed to its own net.
-/
import Derived.Test.YtdhfhpdadbopkaaZ7MF
set_option linter.all false
namespace Go.Proofs.Ytdhfhpdadbopkaa
open Go.K Go.M
theorem jfd(l:Ms)(y:List Int)(hl:l.length≤1000000)(hy:y.length≤1000000):fx l y=some (qme l y):=by
 have hL:pj l y (l.length:Int) 0=some (qmc (fun i=>(i:Int)) (kz (fun z=>decide (y=z)) l)):=by
  refine jl l [] (fun z=>decide (y=z)) (fun i=>(i:Int)) (by omega) (fun i hi=> ?_) ?_
  ·simp(disch:=omega)only[f8,qho,qv y (l.getD i []) hy,rs];rw[aj];exact y8
  ·simp(disch:=omega)only[f8,rs]
 unfold fx lw;rw[hL,ah,vm,ah,qar];rfl
def qdf(n:az)(A:Ms)(m:List Int)(t:Nat):Prop:=¬(bj n m t).1=5∧(xc n m t=true→(bj n m t).2∈A)
theorem qdf.mono{n:az}{A B:Ms}(h:∀m∈A,m∈B){m:List Int}{t:Nat}(hg:qdf n A m t):qdf n B m t:=⟨hg.1,fun ho=>h _ (hg.2 ho)⟩
theorem q5h{l:Ms}{y:List Int}:∀m∈l,m∈us l y:=fun _ hm=>qpd.2 (.inl hm)
section
variable {n : az} (h : Small n) (hv : bv n = true)
include h hv
theorem jbo{A:Ms}(hA:rv n A)(hl:A.length≤100000){i:Nat}(hi:i<A.length):
  ∃o,qp2 (i:Int) (n.2.1.length:Int) n.1 n.2.1 n.2.2.1 n.2.2.2.1 (0,A)=some o∧match o with
   | .inl B=>rv n B∧A.length≤B.length∧B.length≤A.length+60∧(∀j,j<A.length→B.getD j []=A.getD j [])∧(∀m∈A,m∈B)∧∀t,t<n.2.1.length→qdf n B (A.getD i []) t
   | .inr b=>b=true:=by
 have hts:=h.trans;obtain⟨p1,p2,p3,_⟩:=bi hv h;have hmi:=hA _ (aw [] hi);have htl:n.2.1.length≤60:=by omega
 refine ij (fun(st:Int×Ms)=>∃t:Nat,st.1=(t:Int)∧t≤n.2.1.length∧rv n st.2∧A.length≤st.2.length∧st.2.length≤A.length+t∧(∀j,j<A.length→st.2.getD j []=A.getD j [])∧(∀m∈A,m∈st.2)∧∀u,u<t→qdf n st.2 (A.getD i []) u) (fun st=>((n.2.1.length:Int)-st.1).toNat)
  (fun(o:Ms⊕Bool)=>match o with
   | .inl B=>rv n B∧A.length≤B.length∧B.length≤A.length+60∧(∀j,j<A.length→B.getD j []=A.getD j [])∧(∀m∈A,m∈B)∧∀t,t<n.2.1.length→qdf n B (A.getD i []) t
   | .inr b=>b=true) _ ⟨0,rfl,Nat.zero_le _,hA,Nat.le_refl _,Nat.le_refl _,fun _ _=>rfl,fun _ h=>h,fun u hu=>by omega⟩ (by show((n.2.1.length:Int)-0).toNat<many;unfold many;omega) ?_
 rintro⟨_,B⟩ ⟨t,rfl,h1,h2,h3,h4,h5,h6,h7⟩;have h2:rv n B:=h2;have h3:A.length≤B.length:=h3;have h4:B.length≤A.length+t:=h4;have h5:∀j,j<A.length→B.getD j []=A.getD j []:=h5;have h6:∀m∈A,m∈B:=h6;have h7:∀u,u<t→qdf n B (A.getD i []) u:=h7;by_cases hlt:t<n.2.1.length
 ·have hμ:((n.2.1.length:Int)-((t+1:Nat):Int)).toNat<((n.2.1.length:Int)-(t:Int)).toNat:=by omega
  have hF:mw (n.1,n.2.1,n.2.2.1,n.2.2.2.1,()) (A.getD i []) (t:Int)=some (bj n (A.getD i []) t):=qo3 h hv hmi hlt;have e2:decide ((bj n (A.getD i []) t).1=0)=xc n (A.getD i []) t:=rfl;by_cases c5:(bj n (A.getD i []) t).1=5
  ·refine⟨.ret true,?_,rfl⟩;unfold qw;dsimp only;rw[cj (by omega),ao (by omega) (by omega),ao (by omega) (by omega)];simp only[Int.toNat_natCast];rw[h5 i hi,hF,ah,decide_eq_true c5,cond_true]
  ·cases ho:xc n (A.getD i []) t with
   |true=>
    have hmk:=qaw h hv hmi hlt ho;have hml:=c0 hmk;have hnew:rv n (us B (bj n (A.getD i []) t).2):=fun m hm=>by
     rcases qpd.1 hm with hm|rfl
     ·exact h2 m hm
     ·exact hmk
    have hl1:=q5g B (bj n (A.getD i []) t).2;have hl2:=q9l B (bj n (A.getD i []) t).2;refine⟨.next (((t+1:Nat):Int),us B (bj n (A.getD i []) t).2),?_,⟨t+1,rfl,by omega,hnew,by show _≤(us B _).length;omega,by show(us B _).length≤_;omega,fun j hj=> ?_,fun m hm=>q5h m (h6 m hm),fun u hu=> ?_⟩,hμ⟩
    ·unfold qw us;dsimp only;rw[cj (by omega),ao (by omega) (by omega),ao (by omega) (by omega)];simp only[Int.toNat_natCast];rw[h5 i hi,hF,ah,decide_eq_false c5,cond_false,e2,ho,cond_true,jfd B _ (by omega) (by omega),ah];cases qme B (bj n (A.getD i []) t).2 with
     |true=>rw[Bool.not_true,cond_false,ci (by omega) (by omega),aj];rfl
     |false=>rw[Bool.not_false,cond_true,gl (by omega) (by omega),ci (by omega) (by omega),aj];rfl
    ·show(us B _).getD j []=_;rw[q9k _ _ (by omega),h5 j hj]
    ·by_cases hut:u=t
     ·subst hut;exact⟨c5,fun _=>qpd.2 (.inr rfl)⟩
     ·exact(h7 u (by omega)).mono q5h
   |false=>
    refine⟨.next (((t+1:Nat):Int),B),?_,⟨t+1,rfl,by omega,h2,h3,by show B.length≤_;omega,h5,h6,fun u hu=> ?_⟩,hμ⟩
    ·unfold qw;dsimp only;rw[cj (by omega),ao (by omega) (by omega),ao (by omega) (by omega)];simp only[Int.toNat_natCast];rw[h5 i hi,hF,ah,decide_eq_false c5,cond_false,e2,ho,cond_false,ci (by omega) (by omega),aj]
    ·by_cases hut:u=t
     ·subst hut;exact⟨c5,fun hc=>by rw[ho]at hc;cases hc⟩
     ·exact h7 u (by omega)
 ·obtain rfl:t=n.2.1.length:=by omega
  refine⟨.done B,?_,h2,h3,by omega,h5,h6,h7⟩;unfold qw;dsimp only;rw[df (by omega)]
theorem jgc:∃b,qhn n=some b∧(b=false→∃A:Ms,uv n∈A∧∀m∈A,∀t,t<n.2.1.length→qdf n A m t):=by
 obtain⟨p1,p2,p3,p4,p5,_⟩:=bi hv h;have hini:=qd9 h hv n.2.2.1;have hL:∃o,qp3 n.1 n.2.1 n.2.2.1 n.2.2.2.1 (0,[uv n])=some o∧match o with| .inl A=>A.length≤100000∧(A.length<400→uv n∈A∧∀m∈A,∀t,t<n.2.1.length→qdf n A m t)| .inr b=>b=true:=by
  refine ij (fun(st:Int×Ms)=>∃i:Nat,st.1=(i:Int)∧i≤400∧i≤st.2.length∧rv n st.2∧st.2.length≤1+60*i∧uv n∈st.2∧∀j,j<i→∀t,t<n.2.1.length→qdf n st.2 (st.2.getD j []) t) (fun st=>((400:Int)-st.1).toNat)
   (fun(o:Ms⊕Bool)=>match o with| .inl A=>A.length≤100000∧(A.length<400→uv n∈A∧∀m∈A,∀t,t<n.2.1.length→qdf n A m t)| .inr b=>b=true) _ ⟨0,rfl,by omega,Nat.zero_le _,fun m hm=>by rw[List.mem_singleton.1 hm];exact hini,by show 1≤_;omega,List.mem_singleton.2 rfl,fun j hj=>by omega⟩ (by show((400:Int)-0).toNat<many;unfold many;omega) ?_
  rintro⟨_,A⟩ ⟨i,rfl,h1,h2,h3,h4,h5,h6⟩;have h2:i≤A.length:=h2;have h3:rv n A:=h3;have h4:A.length≤1+60*i:=h4;have h5:uv n∈A:=h5;have h6:∀j,j<i→∀t,t<n.2.1.length→qdf n A (A.getD j []) t:=h6;by_cases c1:i<A.length
  ·by_cases c2:i<400
   ·obtain⟨o,e1,e2⟩:=jbo h hv h3 (by omega) c1;cases o with
    |inl B=>
     obtain⟨g1,g2,g3,g4,g5,g6⟩:rv n B∧A.length≤B.length∧B.length≤A.length+60∧(∀j,j<A.length→B.getD j []=A.getD j [])∧(∀m∈A,m∈B)∧∀t,t<n.2.1.length→qdf n B (A.getD i []) t:=e2;refine⟨.next (((i+1:Nat):Int),B),?_,⟨i+1,rfl,by omega,by show i+1≤B.length;omega,g1,by show B.length≤_;omega,g5 _ h5,fun j hj t ht=> ?_⟩,by show((400:Int)-((i+1:Nat):Int)).toNat<((400:Int)-(i:Int)).toNat;omega⟩
     ·unfold qx;dsimp only;rw[cj (by omega),cj (by omega),e1,ah,lq,ci (by omega) (by omega),aj]
     ·show qdf n B (B.getD j []) t;rw[g4 j (by omega)];by_cases hji:j=i
      ·subst hji;exact g6 t ht
      ·exact(h6 j (by omega) t ht).mono g5
    |inr b=>
     refine⟨.ret b,?_,e2⟩;unfold qx;dsimp only;rw[cj (by omega),cj (by omega),e1,ah,qj9]
   ·refine⟨.done A,?_,by omega,fun hl=>by omega⟩;unfold qx;dsimp only;rw[cj (by omega),df (by omega)]
  ·refine⟨.done A,?_,by omega,fun _=>⟨h5,fun m hm t ht=> ?_⟩⟩
   ·unfold qx;dsimp only;rw[df (by omega)]
   ·obtain⟨j,hj,rfl⟩:=je [] hm;exact h6 j (by omega) t ht
 obtain⟨o,e1,e2⟩:=hL;unfold qhn;rw[(qyh h hv p4).2,ah];cases o with
 |inl A=>
  obtain⟨e3,e4⟩:A.length≤100000∧(A.length<400→uv n∈A∧∀m∈A,∀t,t<n.2.1.length→qdf n A m t):=e2;refine⟨decide ((400:Int)≤(A.length:Int)),?_,fun hb=>⟨A,e4 ?_⟩⟩
  ·refine(congrArg (fun z=>bnd z _) e1).trans ?_;rw[ah,lq]
  ·have:=of_decide_eq_false hb;omega
 |inr b=>
  refine⟨b,?_,fun hb=> ?_⟩
  ·refine(congrArg (fun z=>bnd z _) e1).trans ?_;rw[ah,qj9]
  ·rw[show b=true from e2]at hb;cases hb
end
theorem jdk{n:az}{m:List Int}{t:Nat}(hc:xj (n.2.1.getD t af.z) m=true)(h5:¬(bj n m t).1=5):xc n m t=true:=by
 unfold xc;unfold bj at h5⊢;rw[hc]at h5⊢;revert h5;simp only[cond_true,Bool.not_true,cond_false];cases(uc (n.2.1.getD t af.z) m).any fun k=>decide (100<k)with
 |true=>intro h5;exact absurd rfl h5
 |false=>intro _;rfl
theorem jet{n:az}{A:Ms}(hA:∀m∈A,∀t,t<n.2.1.length→xc n m t=true→(bj n m t).2∈A):∀{l m x:List Int},m∈A→xl n l m=some x→x∈A
 |[],_,_,hm,hr=>by cases hr;exact hm
 |t::l,m,x,hm,hr=>by
  unfold xl at hr;by_cases h0:(jo n m t).1=0
  ·rw[if_pos h0]at hr;obtain⟨t0,t1⟩:=qpq h0;obtain⟨u,rfl⟩:=Int.eq_ofNat_of_zero_le t0;rw[qyg (by omega)]at hr h0;exact jet hA (hA m hm u (by omega) (decide_eq_true h0)) hr
  ·rw[if_neg h0]at hr;cases hr
theorem jdi(a:ByteArray):eqS a a=true:=beq_iff_eq.2 rfl
theorem q5k{n:az}{run x:List Int}{w:List ByteArray}{M:Nat}{o:List iu}{all:Bool}(hM1:1≤M)(hh:qdj n run=some (x,w))(hb:m4 n w M (M+1) 0 (first n)=(bif all then .inl o else .inr o))(hk:ct o 0 (uv n)=true):
  (all=true→ct o (w.length:Int) x=true)∧(((qg7 w o all).2.2=0∧(qg7 w o all).1=true)∨(qg7 w o all).2.2=13):=by
 obtain⟨s1,s2,s3⟩:=qhl hh;have key:all=true→ct o (w.length:Int) x=true:=fun ha=>by
  subst ha;have hc:=qt1 (M+1) 0 (first n) o (by omega) (by show 1≤M;omega) (fun j hj=>by omega) hb;have:=qhy (P:=o) hc run 0 (uv n) x w.length hk s2 (by rw[List.drop_zero,List.take_length,s3];rfl) (by omega);rwa[Nat.zero_add]at this
 refine⟨key,?_⟩;unfold qg7;cases hf:kz (fun p:iu=>decide (p.1=(w.length:Int))) o with
 |some i=>exact .inl ⟨rfl,rfl⟩
 |none=>
  cases all with
  |false=>exact .inr rfl
  |true=>
   obtain⟨p,hp,h1,h2⟩:=qdl.1 (key rfl);have:=zw hf p hp;rw[decide_eq_true h1]at this;cases this
theorem qrw(n:az)(run:List Int):xy n run=some true:=by
 unfold xy;rw[q7r];obtain⟨b1,e1,g1⟩:=jdn n;obtain⟨b2,e2,g2⟩:=jgl run;simp only[ah,Bool.not_true,cond_false];rw[e1,ah];cases b1 with
 |true=>rfl
 |false=>
 rw[cond_false,e2,ah];cases b2 with
 |true=>rfl
 |false=>
 rw[cond_false];have h:=(g1 rfl).small;have g2:=g2 rfl;rcases jdl h h run (by omega) 25 with⟨f,f1,f2,f3⟩|⟨x,w,w1,w2,hv,_,hh,m1,m2,gg,gf⟩
 ·rw[f3,ah,decide_eq_false f1];rfl
 ·obtain⟨s1,s2,s3⟩:=qhl hh;have hw:w.length≤1000:=by have:=qma n run;rw[s3];omega
  have hx:bu n.1 x=true:=ql7 h hv (qd9 h hv _) s2;have gg:jq n n run ((25:Nat):Int)=some (x,0,w):=gg;obtain⟨o,all,k1,k2,k3,k4,k5⟩:=qzz (old:=n) (run:=run) h hv hw (by omega:25≤2000) (by omega) gg;obtain⟨o',q1,q2,q3,q4⟩:=qyx h h hv hv hx hw (by omega:25≤900) (by omega) gg;have hoo:o' =o:=by
   rcases q1 with q1|⟨q1,_⟩
   ·rw[k2]at q1;cases all with
    |true=>injection q1 with q1;exact q1.symm
    |false=>cases q1
   ·rw[k2]at q1;cases all with
    |true=>cases q1
    |false=>injection q1 with q1;exact q1.symm
  subst hoo;obtain⟨hend,hans⟩:=q5k (by omega:1≤25) hh k2 q4;have tail:(bnd (il n n run 25) fun r7=>bif decide (r7.2.2=0)then(bif r7.1 then some true else some (decide (r7.2.2=13)))else some (decide (r7.2.2=13)))=some true:=by
   have k4:il n n run 25=some (qg7 w o' all):=k4;rw[k4,ah];rcases hans with⟨a1,a2⟩|a1
   ·rw[a1,a2];rfl
   ·rw[a1];rfl
  rw[gf,ah,decide_eq_true rfl,Bool.not_true,cond_false];cases all with
  |false=>
   have hF:dm n n run 25=some (qng,13):=ja2 (M:=25) h h hv hv hx hw (by omega:25≤900) (by omega) gg k2;rw[hF,ah];exact tail
  |true=>
   have k2:m4 n w 25 (25+1) 0 (first n)= .inl o' :=k2;rcases ja1 (M:=25) h h hv hv hx hw (by omega:25≤900) (by omega) gg k2 with⟨_,hF⟩|⟨c1,c2,c3,hXm,hYm,L,hG,hF⟩
   ·have hF:dm n n run 25=some (qng,13):=hF;rw[hF,ah];exact tail
   ·rcases hF with⟨hno,hF⟩|⟨p,hp,hin,hF⟩
    ·have hF:dm n n run 25=some (qng,10):=hF;rw[hF,ah];obtain⟨b,hb1,hb2⟩:=jgc h hv;dsimp only;rw[decide_eq_false (by decide),cond_false,decide_eq_false (by decide),Bool.not_false,cond_true,decide_eq_true rfl,cond_true,hb1,ah];cases b with
     |true=>rfl
     |false=>
      exfalso;obtain⟨A,hA1,hA2⟩:=hb2 rfl;have hxA:x∈A:=jet (fun m hm t ht ho=>(hA2 m hm t ht).2 ho) hA1 s2;obtain⟨p,hp,hp1,hp2⟩:=qdl.1 (hend rfl);have hpe:p∈ew w o' :=List.mem_filter.2 ⟨hp,by unfold qfv;rw[hp1,decide_eq_false (Int.lt_irrefl _)];rfl⟩;have hxX:x∈ez n 25 [x]:=(qec (n:=n) (M:=25) (Q:=fun _=>True) (fun _ _ _ _ _=>trivial) (25+2) 0 (rz [x]) (fun _ _=>trivial)).2 x (qf.2 (.inr ⟨x,List.mem_singleton.2 rfl,rfl,rfl⟩));have hXc:=qk7 (n:=n) (M:=25) (25+2) 0 (rz [x]) (by omega) (fun j hj=>by omega) c1;have hYc:=qk7 (n:=n) (M:=25) (25+2) 0 (rz ((ew w o').map fun p:iu=>p.2.1)) (by omega) (fun j hj=>by omega) c2;have hxY:x∈ez n 25 ((ew w o').map fun p:iu=>p.2.1):=(qec (n:=n) (M:=25) (Q:=fun _=>True) (fun _ _ _ _ _=>trivial) (25+2) 0 (rz ((ew w o').map fun p:iu=>p.2.1)) (fun _ _=>trivial)).2 x (qf.2 (.inr ⟨x,List.mem_map.2 ⟨p,hpe,hp2⟩,rfl,rfl⟩));have hX0:∀m∈rz [x],m=x:=fun m hm=>by
       rcases qf.1 hm with hm|⟨t,ht,_,rfl⟩
       ·cases hm
       ·exact List.mem_singleton.1 ht
      have hXA:∀m∈ez n 25 [x],m∈A:=(qec (n:=n) (M:=25) (Q:=fun m=>m∈A) (fun m t hm ht ho=>(hA2 m hm t ht).2 ho) (25+2) 0 (rz [x]) (fun m hm=>by rw[hX0 m hm];exact hxA)).1;have hXY:∀m∈ez n 25 [x],m∈ez n 25 ((ew w o').map fun p:iu=>p.2.1):=(qec (n:=n) (M:=25) (Q:=fun m=>m∈ez n 25 ((ew w o').map fun p:iu=>p.2.1)) (fun m t hm ht ho=>hYc m hm t ht ho) (25+2) 0 (rz [x]) (fun m hm=>by rw[hX0 m hm];exact hxY)).1;have hD:Sim n n (fun a b=>decide (a=b)&&qme (ez n 25 [x]) a):=fun a b hab=>by
       rw[Bool.and_eq_true,decide_eq_true_iff]at hab;obtain⟨rfl,ha⟩:=hab;have ha:=qjz.1 ha;refine q92 (fun e=>e) fun t ht hc=> ?_
       have hok:=jdk hc (hA2 a (hXA a ha) t ht).1;exact⟨hok, .inr ⟨t,ht,jdi _,hok,by rw[decide_eq_true rfl,qjz.2 (hXc a ha t ht hok)];rfl⟩⟩
      have:=hG.most _ hD (fun a b hab=>by
       rw[Bool.and_eq_true,decide_eq_true_iff]at hab;obtain⟨rfl,ha⟩:=hab;have ha:=qjz.1 ha;exact jdx.2 ⟨ha,hXY a ha⟩) x x (by show(decide (x=x)&&qme (ez n 25 [x]) x)=true;rw[decide_eq_true rfl,qjz.2 hxX];rfl)
      have hno:=hno p hpe;rw[hp2,this]at hno;cases hno
    ·obtain⟨hC,hpl⟩:=ja0 (M:=25) h h hv hv hx hw (by omega:25≤900) (by omega) gg k2 hXm hYm hG hp hin w1 w2 hh;have hLl:L.length≤20000:=by have:=hG.len;rw[qgk]at this;omega
     obtain⟨r,r1,r2⟩:=jcs h h (run:=run) (x:=(p.2.1,p.2.2.1,L,())) (by omega) (by show p.2.2.1.length≤_;omega) (by show L.length≤_;omega) (fun q hq=>by
      have h1:=c0 (hC.pm q hq).1;have h2:=c0 (hC.pm q hq).2;obtain⟨p1,p2,_⟩:=bi hv h;omega)
     have hF:dm n n run 25=some ((p.2.1,p.2.2.1,L,()),0):=hF;rw[hF,ah];dsimp only;rw[decide_eq_true rfl,cond_true,r1,r2.2 hC,ah,Bool.not_true,cond_false];exact tail
end Go.Proofs.Ytdhfhpdadbopkaa
