/-
  Migrate: the law MigrateKeeps.
-/
import Derived.Test.YtdhfhpdadbopkaaZ3M7
set_option linter.all false
namespace Go.Proofs.Ytdhfhpdadbopkaa
open Go.K Go.M
structure Fol (old new : a8) (L : List Pr) (x : List Int) (l : Ms) : Prop where
 mark : c7 old.1 x = true
 all : qd7 new l
 len : l.length ≤ 200
 has : ∃ y ∈ l, inB L x y = true
theorem q3j{old new:a8}{L:List Pr}(hp:∀p∈L,qey old new (inB L) p.1 p.2.1=true){x y:List Int}(h:inB L x y=true):qey old new (inB L) x y=true:=by
 obtain⟨p,h1,rfl,rfl⟩:=q65.1 h;exact hp p h1
theorem q1s{l:Ms}{y:List Int}(h:y∈l):¬((l.length:Int)=0):=by
 have:=List.length_pos_of_mem h;omega
theorem q5k{old new:a8}(ho:Small old)(hn:Small new)(vo:bv old=true)(vn:bv new=true){L:List Pr}(hp:∀p∈L,qey old new (inB L) p.1 p.2.1=true)(more:List Int)(hm:more.length≤1000){x:List Int}{l:Ms}(h:Fol old new L x l):
  ∃o,zy more (more.length:Int) old.1 old.2.1 old.2.2.1 old.2.2.2.1 new.1 new.2.1 new.2.2.1 new.2.2.2.1 (x,l,0)=some o∧match o with| .inl e=>Fol old new L e.1 e.2| .inr b=>b=true:=by
 refine z7 (fun(st:List Int×Ms×Int)=>∃i:Nat,st.2.2=(i:Int)∧i≤more.length∧Fol old new L st.1 st.2.1) (fun st=>((more.length:Int)-st.2.2).toNat) (fun(o:(List Int×Ms)⊕Bool)=>match o with| .inl e=>Fol old new L e.1 e.2| .inr b=>b=true) _ ⟨0,rfl,Nat.zero_le _,h⟩ (by show((more.length:Int)-0).toNat<many;unfold many;omega) ?_;rintro⟨x,l,_⟩ ⟨i,rfl,hi,hF⟩;have hF:Fol old new L x l:=hF;have htn:=hn.trans;by_cases hlt:i<more.length
 ·have hf:jd (old.1,old.2.1,old.2.2.1,old.2.2.2.1,()) x (more.getD i 0)=some (nt old x (more.getD i 0)):=q9s ho vo hF.mark _;by_cases h0:(nt old x (more.getD i 0)).1=0
  ·obtain⟨t0,t1⟩:=qvi h0;obtain⟨k,hk⟩:=Int.eq_ofNat_of_zero_le t0;have hz:=qvh (m:=x) t0 t1;have hx' :=qmq ho vo hF.mark h0;rw[hz]at h0 hx';rw[hk]at h0 hx';have hkl:k<old.2.1.length:=by omega
   have h0:(cp old x k).1=0:=h0;have hx' :c7 old.1 (cp old x k).2=true:=hx';have hok:okB old x k=true:=decide_eq_true h0;obtain⟨y,hy,hin⟩:=hF.has;obtain⟨o,c1,c2,c3,c4,c5⟩:=qmp hn vn hF.all (by have:=hF.len;omega);have c1:kf (new.1,new.2.1,new.2.2.1,new.2.2.2.1,()) l=some o:=c1;have hlen:=hF.len;obtain⟨_,hs⟩:=q8s (q3j hp hin) hkl (q1u hok);have e1:eqS (old.2.1.getD k ae.z).1 ⟨#[]⟩=q3z old k:=rfl;have ek:(more.getD i 0).toNat=k:=by rw[hk];rfl
   have hz:nt old x (more.getD i 0)=cp old x k:=by rw[hz,ek]
   have hd:decide ((cp old x k).1=0)=true:=decide_eq_true h0;by_cases hq:q3z old k=true
   ·by_cases c6:o.length≤200
    ·refine⟨.next ((cp old x k).2,o,((i+1:Nat):Int)),?_,⟨i+1,rfl,by omega,⟨hx',c3,c6,?_⟩⟩,by show((more.length:Int)-((i+1:Nat):Int)).toNat<((more.length:Int)-(i:Int)).toNat;omega⟩
     ·unfold cl;simp only[vy];rw[oe (by omega),fa (by omega) (by omega),fa (by omega) (by omega)];simp only[Int.toNat_natCast];rw[hf,al,hz,hd,Bool.not_true,cond_false,c1,al,fa (by omega) (by omega),fa (by omega) (by omega),ek,e1,hq,Bool.not_true,cond_false,decide_eq_false (q1s (c2 y hy)),cond_false,tx (by omega),qkj (by omega) (by omega),am]
     ·rcases hs with⟨_,k2⟩|⟨u,hu,k1,k2,k3⟩
      ·exact⟨y,c2 y hy,k2⟩
      ·refine⟨(cp new y u).2,c5 c6 y (c2 y hy) u hu ?_,k3⟩;unfold qex;rw[q8n k1 hq,k2];rfl
    ·refine⟨.ret true,?_,rfl⟩;unfold cl;simp only[vy];rw[oe (by omega),fa (by omega) (by omega),fa (by omega) (by omega)];simp only[Int.toNat_natCast];rw[hf,al,hz,hd,Bool.not_true,cond_false,c1,al,fa (by omega) (by omega),fa (by omega) (by omega),ek,e1,hq,Bool.not_true,cond_false,decide_eq_false (q1s (c2 y hy)),cond_false,oe (by omega)]
   ·have hq' :q3z old k=false:=by simpa using hq
    have hst:ud (new.1,new.2.1,new.2.2.1,new.2.2.2.1,()) o (old.2.1.getD k ae.z).1=some (sj new (yj old k) o):=q7z hn vn _ c3 (by omega);have hsl:=qr8 new (yj old k) o;have hmul:o.length*new.2.1.length≤300*100:=Nat.mul_le_mul (by omega) (by omega);obtain⟨o',d1,d2,d3,d4,d5⟩:=qmp hn vn (qxr hn vn (lab:=yj old k) c3) (by omega);have d1:kf (new.1,new.2.1,new.2.2.1,new.2.2.2.1,()) (sj new (yj old k) o)=some o' :=d1;have hy' :∃y' ∈o',inB L (cp old x k).2 y' =true:=by
     rcases hs with⟨k1,_⟩|⟨u,hu,k1,k2,k3⟩
     ·exact absurd k1 hq
     ·refine⟨(cp new y u).2,d2 _ (qr9.2 ⟨y,c2 y hy,u,hu,?_,rfl⟩),k3⟩;unfold qex;rw[k1,k2];rfl
    obtain⟨y',hy',hin'⟩:=hy';by_cases c6:o'.length≤200
    ·refine⟨.next ((cp old x k).2,o',((i+1:Nat):Int)),?_,⟨i+1,rfl,by omega,⟨hx',d3,c6,y',hy',hin'⟩⟩,by show((more.length:Int)-((i+1:Nat):Int)).toNat<((more.length:Int)-(i:Int)).toNat;omega⟩;unfold cl;simp only[vy];rw[oe (by omega),fa (by omega) (by omega),fa (by omega) (by omega)];simp only[Int.toNat_natCast];rw[hf,al,hz,hd,Bool.not_true,cond_false,c1,al,fa (by omega) (by omega),fa (by omega) (by omega),ek,e1,hq',Bool.not_false,cond_true,hst,al,d1,al,decide_eq_false (q1s hy'),cond_false,tx (by omega),qkj (by omega) (by omega),am]
    ·refine⟨.ret true,?_,rfl⟩;unfold cl;simp only[vy];rw[oe (by omega),fa (by omega) (by omega),fa (by omega) (by omega)];simp only[Int.toNat_natCast];rw[hf,al,hz,hd,Bool.not_true,cond_false,c1,al,fa (by omega) (by omega),fa (by omega) (by omega),ek,e1,hq',Bool.not_false,cond_true,hst,al,d1,al,decide_eq_false (q1s hy'),cond_false,oe (by omega)]
  ·refine⟨.ret true,?_,rfl⟩;unfold cl;dsimp only;rw[oe (by omega),fa (by omega) (by omega),fa (by omega) (by omega)];simp only[Int.toNat_natCast];rw[hf,al,decide_eq_false h0];rfl
 ·refine⟨.done (x,l),?_,hF⟩;unfold cl;rw[tx (by show(more.length:Int)≤(i:Int);omega)]
theorem qns(old new:a8)(run:List Int)(m:du)(more:List Int):uc old new run m more=some true:=by
 unfold uc;rw[q4x];obtain⟨b1,e1,g1⟩:=q3g old;obtain⟨b2,e2,g2⟩:=q3g new;obtain⟨b3,e3,g3⟩:=q69 run;obtain⟨b4,e4,g4⟩:=q69 m.2.1;obtain⟨b5,e5,g5⟩:=jdm m.2.2.1;simp only[al,Bool.not_true,cond_false];rw[e1,al];cases b1 with
 |true=>rfl
 |false=>
 rw[cond_false,e2,al];cases b2 with
 |true=>rfl
 |false=>
 rw[cond_false,e3,al];cases b3 with
 |true=>rfl
 |false=>
 rw[cond_false,e4,al];cases b4 with
 |true=>rfl
 |false=>
 rw[cond_false];by_cases c1:(40:Int)<(more.length:Int)
 ·rw[oe c1]
 rw[tx (by omega),e5,al];cases b5 with
 |true=>rfl
 |false=>
 rw[cond_false];by_cases c2:(50:Int)<(m.1.length:Int)
 ·rw[oe c2]
 rw[tx (by omega)];have ho:=(g1 rfl).small;have hn:=(g2 rfl).small;have g3:=g3 rfl;have g4:=g4 rfl;have g5:=g5 rfl;obtain⟨w1,a1,a2,a3⟩:=qdj ho;obtain⟨w2,b1,b2,b3⟩:=qdj hn;rw[a2,al];cases w1 with
 |false=>rfl
 |true=>
 rw[Bool.not_true,cond_false,b2,al];cases w2 with
 |false=>rfl
 |true=>
 obtain⟨r1,f1,k1⟩:=q9q ho hn (run:=run) (x:=m) (by omega) (by omega) (by omega) (fun p hp=>by have:=g5.2 p hp;omega);rw[Bool.not_true,cond_false,f1,al];cases r1 with
 |false=>rfl
 |true=>
 have hC:=k1.1 rfl;have vo:=hC.v1;have vn:=hC.v2;obtain⟨p1,p2,p3,p4,p5,_⟩:=cf vo ho;obtain⟨a,v,w,h1,h2,h3,h4⟩:=hC.hist;obtain⟨s1,s2,s3⟩:=qmt h1;have hm:=qwu ho vo old.2.2.1;obtain⟨r,hr,_,hr2⟩:=q9u ho vo hm run (by omega);have hr2:=hr2 s1 a s2;subst hr2;obtain⟨q,hq,hq1,hq2⟩:=q65.1 h4;have hma:=(hC.pm q hq).1;have hmb:=(hC.pm q hq).2;rw[hq1]at hma;rw[hq2]at hmb;obtain⟨o,ho1,ho2⟩:=q5k ho hn vo vn hC.all more (by omega) (x:=a) (l:=[m.1]) ⟨hma,fun z hz=>by rw[List.mem_singleton.1 hz];exact hmb,by simp,m.1,List.mem_singleton.2 rfl,h4⟩;rw[Bool.not_true,cond_false,(qwt ho vo p4).2,al,hr,al];dsimp only;rw[decide_eq_true rfl,Bool.not_true,cond_false,ho1,al];cases o with
 |inr b=>
  have:b=true:=ho2;rw[this];rfl
 |inl e=>
  have hE:Fol old new m.2.2.1 e.1 e.2:=ho2;have l1:=jh hE.mark;rw[qi7,(qwt ho vo p5).2,al,qx _ _ (by omega),al];by_cases hx:e.1=qn7 old
  ·obtain⟨y,hy,hin⟩:=hE.has;have hlen:=hE.len;obtain⟨o,c1,c2,c3,c4,c5⟩:=qmp hn vn hE.all (by omega);have hy' :=jar (q3j hC.all hin) hx;obtain⟨q1,q2,_⟩:=cf vn hn;rw[decide_eq_true hx,Bool.not_true,cond_false,c1,al,jcd hn vn o (by omega) (fun z hz=>by have:=jh (c3 z hz);omega),al];congr 1;exact List.any_eq_true.2 ⟨y,c2 y hy,decide_eq_true hy'⟩
  ·rw[decide_eq_false hx];rfl
end Go.Proofs.Ytdhfhpdadbopkaa
