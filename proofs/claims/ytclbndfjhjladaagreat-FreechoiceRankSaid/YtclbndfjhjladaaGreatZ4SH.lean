/-
  Siphon: Minimal as the reference gives it; the law SiphonMinimal.
-/
import Derived.Test.YtclbndfjhjladaaGreatZ4SG
set_option linter.all false
namespace Go.Proofs.YtclbndfjhjladaaGreat
open Go.K Go.M
theorem ji6{ts:List af}{trap:Bool}{a b:List Int}(h:∀x,x∈a↔x∈b)(ha:u4 ts trap a):u4 ts trap b:=by
 rw[qwz]at ha⊢;rintro t ht ⟨p,h1,h2⟩;obtain⟨q,h3,h4⟩:=ha t ht ⟨p,h1,(h p).2 h2⟩;exact⟨q,h3,(h q).1 h4⟩
theorem jhn{ts:List af}{trap:Bool}{l G:List Int}(h:jl3 ts trap l G):G≠[]↔∃W,W≠[]∧u4 ts trap W∧∀x∈W,x∈l:=by
 constructor
 ·exact fun hne=>⟨G,hne,h.2,juh h⟩
 ·rintro⟨W,h1,h2,h3⟩ hG;have:=h.1.2 W h2 h3;cases W with
  |nil=>exact h1 rfl
  |cons x W=>
   have:=this x List.mem_cons_self;rw[hG]at this;cases this
theorem jbb(N k:Nat):(bq N k).Nodup:=by
 unfold bq;have h:((List.range N).filter fun p=>k.testBit p).Nodup:=List.Pairwise.filter _ List.nodup_range;unfold List.Nodup at h⊢;rw[List.pairwise_map];exact h.imp fun hne he=>hne (by omega)
theorem j9r{A B:List Int}{a x:Int}(h:(A++a::B).Nodup):x∈A++B↔x∈A++a::B∧x≠a:=by
 unfold List.Nodup at h;rw[List.pairwise_append,List.pairwise_cons]at h;obtain⟨_,⟨h2,_⟩,h4⟩:=h;rw[List.mem_append,List.mem_append,List.mem_cons];constructor
 ·rintro(hx|hx)
  ·exact⟨Or.inl hx,h4 x hx a List.mem_cons_self⟩
  ·exact⟨Or.inr (Or.inr hx),fun he=>h2 x hx he.symm⟩
 ·rintro⟨hx|hx|hx,hne⟩
  ·exact Or.inl hx
  ·exact(hne hx).elim
  ·exact Or.inr hx
theorem jzf{l:List Int}(h:l.Nodup){i:Nat}(hi:i<l.length){x:Int}:x∈l.take i++l.drop (i+1)↔x∈l∧x≠l.getD i 0:=by
 have e:l=l.take i++l.getD i 0::l.drop (i+1):=by
  rw[sm l i 0 hi,←List.drop_eq_getElem_cons hi,List.take_append_drop]
 have h' :=h;rw[e]at h';have:=j9r (x:=x) h';rw[←e]at this;exact this
theorem j5x{n:ca}{N:Nat}{W:List Int}(hb:∀x∈W,(0:Int)≤x∧x<(N:Int))(hc:u4 n.2.1 false W):clo n N (kz W)=true:=by
 refine ji6 (fun x=> ?_) hc;constructor
 ·intro hx;have:=hb x hx;refine s8.2 ⟨x.toNat,by omega,?_,by omega⟩;rw[qhl fun x hx=>(hb x hx).1,iq,Int.toNat_of_nonneg this.1];exact hx
 ·intro hx;obtain⟨p,_,h2,rfl⟩:=s8.1 hx;rw[qhl fun x hx=>(hb x hx).1,iq]at h2;exact h2
theorem jxr{W:List Int}(hb:∀x∈W,(0:Int)≤x)(hne:W≠[]):1≤kz W:=by
 cases W with
 |nil=>exact(hne rfl).elim
 |cons x W=>
  refine Nat.pos_of_ne_zero fun hz=> ?_
  have h1:(kz (x::W)).testBit x.toNat=true:=by
   rw[qhl hb,iq,Int.toNat_of_nonneg (hb x List.mem_cons_self)];exact List.mem_cons_self
  rw[hz,Nat.zero_testBit]at h1;cases h1
theorem jrx{N k:Nat}(h1:1≤k)(hk:k<2 ^ N):bq N k≠[]:=by
 intro he;have:k=0:=by
  refine Nat.eq_of_testBit_eq fun p=> ?_
  rw[Nat.zero_testBit];cases h:k.testBit p with
  |false=>rfl
  |true=>
   by_cases hp:p<N
   ·have:(p:Int)∈bq N k:=s8.2 ⟨p,hp,h,rfl⟩;rw[he]at this;cases this
   ·rw[Nat.testBit_lt_two_pow (Nat.lt_of_lt_of_le hk (Nat.pow_le_pow_right (by omega) (by omega)))]at h;cases h
 omega
def Inn(n:ca)(l:List Int)(i:Nat):Prop:=∃W,W≠[]∧u4 n.2.1 false W∧∀x∈W,x∈l.take i++l.drop (i+1)
theorem j0y{n:ca}{N k:Nat}(hN:N≤16)(hk:k<2 ^ N):(∃i,i<(bq N k).length∧Inn n (bq N k) i)↔my n N N k=true:=by
 have h16:2 ^ N≤2 ^ 16:=Nat.pow_le_pow_right (by omega) hN;constructor
 ·rintro⟨i,hi,W,h1,h2,h3⟩;obtain⟨p,p1,p2,p3⟩:=s8.1 (ao (l:=bq N k) 0 hi);have h4:∀x∈W,x∈bq N k∧x≠(p:Int):=fun x hx=>by
   have:=(jzf (jbb N k) hi).1 (h3 x hx);rw[←p3]at this;exact this
  have hb:∀x∈W,(0:Int)≤x∧x<(N:Int):=fun x hx=>by
   obtain⟨q,q1,_,rfl⟩:=s8.1 (h4 x hx).1;omega
  refine List.any_eq_true.2 ⟨p,List.mem_range.2 p1,?_⟩;rw[p2,Bool.true_and,qme];refine⟨kz W,jxr (fun x hx=>(hb x hx).1) h1,fun j hj=> ?_,j5x hb h2⟩;rw[qhl fun x hx=>(hb x hx).1,iq]at hj;obtain⟨q,_,q2,q3⟩:=s8.1 (h4 _ hj).1;obtain rfl:q=j:=by omega
  rw[qyq k p q (by omega),q2,Bool.true_and,Bool.not_eq_true'];exact decide_eq_false fun he=>(h4 _ hj).2 (by omega)
 ·intro h;obtain⟨p,p1,p2⟩:=List.any_eq_true.1 h;rw[Bool.and_eq_true,qme]at p2;obtain⟨p2,f,f1,f2,f3⟩:=p2;have hpl:(p:Int)∈bq N k:=s8.2 ⟨p,List.mem_range.1 p1,p2,rfl⟩;obtain⟨i,hi,hg⟩:=tj 0 hpl;have hfk:f<2 ^ N:=Nat.lt_of_le_of_lt (Nat.le_trans (ja1 f2) (ja1 (ji7 (by omega)))) hk;refine⟨i,hi,bq N f,jrx f1 hfk,f3,fun x hx=>(jzf (jbb N k) hi).2 ?_⟩;obtain⟨q,q1,q2,rfl⟩:=s8.1 hx;have:=f2 q q2;rw[qyq k p q (by omega),Bool.and_eq_true,Bool.not_eq_true',decide_eq_false_iff_not]at this;rw[hg];exact⟨s8.2 ⟨q,q1,this.1,rfl⟩,fun he=>this.2 (by omega)⟩
theorem j15(l:List Int)(i:Nat)(hi:i<l.length)(hl:l.length≤1000000):qdr l (i:Int)=some (l.take i++l.drop (i+1)):=by
 unfold qdr;have e:((i:Int)+1).toNat=i+1:=by omega
 simp(disch:=omega)only[rs];rw[e];simp;rw[qyp (by omega) (by omega),qyp (by omega) (by omega)]
section
variable (n : ca) (N : Nat) (hn : n.1 = (N : Int)) (hN : N ≤ 16) (hs : Small n) (hv : c6 n = true)
include hN hs
theorem jae(k:Nat)(hk:k<2 ^ N)(a b:Int):qfe (bq N k) n.1 n.2.1 n.2.2.1 n.2.2.2.1 0=some (bif my n N N k then .inr false else .inl ()):=by
 have hlen:=qdx N k;have hloop:∃o,qfe (bq N k) n.1 n.2.1 n.2.2.1 n.2.2.2.1 0=some o∧(match o with| .inl _=>∀j,j<(bq N k).length→¬Inn n (bq N k) j| .inr r=>r=false∧∃j,j<(bq N k).length∧Inn n (bq N k) j):=by
  refine da (fun(st:Int)=>∃i:Nat,i≤(bq N k).length∧st=(i:Int)∧∀j,j<i→¬Inn n (bq N k) j) (fun st=>(((bq N k).length:Int)-st).toNat) (fun(o:Unit⊕Bool)=>match o with| .inl _=>∀j,j<(bq N k).length→¬Inn n (bq N k) j| .inr r=>r=false∧∃j,j<(bq N k).length∧Inn n (bq N k) j) _ ⟨0,Nat.zero_le _,rfl,fun j h=>by omega⟩ (by show(((bq N k).length:Int)-0).toNat<many;unfold many;omega) ?_;rintro _ ⟨i,hi,rfl,hno⟩;by_cases h:i<(bq N k).length
  ·have e1:=j15 (bq N k) i h (by omega);have hl2:((bq N k).take i++(bq N k).drop (i+1)).length≤1000000:=by
    rw[List.length_append,List.length_take,List.length_drop];omega
   obtain⟨G,e2,hG⟩:=jlh (n:=n) hs.T ((bq N k).take i++(bq N k).drop (i+1)) hl2;have e2' :qal (n.1,n.2.1,n.2.2.1,n.2.2.2.1,()) ((bq N k).take i++(bq N k).drop (i+1))=some G:=e2;by_cases hne:G=[]
   ·refine⟨.next (((i+1:Nat):Int)),?_,⟨i+1,h,rfl,fun j hj=> ?_⟩,by show(((bq N k).length:Int)-((i+1:Nat):Int)).toNat<(((bq N k).length:Int)-(i:Int)).toNat;omega⟩
    ·rw[hne]at e2';simp only[n7,e1,au,e2'];simp(disch:=omega)only[rs];rw[ag];rfl
    ·by_cases hji:j=i
     ·rw[hji];exact fun hc=>(jhn hG).2 hc hne
     ·exact hno j (by omega)
   ·refine⟨.ret false,?_,rfl,i,h,(jhn hG).1 hne⟩;have hpos:0<G.length:=List.length_pos_iff.2 hne;simp only[n7,e1,au,e2'];simp(disch:=omega)only[rs]
  ·refine⟨.done (),?_,fun j hj=>hno j (by omega)⟩;simp(disch:=omega)only[n7,rs]
 obtain⟨o,ho,hp⟩:=hloop;rw[ho];have hiff:=j0y (n:=n) hN hk;cases o with
 |inl u=>
  have:my n N N k=false:=Bool.eq_false_iff.2 fun hc=>by
   obtain⟨i,hi,hI⟩:=hiff.2 hc;exact hp i hi hI
  rw[this];rfl
 |inr r=>
  rw[hp.1,hiff.1 hp.2];rfl
theorem jva(k:Nat)(h1:1≤k)(hk:k<2 ^ N)(hc:clo n N k=true):v6 n (bq N k)=some (!my n N N k):=by
 have hlen:=qdx N k;have hne:¬((bq N k).length:Int)=0:=fun h=>jrx h1 hk (List.length_eq_zero_iff.1 (by omega))
 have e1:=qty (n:=n) hs.T (bq N k) (by omega);have e2:=jae n N hN hs k hk 0 0;have hc:qnb n.2.1 false (bq N k)=true:=hc;unfold v6;rw[decide_eq_false hne,cond_false,e1,hc,au,e2];cases my n N N k<;>rfl
end
theorem j88(m:Int)(out:Rw)(k:Int)(x:List Int)(a b c:Int)(ts:List af)(hl:out.length≤1000000)(hsh:ShR out)(hx:x.length≤1000000):
  ∃e:Nat,qfc m out k x a ts b c 0=some (.inl (e:Int))∧e≤out.length∧(∀j,j<e→vb (out.getD j []) x=true)∧(e=out.length∨vb (out.getD e []) x=false):=by
 have hloop:∃o,qfc m out k x a ts b c 0=some o∧∃e:Nat,o= .inl (e:Int)∧e≤out.length∧(∀j,j<e→vb (out.getD j []) x=true)∧(e=out.length∨vb (out.getD e []) x=false):=by
  refine da (fun(st:Int)=>∃i:Nat,i≤out.length∧st=(i:Int)∧∀j,j<i→vb (out.getD j []) x=true) (fun st=>((out.length:Int)-st).toNat) (fun(o:Int⊕(Rw×Int))=>∃e:Nat,o= .inl (e:Int)∧e≤out.length∧(∀j,j<e→vb (out.getD j []) x=true)∧(e=out.length∨vb (out.getD e []) x=false)) _ ⟨0,Nat.zero_le _,rfl,fun j h=>by omega⟩ (by show((out.length:Int)-0).toNat<many;unfold many;omega) ?_;rintro _ ⟨i,hi,rfl,hj⟩;by_cases h:i<out.length
  ·have e1:=jy4 (out.getD i []) x (hsh i) hx;cases hq:vb (out.getD i []) x with
   |true=>
    rw[hq]at e1;refine⟨.next (((i+1:Nat):Int)),?_,⟨i+1,h,rfl,fun j hj' => ?_⟩,by show((out.length:Int)-((i+1:Nat):Int)).toNat<((out.length:Int)-(i:Int)).toNat;omega⟩
    ·simp only[n5,Int.toNat_natCast,e1,au];simp(disch:=omega)only[rs];rw[ag]
    ·by_cases hji:j=i
     ·rw[hji];exact hq
     ·exact hj j (by omega)
   |false=>
    rw[hq]at e1;refine⟨.done (i:Int),?_,i,rfl,hi,hj,Or.inr hq⟩;simp only[n5,Int.toNat_natCast,e1,au];simp(disch:=omega)only[rs]
  ·refine⟨.done (i:Int),?_,i,rfl,hi,hj,Or.inl (by omega)⟩;simp(disch:=omega)only[n5,rs]
 obtain⟨_,ho,e,rfl,h1,h2,h3⟩:=hloop;exact⟨e,ho,h1,h2,h3⟩
section
variable (n : ca) (N : Nat) (hn : n.1 = (N : Int)) (hN : N ≤ 16) (hs : Small n) (hv : c6 n = true)
include hN hs
theorem jom(ts:List af)(b c:Int):qps (N:Int) ts b c (1,0)=some (.inl ((2 ^ N:Nat):Int)):=by
 refine a9 (fun i:Nat=>(((2 ^ i:Nat):Int),(i:Int))) N (aw (by omega)) _ (fun i hi=> ?_) ?_ _ rfl
 ·have hp:2 ^ i≤2 ^ 16:=Nat.pow_le_pow_right (by omega) (by omega);have e:(2:Int)*((2 ^ i:Nat):Int)=((2 ^ (i+1):Nat):Int):=by rw[Nat.pow_succ];omega
  have hp2:2 ^ (i+1)≤2 ^ 16:=Nat.pow_le_pow_right (by omega) (by omega);simp only[ui,e];generalize 2 ^ (i+1)=q at hp2;simp(disch:=omega)only[rs];rw[ag]
 ·simp(disch:=omega)only[ui,rs]
theorem jon(h12:N≤12):qfd ((2 ^ N:Nat):Int) n.1 n.2.1 n.2.2.1 n.2.2.2.1 ([],1)=some (.inl (srt (ic n N))):=by
 have h16:2 ^ N≤2 ^ 12:=Nat.pow_le_pow_right (by omega) h12;have h0:1≤2 ^ N:=Nat.one_le_two_pow;have hloop:∃o,qfd ((2 ^ N:Nat):Int) n.1 n.2.1 n.2.2.1 n.2.2.2.1 ([],1)=some o∧o= .inl (srt (ic n N)):=by
  refine da (fun(st:Rw×Int)=>∃k:Nat,1≤k∧k≤2 ^ N∧st.2=(k:Int)∧st.1.Perm ((m7 n N k).map (bq N))∧st.1.Pairwise LeL) (fun st=>(((2 ^ N:Nat):Int)-st.2).toNat) (fun(o:Rw⊕(Rw×Int))=>o= .inl (srt (ic n N))) _ ⟨1,Nat.le_refl 1,h0,rfl,by rw[qg8];exact List.Perm.refl _,List.Pairwise.nil⟩ (by show(((2 ^ N:Nat):Int)-1).toNat<many;unfold many;omega) ?_;rintro⟨out,_⟩ ⟨k,h1,hk,rfl,hp,hpw⟩;have hp:out.Perm ((m7 n N k).map (bq N)):=hp;have hpw:out.Pairwise LeL:=hpw;have hol:out.length≤k:=by
   rw[hp.length_eq,List.length_map];exact jsa n N k
  have hosh:ShR out:=by
   intro i;by_cases h:i<out.length
   ·have hm:=hp.mem_iff.1 (ao [] h);obtain⟨j,_,hj⟩:=List.mem_map.1 hm;rw[←hj];have:=qdx N j;omega
   ·rw[List.getD_eq_getElem?_getD,List.getElem?_eq_none (by omega)];show(0:Nat)≤_;omega
  by_cases hlt:k<2 ^ N
  ·have hbl:=qdx N k;have e1:=jqv N k hN hlt;have e2:n4 (n.1,n.2.1,n.2.2.1,n.2.2.2.1,()) (bq N k)=some (clo n N k):=qty (n:=n) hs.T (bq N k) (by omega);have hms:qz3 n N k=(!my n N N k&&clo n N k):=by
    unfold qz3;rw[decide_eq_true h1,Bool.true_and]
   have hfs:=qg8 n N k;have hlt' :(k:Int)<((2 ^ N:Nat):Int):=Int.ofNat_lt.2 hlt;have skip:qz3 n N k=false→(∃k' :Nat,1≤k' ∧k' ≤2 ^ N∧((k+1:Nat):Int)=(k' :Int)∧out.Perm ((m7 n N k').map (bq N))∧out.Pairwise LeL)∧(((2 ^ N:Nat):Int)-((k+1:Nat):Int)).toNat<(((2 ^ N:Nat):Int)-(k:Int)).toNat:=by
    intro hm;refine⟨⟨k+1,by omega,hlt,rfl,?_,hpw⟩,by omega⟩;rw[hfs,hm];exact hp
   cases hc:clo n N k with
   |false=>
    refine⟨.next (out,((k+1:Nat):Int)),?_,skip (by rw[hms,hc,Bool.and_false])⟩;rw[hc]at e2;simp only[j4,e1,au,e2];simp(disch:=omega)only[rs];rw[ag]
   |true=>
    rw[hc]at e2;have e3:v6 (n.1,n.2.1,n.2.2.1,n.2.2.2.1,()) (bq N k)=some (!my n N N k):=jva n N hN hs k h1 hlt hc;cases hq:my n N N k with
    |true=>
     refine⟨.next (out,((k+1:Nat):Int)),?_,skip (by rw[hms,hq];rfl)⟩;rw[hq]at e3;simp only[j4,e1,au,e2,e3];simp(disch:=omega)only[rs];rw[ag]
    |false=>
     rw[hq]at e3;obtain⟨e,e4,g1,g2,g3⟩:=j88 ((2 ^ N:Nat):Int) out (k:Int) (bq N k) n.1 n.2.2.1 n.2.2.2.1 n.2.1 (by omega) hosh (by omega);have hml:qz3 n N k=true:=by rw[hms,hq,hc];rfl
     refine⟨.next ((out.take e++[bq N k])++out.drop e,((k+1:Nat):Int)),?_,⟨k+1,by omega,hlt,rfl,?_,jcc hpw g1 g2 g3⟩,?_⟩
     ·have hl1:(out.take e).length≤k:=by rw[List.length_take];omega
      have hl2:(out.drop e).length≤k:=by rw[List.length_drop];omega
      simp only[j4,e1,au,e2,e3,e4,mo,Int.toNat_natCast,List.nil_append,List.length_append,List.length_singleton];simp(disch:=omega)only[rs];rw[ag]
     ·rw[hfs,hml,cond_true,List.map_append];exact(jng out (bq N k) e).trans (hp.append_right _)
     ·show(((2 ^ N:Nat):Int)-((k+1:Nat):Int)).toNat<(((2 ^ N:Nat):Int)-(k:Int)).toNat;omega
  ·obtain rfl:k=2 ^ N:=by omega
   refine⟨.done out,?_,?_⟩
   ·simp only[j4];rw[decide_eq_false (Int.lt_irrefl _)];rfl
   ·exact congrArg Sum.inl (jy6 hp hpw)
 obtain⟨_,ho,rfl⟩:=hloop;exact ho
include hn hv
theorem jgv(h12:N≤12):qdn n=some (srt (ic n N),0):=by
 have hlt:¬(16:Int)<n.1:=by omega
 have e1:=jom n N hN hs n.2.1 n.2.2.1 n.2.2.2.1;have e2:=jon n N hN hs h12;unfold qdn;rw[decide_eq_false hlt,cond_false];rw[hn]at e2⊢;rw[e1,au,mo,e2];rfl
end
end Go.Proofs.YtclbndfjhjladaaGreat
