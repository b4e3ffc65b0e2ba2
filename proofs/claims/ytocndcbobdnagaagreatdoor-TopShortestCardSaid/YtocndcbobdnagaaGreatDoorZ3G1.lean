/-
  A walker's closed sets.
-/
import Derived.Test.YtocndcbobdnagaaGreatDoorZ3H2
set_option linter.all false
namespace Go.Proofs.YtocndcbobdnagaaGreatDoor
open Go.K Go.M
abbrev lbl(n:bk)(t:Int):ByteArray:=(n.2.1.getD t.toNat af.z).1
structure MvOK (n : bk) (N : Nat) (x : ak) : Prop where
 a : 0 <= x.2.1
 b : x.2.1 < (N : Int)
 c : 0 <= x.2.2.1
 d : x.2.2.1 < (n.2.1.length : Int)
structure WK (n : bk) (N : Nat) (W : aw) : Prop where
 net : W.1.2.1 = n.2.1
 sp : W.2.1.1.length = N
 out : W.2.2.1.length = N
 ok : ∀ i, i < N -> ∀ x ∈ W.2.2.1.getD i [], MvOK n N x
 len : ∀ i, i < N -> (W.2.2.1.getD i []).length <= 2000
 n1 : 0 < N
 n2 : N <= 60
abbrev zr(S:List Bool)(i:Nat):Bool:=S.getD i false
abbrev row(W:aw)(i:Nat):List ak:=W.2.2.1.getD i []
def jnq(n:bk)(x:ak):Bool:=eqS (lbl n x.2.2.1) ⟨#[]⟩
def j05(n:bk)(W:aw)(S:List Bool)(i:Nat):Prop:=∀x∈row W i,jnq n x=true->zr S x.2.1.toNat=true
def Clo(n:bk)(N:Nat)(W:aw)(S:List Bool):Prop:=S.length=N/\∀i,i<N->zr S i=true->j05 n W S i
theorem jno{α:Type}(l:List α){k:Nat}(i:Nat)(v d:α)(h:k<l.length):(l.set k v).getD i d=if i=k then v else l.getD i d:=by
 rw[Wa,KY];by_cases e:i=k
 ·rw[if_pos e.symm,if_pos h,if_pos e];rfl
 ·rw[if_neg (Ko e),if_neg e,<-Wa]
theorem jfp{S:List Bool}{k i:Nat}(h:zr S i=true):zr (S.set k true) i=true:=by
 by_cases hk:k<S.length
 ·show(S.set k true).getD i false=true;rw[jno S i true false hk];split
  ·rfl
  ·exact h
 ·rw[List.set_eq_of_length_le (by omega)];exact h
def qF(S:List Bool)(v:Nat):List Int:=((List.range v).filter fun i=>zr S i).map fun(i:Nat)=>(i:Int)
theorem j3h(S:List Bool)(v:Nat):qF S (v+1)=if zr S v=true then qF S v++[(v:Int)]else qF S v:=by
 unfold qF;rw[HK,Hp];by_cases hd:zr S v=true
 ·rw[if_pos hd,jkn (p:=fun i=>zr S i) hd,Kq];rfl
 ·rw[if_neg hd,jkm (p:=fun i=>zr S i) (by simpa using hd),Kx]
theorem jzs(S:List Bool)(v:Nat):(qF S v).length<=v:=by
 unfold qF;have:=Kr (fun i=>zr S i) (List.range v);rw[Hi]at this;rw[Ww];exact this
abbrev cnt(S:List Bool):Nat:=S.count false
theorem j1t{S:List Bool}{k:Nat}(hk:k<S.length)(hf:zr S k=false):cnt (S.set k true)+1=cnt S:=by
 have h1:S[k]=false:=by rw[<-jo S k false hk];exact hf
 have h2:0<S.count false:=List.count_pos_iff.2 (by rw[<-h1];exact Hb hk);have:=List.count_set (a:=true) (b:=false) hk;rw[h1]at this;simp at this;show List.count false (S.set k true)+1=List.count false S;omega
section
variable {n : bk} {N : Nat} {W : aw} (hW : WK n N W)
include hW
theorem cl1{S0:List Bool}{Q0:List Int}{i:Nat}(hi:i<N)(hS:S0.length=N)(hb:2*cnt S0+Q0.length<=1000)(hQ:∀q∈Q0,∃k:Nat,q=(k:Int)/\k<N/\zr S0 k=true):
  ∃(S:List Bool) (r:List Int),qhu W (row W i) ((row W i).length:Int) (0,S0,Q0)=some (.inl (S,Q0++r))/\S.length=N/\(∀k,zr S0 k=true->zr S k=true)/\(∀q∈r,∃k:Nat,q=(k:Int)/\k<N/\zr S k=true)/\(∀k,zr S k=true->zr S0 k=true\/(k:Int)∈r)/\j05 n W S i/\2*cnt S+r.length<=2*cnt S0:=by
 have hlen:(row W i).length<=2000:=hW.len i hi;obtain⟨o,h1,h2⟩:=qdc (step:=fun a:Int×List Bool×List Int=>eo W (row W i) ((row W i).length:Int) a.1 a.2.1 a.2.2 (fun a' =>some (.next a')) (fun e=>some (.done e)) (fun r=>some (.ret r)))
  (fun s=>∃(v:Nat) (r:List Int),s.1=(v:Int)/\v<=(row W i).length/\s.2.2=Q0++r/\s.2.1.length=N/\(∀k,zr S0 k=true->zr s.2.1 k=true)/\(∀q∈r,∃k:Nat,q=(k:Int)/\k<N/\zr s.2.1 k=true)/\(∀k,zr s.2.1 k=true->zr S0 k=true\/(k:Int)∈r)/\(∀k,k<v->jnq n ((row W i).getD k ak.z)=true->zr s.2.1 ((row W i).getD k ak.z).2.1.toNat=true)/\2*cnt s.2.1+r.length<=2*cnt S0)
  (fun s=>(row W i).length-s.1.toNat)
  (fun o=>∃(S:List Bool) (r:List Int),o= .inl (S,Q0++r)/\S.length=N/\(∀k,zr S0 k=true->zr S k=true)/\(∀q∈r,∃k:Nat,q=(k:Int)/\k<N/\zr S k=true)/\(∀k,zr S k=true->zr S0 k=true\/(k:Int)∈r)/\j05 n W S i/\2*cnt S+r.length<=2*cnt S0)
  (0,S0,Q0) ⟨0,[],rfl,W7 _,(Kx _).symm,hS,fun _ h=>h,(fun q hq=>by cases hq),fun _ h=> .inl h,fun k hk=>by omega,Wg _⟩ (bm (by show _-0<=_;omega)) fun s hs=>by
   obtain⟨s1,S,Q⟩:=s;obtain⟨v,r,e1,hv,e2,hl,hm,hr,hn,hc,hb2⟩:=hs;obtain rfl:s1=(v:Int):=e1;obtain rfl:Q=Q0++r:=e2;have hl:S.length=N:=hl;have hb2:2*cnt S+r.length<=2*cnt S0:=hb2;have hql:(Q0++r).length=Q0.length+r.length:=Wx;have hi1:ix 0 1=true:=rfl;by_cases hlt:v<(row W i).length
   ·have hx:=hW.ok i hi _ (ay ak.z hlt);have hlb:(ByteArray.toList (W.1.2.1.getD ((row W i).getD v ak.z).2.2.1.toNat af.z).1==ByteArray.toList ⟨#[]⟩)=jnq n ((row W i).getD v ak.z):=by rw[hW.net];rfl
    have hnl:W.1.2.1.length=n.2.1.length:=by rw[hW.net]
    generalize hxe:(row W i).getD v ak.z=x at hx hlb;obtain⟨xa,xb,xc,xd⟩:=hx;cases hs:jnq n x with
    |false=>
     rw[hs]at hlb;refine⟨.next (((v+1:Nat):Int),S,Q0++r),?_,⟨v+1,r,rfl,hlt,rfl,hl,hm,hr,hn,fun k hk hsk=> ?_,hb2⟩,by show _-(v+1)<_-v;omega⟩
     ·simp(disch:=omega)only[eo,hxe,hi1,hnl,zx,am,rs];exact qgo hlb _ _
     ·by_cases e:k=v
      ·rw[e,hxe,hs]at hsk;cases hsk
      ·exact hc k (by omega) hsk
    |true=>
     rw[hs]at hlb;cases ho:zr S x.2.1.toNat with
     |true=>
      have ho' :S.getD x.2.1.toNat false=true:=ho;refine⟨.next (((v+1:Nat):Int),S,Q0++r),?_,⟨v+1,r,rfl,hlt,rfl,hl,hm,hr,hn,fun k hk hsk=> ?_,hb2⟩,by show _-(v+1)<_-v;omega⟩
      ·simp(disch:=omega)only[eo,hxe,hi1,hnl,zx,hl,ho',Wv,am,rs];exact tw hlb _ _
      ·by_cases e:k=v
       ·rw[e,hxe];exact ho
       ·exact hc k (by omega) hsk
     |false=>
      have ho' :S.getD x.2.1.toNat false=false:=ho;have hk:x.2.1.toNat<S.length:=by omega
      have hcs:=j1t hk ho;have hxn:((x.2.1.toNat:Nat):Int)=x.2.1:=by omega
      have hon:zr (S.set x.2.1.toNat true) x.2.1.toNat=true:=by
       show(S.set x.2.1.toNat true).getD x.2.1.toNat false=true;rw[jno S _ true false hk,if_pos rfl]
      refine⟨.next (((v+1:Nat):Int),S.set x.2.1.toNat true,Q0++(r++[x.2.1])),?_,⟨v+1,r++[x.2.1],rfl,hlt,rfl,by show(S.set _ _).length=N;rw[WB];exact hl,fun k h=>jfp (hm k h),fun q hq=> ?_,fun k h=> ?_,fun k hk' hsk=> ?_,?_⟩,by show _-(v+1)<_-v;omega⟩
      ·simp(disch:=omega)only[eo,hxe,hi1,hnl,zx,hl,hql,ho',WP,am,rs];rw[HE];exact tw hlb _ _
      ·rcases WS.1 hq with hq|hq
       ·obtain⟨k,k1,k2,k3⟩:=hr q hq;exact⟨k,k1,k2,jfp k3⟩
       ·rw[Wm.1 hq];exact⟨x.2.1.toNat,hxn.symm,by omega,hon⟩
      ·have h:(S.set x.2.1.toNat true).getD k false=true:=h;rw[jno S k true false hk]at h;by_cases e:k=x.2.1.toNat
       ·exact .inr (WS.2 (.inr (Wm.2 (by omega))))
       ·rw[if_neg e]at h;exact(hn k h).imp id fun h=>WS.2 (.inl h)
      ·by_cases e:k=v
       ·rw[e,hxe];exact hon
       ·exact jfp (hc k (by omega) hsk)
      ·rw[Wx,Ks];show 2*cnt (S.set x.2.1.toNat true)+(r.length+1)<=_;omega
   ·refine⟨.done (S,Q0++r),?_,S,r,rfl,hl,hm,hr,hn,fun x hx hsx=> ?_,hb2⟩
    ·simp(disch:=omega)only[eo,rs]
    ·obtain⟨k,hk,rfl⟩:=kq ak.z hx;exact hc k (by omega) hsx
 obtain⟨S,r,rfl,h3⟩:=h2;exact⟨S,r,h1,h3⟩
theorem jm7{S0:List Bool}(hS:S0.length=N):∃S,n7 W S0=some S/\(∀k,zr S0 k=true->zr S k=true)/\Clo n N W S:=by
 have hN:=hW.n2;have hc0:cnt S0<=N:=by rw[<-hS];exact List.count_le_length
 have hql:=jzs S0 N;have hL0:qht W (S0.length:Int) S0 (0,[])=some (.inl (qF S0 N)):=by
  rw[<-hS];refine jp (fun v:Nat=>((v:Int),qF S0 v)) S0.length (bm (by omega)) _ (fun v hv=> ?_) ?_ _ rfl
  ·have hl:=jzs S0 v;rw[j3h];cases hd:zr S0 v with
   |true=>
    rw[if_pos rfl];have hd:S0.getD v false=true:=hd;simp(disch:=omega)only[j4,hd,am,rs]
   |false=>
    rw[if_neg (by decide)];have hd:S0.getD v false=false:=hd;simp(disch:=omega)only[j4,hd,am,rs]
  ·simp(disch:=omega)only[j4,rs]
 suffices hh:∃o,qhv W (S0,qF S0 N)=some o/\∃S,o= .inl S/\(∀k,zr S0 k=true->zr S k=true)/\Clo n N W S by
  obtain⟨o,h1,S,rfl,h3⟩:=hh;refine⟨S,?_,h3⟩;unfold n7;simp(disch:=omega)only[hL0,h1,rs]
 refine qdc (step:=fun a:List Bool×List Int=>og W a.1 a.2 (fun a' =>some (.next a')) (fun e=>some (.done e)) (fun r=>some (.ret r)))
  (fun s=>s.1.length=N/\(∀k,zr S0 k=true->zr s.1 k=true)/\(∀q∈s.2,∃k:Nat,q=(k:Int)/\k<N/\zr s.1 k=true)/\(∀k,k<N->zr s.1 k=true->(k:Int)∈s.2\/j05 n W s.1 k)/\2*cnt s.1+s.2.length<=1000)
  (fun s=>2*cnt s.1+s.2.length) (fun o=>∃S,o= .inl S/\(∀k,zr S0 k=true->zr S k=true)/\Clo n N W S) (S0,qF S0 N) ⟨hS,fun _ h=>h,fun q hq=> ?_,fun k hk hk2=> .inl ?_,by show 2*cnt S0+(qF S0 N).length<=1000;omega⟩ (bm (by show 2*cnt S0+(qF S0 N).length<=_;omega)) fun s hs=> ?_
 ·obtain⟨k,hk,rfl⟩:=WG.1 hq;have:=Kf.1 hk;exact⟨k,rfl,Kk.1 this.1,this.2⟩
 ·exact WG.2 ⟨k,Kf.2 ⟨Kk.2 hk,hk2⟩,rfl⟩
 ·obtain⟨S,Q⟩:=s;obtain⟨g1,g2,g3,g4,g5⟩:=hs;have g1:S.length=N:=g1;have g5:2*cnt S+Q.length<=1000:=g5;cases Q with
  |nil=>
   refine⟨.done S,rfl,S,rfl,g2,g1,fun i hi ho=>(g4 i hi ho).resolve_left (fun h=>by cases h)⟩
  |cons q Q=>
   obtain⟨k,rfl,hk,hko⟩:=g3 q Wf;obtain⟨S',r,f1,f2,f3,f4,f5,f6,f7⟩:=cl1 hW hk g1 g5 g3;have f7:2*cnt S' +r.length<=2*cnt S:=f7;have hi1:ix 0 1=true:=rfl;have e0:((k:Int)::Q).getD 0 0=(k:Int):=rfl;have hou:=hW.out;have hl:((k:Int)::Q).length=Q.length+1:=rfl;have hl2:((k:Int)::Q++r).length=Q.length+1+r.length:=by rw[Wx,hl]
   have hd:((k:Int)::Q++r).drop 1=Q++r:=rfl;have ht:(Q++r).take (Q.length+1+r.length-1)=Q++r:=List.take_of_length_le (by rw[Wx];omega);have hcb:2*cnt S+(Q.length+1)<=1000:=g5;refine⟨.next (S',Q++r),?_,⟨f2,fun i hi=>f3 i (g2 i hi),fun q hq=> ?_,fun i hi ho=> ?_,?_⟩,?_⟩
   ·simp(disch:=omega)only[og,e0,hi1,hou,hl,zx,f1,hl2,hd,ht,rs]
   ·rcases WS.1 hq with hq|hq
    ·obtain⟨i,i1,i2,i3⟩:=g3 q (We _ hq);exact⟨i,i1,i2,f3 i i3⟩
    ·exact f4 q hq
   ·rcases f5 i ho with h|h
    ·rcases g4 i hi h with h|h
     ·rcases Wr.1 h with h|h
      ·obtain rfl:i=k:=by omega
       exact .inr f6
      ·exact .inl (WS.2 (.inl h))
     ·exact .inr fun x hx hs=>f3 _ (h x hx hs)
    ·exact .inl (WS.2 (.inr h))
   ·show 2*cnt S' +(Q++r).length<=1000;rw[Wx];omega
   ·show 2*cnt S' +(Q++r).length<2*cnt S+(Q.length+1);rw[Wx];omega
end
end Go.Proofs.YtocndcbobdnagaaGreatDoor
