/-
  The heap of entries: Pop gives a least one, Push puts one in.
-/
import Derived.Test.YtocndcbobdnagaaGreatDoorZ3A1
set_option linter.all false
namespace Go.Proofs.YtocndcbobdnagaaGreatDoor
open Go.K Go.M
def kc(q:List ab)(i:Nat):Int:=(q.getD i ab.z).1
def sw(q:List ab)(i j:Nat):List ab:=(q.set i (q.getD j ab.z)).set j (q.getD i ab.z)
theorem jf6(q:List ab)(i j:Nat):(sw q i j).length=q.length:=by simp[sw]
theorem jrt{q:List ab}{i j:Nat}(hi:i<q.length)(hj:j<q.length)(x:Nat):(sw q i j).getD x ab.z=if x=j then q.getD i ab.z else if x=i then q.getD j ab.z else q.getD x ab.z:=by
 unfold sw;rw[Wa,KY];by_cases h1:x=j
 ·subst h1;rw[if_pos rfl,if_pos (by rw[WB];exact hj),if_pos rfl];rfl
 ·rw[if_neg (Ko h1),if_neg h1,KY];by_cases h2:x=i
  ·subst h2;rw[if_pos rfl,if_pos hi,if_pos rfl];rfl
  ·rw[if_neg (Ko h2),if_neg h2,<-Wa]
theorem j0n{q:List ab}{i j:Nat}(hi:i<q.length)(hj:j<q.length)(x:Nat):kc (sw q i j) x=if x=j then kc q i else if x=i then kc q j else kc q x:=by
 unfold kc;rw[jrt hi hj];split
 ·rfl
 ·split<;>rfl
theorem jl7{q:List ab}{i j:Nat}(hi:i<q.length)(hj:j<q.length):(sw q i j).Perm q:=by
 unfold sw;rw[jo q i _ hi,jo q j _ hj];exact List.set_set_perm hi hj
theorem jb1{q:List ab}{i j:Nat}(hi:i<q.length)(hj:j<q.length):fj (i:Int) (j:Int) q=some (sw q i j):=by
 have h1:(q.set i (q.getD j ab.z)).length=q.length:=WB;unfold fj;simp(disch:=omega)only[WN,h1,rs];rfl
theorem jb0{q:List ab}{i j:Nat}(hi:i<q.length)(hj:j<q.length):gq q (i:Int) (j:Int)=some (decide (kc q i<kc q j)):=by
 unfold gq;simp(disch:=omega)only[WN,rs];rfl
def HP(q:List ab)(n:Nat):Prop:=∀i,0<i->i<n->kc q ((i-1)/2)<=kc q i
theorem HP.min{q:List ab}{n:Nat}(h:HP q n):∀i,i<n->kc q 0<=kc q i:=fun i=>by
 induction i using Nat.strongRecOn with
 |_ i ih=>
  intro hi;by_cases h0:i=0
  ·rw[h0];exact Kc _
  ·exact Ho (ih ((i-1)/2) (by omega) (by omega)) (h i (by omega) hi)
structure DnI (q : List ab) (n k : Nat) : Prop where
 a : ∀ i, 0 < i -> i < n -> (i - 1) / 2 ≠ k -> kc q ((i - 1) / 2) <= kc q i
 b : ∀ i, 0 < i -> i < n -> (i - 1) / 2 = k -> 0 < k -> kc q ((k - 1) / 2) <= kc q i
theorem j13{q:List ab}{n k j:Nat}(hD:DnI q n k)(hj:j<n)(hn:n<=q.length)(h0:0<j)(hjk:(j-1)/2=k)(hmin:∀i,0<i->i<n->(i-1)/2=k->kc q j<=kc q i)(hlt:kc q j<kc q k):DnI (sw q k j) n j:=by
 have hkj:k≠j:=by omega
 have A:=fun x=>j0n (q:=q) (i:=k) (j:=j) (by omega) (by omega) x
 refine⟨fun i i0 hi hp=> ?_,fun i i0 hi hp _=> ?_⟩
 ·rw[A i,A ((i-1)/2),if_neg hp];by_cases e1:i=j
  ·subst e1;rw[if_pos rfl,hjk,if_pos rfl];omega
  ·rw[if_neg e1];by_cases e2:i=k
   ·subst e2;rw[if_pos rfl,if_neg (by omega)];exact hD.b j h0 hj hjk i0
   ·rw[if_neg e2];by_cases e3:(i-1)/2=k
    ·rw[if_pos e3];exact hmin i i0 hi e3
    ·rw[if_neg e3];exact hD.a i i0 hi e3
 ·have:=hD.a i i0 hi (by omega);rw[hp]at this;rw[hjk,A k,A i,if_neg hkj,if_pos rfl,if_neg (by omega),if_neg (by omega)];exact this
abbrev dnS(n:Int)(a:Int×List ab):Option (LR (Int×List ab) (Int×List ab) (Bool×List ab)):=
 cf 0 n a.1 a.2 (fun a' =>some (.next a')) (fun e=>some (.done e)) (fun r=>some (.ret r))
theorem j14{n:Nat}(hn:n<=1000000):∀(f k:Nat) (q:List ab),n<=k+f->k<=n->n<=q.length->DnI q n k->
  ∃(k' :Int) (q' :List ab),xh (dnS (n:Int)) (f+1) ((k:Int),q)=some (.inl (k',q'))/\q'.Perm q/\HP q' n/\∀x,n<=x->q'.getD x ab.z=q.getD x ab.z:=by
 intro f
 induction f with
 |zero=>
  intro k q h1 h2 h3 hD;refine⟨(k:Int),q,?_,Kl _,fun i i0 hi=>hD.a i i0 hi (by omega),fun _ _=>rfl⟩;rw[ce];simp(disch:=omega)only[dnS,cf,rs];rfl
 |succ f ih=>
  intro k q h1 h2 h3 hD;rw[ce];have fin:(∀i,0<i->i<n->(i-1)/2=k->kc q k<=kc q i)->HP q n:=fun hm i i0 hi=>by
   by_cases e:(i-1)/2=k
   ·rw[e];exact hm i i0 hi e
   ·exact hD.a i i0 hi e
  have go:∀j:Nat,0<j->j<n->(j-1)/2=k->(∀i,0<i->i<n->(i-1)/2=k->kc q j<=kc q i)->kc q j<kc q k->(sw q k j).length=q.length/\∃(k' :Int) (q' :List ab),xh (dnS (n:Int)) (f+1) ((j:Int),sw q k j)=some (.inl (k',q'))/\q'.Perm q/\HP q' n/\∀x,n<=x->q'.getD x ab.z=q.getD x ab.z:=fun j j0 hj hjk hm hlt=>by
   have hl:=jf6 q k j;obtain⟨k',q',e1,e2,e3,e4⟩:=ih j (sw q k j) (by omega) (by omega) (by omega) (j13 hD hj h3 j0 hjk hm hlt);refine⟨hl,k',q',e1,e2.trans (jl7 (by omega) (by omega)),e3,fun x hx=> ?_⟩;rw[e4 x hx,jrt (by omega) (by omega),if_neg (by omega),if_neg (by omega)]
  have c1:(2:Int)*(k:Int)+1=((2*k+1:Nat):Int):=by omega
  have c2:((2*k+1:Nat):Int)+1=((2*k+2:Nat):Int):=by omega
  by_cases h4:n<=2*k+1
  ·refine⟨(k:Int),q,?_,Kl _,fin fun i i0 hi e=>by omega,fun _ _=>rfl⟩;simp(disch:=omega)only[dnS,cf,rs];rfl
  ·have L2:=jb0 (q:=q) (i:=2*k+1) (j:=k) (by omega) (by omega);have S2:=jb1 (q:=q) (i:=k) (j:=2*k+1) (by omega) (by omega);by_cases h5:2*k+2<n
   ·have L1:=jb0 (q:=q) (i:=2*k+2) (j:=2*k+1) (by omega) (by omega);have L3:=jb0 (q:=q) (i:=2*k+2) (j:=k) (by omega) (by omega);have S3:=jb1 (q:=q) (i:=k) (j:=2*k+2) (by omega) (by omega);by_cases h6:kc q (2*k+2)<kc q (2*k+1)
    ·rw[Ws h6]at L1;by_cases h7:kc q (2*k+2)<kc q k
     ·rw[Ws h7]at L3;obtain⟨hl,k',q',e1,e2⟩:=go (2*k+2) (by omega) h5 (by omega) (fun i i0 hi e=>by
       have:i=2*k+1\/i=2*k+2:=by omega
       rcases this with rfl|rfl<;>omega) h7
      refine⟨k',q',?_,e2⟩;simp(disch:=omega)only[dnS,cf,c1,c2,L1,L3,S3,hl,Wv,rs];exact e1
     ·rw[WD h7]at L3;refine⟨(k:Int),q,?_,Kl _,fin fun i i0 hi e=> ?_,fun _ _=>rfl⟩
      ·simp(disch:=omega)only[dnS,cf,c1,c2,L1,L3,WP,rs];rfl
      ·have:i=2*k+1\/i=2*k+2:=by omega
       rcases this with rfl|rfl<;>omega
    ·rw[WD h6]at L1;by_cases h7:kc q (2*k+1)<kc q k
     ·rw[Ws h7]at L2;obtain⟨hl,k',q',e1,e2⟩:=go (2*k+1) (by omega) (by omega) (by omega) (fun i i0 hi e=>by
       have:i=2*k+1\/i=2*k+2:=by omega
       rcases this with rfl|rfl<;>omega) h7
      refine⟨k',q',?_,e2⟩;simp(disch:=omega)only[dnS,cf,c1,c2,L1,L2,S2,hl,Wv,rs];exact e1
     ·rw[WD h7]at L2;refine⟨(k:Int),q,?_,Kl _,fin fun i i0 hi e=> ?_,fun _ _=>rfl⟩
      ·simp(disch:=omega)only[dnS,cf,c1,c2,L1,L2,WP,rs];rfl
      ·have:i=2*k+1\/i=2*k+2:=by omega
       rcases this with rfl|rfl<;>omega
   ·by_cases h7:kc q (2*k+1)<kc q k
    ·rw[Ws h7]at L2;obtain⟨hl,k',q',e1,e2⟩:=go (2*k+1) (by omega) (by omega) (by omega) (fun i i0 hi e=>by
      have:i=2*k+1:=by omega
      rw[this];exact Kc _) h7
     refine⟨k',q',?_,e2⟩;simp(disch:=omega)only[dnS,cf,c1,c2,L2,S2,hl,Wv,rs];exact e1
    ·rw[WD h7]at L2;refine⟨(k:Int),q,?_,Kl _,fin fun i i0 hi e=> ?_,fun _ _=>rfl⟩
     ·simp(disch:=omega)only[dnS,cf,c1,c2,L2,WP,rs];rfl
     ·have:i=2*k+1:=by omega
      rw[this];omega
theorem j62{q:List ab}(h0:0<q.length)(hl:q.length<=1000000)(hq:HP q q.length):∃q',yd q=some ((q.getD 0 ab.z).1,(q.getD 0 ab.z).2.1,q')/\HP q' q'.length/\q.Perm (q.getD 0 ab.z::q'):=by
 obtain⟨n,hn⟩:∃n,q.length=n+1:=⟨q.length-1,by omega⟩;have S:=jb1 (q:=q) (i:=0) (j:=n) (by omega) (by omega);have sl:=jf6 q 0 n;have A:=jrt (q:=q) (i:=0) (j:=n) (by omega) (by omega);have B:=j0n (q:=q) (i:=0) (j:=n) (by omega) (by omega);obtain⟨k',q',e1,e2,e3,e4⟩:=j14 (n:=n) (by omega) n 0 (sw q 0 n) (by omega) (by omega) (by omega) ⟨fun i i0 hi e=>by
  rw[B i,B ((i-1)/2),if_neg (by omega),if_neg e,if_neg (by omega),if_neg (by omega)];exact hq i i0 (by omega),fun i _ _ _ h=>by omega⟩
 have hl' :q'.length=n+1:=by rw[e2.length_eq,sl,hn]
 have hd:wi 0 (n:Int) (sw q 0 n)=some (decide ((0:Int)<k'),q'):=by
  unfold wi;rw[show qio 0 (n:Int) (0,sw q 0 n)=some (.inl (k',q'))from t8 e1 (bm (by omega))];rfl
 have ht:q' =q'.take n++[q.getD 0 ab.z]:=by
  have h1:=cw q' n ab.z (by omega);rw[<-hl',WW,e4 n (Wg _),A n,if_pos rfl]at h1;exact h1
 have hg:=e4 n (Wg _);rw[A n,if_pos rfl]at hg;refine⟨q'.take n,?_,fun i i0 hi=> ?_,?_⟩
 ·have c1:((n+1:Nat):Int)-1=(n:Int):=by omega
  unfold yd ea qh2;rw[df,hn,c1];have S:fj 0 (n:Int) q=some (sw q 0 n):=S;simp(disch:=omega)only[S,sl,hn,hd,hl',c1,WN,hg,K3,Nat.sub_zero,rs];rfl
 ·have hlt:(q'.take n).length=n:=by rw[Kg];omega
  rw[hlt]at hi;have key:∀x,x<n->kc (q'.take n) x=kc q' x:=fun x hx=>by
   unfold kc;rw[Wa,List.getElem?_take_of_lt hx,<-Wa]
  rw[key i hi,key _ (by omega)];exact e3 i i0 hi
 ·have h1:q'.Perm q:=e2.trans (jl7 (by omega) (by omega));rw[ht]at h1;exact h1.symm.trans (List.perm_append_comm)
structure UpI (q : List ab) (j : Nat) : Prop where
 a : ∀ i, 0 < i -> i < q.length -> i ≠ j -> kc q ((i - 1) / 2) <= kc q i
 b : ∀ i, 0 < i -> i < q.length -> (i - 1) / 2 = j -> 0 < j -> kc q ((j - 1) / 2) <= kc q i
theorem j35{q:List ab}{j:Nat}(hU:UpI q j)(hj:j<q.length)(h0:0<j)(hlt:kc q j<kc q ((j-1)/2)):UpI (sw q ((j-1)/2) j) ((j-1)/2):=by
 have A:=fun x=>j0n (q:=q) (i:=(j-1)/2) (j:=j) (by omega) (by omega) x
 refine⟨fun i i0 hi hp=> ?_,fun i i0 hi hp p0=> ?_⟩
 ·rw[jf6]at hi;rw[A i,A ((i-1)/2)];by_cases e1:i=j
  ·subst e1;rw[if_pos rfl,if_neg (by omega),if_pos rfl];omega
  ·rw[if_neg e1,if_neg hp];have h1:=hU.a i i0 hi e1;by_cases e2:(i-1)/2=j
   ·rw[if_pos e2];exact hU.b i i0 hi e2 h0
   ·rw[if_neg e2];by_cases e3:(i-1)/2=(j-1)/2
    ·rw[if_pos e3];rw[e3]at h1;omega
    ·rw[if_neg e3];exact h1
 ·rw[jf6]at hi;have h1:=hU.a ((j-1)/2) p0 (by omega) (by omega);rw[A i,A (((j-1)/2-1)/2),if_neg (show((j-1)/2-1)/2≠j by omega),if_neg (show((j-1)/2-1)/2≠(j-1)/2 by omega)];by_cases e1:i=j
  ·rw[if_pos e1];exact h1
  ·rw[if_neg e1,if_neg (by omega)];have h2:=hU.a i i0 hi e1;rw[hp]at h2;omega
abbrev upS(a:Int×List ab):Option (LR (Int×List ab) (List ab) (List ab)):=
 nr a.1 a.2 (fun a' =>some (.next a')) (fun e=>some (.done e)) (fun r=>some (.ret r))
theorem zec:∀(f j:Nat) (q:List ab),j<=f->j<q.length->q.length<=1000000->UpI q j->
  ∃q' :List ab,xh upS (f+1) ((j:Int),q)=some (.inl q')/\q'.Perm q/\HP q' q'.length:=by
 intro f
 induction f with
 |zero=>
  intro j q h1 h2 h3 hU;obtain rfl:j=0:=by omega
  exact⟨q,rfl,Kl _,fun i i0 hi=>hU.a i i0 hi (by omega)⟩
 |succ f ih=>
  intro j q h1 h2 h3 hU;rw[ce];cases j with
  |zero=>exact⟨q,rfl,Kl _,fun i i0 hi=>hU.a i i0 hi (by omega)⟩
  |succ j=>
   have c1:((j+1:Nat):Int)-1=(j:Int):=by omega
   have c2:Int.tdiv (j:Int) 2=((j/2:Nat):Int):=rfl;have c3:(j+1-1)/2=j/2:=rfl;have c4:decide (((j/2:Nat):Int)=((j+1:Nat):Int))=false:=WD (by omega);have L:=jb0 (q:=q) (i:=j+1) (j:=j/2) h2 (by omega);by_cases h4:kc q (j+1)<kc q (j/2)
   ·rw[Ws h4]at L;have S:=jb1 (q:=q) (i:=j/2) (j:=j+1) (by omega) h2;have hl:=jf6 q (j/2) (j+1);obtain⟨q',e1,e2,e3⟩:=ih (j/2) (sw q (j/2) (j+1)) (by omega) (by omega) (by omega) (j35 hU h2 (by omega) h4);refine⟨q',?_,e2.trans (jl7 (by omega) h2),e3⟩;simp(disch:=omega)only[upS,nr,c1,c2,c4,L,S,hl,Wv,rs];exact e1
   ·rw[WD h4]at L;refine⟨q,?_,Kl _,fun i i0 hi=> ?_⟩
    ·simp(disch:=omega)only[upS,nr,c1,c2,c4,L,WP,rs];rfl
    ·by_cases e:i=j+1
     ·rw[e,c3];omega
     ·exact hU.a i i0 hi e
theorem jr2{q:List ab}(c s:Int)(hl:q.length<=100000)(hq:HP q q.length):∃q',d6 c s q=some q' /\HP q' q'.length/\q'.Perm (q++[(c,s,())]):=by
 have hla:(q++[((c,s,()):ab)]).length=q.length+1:=by simp
 have key:∀x,x<q.length->kc (q++[((c,s,()):ab)]) x=kc q x:=fun x hx=>by
  unfold kc;rw[Wa,Wo hx,<-Wa]
 obtain⟨q',e1,e2,e3⟩:=zec q.length q.length (q++[(c,s,())]) (Wg _) (by omega) (by omega) ⟨fun i i0 hi hne=>by
  rw[hla]at hi;rw[key i (by omega),key _ (by omega)];exact hq i i0 (by omega),fun i i0 hi e _=>by omega⟩
 have hl' :=e2.length_eq;refine⟨q',?_,e3,e2⟩;have hu:qa2 (q.length:Int) (q++[(c,s,())])=some q' :=by
  unfold qa2;rw[show qmn ((q.length:Int),q++[(c,s,())])=some (.inl q')from t8 e1 (bm (by omega))];rfl
 have c1:((q.length+1:Nat):Int)-1=(q.length:Int):=by omega
 unfold d6 p9 ea;simp(disch:=omega)only[hla,c1,hu,hl',rs];rfl
end Go.Proofs.YtocndcbobdnagaaGreatDoor
