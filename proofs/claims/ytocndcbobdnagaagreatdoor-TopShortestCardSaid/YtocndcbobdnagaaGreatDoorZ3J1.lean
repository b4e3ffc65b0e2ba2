/-
  The law: predictions and alignments agree.
-/
import Derived.Test.YtocndcbobdnagaaGreatDoorZ3H5
import Derived.Test.YtocndcbobdnagaaGreatDoorZ3G3
import Derived.Test.YtocndcbobdnagaaGreatDoorZ3W1
set_option linter.all false
namespace Go.Proofs.YtocndcbobdnagaaGreatDoor
open Go.K Go.M
theorem j7q(n:bk):∃b,qjq n=some b/\(b=true->n.1<=12/\n.2.1.length<=14/\∀t∈n.2.1,t.2.1.length<=20/\t.2.2.1.length<=20):=by
 unfold qjq;by_cases h1:n.1<=12
 ·by_cases h2:n.2.1.length<=14
  ·let q:af->Bool:=fun t=>decide ((20:Int)<(t.2.1.length:Int))||(decide ((20:Int)<(t.2.2.1.length:Int))||decide ((100:Int)<(ByteArray.size t.1:Int)))
   have hq:∀t,qea t=some (q t):=fun t=>by
    show _=some (decide ((20:Int)<(t.2.1.length:Int))||(decide ((20:Int)<(t.2.2.1.length:Int))||decide ((100:Int)<(ByteArray.size t.1:Int))));unfold qea;cases decide ((20:Int)<(t.2.1.length:Int))<;>cases decide ((20:Int)<(t.2.2.1.length:Int))<;>rfl
   have hL:jj n.2.1 (n.2.1.length:Int) 0=some (jqi (fun i=>(i:Int)) (pc q n.2.1)):=by
    refine qju n.2.1 af.z q (fun i=>(i:Int)) (by omega) (fun i hi=> ?_) ?_
    ·simp(disch:=omega)only[cq,hq,rs];rw[am];cases q (n.2.1.getD i af.z)<;>rfl
    ·simp(disch:=omega)only[cq,rs]
   have hC:cp n.2.1=some (n.2.1.any q):=by
    unfold cp ey;rw[hL,df,q36,df,jb8]
   rw[jj4 h1,jj4 (by omega),hC,df];refine⟨_,rfl,fun h=>⟨h1,h2,fun t ht=> ?_⟩⟩;have h3:n.2.1.any q=false:=by simpa using h
   have h4:=KW.1 h3 t ht;rw[Bool.not_eq_true,KS,KS,K5,K5]at h4;omega
  ·exact⟨false,by rw[jj4 h1,jj6 (by omega)],fun h=>absurd h (by decide)⟩
 ·exact⟨false,by rw[jj6 (by omega)],fun h=>absurd h (by decide)⟩
def mvL(n:bk)(t:Nat):aq:=(bif eqS (lab n t) ⟨#[]⟩then 4 else 3,(t:Int),lab n t,())
theorem zac(n:bk)(t:Nat):IsMv n t (mvL n t):=⟨rfl,rfl,jdf _⟩
theorem Rn.lt{n:bk}:∀{l:List Nat} {a b:List Int},Rn n l a b->∀t∈l,t<n.2.1.length
 |[],_,_,_,t,ht=>by cases ht
 |u::l,_,_,⟨h1,_,h3⟩,t,ht=>by
  rcases Wr.1 ht with rfl|ht
  ·exact h1
  ·exact Rn.lt h3 t ht
theorem j0r{n:bk}(hT:n.2.1.length<=14)(m:List Int)(a b:Int)(c:Bool)(x y z:Int):qna m (n.2.1.length:Int) n.1 n.2.1 n.2.2.1 n.2.2.2.1 a b c x y z (0,List.replicate n.2.1.length ag.z)=some (.inl (qiq n.2.1.length)):=by
 have e0:List.replicate n.2.1.length ag.z=bv n.2.1.length fun i=>if i<0 then((1,1,false,()):ag)else ag.z:=by
  rw[qsf];exact qcu fun v _=>(if_neg (Nat.not_lt_zero v)).symm
 have e1:qiq n.2.1.length=bv n.2.1.length fun i=>if i<n.2.1.length then((1,1,false,()):ag)else ag.z:=by
  unfold qiq;rw[qsf];exact qcu fun v hv=>(if_pos hv).symm
 rw[e0,e1];refine jp (fun k:Nat=>((k:Int),bv n.2.1.length fun i=>if i<k then((1,1,false,()):ag)else ag.z)) n.2.1.length (bm (by omega)) _ (fun k hk=> ?_) ?_ _ rfl
 ·have hl:(bv n.2.1.length fun i=>if i<k then((1,1,false,()):ag)else ag.z).length=n.2.1.length:=qyv _ _;have hs:(bv n.2.1.length fun i=>if i<k then((1,1,false,()):ag)else ag.z).set k (1,1,false,())=bv n.2.1.length fun i=>if i<k+1 then((1,1,false,()):ag)else ag.z:=by
   rw[qyw];refine qcu fun v _=> ?_
   by_cases e:v=k
   ·rw[if_pos e,if_pos (by omega)]
   ·rw[if_neg e];by_cases e2:v<k
    ·rw[if_pos e2,if_pos (by omega)]
    ·rw[if_neg e2,if_neg (by omega)]
  rw[<-hs];simp(disch:=omega)only[ul,hl,am,rs]
 ·simp(disch:=omega)only[ul,rs]
theorem jzb{n:bk}{l:List Nat}(hlt:∀t∈l,t<n.2.1.length)(h60:l.length<=60)(w:List ByteArray):qnb (l.map fun(t:Nat)=>(t:Int)) w (l.map fun(t:Nat)=>(t:Int)) (l.length:Int) n.1 n.2.1 n.2.2.1 n.2.2.2.1 1 1 1 (0,[])=some (.inl (l.map (mvL n))):=by
 have hlm:(l.map fun(t:Nat)=>(t:Int)).length=l.length:=Ww _;have e:l.map (mvL n)=(l.take l.length).map (mvL n):=by rw[WW]
 rw[e];refine jp (fun k:Nat=>((k:Int),(l.take k).map (mvL n))) l.length (bm (by omega)) _ (fun k hk=> ?_) ?_ _ rfl
 ·have hg:(l.map fun(t:Nat)=>(t:Int)).getD k 0=((l.getD k 0:Nat):Int):=la _ _ _ _ _ hk;have ht:=hlt _ (ay 0 hk);have htk:((l.take k).map (mvL n)).length<=60:=by rw[Ww,Kg];omega
  rw[cw l k 0 hk,Kq,Kd,KH];generalize l.getD k 0=t at hg ht;have hlb:(ByteArray.toList (n.2.1.getD t af.z).1==ByteArray.toList ⟨#[]⟩)=eqS (lab n t) ⟨#[]⟩:=rfl;have hmv:mvL n t=(bif eqS (lab n t) ⟨#[]⟩then 4 else 3,(t:Int),lab n t,()):=rfl;rw[hmv];cases hs:eqS (lab n t) ⟨#[]⟩with
  |true=>
   rw[hs]at hlb;simp(disch:=omega)only[n8,hg,hlm,tw hlb,am,rs];rfl
  |false=>
   rw[hs]at hlb;simp(disch:=omega)only[n8,hg,hlm,qgo hlb,am,rs];rfl
 ·simp(disch:=omega)only[n8,hlm,rs]
theorem jy1(n:bk):qif n=some true:=by
 obtain⟨b0,hb0,hfew⟩:=j7q n;unfold qif;rw[show qlm=some true from rfl,df,jb3,qyb,hb0,df];cases b0 with
 |false=>rfl
 |true=>
  obtain⟨hn1,hn2,hn3⟩:=hfew rfl;rw[jb3,qyb];have h:Small n:=⟨by omega,fun t ht=>by have:=hn3 t ht;omega,fun t ht=>by have:=hn3 t ht;omega⟩;obtain⟨bw,hbw,hv⟩:=jx8 h;rw[hbw,df];cases bw with
  |false=>rfl
  |true=>
   have hv:=hv rfl;have hN:=js hv;have hm:c6 n.1 (vp n.1 n.2.2.1)=true:=joe (by omega);have hfm:c6 n.1 (vp n.1 n.2.2.2.1)=true:=joe (by omega);have hI:=q03 h hv;obtain⟨k,e,hL,hke⟩:=jw1 h hv hn2 hfm hm rfl rfl;rw[jb3,qyb,hI,df];cases jzp h hn2 hv hm with
   |lim B h1=>
    show(bnd (dv n (vp n.1 n.2.2.1) 60) fun r5=>_)=_;rw[h1,df];rfl
   |none B h1 hn=>
    show(bnd (dv n (vp n.1 n.2.2.1) 60) fun r5=>_)=_;rw[h1,df];show(bnd (sq n [] (1,1,1,()) 200) fun r6=>_)=_;rw[hL,df];rcases hke with rfl|⟨rfl,_⟩|⟨rfl,l,hl,_⟩
    ·rfl
    ·rfl
    ·exact absurd hl (hn l)
   |ok B l h1 h2 hf hl hB h60 hmin=>
    have hTT:∀b1 b2,fy (vp n.1 n.2.2.1) n.1 n.2.1 n.2.2.1 n.2.2.2.1 B.1 b1 b2 1 1 1=some (.inr true):=fun b1 b2=>by
     have hlt:=hl.lt;have hlm:(l.map fun(t:Nat)=>(t:Int)).length=l.length:=Ww _;have a1:=j0r hn2 (vp n.1 n.2.2.1) B.1 b1 b2 1 1 1;have a2:qkn (n.1,n.2.1,n.2.2.1,n.2.2.2.1,()) (l.map fun(t:Nat)=>(t:Int))=_:=j09 h hv hlt h60;have a3:=jzb hlt h60 (wdL n l);have a4:qax (n.1,n.2.1,n.2.2.1,n.2.2.2.1,()) (wdL n l) 60=_:=jpu h hv hn2 hm hf hl h60 rfl;have a5:qar (n.1,n.2.1,n.2.2.1,n.2.2.2.1,()) [] (1,1,1,()) (l.map (mvL n),(l.length:Int),())=_:=jwv h hv hm rfl rfl hl h60 (mvL n) (zac n);have a6:o5 (n.1,n.2.1,n.2.2.1,n.2.2.2.1,()) (vp n.1 n.2.2.1) (qiq n.2.1.length) 60=_:=h2;have hr:(List.replicate n.2.1.length ag.z).length=n.2.1.length:=WT;rw[hB]at a1⊢;unfold fy qb6;simp(disch:=omega)only[hr,a1,a2,a3,a4,a5,a6,hlm,rs]
    show(bnd (dv n (vp n.1 n.2.2.1) 60) fun r5=>_)=_;rw[h1,df];show(bnd (sq n [] (1,1,1,()) 200) fun r6=>_)=_;rw[hL,df];rcases hke with rfl|⟨rfl,hno⟩|⟨rfl,l',hl',hk,hmin'⟩
    ·show(bnd (fy (vp n.1 n.2.2.1) n.1 n.2.1 n.2.2.1 n.2.2.2.1 B.1 B.2.1 B.2.2.1 1 1 1) fun oe=>_)=_;rw[hTT,df];rfl
    ·exact absurd hl (hno l)
    ·have h3:=hmin l' hl';have h4:=hmin' l hl;have hkB:k=B.1:=by omega
     show(bif (!decide (k=B.1))then some false else _)=_;rw[Ws hkB];show(bnd (fy (vp n.1 n.2.2.1) n.1 n.2.1 n.2.2.1 n.2.2.2.1 B.1 B.2.1 B.2.2.1 1 1 1) fun oe=>_)=_;rw[hTT,df];rfl
end Go.Proofs.YtocndcbobdnagaaGreatDoor
