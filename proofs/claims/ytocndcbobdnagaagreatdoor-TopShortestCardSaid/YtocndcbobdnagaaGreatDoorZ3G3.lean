/-
  Accepts: the word of a run to the final marking. Check: its moves.
-/
import Derived.Test.YtocndcbobdnagaaGreatDoorZ3G2
set_option linter.all false
namespace Go.Proofs.YtocndcbobdnagaaGreatDoor
open Go.K Go.M
def qpa(N:Nat)(L:List ak):List (List ak):=bv N fun i=>L.filter fun x=>decide (x.1=(i:Int))
section
variable {n : bk} (h : Small n) (hv : dp n = true) (hT : n.2.1.length <= 14) {m : List Int} (hm : c6 n.1 m = true) (hfu : (spc n 60 m).1 = true)
include h hv hT hm hfu
theorem j37:∃fi:Int,qsd n ((spc n 60 m).2.1,(spc n 60 m).2.2,true,())=some (n.1,n.2.1,n.2.2.1,n.2.2.2.1,(spc n 60 m).2.1,(spc n 60 m).2.2,true,fi,qpa (spc n 60 m).2.1.length (spc n 60 m).2.2)/\fi=jy4 (spc n 60 m).2.1 (vp n.1 n.2.2.2.1):=by
 have hok:=jl5 (n:=n) (M:=60) hm (by omega);generalize spc n 60 m=J at hok hfu;have hsl:=hok.sp.len;have hml:=hok.ml;have hb:60*n.2.1.length<=60*14:=HI _ hT;have hN:=js hv;have hF:=jcr h hv;have hFd:=jr0 (J.2.1,J.2.2,true,()) (vp n.1 n.2.2.2.1) (by show J.2.1.length<=_;omega) (fun x hx=>by have:=(ez.1 (hok.sp.mks x hx)).1;omega);have hL:q54 J.2.2 (J.2.2.length:Int) n.1 n.2.1 n.2.2.1 n.2.2.2.1 J.2.1 J.2.2 true n.1 n.2.1 n.2.2.1 n.2.2.2.1 J.2.1 J.2.2 true (-1) (0,List.replicate J.2.1.length [])=some (.inl (qpa J.2.1.length J.2.2)):=by
  have e:qpa J.2.1.length J.2.2=qpa J.2.1.length (J.2.2.take J.2.2.length):=by rw[WW]
  rw[e];refine jp (fun k:Nat=>((k:Int),qpa J.2.1.length (J.2.2.take k))) J.2.2.length (bm (by omega)) _ (fun k hk=> ?_) ?_ _ ?_
  ·obtain⟨a,b,t,hx,ha,hb,ht,_⟩:=hok.mv _ (ay ak.z hk);have hlo:(qpa J.2.1.length (J.2.2.take k)).length=J.2.1.length:=qyv _ _;have hrow:(qpa J.2.1.length (J.2.2.take k)).getD a []=(J.2.2.take k).filter fun x=>decide (x.1=(a:Int)):=qx2 ha
   have hrl:((qpa J.2.1.length (J.2.2.take k)).getD a []).length<=1000:=by
    rw[hrow];have h1:=Kr (fun x:ak=>decide (x.1=(a:Int))) (J.2.2.take k);rw[Kg]at h1;omega
   have hset:qpa J.2.1.length (J.2.2.take (k+1))=(qpa J.2.1.length (J.2.2.take k)).set a ((qpa J.2.1.length (J.2.2.take k)).getD a []++[mvA a b t]):=by
    rw[hrow,cw J.2.2 k ak.z hk,hx];unfold qpa;rw[qyw];refine qcu fun i hi=> ?_
    rw[Hp];by_cases e:i=a
    ·subst e;rw[if_pos rfl,jkn (p:=fun x:ak=>decide (x.1=(i:Int))) (Ws rfl)]
    ·rw[if_neg e,jkm (p:=fun x:ak=>decide (x.1=(i:Int))) (WD (by show¬((a:Int)=(i:Int));omega)),Kx]
   have h1:(mvA a b t).1=(a:Int):=rfl;have hl2:((qpa J.2.1.length (J.2.2.take k)).set a ((qpa J.2.1.length (J.2.2.take k)).getD a []++[mvA a b t])).length=J.2.1.length:=by rw[WB];exact hlo
   rw[hset];generalize qpa J.2.1.length (J.2.2.take k)=O at hlo hrl hl2;simp(disch:=omega)only[qgy,hx,h1,hlo,hl2,am,rs];rfl
  ·rw[WW];simp(disch:=omega)only[qgy,rs]
  ·rw[List.take_zero];show((0:Int),List.replicate J.2.1.length ([]:List ak))=((0:Int),bv J.2.1.length fun _=>[]);rw[qsf]
 refine⟨_,?_,rfl⟩;unfold qsd;simp(disch:=omega)only[hL,hF,hFd,rs]
theorem jpu{l:List Nat}(hl:Rn n l m (vp n.1 n.2.2.2.1))(h60:l.length<=60)(hm0:m=vp n.1 n.2.2.1):qax n (wdL n l) 60=some (true,0):=by
 have hok:=jl5 (n:=n) (M:=60) hm (by omega);obtain⟨fi,hw,hfi⟩:=j37 h hv hT hm hfu;have hX:=jcq h m (by have:=(ez.1 hm).1;have:=js hv;omega) 60 (by omega);rw[hv,hm]at hX;have hX:ql n m 60=some (((spc n 60 m).2.1,(spc n 60 m).2.2,(spc n 60 m).1,()),0):=hX.trans (by rw[if_neg (by omega)];rfl);rw[hfu]at hX;have hI:=q03 h hv;rw[<-hm0]at hI;have hV:=qjx h;rw[hv]at hV;have hpos:=hok.sp.pos;have hml:=hok.ml;have hsl:=hok.sp.len;have hb:60*n.2.1.length<=60*14:=HI _ hT;have h0:d9 (spc n 60 m) 0=m:=hok.fst;rw[<-h0]at hl;obtain⟨w,j,w1,w2,w3,w4⟩:=q5x h hv hok hfu hpos hl;have hnm:∀(l:List Nat),(∀t∈l,t<n.2.1.length)->∀s∈wdL n l,sr s=some true:=fun l=>by
  induction l with
  |nil=>intro _ s hs;cases hs
  |cons t l ih=>
   intro ht s hs;have hs:s∈(bif eqS (lab n t) ⟨#[]⟩then wdL n l else lab n t::wdL n l):=hs;cases he:eqS (lab n t) ⟨#[]⟩with
   |true=>
    rw[he]at hs;exact ih (fun u hu=>ht u (We _ hu)) s hs
   |false=>
    rw[he]at hs;rcases Wr.1 hs with rfl|hs
    ·have hmem:=ay af.z (ht t Wf);unfold dp at hv;simp only[Wc,WH,WE]at hv;have h5:=KW.1 hv.1.1.2 _ hmem;rw[jhx];unfold jc1 at h5;have h6:eqS (n.2.1.getD t af.z).1 ⟨#[]⟩=false:=he;rw[h6]at h5;cases hb:q9u (n.2.1.getD t af.z).1 with
     |true=>exact W0 some hb
     |false=>rw[hb]at h5;exact absurd rfl h5
    ·exact ih (fun u hu=>ht u (We _ hu)) s hs
 have hlt:∀t∈l,t<n.2.1.length:=fun t ht=>by
  rw[<-w4]at ht;obtain⟨e,he,rfl⟩:=WG.1 ht;exact((q1d hok).2.1 e (qyh w1 e he).1).t
 have hwl:=jma n l;have hC:dj (wdL n l)=some false:=by
  have hL:nc (wdL n l) ((wdL n l).length:Int) 0=some (.inl ()):=by
   refine jp (fun i:Nat=>(i:Int)) (wdL n l).length (bm (by omega)) _ (fun i hi=> ?_) ?_ _ rfl
   ·have h1:=hnm l hlt _ (ay ⟨#[]⟩ hi);simp(disch:=omega)only[dl,qie,h1,Wv,am,rs]
   ·simp(disch:=omega)only[dl,rs]
  unfold dj io;rw[hL];rfl
 have hgv:qm7 n 60=some 0:=by
  unfold qm7;simp(disch:=omega)only[hV,Wv,rs]
 have hwh:qm8 n 60=some (((spc n 60 m).2.1,(spc n 60 m).2.2,true,()),0):=by
  unfold qm8;simp(disch:=omega)only[hI,hX,Wv,rs]
 generalize spc n 60 m=J at*;have hga:∀i,i<J.2.1.length->(qpa J.2.1.length J.2.2).getD i []=J.2.2.filter fun x=>decide (x.1=(i:Int)):=fun i hi=>qx2 hi
 have hW:WK n J.2.1.length ((n.1,n.2.1,n.2.2.1,n.2.2.2.1,()),(J.2.1,J.2.2,true,()),qpa J.2.1.length J.2.2,fi,()):=⟨rfl,rfl,qyv _ _,fun i hi x hx=>by
  have hx:x∈(qpa J.2.1.length J.2.2).getD i []:=hx;rw[hga i hi]at hx;obtain⟨a,b,t,rfl,ha,hb,ht,_⟩:=hok.mv x (Kf.1 hx).1;exact⟨by show(0:Int)<=(b:Int);omega,by show(b:Int)<_;omega,by show(0:Int)<=(t:Int);omega,by show(t:Int)<_;omega⟩,fun i hi=>by
  show((qpa J.2.1.length J.2.2).getD i []).length<=_;rw[hga i hi];have:=Kr (fun x:ak=>decide (x.1=(i:Int))) J.2.2;omega,hpos,hsl⟩
 obtain⟨S,s1,s2,s3⟩:=j0f hW;have hj:fi=(j:Int):=by
  rw[hfi];rcases jia J.2.1 (vp n.1 n.2.2.2.1)with⟨_,hno⟩|⟨g,hg,hgl,hgs⟩
  ·exact absurd (by rw[<-w3];exact ay [] w2) hno
  ·have e:J.2.1.getD g []=J.2.1.getD j []:=hgs.trans w3.symm;rw[jo _ _ _ hgl,jo _ _ _ w2]at e;rw[hg,(List.getElem_inj hok.sp.nd).1 e]
 obtain⟨S',g1,g2,g3⟩:=j38 (E:=fun e=>e∈egs J) hW (fun{a b t} he=>by
  have hm:=(jb6 hok).1 he;have ha:=(jk7 h hv hok he).1;exact⟨ha,by rw[hga a ha];exact Kf.2 ⟨hm,Ws rfl⟩⟩) (wdL n l) (by omega) (wdL n l).length 0 w 0 j S (WR _) (by rw[K3,w4]) w1 s3 s2
 have hA:qtu (wdL n l) ((wdL n l).length:Int) n.1 n.2.1 n.2.2.1 n.2.2.2.1 J.2.1 J.2.2 true (qpa J.2.1.length J.2.2) fi (S,0)=some (.inl S'):=t8 g1 (bm (by omega));have g3:S'.getD j false=true:=g3;rw[hj]at hw hA s1;unfold qax;simp(disch:=omega)only[hV,hC,hgv,hwh,hw,s1,hA,g2,g3,Wv,rs]
end
theorem j09{n:bk}(h:Small n)(hv:dp n=true){l:List Nat}(hlt:∀t∈l,t<n.2.1.length)(h60:l.length<=60):qkn n (l.map fun(t:Nat)=>(t:Int))=some (0,wdL n l):=by
 have hV:=qjx h;rw[hv]at hV;have hlm:(l.map fun(t:Nat)=>(t:Int)).length=l.length:=Ww _;have hL:q41 (l.map fun(t:Nat)=>(t:Int)) (l.length:Int) n.1 n.2.1 n.2.2.1 n.2.2.2.1 (0,[])=some (.inl (wdL n l)):=by
  have e:wdL n l=wdL n (l.take l.length):=by rw[WW]
  rw[e];refine jp (fun k:Nat=>((k:Int),wdL n (l.take k))) l.length (bm (by omega)) _ (fun k hk=> ?_) ?_ _ rfl
  ·have hg:(l.map fun(t:Nat)=>(t:Int)).getD k 0=((l.getD k 0:Nat):Int):=la _ _ _ _ _ hk;have ht:=hlt _ (ay 0 hk);have hwl:=jma n (l.take k);have htk:(l.take k).length<=k:=by rw[Kg];omega
   rw[cw l k 0 hk,juc];generalize l.getD k 0=t at hg ht;have hlb:(ByteArray.toList (n.2.1.getD t af.z).1==ByteArray.toList ⟨#[]⟩)=eqS (lab n t) ⟨#[]⟩:=rfl;have hw1:wdL n [t]=bif eqS (lab n t) ⟨#[]⟩then []else [lab n t]:=rfl;rw[hw1];cases hs:eqS (lab n t) ⟨#[]⟩with
   |true=>
    rw[hs]at hlb;rw[WQ,Kx];simp(disch:=omega)only[qag,hg,hlm,tw hlb,am,rs]
   |false=>
    rw[hs]at hlb;rw[W9];simp(disch:=omega)only[qag,hg,hlm,qgo hlb,am,rs];rfl
  ·simp(disch:=omega)only[qag,hlm,rs]
 unfold qkn;simp(disch:=omega)only[hV,hlm,hL,Wv,rs]
theorem jwv{n:bk}(h:Small n)(hv:dp n=true){m fin:List Int}(hm:c6 n.1 m=true)(e1:m=vp n.1 n.2.2.1)(e2:fin=vp n.1 n.2.2.2.1){l:List Nat}(hl:Rn n l m fin)(h60:l.length<=60)(f:Nat->aq)(hf:∀t,IsMv n t (f t)):qar n [] (1,1,1,()) (l.map f,(l.length:Int),())=some true:=by
 have hS:=jmi h hv;have hE:=jwx h hv;rw[<-e1]at hS;rw[<-e2]at hE;have hlm:(l.map f).length=l.length:=Ww _;have hK:=jrz (l:=l.map f) (fun x hx=>by obtain⟨t,_,rfl⟩:=WG.1 hx;exact(hf t).kind) (by omega);rw[hlm]at hK;have key:∀(g k:Nat) (a:List Int),k+g=l.length->c6 n.1 a=true->Rn n (l.drop k) a fin->xh (fun a:List Int×Int=>ri [] (0::fin) (l.map f) (l.length:Int) n.1 n.2.1 n.2.2.1 n.2.2.2.1 a.1 a.2 (fun a' =>some (.next a')) (fun e=>some (.done e)) (fun r=>some (.ret r))) (g+1) (0::a,(k:Int))=some (.inl (0::fin)):=by
  intro g
  induction g with
  |zero=>
   intro k a hk _ hr;rw[List.drop_eq_nil_of_le (by omega)]at hr;obtain rfl:a=fin:=hr;rw[ce];simp(disch:=omega)only[ri,rs];rfl
  |succ g ih=>
   intro k a hk ha hr;have hkl:k<l.length:=by omega
   rw[qyf l k 0 hkl]at hr;obtain⟨r1,r2,r3⟩:=hr;have hg:(l.map f).getD k aq.z=f (l.getD k 0):=la _ _ _ _ _ hkl;have hA:vm (n.1,n.2.1,n.2.2.1,n.2.2.2.1,()) [] (0::a) (f (l.getD k 0))=some (0,0::(gg n a (l.getD k 0)).2):=jmv h hv ha r1 r2 (hf _);rw[ce,<-ih (k+1) _ (by omega) (q1f h hv ha r1 r2) r3];simp(disch:=omega)only[ri,hg,hlm,hA,am,rs];rfl
 have hL:qtb [] (0::fin) (l.map f) (l.length:Int) n.1 n.2.1 n.2.2.1 n.2.2.2.1 (0::m,0)=some (.inl (0::fin)):=t8 (key l.length 0 m (WR _) hm hl) (bm (by omega));have hfl:fin.length<=1000:=by
  have:=js hv;rw[e2,qv5];omega
 have hQ:=jcp (0::fin) (0::fin) (by rw[WA];omega);rw[Ws rfl]at hQ;unfold qar;simp(disch:=omega)only[hS,hE,hK,hlm,hL,hQ,rs]
end Go.Proofs.YtocndcbobdnagaaGreatDoor
