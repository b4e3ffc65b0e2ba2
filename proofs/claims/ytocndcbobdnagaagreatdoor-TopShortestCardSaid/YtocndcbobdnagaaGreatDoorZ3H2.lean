/-
  Moves of an alignment of the empty word: the transitions that fire, each at cost 1.
-/
import Derived.Test.YtocndcbobdnagaaGreatDoorZ3E3
import Derived.Test.YtocndcbobdnagaaGreatDoorZ3H1
set_option linter.all false
namespace Go.Proofs.YtocndcbobdnagaaGreatDoor
open Go.K Go.M
theorem q03{n:bk}(h:Small n)(hv:dp n=true):vg n=some (0,vp n.1 n.2.2.1):=by
 obtain⟨h1,h2,_⟩:=js hv;have h3:0<=n.2.2.1/\n.2.2.1<n.1:=by
  unfold dp at hv;simp only[Wc,WH]at hv;exact hv.1.2
 obtain⟨h3,h4⟩:=h3;have e:=qjx h;rw[hv]at e;have e2:(List.replicate n.1.toNat (0:Int)).set n.2.2.1.toNat 1=vp n.1 n.2.2.1:=by
  rw[qsf,qyw];refine qcu fun v hv=> ?_
  by_cases c:v=n.2.2.1.toNat
  ·rw[if_pos c,if_pos (by omega)]
  ·rw[if_neg c,if_neg (by omega)]
 have hlen:(List.replicate n.1.toNat (0:Int)).length=n.1.toNat:=by simp
 unfold vg qpg;simp(disch:=omega)only[e,Wv,rs];rw[e2]
theorem joe{N p:Int}(hN:0<=N):c6 N (vp N p)=true:=by
 refine ez.2 ⟨by rw[qv5];omega,fun i hi=> ?_⟩;rw[qv5]at hi;unfold vp;rw[qx2 hi];split<;>omega
def lab(n:bk)(t:Nat):ByteArray:=(trA n t).1
structure IsMv (n : bk) (t : Nat) (x : aq) : Prop where
 kd : x.1 = bif eqS (lab n t) ⟨#[]⟩ then 4 else 3
 tr : x.2.1 = (t : Int)
 ac : eqS x.2.2.1 (lab n t) = true
def mvS(n:bk)(t:Nat):aq:=bif eqS (lab n t) ⟨#[]⟩then(4,(t:Int),⟨#[]⟩,())else(3,(t:Int),lab n t,())
theorem jdf(s:ByteArray):eqS s s=true:=by simp[eqS]
theorem jx6{a b:ByteArray}(h:eqS a b=true):eqS b a=true:=by
 unfold eqS at h⊢;rw[beq_iff_eq]at h⊢;exact h.symm
theorem jqv(n:bk)(t:Nat):IsMv n t (mvS n t):=by
 unfold mvS;cases hb:eqS (lab n t) ⟨#[]⟩with
 |true=>exact⟨by rw[hb];rfl,rfl,jx6 hb⟩
 |false=>exact⟨by rw[hb];rfl,rfl,jdf _⟩
theorem IsMv.kind{n:bk}{t:Nat}{x:aq}(h:IsMv n t x):x.1=3\/x.1=4:=by
 rw[h.kd];cases eqS (lab n t) ⟨#[]⟩
 ·exact .inl rfl
 ·exact .inr rfl
def okT(n:bk)(m:List Int)(i:Nat):List Nat:=(List.range i).filter fun t=>decide ((gg n m t).1=0)
theorem jtb{n:bk}{m:List Int}{t:Nat}:t∈okT n m n.2.1.length↔t<n.2.1.length/\(gg n m t).1=0:=by
 unfold okT;rw[Kf,Kk,HC]
theorem jcf(n:bk)(m:List Int)(i:Nat):(okT n m i).length<=i:=by
 have:=Kr (fun t=>decide ((gg n m t).1=0)) (List.range i);rw[Hi]at this;exact this
theorem jzl(n:bk)(m:List Int)(i:Nat):okT n m (i+1)=if(gg n m i).1=0 then okT n m i++[i]else okT n m i:=by
 unfold okT;rw[HK,Hp];by_cases hd:(gg n m i).1=0
 ·rw[if_pos hd,jkn (p:=fun t=>decide ((gg n m t).1=0)) (Ws hd)]
 ·rw[if_neg hd,jkm (p:=fun t=>decide ((gg n m t).1=0)) (WD hd),Kx]
theorem j0v:xy []=some true:=by kernel_rfl
theorem jxt:uc (1,1,1,())=some true:=by kernel_rfl
section
variable {n : bk} (h : Small n) (hv : dp n = true)
include h hv
theorem jmi:vk n []=some (0::vp n.1 n.2.2.1,0):=by
 have e:=q03 h hv;have e1:=qv5 n.1 n.2.2.1;have:=js hv;unfold vk;simp(disch:=omega)only[e,j0v,Wv,rs];rfl
theorem jwx:qhh n []=some (0,0::vp n.1 n.2.2.2.1):=by
 have e:=jcr h hv;have e1:=qv5 n.1 n.2.2.2.1;have:=js hv;unfold qhh;simp(disch:=omega)only[e,j0v,Wv,rs];rfl
variable {m : List Int} (hm : c6 n.1 m = true)
include hm
theorem jdq:uw n [] (0::m)=some true:=by
 have hml:=(ez.1 hm).1;have hN:=js hv;have e:=qjw h m (by omega);rw[hv,hm]at e;have e0:(0::m).getD 0 0=(0:Int):=rfl;have el:(0::m).length=m.length+1:=rfl;have ed:(0::m).drop 1=m:=rfl;have ew:(([]:List ByteArray).length:Int)=0:=rfl;unfold uw;simp(disch:=omega)only[j0v,e0,el,ed,ew,e,Wv,KT,rs]
theorem jue{l:List aq}(hl:l.length<=1000):fa [[],[],l]=some l:=by
 have g0:([[],[],l]:List (List aq)).getD 0 []=[]:=rfl;have g1:([[],[],l]:List (List aq)).getD 1 []=[]:=rfl;have g2:([[],[],l]:List (List aq)).getD 2 []=l:=rfl;have h0:il [[],[],l] [[],[],l] 3 (0,0)=some (.inl (l.length:Int)):=by
  refine jp (fun i:Nat=>((bif Nat.blt i 3 then(0:Int)else(l.length:Int)),(i:Int))) 3 (bm (by omega)) _ (fun i hi=> ?_) ?_ _ rfl
  ·have:i=0\/i=1\/i=2:=by omega
   rcases this with rfl|rfl|rfl
   ·rfl
   ·rfl
   ·simp(disch:=omega)only[gm,g2,show Nat.blt 2 3=true from rfl,WQ,Int.zero_add,rs];rfl
  ·rfl
 have h1:im [[],[],l] 3 (0,[])=some (.inl l):=by
  refine jp (fun i:Nat=>((i:Int),(bif Nat.blt i 3 then([]:List aq)else l))) 3 (bm (by omega)) _ (fun i hi=> ?_) ?_ _ rfl
  ·have:i=0\/i=1\/i=2:=by omega
   rcases this with rfl|rfl|rfl
   ·rfl
   ·rfl
   ·simp(disch:=omega)only[gn,g2,show Nat.blt 2 3=true from rfl,WQ,KG,WR,List.nil_append,rs];rfl
  ·rfl
 have hG:fx (l.length:Int)=some []:=by
  unfold fx;by_cases h0:l.length=0
  ·rw[h0];rfl
  ·have hr:(List.replicate l.length (aq.z:aq)).length=l.length:=WT;simp(disch:=omega)only[Int.sub_self,Int.sub_zero,WN,hr,HQ,List.take_zero,rs];rw[qgp (Ws (by omega))]
 unfold fa;show(bnd (il [[],[],l] [[],[],l] 3 (0,0)) fun oe1=>_)=_;rw[h0,df,q7m,hG,df];show(bnd (im [[],[],l] 3 (0,[])) fun oe1=>_)=_;rw[h1];rfl
theorem jw2:qas n [] (0::m)=some (0,(okT n m n.2.1.length).map (mvS n)):=by
 have hml:=(ez.1 hm).1;have hN:=js hv;have e0:(0::m).getD 0 0=(0:Int):=rfl;have el:(0::m).length=m.length+1:=rfl;have ed:(0::m).drop 1=m:=rfl;have hS:=jdq h hv hm;have hL:qtf [] (0::m) [] n.2.1 (n.2.1.length:Int) n.1 n.2.1 n.2.2.1 n.2.2.2.1 (0,[],[])=some (.inl ([],(okT n m n.2.1.length).map (mvS n))):=by
  refine jp (fun i:Nat=>((i:Int),([]:List aq),(okT n m i).map (mvS n))) n.2.1.length (bm (by omega)) _ (fun i hi=> ?_) ?_ _ rfl
  ·have hF:xl (n.1,n.2.1,n.2.2.1,n.2.2.2.1,()) m (i:Int)=some (gg n m i):=jjf h hv hm hi;have hlen:=jcf n m i;have hlm:((okT n m i).map (mvS n)).length=(okT n m i).length:=Ww _;rw[jzl];by_cases hd:(gg n m i).1=0
   ·have hlb:(ByteArray.toList (n.2.1.getD i af.z).1==ByteArray.toList ⟨#[]⟩)=eqS (lab n i) ⟨#[]⟩:=rfl;rw[if_pos hd,Kq,Kd,KH];have hmv:mvS n i=bif eqS (lab n i) ⟨#[]⟩then(4,(i:Int),⟨#[]⟩,())else(3,(i:Int),lab n i,()):=rfl;cases hb:eqS (lab n i) ⟨#[]⟩with
    |true=>
     rw[hb]at hlb hmv;rw[hmv];simp(disch:=omega)only[nj,el,ed,hF,hd,tw hlb,am,rs]
    |false=>
     rw[hb]at hlb hmv;rw[hmv];have hat:qk3 [] 0 (n.2.1.getD i af.z).1=some false:=rfl;simp(disch:=omega)only[nj,el,ed,e0,hF,hd,qgo hlb,hat,am,rs];rfl
   ·rw[if_neg hd];simp(disch:=omega)only[nj,el,ed,hF,WD hd,WP,am,rs]
  ·simp(disch:=omega)only[nj,rs]
 have hlen:=jcf n m n.2.1.length;have hC:=jue h hv hm (l:=(okT n m n.2.1.length).map (mvS n)) (by rw[Ww];omega);have hT:qa5 [] (0::m) [] n.1 n.2.1 n.2.2.1 n.2.2.2.1 [] []=some (.inr (0,(okT n m n.2.1.length).map (mvS n))):=by
  unfold qa5 qf3;rw[hL,df,q7m,hC];rfl
 have ew:(([]:List ByteArray).length:Int)=0:=rfl;unfold qas;simp(disch:=omega)only[hS,e0,el,ew,hT,Wv,rs]
theorem jmv{t:Nat}(ht:t<n.2.1.length)(h0:(gg n m t).1=0){x:aq}(hx:IsMv n t x):vm n [] (0::m) x=some (0,0::(gg n m t).2):=by
 have hml:=(ez.1 hm).1;have hm' :=(ez.1 (q1f h hv hm ht h0)).1;have hN:=js hv;have hF:=jjf h hv hm ht;obtain⟨hk,hxt,ha⟩:=hx;obtain⟨k,t',a,u⟩:=x;obtain rfl:t' =(t:Int):=hxt;have hk:k=bif eqS (lab n t) ⟨#[]⟩then 4 else 3:=hk;have ha:(ByteArray.toList a==ByteArray.toList (n.2.1.getD t af.z).1)=true:=ha;have hlb:(ByteArray.toList (n.2.1.getD t af.z).1==ByteArray.toList ⟨#[]⟩)=eqS (lab n t) ⟨#[]⟩:=rfl;have e0:(0::m).getD 0 0=(0:Int):=rfl;have el:(0::m).length=m.length+1:=rfl;have ed:(0::m).drop 1=m:=rfl;have hf:gg n m t=(0,(gg n m t).2):=by rw[<-h0]
 rw[hf]at hF;generalize(gg n m t).2=m' at hF hm';unfold vm;cases hb:eqS (lab n t) ⟨#[]⟩with
 |true=>
  rw[hb]at hk hlb;obtain rfl:k=4:=hk;have hq:((ByteArray.toList (n.2.1.getD t af.z).1==ByteArray.toList ⟨#[]⟩)==decide ((4:Int)=4))=true:=by rw[hlb];rfl
  simp(disch:=omega)only[e0,el,ed,hF,rs];exact(tw ha _ _).trans (tw hq _ _)
 |false=>
  rw[hb]at hk hlb;obtain rfl:k=3:=hk;have hq:((ByteArray.toList (n.2.1.getD t af.z).1==ByteArray.toList ⟨#[]⟩)==decide ((3:Int)=4))=true:=by rw[hlb];rfl
  simp(disch:=omega)only[e0,el,ed,hF,rs];exact(tw ha _ _).trans (tw hq _ _)
theorem jwu{t:Nat}(ht:t<n.2.1.length)(h0:(gg n m t).1=0):qaq n [] (0::m) (mvS n t)=some (0::(gg n m t).2,0):=by
 have hS:=jdq h hv hm;have hA:=jmv h hv hm ht h0 (jqv n t);have hK:qji (mvS n t).1=some true:=by
  rcases(jqv n t).kind with e|e<;>rw[e]<;>rfl
 unfold qaq;simp(disch:=omega)only[hS,hK,hA,Wv,rs]
end
theorem jrz{l:List aq}(hk:∀x∈l,x.1=3\/x.1=4)(hl:l.length<=1000):yi (1,1,1,()) l=some ((l.length:Int),0):=by
 have hL:jv l (l.length:Int) 0=some (.inl ()):=by
  refine jp (fun i:Nat=>(i:Int)) l.length (bm (by omega)) _ (fun i hi=> ?_) ?_ _ rfl
  ·have hf:qdq (l.getD i aq.z)=some false:=by
    unfold qdq;rcases hk _ (ay aq.z hi)with e|e<;>rw[e]<;>rfl
   simp(disch:=omega)only[cu,hf,am,rs]
  ·simp(disch:=omega)only[cu,rs]
 have hF:qjh l=some true:=by
  unfold qjh eb fh;rw[hL];simp(disch:=omega)only[show decide ((0:Int)<=-1)=false from rfl,WP,rs]
 have hS:qdr (1,1,1,()) l (l.length:Int) (0,0)=some (.inl (l.length:Int)):=by
  refine jp (fun i:Nat=>((i:Int),(i:Int))) l.length (bm (by omega)) _ (fun i hi=> ?_) ?_ _ rfl
  ·have hp:qgu (1,1,1,()) (l.getD i aq.z)=some 1:=by
    unfold qgu;rcases hk _ (ay aq.z hi)with e|e<;>rw[e]<;>rfl
   have hi1:ix 0 1=true:=rfl;simp(disch:=omega)only[lq,qkz,hi1,hp,zx,am,rs]
  ·simp(disch:=omega)only[lq,rs]
 unfold yi xx;simp(disch:=omega)only[jxt,hF,hS,Wv,rs]
end Go.Proofs.YtocndcbobdnagaaGreatDoor
