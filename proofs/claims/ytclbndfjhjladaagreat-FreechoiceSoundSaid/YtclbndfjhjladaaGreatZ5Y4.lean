/-
  Freechoice: is a net's space whole, or does it grow.
-/
import Derived.Test.YtclbndfjhjladaaGreatZ5Y3
set_option linter.all false
namespace Go.Proofs.YtclbndfjhjladaaGreat
open Go.K Go.M
def FrW(mv:List ar)(L:Nat)(l:List Int):Prop:=l.length=L∧∀j,j<L→l.getD j 0= -1∨∃k:Nat,l.getD j 0=(k:Int)∧k<j∧Way mv k j
theorem j1m(mv:List ar){L:Nat}(hL:L≤1000)(v40:List (List Int))(v41:List ar)(v42:Bool)(s0:List (List Int))(s1:List ar)(s2:Bool):∃l,qm6 ((List.replicate (Int.toNat (L:Int)) (0:Int)).length:Int) v40 v41 v42 s0 s1 s2 (0,List.replicate (Int.toNat (L:Int)) 0)=some (.inl l)∧FrW mv L l:=by
 have hr:(List.replicate (Int.toNat (L:Int)) (0:Int)).length=L:=by rw[List.length_replicate];omega
 rw[hr];obtain⟨o,ho,l,rfl,hp⟩:=wg (step:=fun a:Int×List Int=>uk (R:=LR (Int×List Int) (List Int) (dm×Bool×Bool)) (L:Int) v40 v41 v42 s0 s1 s2 a.1 a.2 (fun a' =>some (.next a')) (fun e=>some (.done e)) (fun r=>some (.ret r)))
  (fun a=>∃i:Nat,a.1=(i:Int)∧i≤L∧a.2.length=L∧∀j,j<i→a.2.getD j 0= -1) (fun a=>L-a.1.toNat) (fun o=>∃l,o= .inl l∧FrW mv L l) (0,List.replicate (Int.toNat (L:Int)) 0) ⟨0,rfl,Nat.zero_le _,hr,fun j hj=>by omega⟩ (by show L-(0:Int).toNat<many;have:=bc (n:=L) (by omega);omega) (by
   rintro⟨a,l⟩ ⟨i,rfl,hi,hl,hg⟩;dsimp only at hl hg;unfold uk;dsimp only;by_cases hlt:i<L
   ·rw[ve (by omega),cu (by omega) (by omega),cu (by omega) (by omega),qcu (by omega) (by omega),ah,Int.toNat_natCast];refine⟨_,rfl,⟨i+1,rfl,by omega,by rw[List.length_set];exact hl,fun j hj=> ?_⟩,?_⟩
    ·show(l.set i (-1)).getD j 0= -1;rw[qyh (by omega)];by_cases e:j=i
     ·rw[if_pos e]
     ·rw[if_neg e];exact hg j (by omega)
    ·show L-((i+1:Nat):Int).toNat<L-(i:Int).toNat;omega
   ·rw[wq (by omega)];exact⟨_,rfl,l,rfl,hl,fun j hj=> .inl (hg j (by omega))⟩)
 exact⟨l,ho,hp⟩
theorem j1n{L:Nat}(hL:L≤1000){mv:List ar}(hm:∀x∈mv,∃a b t:Nat,x=mvA a b t∧a<L∧b<L)(hml:mv.length≤100000)(v40:List (List Int))(v41:List ar)(v42:Bool)(s0:List (List Int))(s1:List ar)(s2:Bool){l:List Int}(hl:FrW mv L l):
  ∃l',qm7 mv (mv.length:Int) v40 v41 v42 s0 s1 s2 (0,l)=some (.inl l')∧FrW mv L l' :=by
 obtain⟨o,ho,l',rfl,hp⟩:=wg (step:=fun a:Int×List Int=>ul (R:=LR (Int×List Int) (List Int) (dm×Bool×Bool)) mv (mv.length:Int) v40 v41 v42 s0 s1 s2 a.1 a.2 (fun a' =>some (.next a')) (fun e=>some (.done e)) (fun r=>some (.ret r)))
  (fun a=>∃i:Nat,a.1=(i:Int)∧i≤mv.length∧FrW mv L a.2) (fun a=>mv.length-a.1.toNat) (fun o=>∃l,o= .inl l∧FrW mv L l) (0,l) ⟨0,rfl,Nat.zero_le _,hl⟩ (by show mv.length-(0:Int).toNat<many;have:=bc (n:=mv.length) (by omega);omega) (by
   rintro⟨x,l⟩ ⟨i,rfl,hi,hg⟩;dsimp only at hg;unfold ul;dsimp only;by_cases hlt:i<mv.length
   ·obtain⟨a,b,t,e,ha,hb⟩:=hm _ (au ar.z hlt);have fin:∀l',FrW mv L l' →∃x,ao (c8 .i64 ((i:Int)+1)) (some (LR.next ((i:Int)+1,l')):Option (LR (Int×List Int) (List Int) (dm×Bool×Bool)))=some x∧jgq (fun a:Int×List Int=>∃i:Nat,a.1=(i:Int)∧i≤mv.length∧FrW mv L a.2) (fun a=>mv.length-a.1.toNat) (fun o:List Int⊕(dm×Bool×Bool)=>∃l,o= .inl l∧FrW mv L l) (mv.length-(i:Int).toNat) x:=fun l' h' =>by
     rw[qcu (by omega) (by omega),ah];refine⟨_,rfl,⟨i+1,rfl,by omega,h'⟩,?_⟩;show mv.length-((i+1:Nat):Int).toNat<mv.length-(i:Int).toNat;omega
    rw[ve (by omega),cu (by omega) (by omega),cu (by omega) (by omega)];simp only[Int.toNat_natCast];have e1:(mv.getD i ar.z).1=(a:Int):=by rw[e];rfl
    have e2:(mv.getD i ar.z).2.1=(b:Int):=by rw[e];rfl
    have e3:(mv.getD i ar.z).2.1.toNat=b:=by omega
    have hlen:=hg.1;by_cases c1:(mv.getD i ar.z).1<(mv.getD i ar.z).2.1
    ·rw[ve c1,cu (by omega) (by omega),cu (by omega) (by omega)];by_cases c2:l.getD (mv.getD i ar.z).2.1.toNat 0<0
     ·rw[ve c2,cu (by omega) (by omega),cu (by omega) (by omega)];refine fin _ ?_;rw[e3,e1];refine⟨by rw[List.length_set];exact hlen,fun j hj=> ?_⟩;rw[qyh (by omega)];by_cases e2:j=b
      ·rw[if_pos e2];exact .inr ⟨a,rfl,by omega,by rw[e2];exact .step t (by rw[←e];exact au ar.z hlt) (.refl b)⟩
      ·rw[if_neg e2];exact hg.2 j hj
     ·rw[wq (by omega)];exact fin _ hg
    ·rw[wq (by omega)];exact fin _ hg
   ·rw[wq (by omega)];exact⟨_,rfl,l,rfl,hg⟩)
 exact⟨l',ho,hp⟩
theorem j5j{N:Nat}(hN:N≤1000)(fr:List Int){i k:Nat}(v68 v69:Int)(v40:List (List Int))(v41:List ar)(v42:Bool){st:List (List Int)}(s1:List ar)(s2:Bool)(hi:i<st.length)(hk:k<st.length)(hst:∀x∈st,x.length=N):
  ∃b,qm8 fr (i:Int) (k:Int) v68 v69 ((st.getD i []).length:Int) v40 v41 v42 st s1 s2 (false,0)=some (.inl b)∧(b=false→∀p,p<N→(st.getD k []).getD p 0≤(st.getD i []).getD p 0):=by
 have h1:=hst _ (au [] hi);have h2:=hst _ (au [] hk);obtain⟨o,ho,b,rfl,hpost⟩:=wg (step:=fun a:Bool×Int=>um (R:=LR (Bool×Int) Bool (dm×Bool×Bool)) fr (i:Int) (k:Int) v68 v69 ((st.getD i []).length:Int) v40 v41 v42 st s1 s2 a.1 a.2 (fun a' =>some (.next a')) (fun e=>some (.done e)) (fun r=>some (.ret r)))
  (fun a:Bool×Int=>∃j:Nat,a.2=(j:Int)∧j≤N∧(a.1=false→∀p,p<j→(st.getD k []).getD p 0≤(st.getD i []).getD p 0)) (fun a=>N-a.2.toNat) (fun o:Bool⊕(dm×Bool×Bool)=>∃b,o= .inl b∧(b=false→∀p,p<N→(st.getD k []).getD p 0≤(st.getD i []).getD p 0)) (false,0) ⟨0,rfl,Nat.zero_le _,fun _ p hp=>absurd hp (Nat.not_lt_zero p)⟩ (by show N-(0:Int).toNat<many;have:=bc (n:=N) (by omega);omega) (by
   rintro⟨b,a⟩ ⟨j,rfl,hj,hg⟩;dsimp only at hg;unfold um;dsimp only;by_cases hlt:j<N
   ·rw[ve (by omega),cu (by omega) (by omega),cu (by omega) (by omega)];simp only[Int.toNat_natCast];rw[cu (by omega) (by omega),cu (by omega) (by omega),cu (by omega) (by omega),cu (by omega) (by omega),cu (by omega) (by omega),cu (by omega) (by omega)];have fin:∀b:Bool,(b=false→∀p,p<j+1→(st.getD k []).getD p 0≤(st.getD i []).getD p 0)→∃x,ao (c8 .i64 ((j:Int)+1)) (some (LR.next (b,(j:Int)+1)):Option (LR (Bool×Int) Bool (dm×Bool×Bool)))=some x∧jgq (fun a:Bool×Int=>∃j:Nat,a.2=(j:Int)∧j≤N∧(a.1=false→∀p,p<j→(st.getD k []).getD p 0≤(st.getD i []).getD p 0)) (fun a=>N-a.2.toNat) (fun o:Bool⊕(dm×Bool×Bool)=>∃b,o= .inl b∧(b=false→∀p,p<N→(st.getD k []).getD p 0≤(st.getD i []).getD p 0)) (N-(j:Int).toNat) x:=fun b hb=>by
     rw[qcu (by omega) (by omega),ah];refine⟨_,rfl,⟨j+1,rfl,by omega,hb⟩,?_⟩;show N-((j+1:Nat):Int).toNat<N-(j:Int).toNat;omega
    by_cases hc:(st.getD i []).getD j 0<(st.getD k []).getD j 0
    ·rw[decide_eq_true hc];exact fin _ fun h=>by cases h
    ·rw[decide_eq_false hc];refine fin _ fun h p hp=> ?_
     by_cases e:p=j
     ·rw[e];omega
     ·exact hg h p (by omega)
   ·rw[wq (by omega)];exact⟨_,rfl,b,rfl,fun h p hp=>hg h p (by omega)⟩)
 exact⟨b,ho,hpost⟩
theorem jyj{N:Nat}(hN:N≤1000){fr:List Int}{i:Nat}(v68 v69:Int)(v40:List (List Int))(v41:List ar)(v42:Bool){st:List (List Int)}(s1:List ar)(s2:Bool)(hL:st.length≤1000)(hi:i<st.length)(hst:∀x∈st,x.length=N)(hf:FrW s1 st.length fr):
  ∃o,qm9 fr (i:Int) v68 v69 v40 v41 v42 st s1 s2 (fr.getD i 0)=some o∧(o= .inl ()∨∃s,o= .inr (s,false,true)∧∃k,k<i∧Way s1 k i∧∀p,p<N→(st.getD k []).getD p 0≤(st.getD i []).getD p 0):=by
 have hlen:=hf.1;refine wg (step:=fun a:Int=>od (R:=LR Int Unit (dm×Bool×Bool)) fr (i:Int) v68 v69 v40 v41 v42 st s1 s2 a (fun a' =>some (.next a')) (fun e=>some (.done e)) (fun r=>some (.ret r)))
  (fun a=>a= -1∨∃k:Nat,a=(k:Int)∧k<st.length∧k<i∧Way s1 k i) (fun a=>(a+1).toNat) (fun o=>o= .inl ()∨∃s,o= .inr (s,false,true)∧∃k,k<i∧Way s1 k i∧∀p,p<N→(st.getD k []).getD p 0≤(st.getD i []).getD p 0) _ (by
   rcases hf.2 i hi with h|h
   ·exact .inl h
   ·obtain⟨k,h1,h2,h3⟩:=h;exact .inr ⟨k,h1,by omega,h2,h3⟩) (by
   have:fr.getD i 0<(i:Int):=by
    rcases hf.2 i hi with h|⟨k,h1,h2,_⟩<;>omega
   have:=bc (n:=1001) (by omega);show(fr.getD i 0+1).toNat<many;omega) ?_
 rintro a (rfl|⟨k,rfl,hk,hki,hw⟩)
 ·unfold od;rw[jje (by omega)];exact⟨_,rfl, .inl rfl⟩
 ·unfold od;obtain⟨b,hb,hle⟩:=j5j hN fr v68 v69 v40 v41 v42 s1 s2 hi hk hst;rw[joe (by omega),cu (by omega) (by omega),cu (by omega) (by omega)];simp only[Int.toNat_natCast];rw[hb,ax,lj];cases b with
  |false=>exact⟨_,rfl, .inr ⟨_,rfl,k,hki,hw,hle rfl⟩⟩
  |true=>
   simp only[Bool.not_true,cond_false];rw[cu (by omega) (by omega),cu (by omega) (by omega)];have:=hf.2 k hk;refine⟨_,rfl,?_,?_⟩
   ·rcases this with h|⟨k',h1,h2,h3⟩
    ·exact .inl h
    ·exact .inr ⟨k',h1,by omega,by omega,h3.trans hw⟩
   ·have:fr.getD k 0<(k:Int):=by
     rcases this with h|⟨k',h1,h2,_⟩<;>omega
    show(fr.getD k 0+1).toNat<((k:Int)+1).toNat;omega
theorem jog{n:bp}(h:Small n){m:List Int}(hv:ck n=true)(hmk:mt n.1 m=true):∃s w x,wd n m=some (s,w,x)∧(w=true→s=((spc n 400 m).2.1,(spc n 400 m).2.2,(spc n 400 m).1,())∧(spc n 400 m).1=true)∧(x=true→(∃i k,k<i∧i<(spc n 400 m).2.1.length∧Way (spc n 400 m).2.2 k i∧∀p,p<n.1.toNat→(df (spc n 400 m) k).getD p 0≤(df (spc n 400 m) i).getD p 0)):=by
 have hN:=jdo hv;have P:=jrf (M:=400) hmk (by omega);unfold wd;rcases jhj h hv hmk with he|he
 ·rw[he,ax,jjf rfl];dsimp only;generalize spc n 400 m=σ at P;have hlen:=P.sp.len;have hml:=P.ml;have hT:σ.2.2.length≤400*60:=Nat.le_trans hml (Nat.mul_le_mul_left _ hN.2.2.2.2);have hst:∀x∈σ.2.1,x.length=n.1.toNat:=fun x hx=>by have:=(sr.1 (P.sp.mks x hx)).1;omega
  have hmv:∀x∈σ.2.2,∃a b t:Nat,x=mvA a b t∧a<σ.2.1.length∧b<σ.2.1.length:=fun x hx=>by
   obtain⟨a,b,t,e,h1,h2,-⟩:=P.mv x hx;exact⟨a,b,t,e,h1,h2⟩
  obtain⟨l0,e0,f0⟩:=j1m σ.2.2 (L:=σ.2.1.length) (by omega) [] [] false σ.2.1 σ.2.2 σ.1;obtain⟨l1,e1,f1⟩:=j1n (by omega) hmv (by omega) [] [] false σ.2.1 σ.2.2 σ.1 f0;rw[q4m (by omega) (by omega) (by omega) (by omega),e0,ax,lj,e1,ax,lj];have hl1:=f1.1;obtain⟨o,ho,hp⟩:=wg (step:=fun a:Int=>uo (R:=LR Int Unit (dm×Bool×Bool)) l1 (σ.2.1.length:Int) [] [] false σ.2.1 σ.2.2 σ.1 a (fun a' =>some (.next a')) (fun e=>some (.done e)) (fun r=>some (.ret r)))
   (fun a=>∃i:Nat,a=(i:Int)∧i≤σ.2.1.length) (fun a=>σ.2.1.length-a.toNat) (fun o=>o= .inl ()∨∃s,o= .inr (s,false,true)∧∃i k,k<i∧i<σ.2.1.length∧Way σ.2.2 k i∧∀p,p<n.1.toNat→(df σ k).getD p 0≤(df σ i).getD p 0) 0 ⟨0,rfl,Nat.zero_le _⟩ (by show σ.2.1.length-(0:Int).toNat<many;have:=bc (n:=σ.2.1.length) (by omega);omega) (by
    rintro a ⟨i,rfl,hi⟩;unfold uo;by_cases hlt:i<σ.2.1.length
    ·obtain⟨o,h3,h4⟩:=jyj (N:=n.1.toNat) (by omega) (σ.2.1.length:Int) (i:Int) [] [] false σ.2.2 σ.1 (by omega) hlt hst f1;rw[ve (by omega),cu (by omega) (by omega),cu (by omega) (by omega)];simp only[Int.toNat_natCast];rw[h3,ax];rcases h4 with rfl|⟨s,rfl,k,q1,q2,q3⟩
     ·rw[lj,qcu (by omega) (by omega),ah];refine⟨_,rfl,⟨i+1,rfl,by omega⟩,?_⟩;show σ.2.1.length-((i+1:Nat):Int).toNat<σ.2.1.length-(i:Int).toNat;omega
     ·exact⟨_,rfl, .inr ⟨s,rfl,i,k,q1,hlt,q2,q3⟩⟩
    ·rw[wq (by omega)];exact⟨_,rfl, .inl rfl⟩)
  have ho:qna l1 (σ.2.1.length:Int) [] [] false σ.2.1 σ.2.2 σ.1 0=_:=ho;rw[ho,ax];rcases hp with rfl|⟨s,rfl,hm⟩
  ·exact⟨_,_,_,rfl,fun hw=>⟨rfl,hw⟩,fun hx=>(by cases hx)⟩
  ·exact⟨_,_,_,rfl,fun hw=>(by cases hw),fun _=>hm⟩
 ·rw[he,ax];exact⟨_,_,_,rfl,fun hw=>(by cases hw),fun hx=>(by cases hx)⟩
end Go.Proofs.YtclbndfjhjladaaGreat
