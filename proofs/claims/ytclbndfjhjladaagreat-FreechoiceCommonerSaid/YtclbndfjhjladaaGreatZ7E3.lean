/-
  Freechoice: is a net's space whole.
-/
import Derived.Test.YtclbndfjhjladaaGreatZ7E2
set_option linter.all false
namespace Go.Proofs.YtclbndfjhjladaaGreat
open Go.K Go.M
theorem jp4{l:List Int}{s:Nat}{v:Int}(hs:s<l.length)(j:Nat):(l.set s v).getD j 0=if j=s then v else l.getD j 0:=by
 rw[List.getD_eq_getElem?_getD,List.getElem?_set];by_cases e:s=j
 ·rw[if_pos e,if_pos e.symm,if_pos hs];rfl
 ·rw[if_neg e,if_neg fun h=>e h.symm,List.getD_eq_getElem?_getD]
def Fr(L:Nat)(l:List Int):Prop:=l.length=L∧∀j,j<L→l.getD j 0= -1∨(0≤l.getD j 0∧l.getD j 0<(j:Int))
theorem zg8{L:Nat}(hL:L≤1000)(v40:List (List Int))(v41:List a8)(v42:Bool)(s0:List (List Int))(s1:List a8)(s2:Bool):∃l,q26 ((List.replicate (Int.toNat (L:Int)) (0:Int)).length:Int) v40 v41 v42 s0 s1 s2 (0,List.replicate (Int.toNat (L:Int)) 0)=some (.inl l)∧Fr L l:=by
 have hr:(List.replicate (Int.toNat (L:Int)) (0:Int)).length=L:=by rw[List.length_replicate];omega
 rw[hr];obtain⟨o,ho,l,rfl,hp⟩:=qld (step:=fun a:Int×List Int=>qfb (R:=LR (Int×List Int) (List Int) (gq×Bool×Bool)) (L:Int) v40 v41 v42 s0 s1 s2 a.1 a.2 (fun a' =>some (.next a')) (fun e=>some (.done e)) (fun r=>some (.ret r)))
  (fun a=>∃i:Nat,a.1=(i:Int)∧i≤L∧a.2.length=L∧∀j,j<i→a.2.getD j 0= -1) (fun a=>L-a.1.toNat) (fun o=>∃l,o= .inl l∧Fr L l) (0,List.replicate (Int.toNat (L:Int)) 0) ⟨0,rfl,Nat.zero_le _,hr,fun j hj=>by omega⟩ (by show L-(0:Int).toNat<many;have:=fg (n:=L) (by omega);omega) (by
   rintro⟨a,l⟩ ⟨i,rfl,hi,hl,hg⟩;dsimp only at hl hg;unfold qfb;dsimp only;by_cases hlt:i<L
   ·rw[qpi (by omega),fy (by omega) (by omega),fy (by omega) (by omega),lz (by omega) (by omega),ar,Int.toNat_natCast];refine⟨_,rfl,⟨i+1,rfl,by omega,by rw[List.length_set];exact hl,fun j hj=> ?_⟩,?_⟩
    ·show(l.set i (-1)).getD j 0= -1;rw[jp4 (by omega)];by_cases e:j=i
     ·rw[if_pos e]
     ·rw[if_neg e];exact hg j (by omega)
    ·show L-((i+1:Nat):Int).toNat<L-(i:Int).toNat;omega
   ·rw[qe8 (by omega)];exact⟨_,rfl,l,rfl,hl,fun j hj=> .inl (hg j (by omega))⟩)
 exact⟨l,ho,hp⟩
theorem zg9{L:Nat}(hL:L≤1000){mv:List a8}(hm:∀x∈mv,∃a b t:Nat,x=mvA a b t∧a<L∧b<L)(hml:mv.length≤100000)(v40:List (List Int))(v41:List a8)(v42:Bool)(s0:List (List Int))(s1:List a8)(s2:Bool){l:List Int}(hl:Fr L l):
  ∃l',q27 mv (mv.length:Int) v40 v41 v42 s0 s1 s2 (0,l)=some (.inl l')∧Fr L l' :=by
 obtain⟨o,ho,l',rfl,hp⟩:=qld (step:=fun a:Int×List Int=>qfc (R:=LR (Int×List Int) (List Int) (gq×Bool×Bool)) mv (mv.length:Int) v40 v41 v42 s0 s1 s2 a.1 a.2 (fun a' =>some (.next a')) (fun e=>some (.done e)) (fun r=>some (.ret r)))
  (fun a=>∃i:Nat,a.1=(i:Int)∧i≤mv.length∧Fr L a.2) (fun a=>mv.length-a.1.toNat) (fun o=>∃l,o= .inl l∧Fr L l) (0,l) ⟨0,rfl,Nat.zero_le _,hl⟩ (by show mv.length-(0:Int).toNat<many;have:=fg (n:=mv.length) (by omega);omega) (by
   rintro⟨x,l⟩ ⟨i,rfl,hi,hg⟩;dsimp only at hg;unfold qfc;dsimp only;by_cases hlt:i<mv.length
   ·obtain⟨a,b,t,e,ha,hb⟩:=hm _ (bm a8.z hlt);have fin:∀l',Fr L l' →∃x,ae (bc .i64 ((i:Int)+1)) (some (LR.next ((i:Int)+1,l')):Option (LR (Int×List Int) (List Int) (gq×Bool×Bool)))=some x∧jv0 (fun a:Int×List Int=>∃i:Nat,a.1=(i:Int)∧i≤mv.length∧Fr L a.2) (fun a=>mv.length-a.1.toNat) (fun o:List Int⊕(gq×Bool×Bool)=>∃l,o= .inl l∧Fr L l) (mv.length-(i:Int).toNat) x:=fun l' h' =>by
     rw[lz (by omega) (by omega),ar];refine⟨_,rfl,⟨i+1,rfl,by omega,h'⟩,?_⟩;show mv.length-((i+1:Nat):Int).toNat<mv.length-(i:Int).toNat;omega
    rw[qpi (by omega),fy (by omega) (by omega),fy (by omega) (by omega)];simp only[Int.toNat_natCast];have e1:(mv.getD i a8.z).1=(a:Int):=by rw[e];rfl
    have e2:(mv.getD i a8.z).2.1=(b:Int):=by rw[e];rfl
    have e3:(mv.getD i a8.z).2.1.toNat=b:=by omega
    have hlen:=hg.1;by_cases c1:(mv.getD i a8.z).1<(mv.getD i a8.z).2.1
    ·rw[qpi c1,fy (by omega) (by omega),fy (by omega) (by omega)];by_cases c2:l.getD (mv.getD i a8.z).2.1.toNat 0<0
     ·rw[qpi c2,fy (by omega) (by omega),fy (by omega) (by omega)];refine fin _ ?_;rw[e3,e1];refine⟨by rw[List.length_set];exact hlen,fun j hj=> ?_⟩;rw[jp4 (by omega)];by_cases e2:j=b
      ·rw[if_pos e2];omega
      ·rw[if_neg e2];exact hg.2 j hj
     ·rw[qe8 (by omega)];exact fin _ hg
    ·rw[qe8 (by omega)];exact fin _ hg
   ·rw[qe8 (by omega)];exact⟨_,rfl,l,rfl,hg⟩)
 exact⟨l',ho,hp⟩
theorem j56{N:Nat}(hN:N≤1000)(fr:List Int){i k:Nat}(v68 v69:Int)(v40:List (List Int))(v41:List a8)(v42:Bool){st:List (List Int)}(s1:List a8)(s2:Bool)(hi:i<st.length)(hk:k<st.length)(hst:∀x∈st,x.length=N):
  ∃b,q28 fr (i:Int) (k:Int) v68 v69 ((st.getD i []).length:Int) v40 v41 v42 st s1 s2 (false,0)=some (.inl b):=by
 have h1:=hst _ (bm [] hi);have h2:=hst _ (bm [] hk);obtain⟨o,ho,b,rfl⟩:=qld (step:=fun a:Bool×Int=>qfd (R:=LR (Bool×Int) Bool (gq×Bool×Bool)) fr (i:Int) (k:Int) v68 v69 ((st.getD i []).length:Int) v40 v41 v42 st s1 s2 a.1 a.2 (fun a' =>some (.next a')) (fun e=>some (.done e)) (fun r=>some (.ret r)))
  (fun a=>∃j:Nat,a.2=(j:Int)∧j≤N) (fun a=>N-a.2.toNat) (fun o=>∃b,o= .inl b) (false,0) ⟨0,rfl,Nat.zero_le _⟩ (by show N-(0:Int).toNat<many;have:=fg (n:=N) (by omega);omega) (by
   rintro⟨b,a⟩ ⟨j,rfl,hj⟩;unfold qfd;dsimp only;by_cases hlt:j<N
   ·rw[qpi (by omega),fy (by omega) (by omega),fy (by omega) (by omega)];simp only[Int.toNat_natCast];rw[fy (by omega) (by omega),fy (by omega) (by omega),fy (by omega) (by omega),fy (by omega) (by omega),fy (by omega) (by omega),fy (by omega) (by omega)];have fin:∀b:Bool,∃x,ae (bc .i64 ((j:Int)+1)) (some (LR.next (b,(j:Int)+1)):Option (LR (Bool×Int) Bool (gq×Bool×Bool)))=some x∧jv0 (fun a:Bool×Int=>∃j:Nat,a.2=(j:Int)∧j≤N) (fun a=>N-a.2.toNat) (fun o:Bool⊕(gq×Bool×Bool)=>∃b,o= .inl b) (N-(j:Int).toNat) x:=fun b=>by
     rw[lz (by omega) (by omega),ar];refine⟨_,rfl,⟨j+1,rfl,by omega⟩,?_⟩;show N-((j+1:Nat):Int).toNat<N-(j:Int).toNat;omega
    cases decide ((st.getD i []).getD j 0<(st.getD k []).getD j 0)with
    |true=>exact fin _
    |false=>exact fin _
   ·rw[qe8 (by omega)];exact⟨_,rfl,b,rfl⟩)
 exact⟨b,ho⟩
theorem j2j{N:Nat}(hN:N≤1000){fr:List Int}{i:Nat}(v68 v69:Int)(v40:List (List Int))(v41:List a8)(v42:Bool){st:List (List Int)}(s1:List a8)(s2:Bool)(hL:st.length≤1000)(hi:i<st.length)(hst:∀x∈st,x.length=N)(hf:Fr st.length fr):
  ∃o,q29 fr (i:Int) v68 v69 v40 v41 v42 st s1 s2 (fr.getD i 0)=some o∧(o= .inl ()∨∃s x,o= .inr (s,false,x)):=by
 have hlen:=hf.1;refine qld (step:=fun a:Int=>xq (R:=LR Int Unit (gq×Bool×Bool)) fr (i:Int) v68 v69 v40 v41 v42 st s1 s2 a (fun a' =>some (.next a')) (fun e=>some (.done e)) (fun r=>some (.ret r)))
  (fun a=>a= -1∨∃k:Nat,a=(k:Int)∧k<st.length) (fun a=>(a+1).toNat) (fun o=>o= .inl ()∨∃s x,o= .inr (s,false,x)) _ (by
   rcases hf.2 i hi with h|h
   ·exact .inl h
   ·exact .inr ⟨(fr.getD i 0).toNat,by omega,by omega⟩) (by
   have:=hf.2 i hi;have:=fg (n:=1001) (by omega);show(fr.getD i 0+1).toNat<many;omega) ?_
 rintro a (rfl|⟨k,rfl,hk⟩)
 ·unfold xq;rw[jyg (by omega)];exact⟨_,rfl, .inl rfl⟩
 ·unfold xq;obtain⟨b,hb⟩:=j56 hN fr v68 v69 v40 v41 v42 s1 s2 hi hk hst;rw[j2a (by omega),fy (by omega) (by omega),fy (by omega) (by omega)];simp only[Int.toNat_natCast];rw[hb,ao,i6];cases b with
  |false=>exact⟨_,rfl, .inr ⟨_,_,rfl⟩⟩
  |true=>
   simp only[Bool.not_true,cond_false];rw[fy (by omega) (by omega),fy (by omega) (by omega)];have:=hf.2 k hk;refine⟨_,rfl,?_,?_⟩
   ·rcases this with h|h
    ·exact .inl h
    ·exact .inr ⟨(fr.getD k 0).toNat,by omega,by omega⟩
   ·show(fr.getD k 0+1).toNat<((k:Int)+1).toNat;omega
theorem jv8{n:dj}(h:Small n){m:List Int}(hv:n5 n=true)(hmk:l4 n.1 m=true):∃s w x,qg1 n m=some (s,w,x)∧(w=true→s=((spc n 400 m).2.1,(spc n 400 m).2.2,(spc n 400 m).1,())∧(spc n 400 m).1=true):=by
 have hN:=q2q hv;have P:=j4n (M:=400) hmk (by omega);unfold qg1;rcases jwp h hv hmk with he|he
 ·rw[he,ao,jrb rfl];dsimp only;generalize spc n 400 m=σ at P;have hlen:=P.sp.len;have hml:=P.ml;have hT:σ.2.2.length≤400*60:=Nat.le_trans hml (Nat.mul_le_mul_left _ hN.2.2.2.2);have hst:∀x∈σ.2.1,x.length=n.1.toNat:=fun x hx=>by have:=(qfi.1 (P.sp.mks x hx)).1;omega
  have hmv:∀x∈σ.2.2,∃a b t:Nat,x=mvA a b t∧a<σ.2.1.length∧b<σ.2.1.length:=fun x hx=>by
   obtain⟨a,b,t,e,h1,h2,-⟩:=P.mv x hx;exact⟨a,b,t,e,h1,h2⟩
  obtain⟨l0,e0,f0⟩:=zg8 (L:=σ.2.1.length) (by omega) [] [] false σ.2.1 σ.2.2 σ.1;obtain⟨l1,e1,f1⟩:=zg9 (by omega) hmv (by omega) [] [] false σ.2.1 σ.2.2 σ.1 f0;rw[jrf (by omega) (by omega) (by omega) (by omega),e0,ao,i6,e1,ao,i6];have hl1:=f1.1;obtain⟨o,ho,hp⟩:=qld (step:=fun a:Int=>qfe (R:=LR Int Unit (gq×Bool×Bool)) l1 (σ.2.1.length:Int) [] [] false σ.2.1 σ.2.2 σ.1 a (fun a' =>some (.next a')) (fun e=>some (.done e)) (fun r=>some (.ret r)))
   (fun a=>∃i:Nat,a=(i:Int)∧i≤σ.2.1.length) (fun a=>σ.2.1.length-a.toNat) (fun o=>o= .inl ()∨∃s x,o= .inr (s,false,x)) 0 ⟨0,rfl,Nat.zero_le _⟩ (by show σ.2.1.length-(0:Int).toNat<many;have:=fg (n:=σ.2.1.length) (by omega);omega) (by
    rintro a ⟨i,rfl,hi⟩;unfold qfe;by_cases hlt:i<σ.2.1.length
    ·obtain⟨o,h3,h4⟩:=j2j (N:=n.1.toNat) (by omega) (σ.2.1.length:Int) (i:Int) [] [] false σ.2.2 σ.1 (by omega) hlt hst f1;rw[qpi (by omega),fy (by omega) (by omega),fy (by omega) (by omega)];simp only[Int.toNat_natCast];rw[h3,ao];rcases h4 with rfl|⟨s,x,rfl⟩
     ·rw[i6,lz (by omega) (by omega),ar];refine⟨_,rfl,⟨i+1,rfl,by omega⟩,?_⟩;show σ.2.1.length-((i+1:Nat):Int).toNat<σ.2.1.length-(i:Int).toNat;omega
     ·exact⟨_,rfl, .inr ⟨s,x,rfl⟩⟩
    ·rw[qe8 (by omega)];exact⟨_,rfl, .inl rfl⟩)
  have ho:q3a l1 (σ.2.1.length:Int) [] [] false σ.2.1 σ.2.2 σ.1 0=_:=ho;rw[ho,ao];rcases hp with rfl|⟨s,x,rfl⟩
  ·exact⟨_,_,_,rfl,fun hw=>⟨rfl,hw⟩⟩
  ·exact⟨_,_,_,rfl,fun hw=>by cases hw⟩
 ·rw[he,ao];exact⟨_,_,_,rfl,fun hw=>by cases hw⟩
end Go.Proofs.YtclbndfjhjladaaGreat
