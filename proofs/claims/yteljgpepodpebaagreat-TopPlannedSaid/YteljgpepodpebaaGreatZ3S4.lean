/-
  Rotas: the bound of a box.
-/
import Derived.Test.YteljgpepodpebaaGreatZ3S3
set_option linter.all false
namespace Go.Proofs.YteljgpepodpebaaGreat
open Go.K Go.M
theorem q2y(f:Nat→Int):∀n:Nat,((xl f n:Int):Rat)=d4 n (fun i=>(f i:Rat))
 |0=>rfl
 |n+1=>by
  show((xl f n+f n:Int):Rat)=d4 n _+(f n:Rat);rw[Rat.intCast_add,q2y f n]
theorem jqa{D:Nat}{s:List Int}(h:qtb D s s.length){k:Nat}(hk:k<s.length):¬s.getD k 0∈s.take k:=fun hm=>by
 obtain⟨j,hj,e⟩:=qox 0 hm;rw[List.length_take]at hj;have e1:(s.take k).getD j 0=s.getD j 0:=by rw[List.getD_eq_getElem?_getD,List.getD_eq_getElem?_getD,List.getElem?_take,if_pos (by omega)]
 have hlt:∀b a:Nat,a<b→b<s.length→s.getD a 0<s.getD b 0:=by
  intro b
  induction b with
  |zero=>intro a h;omega
  |succ b ih=>
   intro a h0 hb;have h2:=(h (b+1) hb).2 (by omega);have h2:s.getD b 0<s.getD (b+1) 0:=h2;by_cases e:a=b
   ·rw[e];exact h2
   ·have:=ih a (by omega) (by omega);omega
 have:=hlt k j (by omega) hk;omega
theorem ji1{D:Nat}{s:List Int}(h:qtb D s s.length)(g:Nat→Rat):∀k:Nat,k≤s.length→d4 k (fun j=>g (s.getD j 0).toNat)=d4 D (fun t=>if(t:Int)∈s.take k then g t else 0)
 |0,_=>by
  rw[qdc (n:=D) fun t _=>by rw[List.take_zero,if_neg (fun h=>by cases h)]];rfl
 |k+1,hk=>by
  have h1:=ji1 h g k (by omega);obtain⟨⟨g0,g1⟩,-⟩:=h k (by omega);have h2:d4 D (fun t=>if(t:Int)∈s.take (k+1)then g t else 0)=d4 D (fun t=>(if(t:Int)∈s.take k then g t else 0)+(if t=(s.getD k 0).toNat then g t else 0)):=cp fun t _=>by
   rw[qqp s k 0 (by omega)];by_cases e:t=(s.getD k 0).toNat
   ·have e1:(t:Int)=s.getD k 0:=by omega
    rw[if_pos e,if_pos (List.mem_append_right _ (by rw[e1];exact List.mem_singleton.2 rfl)),if_neg (by rw[e1];exact jqa h (by omega))]
    grind
   ·rw[if_neg e];by_cases hm:(t:Int)∈s.take k
    ·rw[if_pos hm,if_pos (List.mem_append_left _ hm)];grind
    ·rw[if_neg hm,if_neg (fun hm' =>(List.mem_append.1 hm').elim hm fun hm' =>e (by have:=List.mem_singleton.1 hm';omega))];grind
  rw[h2,ql2,←h1];show d4 k _+g (s.getD k 0).toNat=_;rw[qhp (n:=D) (k:=(s.getD k 0).toNat) (by omega) fun t _ ht=>if_neg ht,if_pos rfl]
def qd7(l:List ae)(i t:Nat):Prop:=(t:Int)∈(l.getD i ae.z).1
instance (l : List ae) (i t : Nat) : Decidable (qd7 l i t) := inferInstanceAs (Decidable ((t : Int) ∈ (l.getD i ae.z).1))
abbrev yv(y:List ab)(t:Nat):Rat:=fv (y.getD t ab.z)
def prR(D:Nat)(l:List ae)(y:List ab)(i:Nat):Rat:=((l.getD i ae.z).2.1:Rat)-d4 D (fun t=>if qd7 l i t then yv y t else 0)
def nvI(D:Nat)(l:List ae)(lo hi:List Int)(y:List ab)(i:Nat):Int:=if prR D l y i<0 then hi.getD i 0 else lo.getD i 0
def qrj(d:List Int)(l:List ae)(lo hi:List Int)(y:List ab):Rat:=d4 d.length (fun t=>(d.getD t 0:Rat)*yv y t)+d4 l.length (fun i=>prR d.length l y i*(nvI d.length l lo hi y i:Rat))
theorem jch{d:List Int}(l:List ae)(y:List ab)(b0 b1:List Int)(v0 v1:Int)(h:d.length≤1000):qst l y d (d.length:Int) b0 b1 v0 v1 (0,[])=some (.inl (be d.length fun t=>(d.getD t 0,1,()))):=by
 refine j9 (fun i=>((i:Int),be i fun t=>(d.getD t 0,1,()))) d.length (cr (by omega)) _ (fun i hi=> ?_) ?_ _ rfl
 ·have h1:=db i fun t=>((d.getD t 0,1,()):ab)
  unfold z5 bd;dsimp only;rw[xL,xI,xI,af,xM,xR,am,s8,Int.toNat_natCast]
 ·unfold z5;dsimp only;rw[xN]
theorem jo6{d:List Int}{y:List ab}(h:(qc (be d.length fun t=>(d.getD t 0,1,())) y).2=0):NF (qc (be d.length fun t=>(d.getD t 0,1,())) y).1∧fv (qc (be d.length fun t=>(d.getD t 0,1,())) y).1=d4 d.length (fun t=>(d.getD t 0:Rat)*yv y t):=by
 have h1:=qum h;refine⟨h1.2.2.2.1,?_⟩;rw[h1.2.2.2.2,db];exact cp fun t ht=>by rw[em ht,nk]
theorem jfl{D:Nat}{y:List ab}(hy:y.length=D)(hD:D≤24)(i:Int)(v44:List ae)(v45 v46:Int){s:List Int}(hs:qtb D s s.length)(b0 b1:List Int)(v80 v81 s0 s1:Int){p:Int}(hp:0≤p∧p≤1000):
  ∃o,qb3 y i v44 v45 v46 s (s.length:Int) b0 b1 v80 v81 s0 s1 (0,p,1)=some o∧((∃q0 q1,o= .inl (q0,q1)∧NF (q0,q1,())∧fv (q0,q1,())=(p:Rat)-d4 s.length (fun j=>yv y (s.getD j 0).toNat))∨o= .inr ((0,0,()),false)):=by
 have hle:=qkt hs;obtain⟨o,ho,hp2⟩:=fy (step:=fun a:Int×Int×Int=>kh (R:=LR (Int×Int×Int) (Int×Int) (ab×Bool)) y i v44 v45 v46 s (s.length:Int) b0 b1 v80 v81 s0 s1 a.1 a.2.1 a.2.2 (fun a' =>some (.next a')) (fun e=>some (.done e)) (fun r=>some (.ret r)))
  (fun a=>∃(k:Nat),a.1=(k:Int)∧k≤s.length∧NF (a.2.1,a.2.2,())∧fv (a.2.1,a.2.2,())=(p:Rat)-d4 k (fun j=>yv y (s.getD j 0).toNat)) (fun a=>s.length-a.1.toNat)
  (fun o=>(∃q0 q1,o= .inl (q0,q1)∧NF (q0,q1,())∧fv (q0,q1,())=(p:Rat)-d4 s.length (fun j=>yv y (s.getD j 0).toNat))∨o= .inr ((0,0,()),false)) (0,p,1)
  ⟨0,rfl,by omega,nu (n:=p) (by omega) (by omega),by rw[nk];show(p:Rat)=p-0;grind⟩ (xZ (by omega)) (by
   rintro⟨a,q0,q1⟩ ⟨k,rfl,hk,hn,hv⟩;dsimp only at hn hv;unfold kh;dsimp only;by_cases hlt:k<s.length
   ·obtain⟨⟨g0,g1⟩,-⟩:=hs k hlt;rw[xL,xI,xI,Int.toNat_natCast,xI,xI,q25,af];by_cases c0:(qba (q0,q1,()) (y.getD (s.getD k 0).toNat ab.z)).2=0
    ·have h1:=jbp c0;rw[cm c0,xR,am];refine⟨_,rfl,⟨k+1,rfl,by omega,h1.2.2.1,?_⟩,?_⟩
     ·refine h1.2.2.2.trans ?_;rw[hv];show _=(p:Rat)-(d4 k _+yv y (s.getD k 0).toNat)
      grind
     ·exact xD (by omega)
    ·rw[gn c0];exact⟨_,rfl, .inr rfl⟩
   ·rw[xN];have e:s.length=k:=by omega
    exact⟨_,rfl, .inl ⟨q0,q1,rfl,hn,by rw[e];exact hv⟩⟩)
 exact⟨o,ho,hp2⟩
theorem jkk(y:List ab)(n:Int)(v44:List ae)(v45 v46:Int)(b0 b1:List Int)(v80 v81 s0 s1 q0 q1:Int):∃o,ig y n v44 v45 v46 b0 b1 v80 v81 s0 s1 q0 q1=some o∧((∃r0 r1,o= .inl (r0,r1)∧NF (r0,r1,())∧fv (r0,r1,())=fv (s0,s1,())+fv (q0,q1,())*(n:Rat))∨o= .inr ((0,0,()),false)):=by
 unfold ig sq bd;rw[af,qxs,af];by_cases c0:(mg (q0,q1,()) (n,1,())).2=0
 ·rw[cm c0,q23,af];have h1:=jbo c0;by_cases c1:(qcc (s0,s1,()) (mg (q0,q1,()) (n,1,())).1).2=0
  ·rw[cm c1];have h2:=ji9 c1;exact⟨_,rfl, .inl ⟨_,_,rfl,h2.2.2.1,by refine h2.2.2.2.trans ?_;rw[h1.2.2.2,nk]⟩⟩
  ·rw[gn c1];exact⟨_,rfl, .inr rfl⟩
 ·rw[gn c0];exact⟨_,rfl, .inr rfl⟩
theorem jd9{d:List Int}{l:List ae}(h:Good d l){lo hi:List Int}{y:List ab}(hy:y.length=d.length)(hlo:lo.length=l.length)(hhi:hi.length=l.length):
  ∃r ok,my d l (lo,hi,()) y=some (r,ok)∧(ok=true→NF r∧fv r=qrj d l lo hi y):=by
 have h1:=h.d1;have h2:=h.l1;unfold my;dsimp only;rw[jch l y lo hi 0 0 (by omega),af];show∃r ok,bnd (mq (be d.length fun t=>(d.getD t 0,1,())) y) _=some (r,ok)∧_;rw[qe1 (by rw[db];omega) (by omega),af];by_cases c0:(qc (be d.length fun t=>(d.getD t 0,1,())) y).2=0
 ·rw[cm c0];have h3:=jo6 c0;obtain⟨o,ho,hp⟩:=fy (step:=fun a:Int×Int×Int=>kj (R:=LR (Int×Int×Int) (Int×Int) (ab×Bool)) y l (l.length:Int) lo hi 0 0 a.1 a.2.1 a.2.2 (fun a' =>some (.next a')) (fun e=>some (.done e)) (fun r=>some (.ret r)))
   (fun a=>∃(k:Nat),a.1=(k:Int)∧k≤l.length∧NF (a.2.1,a.2.2,())∧fv (a.2.1,a.2.2,())=d4 d.length (fun t=>(d.getD t 0:Rat)*yv y t)+d4 k (fun i=>prR d.length l y i*(nvI d.length l lo hi y i:Rat))) (fun a=>l.length-a.1.toNat)
   (fun o=>(∃q0 q1,o= .inl (q0,q1)∧NF (q0,q1,())∧fv (q0,q1,())=qrj d l lo hi y)∨o= .inr ((0,0,()),false)) (0,(qc (be d.length fun t=>(d.getD t 0,1,())) y).1.1,(qc (be d.length fun t=>(d.getD t 0,1,())) y).1.2.1)
   ⟨0,rfl,by omega,h3.1,by rw[show d4 0 (fun i=>prR d.length l y i*(nvI d.length l lo hi y i:Rat))=0 from rfl];exact h3.2.trans (by grind)⟩ (xZ (by omega)) (by
    rintro⟨a,q0,q1⟩ ⟨k,rfl,hk,hn,hv⟩;dsimp only at hn hv;unfold kj bd;dsimp only;by_cases hlt:k<l.length
    ·have hs:=h.sh k hlt;obtain⟨o,ho,hp⟩:=jfl hy h1 (k:Int) l (l.length:Int) (k:Int) hs.cv lo hi 0 0 q0 q1 ⟨hs.p0,hs.p1⟩;rw[xL,xI,xI,Int.toNat_natCast,af,ho,af];rcases hp with⟨w0,w1,rfl,hw1,hw2⟩|rfl
     ·have hw3:fv (w0,w1,())=prR d.length l y k:=by
       rw[hw2,ji1 hs.cv (yv y) _ (Nat.le_refl _),List.take_length];rfl
      have fin:∀n:Int,n=nvI d.length l lo hi y k→∃x,(bnd (ig y n l (l.length:Int) (k:Int) lo hi 0 0 q0 q1 w0 w1) fun oe=>lk oe (fun e=>ai (cg .i64 ((k:Int)+1)) (some (LR.next ((k:Int)+1,e.1,e.2)))) fun r=>(some (LR.ret r):Option (LR (Int×Int×Int) (Int×Int) (ab×Bool))))=some x∧qxr (fun a=>∃(k:Nat),a.1=(k:Int)∧k≤l.length∧NF (a.2.1,a.2.2,())∧fv (a.2.1,a.2.2,())=d4 d.length (fun t=>(d.getD t 0:Rat)*yv y t)+d4 k (fun i=>prR d.length l y i*(nvI d.length l lo hi y i:Rat))) (fun a:Int×Int×Int=>l.length-a.1.toNat)
       (fun o=>(∃q0 q1,o= .inl (q0,q1)∧NF (q0,q1,())∧fv (q0,q1,())=qrj d l lo hi y)∨o= .inr ((0,0,()),false)) (l.length-(k:Int).toNat) x:=fun n en=>by
       obtain⟨o,ho,hp⟩:=jkk y n l (l.length:Int) (k:Int) lo hi 0 0 q0 q1 w0 w1;rw[ho,af];rcases hp with⟨r0,r1,rfl,hr1,hr2⟩|rfl
       ·refine⟨.next (((k+1:Nat):Int),r0,r1),?_,⟨k+1,rfl,by omega,hr1,?_⟩,?_⟩
        ·show ai (cg .i64 ((k:Int)+1)) (some (LR.next ((k:Int)+1,r0,r1)))=_;rw[xR,am]
        ·refine hr2.trans ?_;rw[hv,hw3,en];show _=_+(d4 k _+prR d.length l y k*(nvI d.length l lo hi y k:Rat))
         grind
        ·exact xD (by omega)
       ·exact⟨_,rfl, .inr rfl⟩
      rw[g9,xI,xI];have hsg:=wg hw1;by_cases c1:w0<0
      ·rw[bi c1,xI,xI];refine fin _ ?_;unfold nvI;rw[←hw3,if_pos (hsg.1 c1)]
      ·rw[xN];refine fin _ ?_;unfold nvI;rw[←hw3,if_neg fun h=>c1 (hsg.2 h)]
     ·exact⟨_,rfl, .inr rfl⟩
    ·rw[xN];have e:l.length=k:=by omega
     exact⟨_,rfl, .inl ⟨q0,q1,rfl,hn,by unfold qrj;rw[e];exact hv⟩⟩)
  have ho:vg y l (l.length:Int) lo hi 0 0 (0,(qc (be d.length fun t=>(d.getD t 0,1,())) y).1.1,(qc (be d.length fun t=>(d.getD t 0,1,())) y).1.2.1)=_:=ho;rw[ho,af];rcases hp with⟨q0,q1,rfl,hq1,hq2⟩|rfl
  ·exact⟨_,_,rfl,fun _=>⟨hq1,hq2⟩⟩
  ·exact⟨_,_,rfl,fun h=>by cases h⟩
 ·rw[gn c0];exact⟨_,_,rfl,fun h=>by cases h⟩
theorem jso(l:List ae)(c:List Int)(t:Nat):((za l c t:Int):Rat)=d4 l.length (fun i=>(if qd7 l i t then 1 else 0)*(c.getD i 0:Rat)):=by
 unfold za;rw[q2y];exact cp fun i _=>by
  by_cases e:qd7 l i t
  ·rw[if_pos e,if_pos (show(t:Int)∈_ from e)];grind
  ·rw[if_neg e,if_neg (show¬(t:Int)∈_ from e)];show((0:Int):Rat)=_;grind
theorem jad(D:Nat)(l:List ae)(y:List ab)(c:List Int):d4 l.length (fun i=>prR D l y i*(c.getD i 0:Rat))=(fw l c:Rat)-d4 D (fun t=>(za l c t:Rat)*yv y t):=by
 have h1:(fw l c:Rat)=d4 l.length (fun i=>((l.getD i ae.z).2.1:Rat)*(c.getD i 0:Rat)):=by
  unfold fw;rw[q2y];exact cp fun i _=>Rat.intCast_mul _ _
 have h2:d4 D (fun t=>(za l c t:Rat)*yv y t)=d4 l.length (fun i=>d4 D (fun t=>(if qd7 l i t then yv y t else 0)*(c.getD i 0:Rat))):=by
  rw[qw3 (fun t i=>(if qd7 l i t then yv y t else 0)*(c.getD i 0:Rat))];exact cp fun t _=>by
   rw[jso,←qw2];exact cp fun i _=>by split<;>grind
 have h3:∀i,prR D l y i*(c.getD i 0:Rat)=((l.getD i ae.z).2.1:Rat)*(c.getD i 0:Rat)+(-1)*d4 D (fun t=>(if qd7 l i t then yv y t else 0)*(c.getD i 0:Rat)):=fun i=>by
  rw[qw2];unfold prR
  grind
 rw[cp fun i _=>h3 i,ql2,qho,h1,h2]
 grind
def jm4(lo hi c:List Int)(n:Nat):Prop:=∀i,i<n→lo.getD i 0≤c.getD i 0∧c.getD i 0≤hi.getD i 0
theorem jnk{d:List Int}{l:List ae}{lo hi c:List Int}{y:List ab}(hc:Cvr d l c)(hb:jm4 lo hi c l.length)(hy:∀t,t<d.length→0≤yv y t):qrj d l lo hi y≤(fw l c:Rat):=by
 have h1:d4 l.length (fun i=>prR d.length l y i*(nvI d.length l lo hi y i:Rat))≤d4 l.length (fun i=>prR d.length l y i*(c.getD i 0:Rat)):=qz2 fun i hi=>by
  have h2:=hb i hi;unfold nvI;by_cases e:prR d.length l y i<0
  ·rw[if_pos e];have h3:(c.getD i 0:Rat)≤(_:Rat):=Rat.intCast_le_intCast.2 h2.2;have:=Rat.mul_le_mul_of_nonneg_left h3 (c:= -prR d.length l y i) (by grind)
   grind
  ·rw[if_neg e];exact Rat.mul_le_mul_of_nonneg_left (Rat.intCast_le_intCast.2 h2.1) (by grind)
 have h4:d4 d.length (fun t=>(d.getD t 0:Rat)*yv y t)≤d4 d.length (fun t=>(za l c t:Rat)*yv y t):=qz2 fun t ht=>
  Rat.mul_le_mul_of_nonneg_right (Rat.intCast_le_intCast.2 (hc t ht)) (hy t ht)
 rw[jad]at h1;unfold qrj
 grind
end Go.Proofs.YteljgpepodpebaaGreat
