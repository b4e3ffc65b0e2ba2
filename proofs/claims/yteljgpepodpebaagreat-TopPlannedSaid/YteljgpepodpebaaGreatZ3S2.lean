/-
  Rotas: counts, what they have, what they cost.
-/
import Derived.Test.YteljgpepodpebaaGreatZ3S1
set_option linter.all false
namespace Go.Proofs.YteljgpepodpebaaGreat
open Go.K Go.M
def za(l:List ae)(c:List Int)(t:Nat):Int:=xl (fun i=>if(t:Int)∈(l.getD i ae.z).1 then c.getD i 0 else 0) l.length
def fw(l:List ae)(c:List Int):Int:=xl (fun i=>(l.getD i ae.z).2.1*c.getD i 0) l.length
def Cvr(d:List Int)(l:List ae)(c:List Int):Prop:=∀t,t<d.length→d.getD t 0≤za l c t
def Cnt(l:List ae)(c:List Int):Prop:=c.length=l.length∧∀i,i<l.length→0≤c.getD i 0∧c.getD i 0≤(l.getD i ae.z).2.2.1
def gu(l:List ae):List Int:=be l.length fun i=>(l.getD i ae.z).2.2.1
theorem q2r{l:List ae}(h:l.length≤1000):xh l=some (gu l):=by
 have hL:qv3 l (l.length:Int) (0,[])=some (.inl (gu l)):=by
  refine j9 (fun i=>((i:Int),be i fun i=>(l.getD i ae.z).2.2.1)) l.length (cr (by omega)) _ (fun i hi=> ?_) ?_ _ rfl
  ·have h1:=db i fun i=>(l.getD i ae.z).2.2.1
   unfold qb4;dsimp only;rw[xL,xI,xI,xM,xR,am,s8];rfl
  ·unfold qb4;dsimp only;rw[xN];rfl
 unfold xh;rw[hL];rfl
theorem que{c:List Int}(h:c.length≤1000):cj c=some c:=by
 unfold cj lm;rw[xM];rfl
theorem q3m{l:List ae}(h:l.length≤1000):yb l=some (List.replicate l.length 0,gu l,()):=by
 unfold yb;rw[jbi (by omega) (by omega) (by omega) (by omega),q2r h];rfl
theorem jki{f g:Nat→Int}:∀{n:Nat},(∀k,k<n→f k≤g k)→xl f n≤xl g n
 |0,_=>Int.le_refl _
 |n+1,h=>by
  have h1:=jki (n:=n) fun k hk=>h k (by omega)
  have h2:=h n (by omega);show xl f n+f n≤xl g n+g n;omega
theorem q20{f:Nat→Int}{b:Int}:∀{n:Nat},(∀k,k<n→0≤f k∧f k≤b)→0≤xl f n∧xl f n≤n*b
 |0,_=>by simp[xl]
 |n+1,h=>by
  have h1:=q20 (n:=n) fun k hk=>h k (by omega)
  have h2:=h n (by omega);have h3:((n+1:Nat):Int)*b=n*b+b:=by rw[show((n+1:Nat):Int)=(n:Int)+1 by omega,Int.add_mul,Int.one_mul]
  show 0≤xl f n+f n∧xl f n+f n≤((n+1:Nat):Int)*b;omega
theorem jp2{d:List Int}{l:List ae}{c:List Int}{i:Nat}(hi:i<c.length)(hc:0≤c.getD i 0∧c.getD i 0≤20)(v18 v19:Int){cv:List Int}(hcv:qtb d.length cv cv.length)(hd:d.length≤24){f:Nat→Int}(hf:∀t,t<d.length→0≤f t∧f t≤1000):
  qs0 d c (i:Int) l v18 v19 cv (cv.length:Int) (0,be d.length f)=some (.inl (be d.length fun t=>f t+if(t:Int)∈cv then c.getD i 0 else 0)):=by
 have hle:=qkt hcv;refine j9 (fun k=>((k:Int),be d.length fun t=>f t+if(t:Int)∈cv.take k then c.getD i 0 else 0)) cv.length (cr (by omega)) _ (fun k hk=> ?_) ?_ _ ?_
 ·obtain⟨⟨g0,g1⟩,-⟩:=hcv k hk;have h1:=db d.length fun t=>f t+if(t:Int)∈cv.take k then c.getD i 0 else 0
  have hw:(cv.getD k 0).toNat<d.length:=by omega
  have hnot:¬cv.getD k 0∈cv.take k:=fun hm=>by
   obtain⟨j,hj,e⟩:=qox 0 hm;rw[List.length_take]at hj;have e1:(cv.take k).getD j 0=cv.getD j 0:=by rw[List.getD_eq_getElem?_getD,List.getD_eq_getElem?_getD,List.getElem?_take,if_pos (by omega)]
   have hlt:∀b a:Nat,a<b→b<cv.length→cv.getD a 0<cv.getD b 0:=by
    intro b
    induction b with
    |zero=>intro a h;omega
    |succ b ih=>
     intro a h hb;have h2:=(hcv (b+1) hb).2 (by omega);have h2:cv.getD b 0<cv.getD (b+1) 0:=h2;by_cases e:a=b
     ·rw[e];exact h2
     ·have:=ih a (by omega) (by omega);omega
   have:=hlt k j (by omega) hk;omega
  have hnot' :¬(((cv.getD k 0).toNat:Nat):Int)∈cv.take k:=by rw[Int.toNat_of_nonneg g0];exact hnot
  have hfw:=hf _ hw;unfold qae;dsimp only;rw[xL,xI,xI];simp only[Int.toNat_natCast];rw[ao g0 (by omega),ao g0 (by omega),xI,xI,em hw,if_neg hnot',Int.add_zero,xR,ao g0 (by omega),ao g0 (by omega),xR,am,q21];refine congrArg (fun z=>some (LR.next (((k+1:Nat):Int),z))) (ua fun t ht=> ?_);rw[qqp cv k 0 hk];by_cases e:t=(cv.getD k 0).toNat
  ·have e1:(t:Int)=cv.getD k 0:=by omega
   rw[if_pos e,if_pos (List.mem_append_right _ (by rw[e1];exact List.mem_singleton.2 rfl)),e]
  ·rw[if_neg e];by_cases hm:(t:Int)∈cv.take k
   ·rw[if_pos hm,if_pos (List.mem_append_left _ hm)]
   ·rw[if_neg hm,if_neg (fun hm' =>(List.mem_append.1 hm').elim hm fun hm' =>e (by have:=List.mem_singleton.1 hm';omega))]
 ·unfold qae;dsimp only;rw[xN,List.take_length]
 ·refine congrArg (fun z=>((0:Int),z)) (ua fun t ht=> ?_);rw[List.take_zero,if_neg (fun h=>by cases h),Int.add_zero]
theorem qfx{d:List Int}{l:List ae}{c:List Int}(h:Good d l)(hc:∀i,i<l.length→0≤c.getD i 0∧c.getD i 0≤20)(hl:l.length≤c.length):
  ∃r,lu d l c=some r∧((r= -1∧Cvr d l c)∨∃k:Nat,k<d.length∧r=k∧za l c k<d.getD k 0):=by
 have h1:=h.d1;have h2:=h.l1;have hL:qs1 d c l (l.length:Int) (0,List.replicate (Int.toNat (d.length:Int)) 0)=some (.inl (be d.length (za l c))):=by
  refine j9 (fun i=>((i:Int),be d.length fun t=>xl (fun i=>if(t:Int)∈(l.getD i ae.z).1 then c.getD i 0 else 0) i)) l.length (cr (by omega)) _ (fun i hi=> ?_) ?_ _ ?_
  ·have hb:=jp2 (d:=d) (l:=l) (c:=c) (i:=i) (by omega) (hc i hi) (l.length:Int) (i:Int) (h.sh i hi).cv h1 (f:=fun t=>xl (fun i=>if(t:Int)∈(l.getD i ae.z).1 then c.getD i 0 else 0) i) (fun t ht=>by
    have:=q20 (f:=fun i=>if(t:Int)∈(l.getD i ae.z).1 then c.getD i 0 else 0) (b:=20) (n:=i) fun k hk=>by
     have:=hc k (by omega);split<;>omega
    omega)
   unfold qaf;dsimp only;rw[xL,xI,xI];simp only[Int.toNat_natCast];rw[hb,af];show ai (cg .i64 ((i:Int)+1)) (some (LR.next ((i:Int)+1,_)))=_;rw[xR,am];rfl
  ·unfold qaf;dsimp only;rw[xN];rfl
  ·rw[Int.toNat_natCast,qw8];rfl
 obtain⟨o,ho,hp⟩:=fy (step:=fun s:Int=>qag (R:=LR Int Unit Int) (be d.length (za l c)) d (d.length:Int) s (fun a' =>some (.next a')) (fun e=>some (.done e)) (fun r=>some (.ret r)))
  (fun s=>∃i:Nat,s=(i:Int)∧i≤d.length∧∀t,t<i→d.getD t 0≤za l c t) (fun s=>d.length-s.toNat) (fun o=>(o= .inl ()∧Cvr d l c)∨∃k:Nat,k<d.length∧o= .inr (k:Int)∧za l c k<d.getD k 0) 0 ⟨0,rfl,by omega,fun l hl=>by omega⟩ (xZ (by omega)) (by
   rintro s ⟨i,rfl,hi,hg⟩;have hlen:=db d.length (za l c);unfold qag;by_cases hlt:i<d.length
   ·rw[xL,xI,xI,xI,xI];simp only[Int.toNat_natCast];have hq:(be d.length (za l c)).getD i 0=za l c i:=em hlt;by_cases c1:za l c i<d.getD i 0
    ·rw[xL];exact⟨_,rfl, .inr ⟨i,hlt,rfl,c1⟩⟩
    rw[xN,xR,am];refine⟨_,rfl,⟨i+1,rfl,by omega,fun t ht=> ?_⟩,?_⟩
    ·by_cases e:t=i
     ·rw[e];omega
     ·exact hg t (by omega)
    ·exact xD (by omega)
   ·rw[xN];exact⟨_,rfl, .inl ⟨rfl,fun t ht=>hg t (by omega)⟩⟩)
 have ho:qh9 (be d.length (za l c)) d (d.length:Int) 0=_:=ho;unfold lu;rw[jbi (by omega) (by omega) (by omega) (by omega),hL,af];show∃r,bnd (qh9 (be d.length (za l c)) d (d.length:Int) 0) _=some r∧_;rw[ho,af];rcases hp with⟨rfl,hp⟩|⟨k,hk,rfl,hp⟩
 ·exact⟨_,rfl, .inl ⟨rfl,hp⟩⟩
 ·exact⟨_,rfl, .inr ⟨k,hk,rfl,hp⟩⟩
theorem qiv{l:List ae}{c:List Int}(hl:l.length≤1000):∃b,z8 l c=some b∧(b=true↔Cnt l c):=by
 unfold z8;by_cases hn:(c.length:Int)=l.length
 ·rw[cm hn];obtain⟨o,ho,hp⟩:=fy (step:=fun s:Int=>wi (R:=LR Int Unit Bool) l c (c.length:Int) s (fun a' =>some (.next a')) (fun e=>some (.done e)) (fun r=>some (.ret r)))
   (fun s=>∃i:Nat,s=(i:Int)∧i≤l.length∧∀t,t<i→0≤c.getD t 0∧c.getD t 0≤(l.getD t ae.z).2.2.1) (fun s=>l.length-s.toNat) (fun o=>(o= .inl ()∧Cnt l c)∨(o= .inr false∧¬Cnt l c)) 0 ⟨0,rfl,by omega,fun l hl=>by omega⟩ (xZ (by omega)) (by
    rintro s ⟨i,rfl,hi,hg⟩;unfold wi;by_cases hlt:i<l.length
    ·rw[xL,xI,xI];simp only[Int.toNat_natCast];by_cases c1:c.getD i 0<0
     ·rw[bi c1];exact⟨_,rfl, .inr ⟨rfl,fun h=>by have:=h.2 i hlt;omega⟩⟩
     rw[xN,xI,xI];by_cases c2:(l.getD i ae.z).2.2.1<c.getD i 0
     ·rw[bi c2];exact⟨_,rfl, .inr ⟨rfl,fun h=>by have:=h.2 i hlt;omega⟩⟩
     rw[xN,xR,am];refine⟨_,rfl,⟨i+1,rfl,by omega,fun t ht=> ?_⟩,?_⟩
     ·by_cases e:t=i
      ·rw[e];omega
      ·exact hg t (by omega)
     ·exact xD (by omega)
    ·rw[xN];exact⟨_,rfl, .inl ⟨rfl,by omega,fun t ht=>hg t (by omega)⟩⟩)
  have ho:qpo l c (c.length:Int) 0=_:=ho;rw[ho,af];rcases hp with⟨rfl,hp⟩|⟨rfl,hp⟩
  ·exact⟨true,rfl,⟨fun _=>hp,fun _=>rfl⟩⟩
  ·exact⟨false,rfl,⟨fun h=>(by cases h),fun h=>absurd h hp⟩⟩
 ·rw[gn hn];exact⟨false,rfl,⟨fun h=>(by cases h),fun h=>absurd (congrArg (fun n:Nat=>(n:Int)) h.1) hn⟩⟩
theorem Cnt.c20{d:List Int}{l:List ae}{c:List Int}(h:Good d l)(hc:Cnt l c):∀i,i<l.length→0≤c.getD i 0∧c.getD i 0≤20:=fun i hi=>⟨(hc.2 i hi).1,Int.le_trans (hc.2 i hi).2 (h.sh i hi).m1⟩
theorem q4u{a b:Int}(ha:0≤a∧a≤1000)(hb:0≤b∧b≤20):0≤a*b∧a*b≤20000:=
 ⟨Int.mul_nonneg ha.1 hb.1,Int.le_trans (Int.mul_le_mul_of_nonneg_left hb.2 ha.1) (by omega)⟩
theorem q3e{d:List Int}{l:List ae}{c:List Int}(h:Good d l)(hc:∀i,i<l.length→0≤c.getD i 0∧c.getD i 0≤20){n:Nat}(hn:n≤l.length):0≤xl (fun i=>(l.getD i ae.z).2.1*c.getD i 0) n∧xl (fun i=>(l.getD i ae.z).2.1*c.getD i 0) n≤n*20000:=
 q20 fun i hi=>q4u ⟨(h.sh i (by omega)).p0,(h.sh i (by omega)).p1⟩ (hc i (by omega))
theorem jfk{d:List Int}{l:List ae}{c:List Int}(h:Good d l)(hc:∀i,i<l.length→0≤c.getD i 0∧c.getD i 0≤20)(hl:l.length≤c.length):qha l c=some (fw l c):=by
 have h2:=h.l1;have hL:qsy c l (l.length:Int) (0,0)=some (.inl (fw l c)):=by
  refine j9 (fun i=>(xl (fun i=>(l.getD i ae.z).2.1*c.getD i 0) i,(i:Int))) l.length (cr (by omega)) _ (fun i hi=> ?_) ?_ _ rfl
  ·have h3:=q3e h hc (n:=i) (by omega);have h4:=q4u ⟨(h.sh i (by omega)).p0,(h.sh i (by omega)).p1⟩ (hc i (by omega));unfold z9;dsimp only;rw[xL,xI,xI,xI,xI];simp only[Int.toNat_natCast];rw[xR,xR,xR,am];rfl
  ·unfold z9;dsimp only;rw[xN];rfl
 unfold qha;rw[hL];rfl
theorem jh0{d:List Int}{l:List ae}{c:List Int}(h:Good d l)(hc:∀i,i<l.length→0≤c.getD i 0∧c.getD i 0≤20)(hl:l.length≤c.length):qln l c=some (fw l c):=by
 have h2:=h.l1;have hL:qvr l c (0,0)=some (.inl (fw l c)):=by
  refine j9 (fun i=>(xl (fun i=>(l.getD i ae.z).2.1*c.getD i 0) i,(i:Int))) l.length (cr (by omega)) _ (fun i hi=> ?_) ?_ _ rfl
  ·have h3:=q3e h hc (n:=i) (by omega);have h4:=q4u ⟨(h.sh i (by omega)).p0,(h.sh i (by omega)).p1⟩ (hc i (by omega));unfold qbz;dsimp only;rw[xL,xI,xI,xI,xI];simp only[Int.toNat_natCast];rw[Int.mul_comm (c.getD i 0),xR,xR,xR,am];rfl
  ·unfold qbz;dsimp only;rw[xN];rfl
 unfold qln;rw[hL];rfl
def vol(f:Nat→Int):Nat→Int
 |0=>1
 |n+1=>vol f n*f n
theorem qxk{f:Nat→Int}:∀{n:Nat},(∀k,k<n→1≤f k)→1≤vol f n
 |0,_=>Int.le_refl _
 |n+1,h=>by
  have h1:=qxk (n:=n) fun k hk=>h k (by omega)
  have h2:=h n (by omega);show 1≤vol f n*f n;have:=Int.mul_le_mul h1 h2 (by omega) (by omega);omega
theorem jyu{f:Nat→Int}{n:Nat}:∀{m:Nat},(∀k,k<n→1≤f k)→m≤n→vol f m≤vol f n:=by
 induction n with
 |zero=>intro m _ hm;rw[show m=0 by omega];exact Int.le_refl _
 |succ n ih=>
  intro m h hm;by_cases e:m=n+1
  ·rw[e];exact Int.le_refl _
  ·have h1:=ih (m:=m) (fun k hk=>h k (by omega)) (by omega);have h2:=qxk (n:=n) fun k hk=>h k (by omega)
   have h3:=h n (by omega);have h4:=Int.mul_le_mul_of_nonneg_left h3 (c:=vol f n) (by omega);show vol f m≤vol f n*f n;omega
def jf7(l:List ae):Int:=vol (fun i=>(l.getD i ae.z).2.2.1+1) l.length
theorem Good.one{d:List Int}{l:List ae}(h:Good d l):∀k,k<l.length→1≤(l.getD k ae.z).2.2.1+1:=fun k hk=>by have:=(h.sh k hk).m0;omega
theorem jl3{d:List Int}{l:List ae}(h:Good d l):∃r,qem l 200=some r∧(¬200<r→jf7 l≤200):=by
 have h2:=h.l1;obtain⟨o,ho,hp⟩:=fy (step:=fun s:Int×Int=>wh (R:=LR (Int×Int) Int Int) l 200 s.1 s.2 (fun a' =>some (.next a')) (fun e=>some (.done e)) (fun r=>some (.ret r)))
  (fun s=>∃i:Nat,s.2=(i:Int)∧i≤l.length∧1≤s.1∧s.1≤201∧(s.1≤200→s.1=vol (fun i=>(l.getD i ae.z).2.2.1+1) i)) (fun s=>l.length-s.2.toNat) (fun o=>∃r,o= .inl r∧(¬200<r→jf7 l≤200)) (1,0) ⟨0,rfl,by omega,by show(1:Int)≤1;omega,by show(1:Int)≤201;omega,fun _=>rfl⟩ (xZ (by omega)) (by
   rintro⟨n,s⟩ ⟨i,rfl,hi,h5,h6,h7⟩;dsimp only at h5 h6 h7;unfold wh;dsimp only;by_cases hlt:i<l.length
   ·have h8:=h.sh i hlt;have h9:=h8.m0;have h10:=h8.m1;have hp:1*n≤((l.getD i ae.z).2.2.1+1)*n:=Int.mul_le_mul_of_nonneg_right (by omega) (by omega);have hq:((l.getD i ae.z).2.2.1+1)*n≤21*n:=Int.mul_le_mul_of_nonneg_right (by omega) (by omega);rw[Int.mul_comm ((l.getD i ae.z).2.2.1+1) n]at hp hq;rw[xL,xR,xI,xI];simp only[Int.toNat_natCast];rw[xR,xR,xR,am];refine⟨_,rfl,⟨i+1,rfl,by omega,?_,?_,fun h11=> ?_⟩,?_⟩
    ·show 1≤min (200+1) (n*((l.getD i ae.z).2.2.1+1));omega
    ·show min (200+1) (n*((l.getD i ae.z).2.2.1+1))≤201;omega
    ·have h11:min (200+1) (n*((l.getD i ae.z).2.2.1+1))≤200:=h11;show min (200+1) (n*((l.getD i ae.z).2.2.1+1))=vol (fun i=>(l.getD i ae.z).2.2.1+1) i*((l.getD i ae.z).2.2.1+1);rw[←h7 (by omega)];omega
    ·exact xD (by omega)
   ·rw[xN];have e:i=l.length:=by omega
    exact⟨_,rfl,_,rfl,fun h11=>by unfold jf7;rw[←e,←h7 (by omega)];omega⟩)
 have ho:qpd l 200 (1,0)=_:=ho;unfold qem;rw[ho,af];obtain⟨r,rfl,hp⟩:=hp;exact⟨r,rfl,hp⟩
theorem ju9{d:List Int}{l:List ae}(h:Good d l)(hv:jf7 l≤200)(lim b1 b2 b3:Int)(x:List Int)(y:List aw)(z:List ab):qvw d l lim l (l.length:Int) x b1 b2 b3 y z (1,0)=some (.inl (jf7 l)):=by
 have h2:=h.l1;refine j9 (fun i=>(vol (fun i=>(l.getD i ae.z).2.2.1+1) i,(i:Int))) l.length (cr (by omega)) _ (fun i hi=> ?_) ?_ _ rfl
 ·have h3:=qxk (f:=fun i=>(l.getD i ae.z).2.2.1+1) (n:=i) fun k hk=>h.one k (by omega)
  have h4:=qxk (f:=fun i=>(l.getD i ae.z).2.2.1+1) (n:=i+1) fun k hk=>h.one k (by omega)
  have h5:=jyu (f:=fun i=>(l.getD i ae.z).2.2.1+1) (n:=l.length) (m:=i+1) h.one hi;have h5:vol (fun i=>(l.getD i ae.z).2.2.1+1) i*((l.getD i ae.z).2.2.1+1)≤jf7 l:=h5;have h4:1≤vol (fun i=>(l.getD i ae.z).2.2.1+1) i*((l.getD i ae.z).2.2.1+1):=h4;have h8:=h.sh i hi;have h9:=h8.m0;have h10:=h8.m1;unfold qb2;dsimp only;rw[xL,xI,xI];simp only[Int.toNat_natCast];rw[xR,xR,xR,am,show min (vol (fun i=>(l.getD i ae.z).2.2.1+1) i*((l.getD i ae.z).2.2.1+1)) 1048577=vol (fun i=>(l.getD i ae.z).2.2.1+1) i*((l.getD i ae.z).2.2.1+1) by omega];rfl
 ·unfold qb2;dsimp only;rw[xN];rfl
def qay(n:Nat)(a b:List Int):Prop:=∃k,k<n∧(∀j,j<k→a.getD j 0=b.getD j 0)∧a.getD k 0<b.getD k 0
theorem jqv(x y:Int):we x y=some (if x<y then-1 else if y<x then 1 else 0):=by
 unfold we qbw;simp only[af,decide_true,Bool.not_true,cond_false];by_cases h1:x<y
 ·rw[bi h1,if_pos h1]
 ·rw[xN,if_neg h1];by_cases h2:y<x
  ·rw[bi h2,if_pos h2]
  ·rw[xN,if_neg h2]
theorem jgs{a b:List Int}(hn:a.length=b.length)(hl:a.length≤1000):∃r,ln a b=some r∧(r<0→qay a.length a b):=by
 obtain⟨o,ho,hp⟩:=fy (step:=fun s:Int=>ji (R:=LR Int Unit Int) a b a (a.length:Int) s (fun a' =>some (.next a')) (fun e=>some (.done e)) (fun r=>some (.ret r)))
  (fun s=>∃i:Nat,s=(i:Int)∧i≤a.length∧∀t,t<i→a.getD t 0=b.getD t 0) (fun s=>a.length-s.toNat) (fun o=>o= .inl ()∨∃r,o= .inr r∧(r<0→qay a.length a b)) 0 ⟨0,rfl,by omega,fun l hl=>by omega⟩ (xZ (by omega)) (by
   rintro s ⟨i,rfl,hi,hg⟩;unfold ji;by_cases hlt:i<a.length
   ·rw[xL,xI,xI,xF,xI,xI];simp only[Int.toNat_natCast];rw[jqv,af];by_cases c1:a.getD i 0<b.getD i 0
    ·rw[if_pos c1,gn (by omega)];exact⟨_,rfl, .inr ⟨_,rfl,fun _=>⟨i,hlt,hg,c1⟩⟩⟩
    rw[if_neg c1];by_cases c2:b.getD i 0<a.getD i 0
    ·rw[if_pos c2,gn (by omega)];exact⟨_,rfl, .inr ⟨_,rfl,fun h=>by omega⟩⟩
    rw[if_neg c2,cm rfl,xR,am];refine⟨_,rfl,⟨i+1,rfl,by omega,fun t ht=> ?_⟩,?_⟩
    ·by_cases e:t=i
     ·rw[e];omega
     ·exact hg t (by omega)
    ·exact xD (by omega)
   ·rw[xN];exact⟨_,rfl, .inl rfl⟩)
 have ho:v9 a b a (a.length:Int) 0=_:=ho;unfold ln;rw[ho,af];rcases hp with rfl|⟨r,rfl,hp⟩
 ·show∃r,(bif decide ((a.length:Int)<b.length)then some (-1)else some 0)=some r∧_;rw[xN];exact⟨_,rfl,fun h=>by omega⟩
 ·exact⟨r,rfl,hp⟩
end Go.Proofs.YteljgpepodpebaaGreat
