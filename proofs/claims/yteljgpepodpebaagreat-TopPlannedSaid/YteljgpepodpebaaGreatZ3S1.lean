/-
  Rotas: valid ones.
-/
import Derived.Test.YteljgpepodpebaaGreatZ3FE
set_option linter.all false
namespace Go.Proofs.YteljgpepodpebaaGreat
open Go.K Go.M
theorem xI{α:Type}{i:Int}{n:Nat}{m:Option α}(h0:0≤i:=by omega)(h1:i<(n:Int):=by omega):ai (ix i n) m=m:=ao h0 h1
theorem xZ{n:Nat}(h:n≤1000000):n-(0:Int).toNat<many:=by
 have:=cr (n:=n) (by omega);omega
theorem xD{n k:Nat}(h:k<n):n-((k+1:Nat):Int).toNat<n-(k:Int).toNat:=by omega
theorem xR{α:Type}{e:Int}{m:Option α}(h0: -9223372036854775808≤e:=by omega)(h1:e≤9223372036854775807:=by omega):ai (cg .i64 e) m=m:=bk h0 h1
theorem xM{α:Type}{n b:Nat}{m:Option α}(h0:n≤9223372036854775807:=by omega)(h1:n*b≤140737488355328:=by omega):ai (room n b) m=m:=o4 h0 h1
theorem xL{α:Type}{a b:Int}{x y:α}(h:a<b:=by omega):(bif decide (a<b)then x else y)=x:=bi h
theorem xN{α:Type}{a b:Int}{x y:α}(h:b≤a:=by omega):(bif decide (a<b)then x else y)=y:=bj h
theorem xE{α:Type}{a b:Int}{x y:α}(h:a≤b:=by omega):(bif decide (a≤b)then x else y)=x:=lz h
theorem xF{α:Type}{a b:Int}{x y:α}(h:b<a:=by omega):(bif decide (a≤b)then x else y)=y:=wd h
def qtb(d:Nat)(s:List Int)(k:Nat):Prop:=∀j,j<k→(0≤s.getD j 0∧s.getD j 0<(d:Int))∧(0<j→s.getD (j-1) 0<s.getD j 0)
theorem ji0{d:Nat}{s:List Int}{k:Nat}(h:qtb d s k):∀j,j<k→(j:Int)≤s.getD j 0
 |0,hj=>(h 0 hj).1.1
 |j+1,hj=>by
  have h1:=ji0 h j (by omega);have h2:=(h (j+1) hj).2 (by omega);have h2:s.getD j 0<s.getD (j+1) 0:=h2;omega
theorem qkt{d:Nat}{s:List Int}{k:Nat}(h:qtb d s k):k≤d:=by
 cases k with
 |zero=>omega
 |succ k=>
  have h1:=ji0 h k (by omega);have h2:=(h k (by omega)).1.2;omega
structure ShOK (d : Nat) (s : ae) : Prop where
 ne : s.1.length ≠ 0
 p0 : 0 ≤ s.2.1
 p1 : s.2.1 ≤ 1000
 m0 : 0 ≤ s.2.2.1
 m1 : s.2.2.1 ≤ 20
 cv : qtb d s.1 s.1.length
structure Good (d : List Int) (l : List ae) : Prop where
 d0 : 1 ≤ d.length
 d1 : d.length ≤ 24
 l1 : l.length ≤ 12
 dn : ∀ t, t < d.length → 0 ≤ d.getD t 0 ∧ d.getD t 0 ≤ 100
 sh : ∀ i, i < l.length → ShOK d.length (l.getD i ae.z)
theorem jfq(d:List Int)(l:List ae):∃b,qg8 d l=some b∧(b=true→Good d l):=by
 unfold qg8;by_cases h0:(d.length:Int)<1
 ·rw[bi h0];exact⟨_,rfl,fun h=>by cases h⟩
 rw[xN];by_cases h1:(24:Int)<d.length
 ·rw[bi h1];exact⟨_,rfl,fun h=>by cases h⟩
 rw[xN];by_cases h2:(12:Int)<l.length
 ·rw[bi h2];exact⟨_,rfl,fun h=>by cases h⟩
 rw[xN];obtain⟨o,ho,hp⟩:=fy (step:=fun s:Int=>zt (R:=LR Int Unit Bool) d l s (fun a' =>some (.next a')) (fun e=>some (.done e)) (fun r=>some (.ret r)))
  (fun s=>∃i:Nat,s=(i:Int)∧i≤d.length∧∀t,t<i→0≤d.getD t 0∧d.getD t 0≤100) (fun s=>d.length-s.toNat) (fun o=>(o= .inl ()∧∀t,t<d.length→0≤d.getD t 0∧d.getD t 0≤100)∨o= .inr false) 0 ⟨0,rfl,by omega,fun l hl=>by omega⟩ (xZ (by omega)) (by
   rintro s ⟨i,rfl,hi,hg⟩;unfold zt;by_cases hlt:i<d.length
   ·rw[xL,xI,xI];simp only[Int.toNat_natCast];by_cases c1:d.getD i 0<0
    ·rw[bi c1];exact⟨_,rfl, .inr rfl⟩
    rw[xN,xI,xI];by_cases c2:100<d.getD i 0
    ·rw[bi c2];exact⟨_,rfl, .inr rfl⟩
    rw[xN,xR,am];refine⟨_,rfl,⟨i+1,rfl,by omega,fun t ht=> ?_⟩,?_⟩
    ·by_cases e:t=i
     ·rw[e];omega
     ·exact hg t (by omega)
    ·exact xD (by omega)
   ·rw[xN];exact⟨_,rfl, .inl ⟨rfl,fun t ht=>hg t (by omega)⟩⟩)
 have ho:qsj d l 0=_:=ho;rw[ho,af];rcases hp.symm with rfl|⟨rfl,dn⟩
 ·exact⟨_,rfl,fun h=>by cases h⟩
 have eb:∀(i:Int) (s:List Int) (a b:Int),∃o,qsk d l i s a b 0=some o∧((o= .inl ()∧qtb d.length s s.length)∨o= .inr false):=fun i s a b=>
  fy (step:=fun k:Int=>zw (R:=LR Int Unit Bool) d l i s a b k (fun a' =>some (.next a')) (fun e=>some (.done e)) (fun r=>some (.ret r)))
  (fun k=>∃j:Nat,k=(j:Int)∧j≤s.length∧qtb d.length s j) (fun k=>25-k.toNat) (fun o=>(o= .inl ()∧qtb d.length s s.length)∨o= .inr false) 0 ⟨0,rfl,by omega,fun l hl=>by omega⟩ (xZ (by omega)) (by
   rintro k ⟨j,rfl,hj,hg⟩;have hle:=qkt hg;unfold zw;by_cases hlt:j<s.length
   ·rw[xL,xI,xI];simp only[Int.toNat_natCast];by_cases c1:s.getD j 0<0
    ·rw[bi c1];exact⟨_,rfl, .inr rfl⟩
    rw[xN,xI,xI];by_cases c2:(d.length:Int)≤s.getD j 0
    ·rw[lz c2];exact⟨_,rfl, .inr rfl⟩
    rw[xF];have fin:(0<j→s.getD (j-1) 0<s.getD j 0)→∃x,ai (cg .i64 ((j:Int)+1)) (some (LR.next ((j:Int)+1)):Option (LR Int Unit Bool))=some x∧qxr (fun k=>∃j:Nat,k=(j:Int)∧j≤s.length∧qtb d.length s j) (fun k=>25-k.toNat) (fun o:Unit⊕Bool=>(o= .inl ()∧qtb d.length s s.length)∨o= .inr false) (25-(j:Int).toNat) x:=fun hs=>by
     rw[xR,am];refine⟨_,rfl,⟨j+1,rfl,by omega,fun t ht=> ?_⟩,?_⟩
     ·by_cases e:t=j
      ·rw[e];exact⟨⟨by omega,by omega⟩,hs⟩
      ·exact hg t (by omega)
     ·exact xD (by omega)
    by_cases c3:0<j
    ·have e1:Int.toNat ((j:Int)-1)=j-1:=by omega
     rw[xL,xR,xI,xI,xI,xI,e1];by_cases c4:s.getD j 0≤s.getD (j-1) 0
     ·rw[lz c4];exact⟨_,rfl, .inr rfl⟩
     rw[xF];exact fin fun _=>by omega
    ·rw[xN];exact fin fun h=>absurd h c3
   ·rw[xN];have e:s.length=j:=by omega
    exact⟨_,rfl, .inl ⟨rfl,by rw[e];exact hg⟩⟩)
 obtain⟨o,ho,hp⟩:=fy (step:=fun s:Int=>zx (R:=LR Int Unit Bool) d l s (fun a' =>some (.next a')) (fun e=>some (.done e)) (fun r=>some (.ret r)))
  (fun s=>∃i:Nat,s=(i:Int)∧i≤l.length∧∀t,t<i→ShOK d.length (l.getD t ae.z)) (fun s=>l.length-s.toNat) (fun o=>(o= .inl ()∧∀t,t<l.length→ShOK d.length (l.getD t ae.z))∨o= .inr false) 0 ⟨0,rfl,by omega,fun l hl=>by omega⟩ (xZ (by omega)) (by
   rintro s ⟨i,rfl,hi,hg⟩;unfold zx;by_cases hlt:i<l.length
   ·rw[xL,xI,xI];simp only[Int.toNat_natCast];by_cases c1:((l.getD i ae.z).1.length:Int)=0
    ·rw[bu c1];exact⟨_,rfl, .inr rfl⟩
    rw[bg c1];by_cases c2:(l.getD i ae.z).2.1<0
    ·rw[bi c2];exact⟨_,rfl, .inr rfl⟩
    rw[xN];by_cases c3:1000<(l.getD i ae.z).2.1
    ·rw[bi c3];exact⟨_,rfl, .inr rfl⟩
    rw[xN];by_cases c4:(l.getD i ae.z).2.2.1<0
    ·rw[bi c4];exact⟨_,rfl, .inr rfl⟩
    rw[xN];by_cases c5:20<(l.getD i ae.z).2.2.1
    ·rw[bi c5];exact⟨_,rfl, .inr rfl⟩
    rw[xN];obtain⟨o,ho,hp⟩:=eb (i:Int) (l.getD i ae.z).1 (l.getD i ae.z).2.1 (l.getD i ae.z).2.2.1;rw[ho,af];rcases hp with⟨rfl,hc⟩|rfl
    ·refine⟨.next ((i+1:Nat):Int),?_,⟨i+1,rfl,by omega,fun t ht=> ?_⟩,?_⟩
     ·show ai (cg .i64 ((i:Int)+1)) (some (LR.next ((i:Int)+1)))=_;rw[xR,am]
     ·by_cases e:t=i
      ·rw[e];exact⟨by omega,by omega,by omega,by omega,by omega,hc⟩
      ·exact hg t (by omega)
     ·exact xD (by omega)
    ·exact⟨_,rfl, .inr rfl⟩
   ·rw[xN];exact⟨_,rfl, .inl ⟨rfl,fun t ht=>hg t (by omega)⟩⟩)
 have ho:qh4 d l 0=_:=ho;show∃b,bnd (qh4 d l 0) _=some b∧_;rw[ho,af];rcases hp with⟨rfl,sh⟩|rfl
 ·exact⟨_,rfl,fun _=>⟨by omega,by omega,by omega,dn,sh⟩⟩
 ·exact⟨_,rfl,fun h=>by cases h⟩
theorem jim(x:List Int)(hl:x.length≤9223372036854775806):fo x=some (x.any fun a=>decide (a<0)||decide (100<a)):=by
 have h:=te (step:=fun a=>dz (R:=LR Int Unit Int) x (x.length:Int) a (fun a' =>some (.next a')) (fun e=>some (.done e)) (fun r=>some (.ret r))) x 0 (fun a=>decide (a<0)||decide (100<a)) (fun i=>(i:Int)) hl (fun i hi=>by
  unfold dz qh6;simp(disch:=omega)only[rs];rw[am];cases decide (x.getD i 0<0)<;>cases decide (100<x.getD i 0)<;>rfl) (by unfold dz;simp(disch:=omega)only[rs])
 have h:od x (x.length:Int) 0=_:=h;unfold fo lq;rw[h,af,qg2,af,qq4]
theorem s9{d:List Int}{l:List ae}(h:Good d l):n9 d l=some true:=by
 have h0:=h.d0;have h1:=h.d1;have h2:=h.l1;unfold n9;have hd:(d.any fun a=>decide (a<0)||decide (100<a))=false:=by
  rw[List.any_eq_false];intro x hx;obtain⟨i,hi,rfl⟩:=qox 0 hx;have:=h.dn i hi;rw[Bool.or_eq_true,decide_eq_true_iff,decide_eq_true_iff];omega
 have hL:qsr d l (l.length:Int) 0=some (.inl ()):=by
  refine j9 (fun i=>(i:Int)) l.length (cr (by omega)) () (fun i hi=> ?_) ?_ _ rfl
  ·have hs:=h.sh i hi;unfold z0;rw[xL,xI,xI];simp only[Int.toNat_natCast];obtain⟨g1,g2,g3,g4,g5,g6⟩:=hs;have hI:∀(cv:List Int) (pr mo:Int),qtb d.length cv cv.length→qsq d l (l.length:Int) i cv (cv.length:Int) cv pr mo 0=some (.inl ()):=fun cv pr mo g6=>by
    have hle:=qkt g6;refine j9 (fun i=>(i:Int)) cv.length (cr (by omega)) () (fun j hj=> ?_) ?_ _ rfl
    ·have hc:=g6 j hj;unfold zz;rw[xL,xI,xI];simp only[Int.toNat_natCast];rw[bj hc.1.1,wd hc.1.2];by_cases c3:0<j
     ·have e1:Int.toNat ((j:Int)-1)=j-1:=by omega
      rw[xL,xR,xI,xI,e1,wd (hc.2 c3),xR,am]
     ·rw[xN,xR,am]
    ·unfold zz;rw[xN]
   rw[bg (by omega),bj g2,bj g3,bj g4,bj g5,hI _ _ _ g6,af];show ai (cg .i64 ((i:Int)+1)) (some (LR.next ((i:Int)+1)))=_;rw[xR,am]
  ·unfold z0;rw[xN]
 rw[xN,xN,xN,jim d (by omega),af,hd,hL,af];rfl
end Go.Proofs.YteljgpepodpebaaGreat
