/-
  Linear programs: what Valid, Check and Bound say.
-/
import Derived.Test.YteljgpepodpebaaGreatZ3FC
set_option linter.all false
namespace Go.Proofs.YteljgpepodpebaaGreat
open Go.K Go.M
theorem qkp{l:List ab}:l.all vB=true↔∀j,j<l.length→NF (gz l j):=by
 rw[List.all_eq_true];constructor
 ·intro h j hj;exact dr.1 (h _ (l5 ab.z hj))
 ·intro h x hx;obtain⟨i,hi,rfl⟩:=qox ab.z hx;exact dr.2 (h i hi)
theorem q26{p:Program}(h:VP p)(hr:∀i,i<p.2.1.length→gb p.2.2.1 i=1∨gb p.2.2.1 i=2∨gb p.2.2.1 i=3):qa p=some true:=by
 obtain⟨n0,n1,m0,m1,rl,bl,cn,bn,al,an⟩:=h;obtain⟨C,A,rel,B,u⟩:=p;dsimp only at*;have hL:qm1 (C.length:Int) A (A.length:Int) C A rel B 0=some (.inl ()):=by
  refine j9 (fun i=>(i:Int)) A.length (cr (by omega)) () (fun i hi=> ?_) ?_ _ rfl
  ·have hf:=td (ci A i) (C.length:Int) (by rw[al i hi];omega);rw[al i hi,decide_eq_true rfl,qkp.2 fun j hj=>an i j hi (by rw[←al i hi];exact hj)]at hf;have hf:fj (A.getD i []) (C.length:Int)=some true:=hf;unfold tr;rw[bi (by omega),ao (by omega) (by omega),ao (by omega) (by omega)];simp only[Int.toNat_natCast];rw[hf,af];simp only[Bool.not_true,cond_false];rw[ao (by omega) (by omega),ao (by omega) (by omega)];have hr:=hr i hi;have hr:rel.getD i 0=1∨rel.getD i 0=2∨rel.getD i 0=3:=hr;by_cases r1:rel.getD i 0=1
   ·rw[cm r1,bk (by omega) (by omega),am]
   ·rw[gn r1,ao (by omega) (by omega),ao (by omega) (by omega)];by_cases r2:rel.getD i 0=2
    ·rw[cm r2,bk (by omega) (by omega),am]
    ·rw[gn r2,ao (by omega) (by omega),ao (by omega) (by omega),cm (by omega),bk (by omega) (by omega),am]
  ·unfold tr;rw[bj (by omega)]
 unfold qa;dsimp only;rw[bj (by omega),bj (by omega),bj (by omega),bj (by omega),cm (by omega),td _ _ (by omega),af,decide_eq_true rfl,qkp.2 cn,td _ _ (by omega),af,decide_eq_true (by omega),qkp.2 (fun j hj=>bn j (by omega)),hL,af];rfl
def qrc(a:ab)(rel:Int)(b:ab):Bool:=bif decide (rel=1)then decide ((qdh a b).1≤0)else bif decide (rel=2)then decide (0≤(qdh a b).1)else decide ((qdh a b).1=0)
theorem jau(a:ab)(rel:Int)(b:ab):sx a rel b=some (qrc a rel b):=by
 unfold sx qrc;rw[ja5,af];cases decide (rel=1)<;>cases decide (rel=2)<;>rfl
theorem jiz{a b:ab}(ha:NF a)(hb:NF b):((qdh a b).1≤0↔fv a≤fv b)∧(0≤(qdh a b).1↔fv b≤fv a)∧(qdh a b).2=0:=by
 have h:qdh a b=((bif decide (fv a<fv b)then(-1:Int)else bif decide (fv b<fv a)then 1 else 0),0):=by
  unfold qdh;rw[dr.2 ha,dr.2 hb];rfl
 rw[h];by_cases h1:fv a<fv b
 ·have e:(bif decide (fv a<fv b)then(-1:Int)else bif decide (fv b<fv a)then 1 else 0)= -1:=by simp[h1]
  rw[e];refine⟨⟨fun _=>Rat.le_of_lt h1,fun _=>by show(-1:Int)≤0;omega⟩,⟨fun h=> ?_,fun h=> ?_⟩,rfl⟩
  ·have h:(0:Int)≤-1:=h;omega
  ·exact absurd h1 (Rat.not_lt.2 h)
 ·by_cases h2:fv b<fv a
  ·have e:(bif decide (fv a<fv b)then(-1:Int)else bif decide (fv b<fv a)then 1 else 0)=1:=by simp[h1,h2]
   rw[e];refine⟨⟨fun h=> ?_,fun h=>absurd h2 (Rat.not_lt.2 h)⟩,⟨fun _=>Rat.le_of_lt h2,fun _=>by show(0:Int)≤1;omega⟩,rfl⟩;have h:(1:Int)≤0:=h;omega
  ·have e:(bif decide (fv a<fv b)then(-1:Int)else bif decide (fv b<fv a)then 1 else 0)=0:=by simp[h1,h2]
   rw[e];exact⟨⟨fun _=>Rat.not_lt.1 h2,fun _=>by show(0:Int)≤0;omega⟩,⟨fun _=>Rat.not_lt.1 h1,fun _=>by show(0:Int)≤0;omega⟩,rfl⟩
theorem jmn{a b:ab}(ha:NF a)(hb:NF b)(h:qrc a 1 b=true):fv a≤fv b:=(jiz ha hb).1.1 (of_decide_eq_true h)
theorem jnh(l:List ab)(hl:l.length≤9223372036854775806):qca l=some (l.any fun a=>decide (a.1<0)):=by
 have h:=te (step:=fun a=>b7 (R:=LR Int Unit Int) l (l.length:Int) a (fun a' =>some (.next a')) (fun e=>some (.done e)) (fun r=>some (.ret r))) l ab.z (fun a=>decide (a.1<0)) (fun i=>(i:Int)) hl (fun i hi=>by
  unfold b7 qdn;simp(disch:=omega)only[rs];rw[am];cases decide ((l.getD i ab.z).1<0)<;>rfl) (by unfold b7;simp(disch:=omega)only[rs])
 have h:jq l (l.length:Int) 0=_:=h;unfold qca ek fh;rw[h,af,qg2,af,af,qq4]
def q1c(rel:List Int)(y:List ab)(i:Nat):Prop:=¬(gb rel i=2∧(gz y i).1<0)∧¬(gb rel i=1∧0<(gz y i).1)
theorem jaq{p:Program}{y:List ab}(hy:y.length≤p.2.2.1.length)(hl:y.length≤1000):∃b,l8 p y=some b∧(b=true↔∀i,i<y.length→q1c p.2.2.1 y i):=by
 obtain⟨C,A,rel,B,u⟩:=p;dsimp only at*;obtain⟨o,ho,hp⟩:=fy (step:=fun s:Int=>q9 (R:=LR Int Unit Bool) y (y.length:Int) C A rel B s (fun a' =>some (.next a')) (fun e=>some (.done e)) (fun r=>some (.ret r)))
  (fun s=>∃i:Nat,s=(i:Int)∧i≤y.length∧∀l,l<i→q1c rel y l) (fun s=>y.length-s.toNat) (fun o=>(o= .inl ()∧∀l,l<y.length→q1c rel y l)∨(o= .inr false∧∃l,l<y.length∧¬q1c rel y l)) 0 ⟨0,rfl,by omega,fun l hl=>by omega⟩ (by show y.length-(0:Int).toNat<many;have:=cr (n:=y.length) (by omega);omega) (by
   rintro s ⟨i,rfl,hi,hg⟩;unfold q9;by_cases hlt:i<y.length
   ·have hnx:q1c rel y i→∃x,ai (cg .i64 ((i:Int)+1)) (some (LR.next ((i:Int)+1)):Option (LR Int Unit Bool))=some x∧qxr (fun s=>∃i:Nat,s=(i:Int)∧i≤y.length∧∀l,l<i→q1c rel y l) (fun s=>y.length-s.toNat) (fun o:Unit⊕Bool=>(o= .inl ()∧∀l,l<y.length→q1c rel y l)∨(o= .inr false∧∃l,l<y.length∧¬q1c rel y l)) (y.length-(i:Int).toNat) x:=fun hs=>by
     rw[bk (by omega) (by omega),am];refine⟨_,rfl,⟨i+1,rfl,by omega,fun l hl=> ?_⟩,?_⟩
     ·by_cases e:l=i
      ·rw[e];exact hs
      ·exact hg l (by omega)
     ·show y.length-((i+1:Nat):Int).toNat<y.length-(i:Int).toNat;omega
    rw[bi (by omega),ao (by omega) (by omega),ao (by omega) (by omega),ao (by omega) (by omega),ao (by omega) (by omega)];simp only[Int.toNat_natCast];by_cases r2:rel.getD i 0=2
    ·rw[bu r2];by_cases y0:(y.getD i ab.z).1<0
     ·rw[bi y0];exact⟨_,rfl, .inr ⟨rfl,i,hlt,fun h=>h.1 ⟨r2,y0⟩⟩⟩
     ·rw[bj (by omega),ao (by omega) (by omega),ao (by omega) (by omega),bg (by omega)];exact hnx ⟨fun h=>y0 h.2,fun h=>by have:rel.getD i 0=1:=h.1;omega⟩
    ·rw[bg r2,ao (by omega) (by omega),ao (by omega) (by omega)];by_cases r1:rel.getD i 0=1
     ·rw[bu r1];by_cases y0:0<(y.getD i ab.z).1
      ·rw[bi y0];exact⟨_,rfl, .inr ⟨rfl,i,hlt,fun h=>h.2 ⟨r1,y0⟩⟩⟩
      ·rw[bj (by omega)];exact hnx ⟨fun h=>r2 h.1,fun h=>y0 h.2⟩
     ·rw[bg r1];exact hnx ⟨fun h=>r2 h.1,fun h=>r1 h.1⟩
   ·rw[bj (by omega)];exact⟨_,rfl, .inl ⟨rfl,fun l hl=>hg l (by omega)⟩⟩)
 have ho:qjx y (y.length:Int) C A rel B 0=_:=ho;unfold l8;dsimp only;rw[ho,af];rcases hp with⟨rfl,h⟩|⟨rfl,l,hl,h⟩
 ·exact⟨true,rfl,⟨fun _=>h,fun _=>rfl⟩⟩
 ·exact⟨false,rfl,⟨fun h=>(by cases h),fun h' =>absurd (h' l hl) h⟩⟩
theorem joz{p:Program}{x b:List ab}(hx:x.length≤1000)(hal:∀i,i<p.2.1.length→(ci p.2.1 i).length≤1000)(hm:p.2.1.length≤1000)(hr:p.2.1.length≤p.2.2.1.length)(hb:p.2.1.length≤b.length):
  ∃r,qc4 p x b=some r∧(r.1=true→∀j,j<x.length→¬(gz x j).1<0):=by
 obtain⟨C,A,rel,B,u⟩:=p;dsimp only at*;unfold qc4;rw[jnh x (by omega),af];cases hbl:x.any fun a=>decide (a.1<0)with
 |true=>exact⟨_,rfl,fun h=>by cases h⟩
 |false=>
  obtain⟨o,ho,hp⟩:=fy (step:=fun s:Int=>qaj (R:=LR Int Unit (Bool×Int)) x b A (A.length:Int) C A rel B s (fun a' =>some (.next a')) (fun e=>some (.done e)) (fun r=>some (.ret r)))
   (fun s=>∃i:Nat,s=(i:Int)∧i≤A.length) (fun s=>A.length-s.toNat) (fun o=>o= .inl ()∨∃e,o= .inr (false,e)) 0 ⟨0,rfl,by omega⟩ (by show A.length-(0:Int).toNat<many;have:=cr (n:=A.length) (by omega);omega) (by
    rintro s ⟨i,rfl,hi⟩;unfold qaj;by_cases hlt:i<A.length
    ·rw[bi (by omega),ao (by omega) (by omega),ao (by omega) (by omega)];simp only[Int.toNat_natCast];rw[qe1 (by have:=hal i hlt;have:(A.getD i []).length≤1000:=this;omega) (by omega),af];by_cases d0:(qc (A.getD i []) x).2=0
     ·rw[cm d0,ao (by omega) (by omega),ao (by omega) (by omega),ao (by omega) (by omega),ao (by omega) (by omega),jau,af];cases qrc (qc (A.getD i []) x).1 (rel.getD i 0) (b.getD i ab.z)with
      |false=>exact⟨_,rfl, .inr ⟨_,rfl⟩⟩
      |true=>
       simp only[Bool.not_true,cond_false];rw[bk (by omega) (by omega),am];refine⟨_,rfl,⟨i+1,rfl,by omega⟩,?_⟩;show A.length-((i+1:Nat):Int).toNat<A.length-(i:Int).toNat;omega
     ·rw[gn d0];exact⟨_,rfl, .inr ⟨_,rfl⟩⟩
    ·rw[bj (by omega)];exact⟨_,rfl, .inl rfl⟩)
  have ho:qs4 x b A (A.length:Int) C A rel B 0=_:=ho;simp only[cond_false];rw[ho,af];rcases hp with rfl|⟨e,rfl⟩
  ·refine⟨_,rfl,fun _ j hj h=> ?_⟩;rw[List.any_eq_false]at hbl;exact hbl _ (l5 ab.z hj) (decide_eq_true h)
  ·exact⟨_,rfl,fun h=>by cases h⟩
theorem jk1{p:Program}{j:Nat}(hm:p.2.1.length≤1000)(hal:∀i,i<p.2.1.length→j<(ci p.2.1 i).length)(hj:j≤1000):qai p (j:Int)=some (be p.2.1.length fun i=>gz (ci p.2.1 i) j):=by
 obtain⟨C,A,rel,B,u⟩:=p;dsimp only at*;have hL:qju (j:Int) A (A.length:Int) (0,[])=some (.inl (be A.length fun i=>gz (ci A i) j)):=by
  refine j9 (fun i=>((i:Int),be i fun i=>gz (ci A i) j)) A.length (cr (by omega)) _ (fun i hi=> ?_) ?_ _ rfl
  ·have h1:=db i fun i=>gz (ci A i) j
   have h2:=hal i hi;have h2:j<(A.getD i []).length:=h2;unfold q7;dsimp only;rw[bi (by omega),ao (by omega) (by omega),ao (by omega) (by omega)];simp only[Int.toNat_natCast];rw[ao (by omega) (by omega),ao (by omega) (by omega),o4 (by omega) (by omega),bk (by omega) (by omega),am,s8]
  ·unfold q7;dsimp only;rw[bj (by omega)]
 unfold qai;dsimp only;rw[hL];rfl
def jkp(p:Program)(y most:List ab)(j:Nat):Prop:=(qc (be p.2.1.length fun i=>gz (ci p.2.1 i) j) y).2=0∧qrc (qc (be p.2.1.length fun i=>gz (ci p.2.1 i) j) y).1 1 (gz most j)=true
theorem jqd{p:Program}{y most:List ab}(hy:y.length≤1000)(hm:p.2.1.length≤1000)(hal:∀i,i<p.2.1.length→(ci p.2.1 i).length=p.1.length)(hn:p.1.length≤1000)(hmo:p.1.length≤most.length):
  ∃r,lw p y most=some r∧(r.1=true→r.2=0∧∀j,j<p.1.length→jkp p y most j):=by
 obtain⟨C,A,rel,B,u⟩:=p;dsimp only at*;obtain⟨o,ho,hp⟩:=fy (step:=fun s:Int=>tx (R:=LR Int Unit (Bool×Int)) y most (C.length:Int) C A rel B s (fun a' =>some (.next a')) (fun e=>some (.done e)) (fun r=>some (.ret r)))
  (fun s=>∃i:Nat,s=(i:Int)∧i≤C.length∧∀l,l<i→jkp (C,A,rel,B,u) y most l) (fun s=>C.length-s.toNat) (fun o=>(o= .inl ()∧∀l,l<C.length→jkp (C,A,rel,B,u) y most l)∨∃e,o= .inr (false,e)) 0 ⟨0,rfl,by omega,fun l hl=>by omega⟩ (by show C.length-(0:Int).toNat<many;have:=cr (n:=C.length) (by omega);omega) (by
   rintro s ⟨i,rfl,hi,hg⟩;unfold tx;by_cases hlt:i<C.length
   ·have hcol:=jk1 (p:=(C,A,rel,B,())) (j:=i) hm (fun l hl=>by have:=hal l hl;show i<(ci A l).length;omega) (by omega);rw[bi (by omega),hcol,af,qe1 (by rw[db];show A.length≤_;omega) (by omega),af];simp only[Int.toNat_natCast];by_cases d0:(qc (be A.length fun l=>gz (ci A l) i) y).2=0
    ·rw[cm d0,ao (by omega) (by omega),ao (by omega) (by omega),jau,af];cases hs:qrc (qc (be A.length fun l=>gz (ci A l) i) y).1 1 (most.getD i ab.z)with
     |false=>exact⟨_,rfl, .inr ⟨_,rfl⟩⟩
     |true=>
      simp only[Bool.not_true,cond_false];rw[bk (by omega) (by omega),am];refine⟨_,rfl,⟨i+1,rfl,by omega,fun l hl=> ?_⟩,?_⟩
      ·by_cases e:l=i
       ·rw[e];exact⟨d0,hs⟩
       ·exact hg l (by omega)
      ·show C.length-((i+1:Nat):Int).toNat<C.length-(i:Int).toNat;omega
    ·rw[gn d0];exact⟨_,rfl, .inr ⟨_,rfl⟩⟩
   ·rw[bj (by omega)];exact⟨_,rfl, .inl ⟨rfl,fun l hl=>hg l (by omega)⟩⟩)
 have ho:qnd y most (C.length:Int) C A rel B 0=_:=ho;unfold lw;dsimp only;rw[ho,af];rcases hp with⟨rfl,h⟩|⟨e,rfl⟩
 ·exact⟨_,rfl,fun _=>⟨rfl,h⟩⟩
 ·exact⟨_,rfl,fun h=>by cases h⟩
end Go.Proofs.YteljgpepodpebaaGreat
