/-
  Freechoice: names, lists of places, nets: the program and the reference reckon alike.
-/
import Derived.Test.YtdhfhpdadbopkaaZ7Md
import Derived.Test.YtdhfhpdadbopkaaZ7KE
import Derived.KernelRfl
set_option linter.all false
namespace Go.Proofs.Ytdhfhpdadbopkaa
open Go.K Go.M
theorem q7r:qj3=some true:=by kernel_rfl
def eqS(a b:ByteArray):Bool:=ByteArray.toList a==ByteArray.toList b
theorem nr(a b:ByteArray):(ByteArray.toList a==ByteArray.toList b)=eqS a b:=rfl
def qvh(c:Int):Bool:=decide (65≤c)&&decide (c≤90)||decide (97≤c)&&decide (c≤122)
def qe8(c:Int):Bool:=qvh c||decide (48≤c)&&decide (c≤57)||decide (c=95)||decide (c=45)||decide (c=46)
abbrev byt(s:ByteArray)(i:Nat):Int:=((ByteArray.data s).getD i 0).toNat
theorem q15(c:Int):qbn c=some (qvh c):=by
 unfold qbn qvh;cases decide ((65:Int)≤c)<;>cases decide (c≤(90:Int))<;>cases decide ((97:Int)≤c)<;>cases decide (c≤(122:Int))<;>rfl
theorem qh3(c:Int):ym c=some (qvh c):=by
 unfold ym qvh;cases decide ((65:Int)≤c)<;>cases decide (c≤(90:Int))<;>cases decide ((97:Int)≤c)<;>cases decide (c≤(122:Int))<;>rfl
theorem jaf(c:Int):ql1 c=some (qe8 c):=by
 unfold ql1 qe8;rw[q15,ah];cases qvh c<;>cases decide ((48:Int)≤c)<;>cases decide (c≤(57:Int))<;>cases decide (c=(95:Int))<;>cases decide (c=(45:Int))<;>cases decide (c=(46:Int))<;>rfl
def qx8(s:ByteArray):Bool:=decide (1≤s.size)&&decide (s.size≤40)&&qvh (byt s 0)&&(List.range s.size).all fun i=>qe8 (byt s i)
theorem ja3(s:ByteArray):qe7 s=some (qx8 s):=by
 unfold qe7 qx8;by_cases h1:(s.size:Int)<1
 ·have:¬1≤s.size:=by omega
  simp(disch:=omega)only[rs];rw[decide_eq_false this];rfl
 ·have h1' :1≤s.size:=by omega
  rw[decide_eq_true h1'];by_cases h2:40<(s.size:Int)
  ·have:¬s.size≤40:=by omega
   simp(disch:=omega)only[rs];rw[decide_eq_false this];rfl
  ·have h2' :s.size≤40:=by omega
   rw[decide_eq_true h2'];have hL:qnd s (s.size:Int) 0=some (bif (List.range s.size).all (fun i=>qe8 (byt s i))then .inl ()else .inr false):=by
    refine r0 (fun i:Nat=>(i:Int)) s.size (dl (by omega)) _ () false ?_ ?_ ?_
    ·intro i hi hp;simp(disch:=omega)only[si,jaf,hp,Bool.not_true,rs];rw[aj]
    ·intro i hi hp;simp(disch:=omega)only[si,jaf,hp,Bool.not_false,rs]
    ·simp(disch:=omega)only[si,rs]
   simp(disch:=omega)only[q15,hL,rs];cases qvh (byt s 0)with
   |false=>rfl
   |true=>cases(List.range s.size).all (fun i=>qe8 (byt s i))<;>rfl
theorem qwu(n:Nat)(p:Nat→Bool):(List.range (n+1)).all p=(p 0&&(List.range n).all fun i=>p (i+1)):=by
 rw[List.range_succ_eq_map,List.all_cons,List.all_map];rfl
theorem q4s(s:ByteArray):qc2 s=some (qx8 s):=by
 unfold qc2 qx8;by_cases h1:(s.size:Int)<1
 ·have:¬1≤s.size:=by omega
  simp(disch:=omega)only[rs];rw[decide_eq_false this];rfl
 ·have h1' :1≤s.size:=by omega
  rw[decide_eq_true h1'];by_cases h2:40<(s.size:Int)
  ·have:¬s.size≤40:=by omega
   simp(disch:=omega)only[rs];rw[decide_eq_false this];rfl
  ·have h2' :s.size≤40:=by omega
   rw[decide_eq_true h2'];have hL:qk8 s 1=some (bif (List.range (s.size-1)).all (fun i=>qe8 (byt s (i+1)))then .inl ()else .inr false):=by
    refine r0 (fun i:Nat=>((i+1:Nat):Int)) (s.size-1) (dl (by omega)) _ () false ?_ ?_ ?_
    ·intro i hi hp;unfold qe8 at hp;simp(disch:=omega)only[ql,qh3,rs];rw[aj];revert hp;cases qvh (byt s (i+1))<;>cases decide ((48:Int)≤byt s (i+1))<;>cases decide (byt s (i+1)≤(57:Int))<;>cases decide (byt s (i+1)=(95:Int))<;>cases decide (byt s (i+1)=(45:Int))<;>cases decide (byt s (i+1)=(46:Int))<;>intro hp<;>first|rfl|cases hp
    ·intro i hi hp;unfold qe8 at hp;simp(disch:=omega)only[ql,qh3,rs];revert hp;cases qvh (byt s (i+1))<;>cases decide ((48:Int)≤byt s (i+1))<;>cases decide (byt s (i+1)≤(57:Int))<;>cases decide (byt s (i+1)=(95:Int))<;>cases decide (byt s (i+1)=(45:Int))<;>cases decide (byt s (i+1)=(46:Int))<;>intro hp<;>first|rfl|cases hp
    ·have e:s.size-1+1=s.size:=by omega
     rw[e];simp(disch:=omega)only[ql,rs]
   simp(disch:=omega)only[qh3,hL,rs];have e:s.size=s.size-1+1:=by omega
   have e2:(List.range s.size).all (fun i=>qe8 (byt s i))=(qe8 (byt s 0)&&(List.range (s.size-1)).all fun i=>qe8 (byt s (i+1))):=by
    conv=>lhs;rw[e]
    exact qwu _ _
   rw[e2];have e3:qvh (byt s 0)=true→qe8 (byt s 0)=true:=fun h=>by unfold qe8;rw[h];rfl
   cases h:qvh (byt s 0)with
   |false=>rfl
   |true=>
    rw[e3 h];cases(List.range (s.size-1)).all (fun i=>qe8 (byt s (i+1)))<;>rfl
def jz(l:List Int)(x:Int):Bool:=l.any fun y=>decide (x=y)
theorem qdp{l:List Int}{x:Int}:jz l x=true↔x∈l:=by
 unfold jz;rw[List.any_eq_true];constructor
 ·rintro⟨y,hy,h⟩;rw[of_decide_eq_true h];exact hy
 ·intro h;exact⟨x,h,decide_eq_true rfl⟩
theorem qqb{l:List Int}{x:Int}:jz l x=false↔x∉l:=by
 rw[←qdp];cases jz l x<;>simp
theorem qtx(l:List Int)(h:l.length≤1000000)(x:Int):ia l x=some (jz l x):=by
 have hL:y6 l x (l.length:Int) 0=some (qmc (fun i=>(i:Int)) (kz (fun y=>decide (x=y)) l)):=by
  refine jl l 0 (fun y=>decide (x=y)) (fun i=>(i:Int)) (by omega) (fun i hi=> ?_) ?_
  ·simp(disch:=omega)only[kq,rs];rw[aj];cases decide (x=l.getD i 0)<;>rfl
  ·simp(disch:=omega)only[kq,rs]
 unfold ia sx;rw[hL,ah,vm,ah,qar];rfl
theorem qdg(l:List Int)(h:l.length≤1000000)(x:Int):q0 l x=some (jz l x):=by
 have hL:qur l x 0=some (bif l.any (fun y=>decide (y=x))then .inr true else .inl ()):=by
  refine sc l 0 (fun y=>decide (y=x)) true (by omega) (fun i hi=> ?_) ?_
  ·simp(disch:=omega)only[qc3,rs];rw[aj];cases decide (l.getD i 0=x)<;>rfl
  ·simp(disch:=omega)only[qc3,rs]
 unfold q0 jz;have e:(l.any fun y=>decide (x=y))=l.any fun y=>decide (y=x):=q7q fun y _=>decide_eq_decide.2 ⟨Eq.symm,Eq.symm⟩
 rw[hL,ah,e];cases l.any (fun y=>decide (y=x))<;>rfl
def qpg(N:Int)(l:List Int)(i:Nat):Bool:=decide (l.getD i 0<0)||decide (N≤l.getD i 0)||decide (0<i)&&decide (l.getD i 0≤l.getD (i-1) 0)
def qm6(N:Int)(l:List Int):Bool:=(List.range l.length).all fun i=> !qpg N l i
theorem qqy(N:Int)(ts:List af)(a b:Int)(l:List Int)(h:l.length≤1000000):qk3 l l (l.length:Int) N ts a b 0=some (bif (List.range l.length).all (fun i=> !qpg N l i)then .inl ()else .inr false):=by
 have hst:∀i:Nat,i<l.length→np l l (l.length:Int) N ts a b (R:=LR Int Unit Bool) (i:Int) (fun a' =>some (.next a')) (fun e=>some (.done e)) (fun r=>some (.ret r))=some (bif qpg N l i then .ret false else .next ((i+1:Nat):Int)):=fun i hi=>by
  unfold qpg;by_cases h0:0<i
  ·have e:(i:Int)-1=((i-1:Nat):Int):=by omega
   have h0' :(0:Int)<(i:Int):=by omega
   rw[decide_eq_true h0];simp(disch:=omega)only[np,e,rs];rw[aj];cases decide (l.getD i 0<0)<;>cases decide (N≤l.getD i 0)<;>cases decide (l.getD i 0≤l.getD (i-1) 0)<;>rfl
  ·have h0' :¬(0:Int)<(i:Int):=by omega
   rw[decide_eq_false h0];simp(disch:=omega)only[np,rs];rw[aj];cases decide (l.getD i 0<0)<;>cases decide (N≤l.getD i 0)<;>rfl
 refine r0 (fun i:Nat=>(i:Int)) l.length (dl (by omega)) _ () false (fun i hi hp=> ?_) (fun i hi hp=> ?_) ?_
 ·have hb:qpg N l i=false:=by simpa using hp
  exact(hst i hi).trans (by rw[hb];rfl)
 ·have hb:qpg N l i=true:=by simpa using hp
  exact(hst i hi).trans (by rw[hb];rfl)
 ·simp(disch:=omega)only[np,rs]
theorem qrd(N:Int)(ts:List af)(a b:Int)(l:List Int)(h:l.length≤1000000):qlj N l 0=some (bif (List.range l.length).all (fun i=> !qpg N l i)then .inl ()else .inr false):=by
 have hst:∀i:Nat,i<l.length→nq N l (R:=LR Int Unit Bool) (i:Int) (fun a' =>some (.next a')) (fun e=>some (.done e)) (fun r=>some (.ret r))=some (bif qpg N l i then .ret false else .next ((i+1:Nat):Int)):=fun i hi=>by
  unfold qpg;by_cases h0:0<i
  ·have e:(i:Int)-1=((i-1:Nat):Int):=by omega
   have h0' :(0:Int)<(i:Int):=by omega
   rw[decide_eq_true h0];simp(disch:=omega)only[nq,e,rs];rw[aj];cases decide (l.getD i 0<0)<;>cases decide (N≤l.getD i 0)<;>cases decide (l.getD i 0≤l.getD (i-1) 0)<;>rfl
  ·have h0' :¬(0:Int)<(i:Int):=by omega
   rw[decide_eq_false h0];simp(disch:=omega)only[nq,rs];rw[aj];cases decide (l.getD i 0<0)<;>cases decide (N≤l.getD i 0)<;>rfl
 refine r0 (fun i:Nat=>(i:Int)) l.length (dl (by omega)) _ () false (fun i hi hp=> ?_) (fun i hi hp=> ?_) ?_
 ·have hb:qpg N l i=false:=by simpa using hp
  exact(hst i hi).trans (by rw[hb];rfl)
 ·have hb:qpg N l i=true:=by simpa using hp
  exact(hst i hi).trans (by rw[hb];rfl)
 ·simp(disch:=omega)only[nq,rs]
theorem jc2{b:Bool}:(lk (bif b then(.inl ():Unit⊕Bool)else .inr false) (fun _=>some true) fun r=>some r)=some b:=by cases b<;>rfl
theorem vz(n:az)(l:List Int)(h:l.length≤1000000):ls n l=some (qm6 n.1 l):=by
 unfold ls qm6;rw[qqy n.1 n.2.1 n.2.2.1 n.2.2.2.1 l h,ah,jc2]
theorem qi8(N:Int)(l:List Int)(h:l.length≤1000000):p0 N l=some (qm6 N l):=by
 unfold p0 qm6;rw[qrd N [] 0 0 l h,ah,jc2]
structure Small (n : az) : Prop where
 trans : n.2.1.length ≤ 100
 ins : ∀ t ∈ n.2.1, t.2.1.length ≤ 60
 outs : ∀ t ∈ n.2.1, t.2.2.1.length ≤ 60
def qwx(N:Int)(t:af):Bool:= !eqS t.1 ⟨#[]⟩&& !qx8 t.1|| !qm6 N t.2.1|| !qm6 N t.2.2.1
def bv(n:az):Bool:=decide (1≤n.1)&&decide (n.1≤40)&&decide (n.2.1.length≤60)&& !n.2.1.any (qwx n.1)&&(decide (0≤n.2.2.1)&&decide (n.2.2.1<n.1))&&(decide (0≤n.2.2.2.1)&&decide (n.2.2.2.1<n.1))
theorem q7b(N x:Int):qm6 N [x]=(decide (0≤x)&&decide (x<N)):=by
 unfold qm6 qpg;rw[Bool.eq_iff_iff];simp
theorem qpb{n:az}(h:Small n):sk n=some (bv n):=by
 have hL:qnk n.2.1 (n.2.1.length:Int) n.1 n.2.1 n.2.2.1 n.2.2.2.1 0=some (bif n.2.1.any (qwx n.1)then .inr false else .inl ()):=by
  have hl:=h.trans;refine sc n.2.1 af.z (qwx n.1) false (by omega) (fun i hi=> ?_) ?_
  ·have h1:=h.ins _ (aw af.z hi);have h2:=h.outs _ (aw af.z hi);unfold qwx;simp(disch:=omega)only[nr,yf,ja3,rs];rw[vz _ _ (by omega),vz _ _ (by omega),aj];simp only[ah];cases eqS (n.2.1.getD i af.z).1 ⟨#[]⟩<;>cases qx8 (n.2.1.getD i af.z).1<;>cases qm6 n.1 (n.2.1.getD i af.z).2.1<;>cases qm6 n.1 (n.2.1.getD i af.z).2.2.1<;>rfl
  ·simp(disch:=omega)only[yf,rs]
 unfold sk bv;rw[hL,vz _ _ (by simp),vz _ _ (by simp),q7b,q7b];have e1:decide (1≤n.1)= !decide (n.1<1):=by rw[Bool.eq_iff_iff];simp
 have e2:decide (n.1≤40)= !decide (40<n.1):=by rw[Bool.eq_iff_iff];simp
 have e3:decide (n.2.1.length≤60)= !decide ((60:Int)<(n.2.1.length:Int)):=by rw[Bool.eq_iff_iff];simp;omega
 rw[e1,e2,e3];cases decide (n.1<1)<;>cases decide (40<n.1)<;>cases decide ((60:Int)<(n.2.1.length:Int))<;>cases n.2.1.any (qwx n.1)<;>cases(decide (0≤n.2.2.1)&&decide (n.2.2.1<n.1))<;>cases(decide (0≤n.2.2.2.1)&&decide (n.2.2.2.1<n.1))<;>rfl
theorem qbq{n:az}(h:Small n):sm n=some (bv n):=by
 have hL:qnv n.1 n.2.1 n.2.2.1 n.2.2.2.1 0=some (bif n.2.1.any (qwx n.1)then .inr false else .inl ()):=by
  have hl:=h.trans;refine sc n.2.1 af.z (qwx n.1) false (by omega) (fun i hi=> ?_) ?_
  ·have h1:=h.ins _ (aw af.z hi);have h2:=h.outs _ (aw af.z hi);unfold qwx;simp(disch:=omega)only[nr,yp,q4s,rs];rw[qi8 _ _ (by omega),qi8 _ _ (by omega),aj];simp only[ah];cases eqS (n.2.1.getD i af.z).1 ⟨#[]⟩<;>cases qx8 (n.2.1.getD i af.z).1<;>cases qm6 n.1 (n.2.1.getD i af.z).2.1<;>cases qm6 n.1 (n.2.1.getD i af.z).2.2.1<;>rfl
  ·simp(disch:=omega)only[yp,rs]
 unfold sm bv;rw[hL];have e1:decide (1≤n.1)= !decide (n.1<1):=by rw[Bool.eq_iff_iff];simp
 have e2:decide (n.1≤40)= !decide (40<n.1):=by rw[Bool.eq_iff_iff];simp
 have e3:decide (n.2.1.length≤60)= !decide ((60:Int)<(n.2.1.length:Int)):=by rw[Bool.eq_iff_iff];simp;omega
 have e4:∀x:Int,decide (0≤x)= !decide (x<0):=fun x=>by rw[Bool.eq_iff_iff];simp
 have e5:∀x:Int,decide (x<n.1)= !decide (n.1≤x):=fun x=>by rw[Bool.eq_iff_iff];simp
 rw[e1,e2,e3,e4 n.2.2.1,e4 n.2.2.2.1,e5 n.2.2.1,e5 n.2.2.2.1];cases decide (n.1<1)<;>cases decide (40<n.1)<;>cases decide ((60:Int)<(n.2.1.length:Int))<;>cases n.2.1.any (qwx n.1)<;>cases decide (n.2.2.1<0)<;>cases decide (n.1≤n.2.2.1)<;>cases decide (n.2.2.2.1<0)<;>cases decide (n.1≤n.2.2.2.1)<;>rfl
theorem qln{N:Int}{l:List Int}:qm6 N l=true↔(∀x∈l,0≤x∧x<N)∧l.Pairwise (·<·):=by
 unfold qm6;rw[List.all_eq_true];constructor
 ·intro h;have hq:∀i,i<l.length→(0≤l.getD i 0∧l.getD i 0<N)∧(0<i→l.getD (i-1) 0<l.getD i 0):=fun i hi=>by
   have:=h i (List.mem_range.2 hi);unfold qpg at this;simp only[Bool.not_eq_true',Bool.or_eq_false_iff,Bool.and_eq_false_iff,decide_eq_false_iff_not]at this;refine⟨by omega,fun h0=> ?_⟩;rcases this.2 with h1|h1
   ·exact absurd h0 h1
   ·omega
  refine⟨fun x hx=> ?_,List.pairwise_iff_getElem.2 fun i j hi hj hij=> ?_⟩
  ·obtain⟨i,hi,rfl⟩:=je 0 hx;exact(hq i hi).1
  ·have key:∀d,∀j,j=i+1+d→j<l.length→l.getD i 0<l.getD j 0:=by
    intro d
    induction d with
    |zero=>intro j hj hl;subst hj;exact(hq (i+1) hl).2 (by omega)
    |succ d ih=>
     intro j hj hl;have h1:=ih (i+1+d) rfl (by omega);have h2:=(hq j hl).2 (by omega);rw[show j-1=i+1+d by omega]at h2;omega
   have:=key (j-i-1) j (by omega) hj;rwa[mz l i 0 hi,mz l j 0 hj]at this
 ·rintro⟨h1,h2⟩ i hi;have hi:=List.mem_range.1 hi;have hb:=h1 _ (aw 0 hi);unfold qpg;simp only[Bool.not_eq_true',Bool.or_eq_false_iff,Bool.and_eq_false_iff,decide_eq_false_iff_not];refine⟨by omega,?_⟩;by_cases h0:0<i
  ·right;have:=List.pairwise_iff_getElem.1 h2 (i-1) i (by omega) hi (by omega);rw[mz l i 0 hi,mz l (i-1) 0 (by omega)];omega
  ·exact .inl h0
theorem qde(l:List Int)(h:l.length≤1000000):cm l=some l:=by
 unfold cm lu;simp(disch:=omega)only[List.nil_append,rs]
theorem q82(a b:List Int)(ha:a.length≤1000000):qfn a b=some (decide (a=b)):=by
 unfold qfn;by_cases hl:a.length=b.length
 ·rw[qlt (by simp[hl])];have hloop:qi2 a b 0=some (bif (List.range a.length).all (fun i=>decide (a.getD i 0=b.getD i 0))then .inl ()else .inr false):=by
   refine r0 (fun i:Nat=>(i:Int)) a.length (dl (by omega)) _ () false ?_ ?_ ?_
   ·intro i hi hp;have hp' :a.getD i 0=b.getD i 0:=of_decide_eq_true hp;simp(disch:=omega)only[tn,rs];rw[aj]
   ·intro i hi hp;have hp' :a.getD i 0≠b.getD i 0:=of_decide_eq_false hp;simp(disch:=omega)only[tn,rs]
   ·simp(disch:=omega)only[tn,rs]
  rw[hloop,ah];have hall:(List.range a.length).all (fun i=>decide (a.getD i 0=b.getD i 0))=decide (a=b):=by
   rw[Bool.eq_iff_iff,List.all_eq_true,decide_eq_true_iff];constructor
   ·intro h;refine List.ext_getElem hl fun i h1 h2=> ?_
    have:=of_decide_eq_true (h i (List.mem_range.2 h1));rw[mz a i 0 h1,mz b i 0 h2]at this;exact this
   ·rintro rfl i _;simp
  rw[hall];cases decide (a=b)<;>rfl
 ·have:¬a=b:=fun h=>hl (by rw[h])
  rw[qlu (by simp;omega),decide_eq_false this]
end Go.Proofs.Ytdhfhpdadbopkaa
