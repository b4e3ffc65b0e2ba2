/-
  Freechoice: names, lists of places, nets: the program and the reference reckon alike.
-/
import Derived.Test.YtokeielgplbdeaaZ7Md
import Derived.Test.YtokeielgplbdeaaZ7KE
import Derived.KernelRfl
set_option linter.all false
namespace Go.Proofs.Ytokeielgplbdeaa
open Go.K Go.M
def eqS(a b:ByteArray):Bool:=ByteArray.toList a==ByteArray.toList b
theorem q6f(a b:ByteArray):(ByteArray.toList a==ByteArray.toList b)=eqS a b:=rfl
def qqn(c:Int):Bool:=decide (65≤c)&&decide (c≤90)||decide (97≤c)&&decide (c≤122)
def z4(c:Int):Bool:=qqn c||decide (48≤c)&&decide (c≤57)||decide (c=95)||decide (c=45)||decide (c=46)
abbrev byt(s:ByteArray)(i:Nat):Int:=((ByteArray.data s).getD i 0).toNat
theorem qxd(c:Int):we c=some (qqn c):=by
 unfold we qqn;cases decide ((65:Int)≤c)<;>cases decide (c≤(90:Int))<;>cases decide ((97:Int)≤c)<;>cases decide (c≤(122:Int))<;>rfl
theorem qek(c:Int):s9 c=some (qqn c):=by
 unfold s9 qqn;cases decide ((65:Int)≤c)<;>cases decide (c≤(90:Int))<;>cases decide ((97:Int)≤c)<;>cases decide (c≤(122:Int))<;>rfl
theorem q63(c:Int):qhz c=some (z4 c):=by
 unfold qhz z4;rw[qxd,jj];cases qqn c<;>cases decide ((48:Int)≤c)<;>cases decide (c≤(57:Int))<;>cases decide (c=(95:Int))<;>cases decide (c=(45:Int))<;>cases decide (c=(46:Int))<;>rfl
def qta(s:ByteArray):Bool:=decide (1≤s.size)&&decide (s.size≤40)&&qqn (byt s 0)&&(List.range s.size).all fun i=>z4 (byt s i)
theorem q7s(s:ByteArray):z0 s=some (qta s):=by
 unfold z0 qta;by_cases h1:(s.size:Int)<1
 ·have:¬1≤s.size:=by omega
  simp(disch:=omega)only[rs];rw[decide_eq_false this];rfl
 ·have h1' :1≤s.size:=by omega
  rw[decide_eq_true h1'];by_cases h2:40<(s.size:Int)
  ·have:¬s.size≤40:=by omega
   simp(disch:=omega)only[rs];rw[decide_eq_false this];rfl
  ·have h2' :s.size≤40:=by omega
   rw[decide_eq_true h2'];have hL:qiu s (s.size:Int) 0=some (bif (List.range s.size).all (fun i=>z4 (byt s i))then .inl ()else .inr false):=by
    refine qb1 (fun i:Nat=>(i:Int)) s.size (bv (by omega)) _ () false ?_ ?_ ?_
    ·intro i hi hp;simp(disch:=omega)only[oy,q63,hp,Bool.not_true,rs];rw[al]
    ·intro i hi hp;simp(disch:=omega)only[oy,q63,hp,Bool.not_false,rs]
    ·simp(disch:=omega)only[oy,rs]
   simp(disch:=omega)only[qxd,hL,rs];cases qqn (byt s 0)with
   |false=>rfl
   |true=>cases(List.range s.size).all (fun i=>z4 (byt s i))<;>rfl
theorem qr3(n:Nat)(p:Nat→Bool):(List.range (n+1)).all p=(p 0&&(List.range n).all fun i=>p (i+1)):=by
 rw[List.range_succ_eq_map,List.all_cons,List.all_map];rfl
theorem qz9(s:ByteArray):yh s=some (qta s):=by
 unfold yh qta;by_cases h1:(s.size:Int)<1
 ·have:¬1≤s.size:=by omega
  simp(disch:=omega)only[rs];rw[decide_eq_false this];rfl
 ·have h1' :1≤s.size:=by omega
  rw[decide_eq_true h1'];by_cases h2:40<(s.size:Int)
  ·have:¬s.size≤40:=by omega
   simp(disch:=omega)only[rs];rw[decide_eq_false this];rfl
  ·have h2' :s.size≤40:=by omega
   rw[decide_eq_true h2'];have hL:qg4 s 1=some (bif (List.range (s.size-1)).all (fun i=>z4 (byt s (i+1)))then .inl ()else .inr false):=by
    refine qb1 (fun i:Nat=>((i+1:Nat):Int)) (s.size-1) (bv (by omega)) _ () false ?_ ?_ ?_
    ·intro i hi hp;unfold z4 at hp;simp(disch:=omega)only[nt,qek,rs];rw[al];revert hp;cases qqn (byt s (i+1))<;>cases decide ((48:Int)≤byt s (i+1))<;>cases decide (byt s (i+1)≤(57:Int))<;>cases decide (byt s (i+1)=(95:Int))<;>cases decide (byt s (i+1)=(45:Int))<;>cases decide (byt s (i+1)=(46:Int))<;>intro hp<;>first|rfl|cases hp
    ·intro i hi hp;unfold z4 at hp;simp(disch:=omega)only[nt,qek,rs];revert hp;cases qqn (byt s (i+1))<;>cases decide ((48:Int)≤byt s (i+1))<;>cases decide (byt s (i+1)≤(57:Int))<;>cases decide (byt s (i+1)=(95:Int))<;>cases decide (byt s (i+1)=(45:Int))<;>cases decide (byt s (i+1)=(46:Int))<;>intro hp<;>first|rfl|cases hp
    ·have e:s.size-1+1=s.size:=by omega
     rw[e];simp(disch:=omega)only[nt,rs]
   simp(disch:=omega)only[qek,hL,rs];have e:s.size=s.size-1+1:=by omega
   have e2:(List.range s.size).all (fun i=>z4 (byt s i))=(z4 (byt s 0)&&(List.range (s.size-1)).all fun i=>z4 (byt s (i+1))):=by
    conv=>lhs;rw[e]
    exact qr3 _ _
   rw[e2];have e3:qqn (byt s 0)=true→z4 (byt s 0)=true:=fun h=>by unfold z4;rw[h];rfl
   cases h:qqn (byt s 0)with
   |false=>rfl
   |true=>
    rw[e3 h];cases(List.range (s.size-1)).all (fun i=>z4 (byt s (i+1)))<;>rfl
def qk2(N:Int)(l:List Int)(i:Nat):Bool:=decide (l.getD i 0<0)||decide (N≤l.getD i 0)||decide (0<i)&&decide (l.getD i 0≤l.getD (i-1) 0)
def qiq(N:Int)(l:List Int):Bool:=(List.range l.length).all fun i=> !qk2 N l i
theorem qmg(N:Int)(ts:List ag)(a b:Int)(l:List Int)(h:l.length≤1000000):qgp l l (l.length:Int) N ts a b 0=some (bif (List.range l.length).all (fun i=> !qk2 N l i)then .inl ()else .inr false):=by
 have hst:∀i:Nat,i<l.length→kh l l (l.length:Int) N ts a b (R:=LR Int Unit Bool) (i:Int) (fun a' =>some (.next a')) (fun e=>some (.done e)) (fun r=>some (.ret r))=some (bif qk2 N l i then .ret false else .next ((i+1:Nat):Int)):=fun i hi=>by
  unfold qk2;by_cases h0:0<i
  ·have e:(i:Int)-1=((i-1:Nat):Int):=by omega
   have h0' :(0:Int)<(i:Int):=by omega
   rw[decide_eq_true h0];simp(disch:=omega)only[kh,e,rs];rw[al];cases decide (l.getD i 0<0)<;>cases decide (N≤l.getD i 0)<;>cases decide (l.getD i 0≤l.getD (i-1) 0)<;>rfl
  ·have h0' :¬(0:Int)<(i:Int):=by omega
   rw[decide_eq_false h0];simp(disch:=omega)only[kh,rs];rw[al];cases decide (l.getD i 0<0)<;>cases decide (N≤l.getD i 0)<;>rfl
 refine qb1 (fun i:Nat=>(i:Int)) l.length (bv (by omega)) _ () false (fun i hi hp=> ?_) (fun i hi hp=> ?_) ?_
 ·have hb:qk2 N l i=false:=by simpa using hp
  exact(hst i hi).trans (by rw[hb];rfl)
 ·have hb:qk2 N l i=true:=by simpa using hp
  exact(hst i hi).trans (by rw[hb];rfl)
 ·simp(disch:=omega)only[kh,rs]
theorem qmn(N:Int)(ts:List ag)(a b:Int)(l:List Int)(h:l.length≤1000000):qg9 N l 0=some (bif (List.range l.length).all (fun i=> !qk2 N l i)then .inl ()else .inr false):=by
 have hst:∀i:Nat,i<l.length→kj N l (R:=LR Int Unit Bool) (i:Int) (fun a' =>some (.next a')) (fun e=>some (.done e)) (fun r=>some (.ret r))=some (bif qk2 N l i then .ret false else .next ((i+1:Nat):Int)):=fun i hi=>by
  unfold qk2;by_cases h0:0<i
  ·have e:(i:Int)-1=((i-1:Nat):Int):=by omega
   have h0' :(0:Int)<(i:Int):=by omega
   rw[decide_eq_true h0];simp(disch:=omega)only[kj,e,rs];rw[al];cases decide (l.getD i 0<0)<;>cases decide (N≤l.getD i 0)<;>cases decide (l.getD i 0≤l.getD (i-1) 0)<;>rfl
  ·have h0' :¬(0:Int)<(i:Int):=by omega
   rw[decide_eq_false h0];simp(disch:=omega)only[kj,rs];rw[al];cases decide (l.getD i 0<0)<;>cases decide (N≤l.getD i 0)<;>rfl
 refine qb1 (fun i:Nat=>(i:Int)) l.length (bv (by omega)) _ () false (fun i hi hp=> ?_) (fun i hi hp=> ?_) ?_
 ·have hb:qk2 N l i=false:=by simpa using hp
  exact(hst i hi).trans (by rw[hb];rfl)
 ·have hb:qk2 N l i=true:=by simpa using hp
  exact(hst i hi).trans (by rw[hb];rfl)
 ·simp(disch:=omega)only[kj,rs]
theorem q94{b:Bool}:(lk (bif b then(.inl ():Unit⊕Bool)else .inr false) (fun _=>some true) fun r=>some r)=some b:=by cases b<;>rfl
theorem qo(n:cz)(l:List Int)(h:l.length≤1000000):jo n l=some (qiq n.1 l):=by
 unfold jo qiq;rw[qmg n.1 n.2.1 n.2.2.1 n.2.2.2.1 l h,jj,q94]
theorem qfg(N:Int)(l:List Int)(h:l.length≤1000000):ne N l=some (qiq N l):=by
 unfold ne qiq;rw[qmn N [] 0 0 l h,jj,q94]
structure Small (n : cz) : Prop where
 trans : n.2.1.length ≤ 100
 ins : ∀ t ∈ n.2.1, t.2.1.length ≤ 60
 outs : ∀ t ∈ n.2.1, t.2.2.1.length ≤ 60
def qve(N:Int)(t:ag):Bool:= !eqS t.1 ⟨#[]⟩&& !qta t.1|| !qiq N t.2.1|| !qiq N t.2.2.1
def d9(n:cz):Bool:=decide (1≤n.1)&&decide (n.1≤40)&&decide (n.2.1.length≤60)&& !n.2.1.any (qve n.1)&&(decide (0≤n.2.2.1)&&decide (n.2.2.1<n.1))&&(decide (0≤n.2.2.2.1)&&decide (n.2.2.2.1<n.1))
theorem q2y(N x:Int):qiq N [x]=(decide (0≤x)&&decide (x<N)):=by
 unfold qiq qk2;rw[Bool.eq_iff_iff];simp
theorem qf7{n:cz}(h:Small n):km n=some (d9 n):=by
 have hL:qi0 n.2.1 (n.2.1.length:Int) n.1 n.2.1 n.2.2.1 n.2.2.2.1 0=some (bif n.2.1.any (qve n.1)then .inr false else .inl ()):=by
  have hl:=h.trans;refine yu n.2.1 ag.z (qve n.1) false (by omega) (fun i hi=> ?_) ?_
  ·have h1:=h.ins _ (ba ag.z hi);have h2:=h.outs _ (ba ag.z hi);unfold qve;simp(disch:=omega)only[q6f,su,q7s,rs];rw[qo _ _ (by omega),qo _ _ (by omega),al];simp only[jj];cases eqS (n.2.1.getD i ag.z).1 ⟨#[]⟩<;>cases qta (n.2.1.getD i ag.z).1<;>cases qiq n.1 (n.2.1.getD i ag.z).2.1<;>cases qiq n.1 (n.2.1.getD i ag.z).2.2.1<;>rfl
  ·simp(disch:=omega)only[su,rs]
 unfold km d9;rw[hL,qo _ _ (by simp),qo _ _ (by simp),q2y,q2y];have e1:decide (1≤n.1)= !decide (n.1<1):=by rw[Bool.eq_iff_iff];simp
 have e2:decide (n.1≤40)= !decide (40<n.1):=by rw[Bool.eq_iff_iff];simp
 have e3:decide (n.2.1.length≤60)= !decide ((60:Int)<(n.2.1.length:Int)):=by rw[Bool.eq_iff_iff];simp;omega
 rw[e1,e2,e3];cases decide (n.1<1)<;>cases decide (40<n.1)<;>cases decide ((60:Int)<(n.2.1.length:Int))<;>cases n.2.1.any (qve n.1)<;>cases(decide (0≤n.2.2.1)&&decide (n.2.2.1<n.1))<;>cases(decide (0≤n.2.2.2.1)&&decide (n.2.2.2.1<n.1))<;>rfl
theorem qao{n:cz}(h:Small n):rq n=some (d9 n):=by
 have hL:qje n.1 n.2.1 n.2.2.1 n.2.2.2.1 0=some (bif n.2.1.any (qve n.1)then .inr false else .inl ()):=by
  have hl:=h.trans;refine yu n.2.1 ag.z (qve n.1) false (by omega) (fun i hi=> ?_) ?_
  ·have h1:=h.ins _ (ba ag.z hi);have h2:=h.outs _ (ba ag.z hi);unfold qve;simp(disch:=omega)only[q6f,tc,qz9,rs];rw[qfg _ _ (by omega),qfg _ _ (by omega),al];simp only[jj];cases eqS (n.2.1.getD i ag.z).1 ⟨#[]⟩<;>cases qta (n.2.1.getD i ag.z).1<;>cases qiq n.1 (n.2.1.getD i ag.z).2.1<;>cases qiq n.1 (n.2.1.getD i ag.z).2.2.1<;>rfl
  ·simp(disch:=omega)only[tc,rs]
 unfold rq d9;rw[hL];have e1:decide (1≤n.1)= !decide (n.1<1):=by rw[Bool.eq_iff_iff];simp
 have e2:decide (n.1≤40)= !decide (40<n.1):=by rw[Bool.eq_iff_iff];simp
 have e3:decide (n.2.1.length≤60)= !decide ((60:Int)<(n.2.1.length:Int)):=by rw[Bool.eq_iff_iff];simp;omega
 have e4:∀x:Int,decide (0≤x)= !decide (x<0):=fun x=>by rw[Bool.eq_iff_iff];simp
 have e5:∀x:Int,decide (x<n.1)= !decide (n.1≤x):=fun x=>by rw[Bool.eq_iff_iff];simp
 rw[e1,e2,e3,e4 n.2.2.1,e4 n.2.2.2.1,e5 n.2.2.1,e5 n.2.2.2.1];cases decide (n.1<1)<;>cases decide (40<n.1)<;>cases decide ((60:Int)<(n.2.1.length:Int))<;>cases n.2.1.any (qve n.1)<;>cases decide (n.2.2.1<0)<;>cases decide (n.1≤n.2.2.1)<;>cases decide (n.2.2.2.1<0)<;>cases decide (n.1≤n.2.2.2.1)<;>rfl
theorem quv{N:Int}{l:List Int}:qiq N l=true↔(∀x∈l,0≤x∧x<N)∧l.Pairwise (·<·):=by
 unfold qiq;rw[List.all_eq_true];constructor
 ·intro h;have hq:∀i,i<l.length→(0≤l.getD i 0∧l.getD i 0<N)∧(0<i→l.getD (i-1) 0<l.getD i 0):=fun i hi=>by
   have:=h i (List.mem_range.2 hi);unfold qk2 at this;simp only[Bool.not_eq_true',Bool.or_eq_false_iff,Bool.and_eq_false_iff,decide_eq_false_iff_not]at this;refine⟨by omega,fun h0=> ?_⟩;rcases this.2 with h1|h1
   ·exact absurd h0 h1
   ·omega
  refine⟨fun x hx=> ?_,List.pairwise_iff_getElem.2 fun i j hi hj hij=> ?_⟩
  ·obtain⟨i,hi,rfl⟩:=j7 0 hx;exact(hq i hi).1
  ·have key:∀d,∀j,j=i+1+d→j<l.length→l.getD i 0<l.getD j 0:=by
    intro d
    induction d with
    |zero=>intro j hj hl;subst hj;exact(hq (i+1) hl).2 (by omega)
    |succ d ih=>
     intro j hj hl;have h1:=ih (i+1+d) rfl (by omega);have h2:=(hq j hl).2 (by omega);rw[show j-1=i+1+d by omega]at h2;omega
   have:=key (j-i-1) j (by omega) hj;rwa[m6 l i 0 hi,m6 l j 0 hj]at this
 ·rintro⟨h1,h2⟩ i hi;have hi:=List.mem_range.1 hi;have hb:=h1 _ (ba 0 hi);unfold qk2;simp only[Bool.not_eq_true',Bool.or_eq_false_iff,Bool.and_eq_false_iff,decide_eq_false_iff_not];refine⟨by omega,?_⟩;by_cases h0:0<i
  ·right;have:=List.pairwise_iff_getElem.1 h2 (i-1) i (by omega) hi (by omega);rw[m6 l i 0 hi,m6 l (i-1) 0 (by omega)];omega
  ·exact .inl h0
theorem q0y(l:List Int)(h:l.length≤1000000):fy l=some l:=by
 unfold fy jw;simp(disch:=omega)only[List.nil_append,rs]
end Go.Proofs.Ytokeielgplbdeaa
