/-
  Freechoice: names, lists of places, nets: the program and the reference reckon alike.
-/
import Derived.Test.YtokeielgplbdeaaZ3Md
import Derived.Test.YtokeielgplbdeaaZ3KE
import Derived.KernelRfl
set_option linter.all false
namespace Go.Proofs.Ytokeielgplbdeaa
open Go.K Go.M
def eqS(a b:ByteArray):Bool:=ByteArray.toList a==ByteArray.toList b
theorem q66(a b:ByteArray):(ByteArray.toList a==ByteArray.toList b)=eqS a b:=rfl
def qrp(c:Int):Bool:=decide (65≤c)&&decide (c≤90)||decide (97≤c)&&decide (c≤122)
def z9(c:Int):Bool:=qrp c||decide (48≤c)&&decide (c≤57)||decide (c=95)||decide (c=45)||decide (c=46)
abbrev byt(s:ByteArray)(i:Nat):Int:=((ByteArray.data s).getD i 0).toNat
theorem qx7(c:Int):wm c=some (qrp c):=by
 unfold wm qrp;cases decide ((65:Int)≤c)<;>cases decide (c≤(90:Int))<;>cases decide ((97:Int)≤c)<;>cases decide (c≤(122:Int))<;>rfl
theorem qe4(c:Int):td c=some (qrp c):=by
 unfold td qrp;cases decide ((65:Int)≤c)<;>cases decide (c≤(90:Int))<;>cases decide ((97:Int)≤c)<;>cases decide (c≤(122:Int))<;>rfl
theorem q7v(c:Int):qio c=some (z9 c):=by
 unfold qio z9;rw[qx7,jf];cases qrp c<;>cases decide ((48:Int)≤c)<;>cases decide (c≤(57:Int))<;>cases decide (c=(95:Int))<;>cases decide (c=(45:Int))<;>cases decide (c=(46:Int))<;>rfl
def qt9(s:ByteArray):Bool:=decide (1≤s.size)&&decide (s.size≤40)&&qrp (byt s 0)&&(List.range s.size).all fun i=>z9 (byt s i)
theorem q8l(s:ByteArray):z8 s=some (qt9 s):=by
 unfold z8 qt9;by_cases h1:(s.size:Int)<1
 ·have:¬1≤s.size:=by omega
  simp(disch:=omega)only[rs];rw[decide_eq_false this];rfl
 ·have h1' :1≤s.size:=by omega
  rw[decide_eq_true h1'];by_cases h2:40<(s.size:Int)
  ·have:¬s.size≤40:=by omega
   simp(disch:=omega)only[rs];rw[decide_eq_false this];rfl
  ·have h2' :s.size≤40:=by omega
   rw[decide_eq_true h2'];have hL:qjk s (s.size:Int) 0=some (bif (List.range s.size).all (fun i=>z9 (byt s i))then .inl ()else .inr false):=by
    refine qcd (fun i:Nat=>(i:Int)) s.size (bv (by omega)) _ () false ?_ ?_ ?_
    ·intro i hi hp;simp(disch:=omega)only[o6,q7v,hp,Bool.not_true,rs];rw[al]
    ·intro i hi hp;simp(disch:=omega)only[o6,q7v,hp,Bool.not_false,rs]
    ·simp(disch:=omega)only[o6,rs]
   simp(disch:=omega)only[qx7,hL,rs];cases qrp (byt s 0)with
   |false=>rfl
   |true=>cases(List.range s.size).all (fun i=>z9 (byt s i))<;>rfl
theorem qs5(n:Nat)(p:Nat→Bool):(List.range (n+1)).all p=(p 0&&(List.range n).all fun i=>p (i+1)):=by
 rw[List.range_succ_eq_map,List.all_cons,List.all_map];rfl
theorem q04(s:ByteArray):yk s=some (qt9 s):=by
 unfold yk qt9;by_cases h1:(s.size:Int)<1
 ·have:¬1≤s.size:=by omega
  simp(disch:=omega)only[rs];rw[decide_eq_false this];rfl
 ·have h1' :1≤s.size:=by omega
  rw[decide_eq_true h1'];by_cases h2:40<(s.size:Int)
  ·have:¬s.size≤40:=by omega
   simp(disch:=omega)only[rs];rw[decide_eq_false this];rfl
  ·have h2' :s.size≤40:=by omega
   rw[decide_eq_true h2'];have hL:qhp s 1=some (bif (List.range (s.size-1)).all (fun i=>z9 (byt s (i+1)))then .inl ()else .inr false):=by
    refine qcd (fun i:Nat=>((i+1:Nat):Int)) (s.size-1) (bv (by omega)) _ () false ?_ ?_ ?_
    ·intro i hi hp;unfold z9 at hp;simp(disch:=omega)only[nt,qe4,rs];rw[al];revert hp;cases qrp (byt s (i+1))<;>cases decide ((48:Int)≤byt s (i+1))<;>cases decide (byt s (i+1)≤(57:Int))<;>cases decide (byt s (i+1)=(95:Int))<;>cases decide (byt s (i+1)=(45:Int))<;>cases decide (byt s (i+1)=(46:Int))<;>intro hp<;>first|rfl|cases hp
    ·intro i hi hp;unfold z9 at hp;simp(disch:=omega)only[nt,qe4,rs];revert hp;cases qrp (byt s (i+1))<;>cases decide ((48:Int)≤byt s (i+1))<;>cases decide (byt s (i+1)≤(57:Int))<;>cases decide (byt s (i+1)=(95:Int))<;>cases decide (byt s (i+1)=(45:Int))<;>cases decide (byt s (i+1)=(46:Int))<;>intro hp<;>first|rfl|cases hp
    ·have e:s.size-1+1=s.size:=by omega
     rw[e];simp(disch:=omega)only[nt,rs]
   simp(disch:=omega)only[qe4,hL,rs];have e:s.size=s.size-1+1:=by omega
   have e2:(List.range s.size).all (fun i=>z9 (byt s i))=(z9 (byt s 0)&&(List.range (s.size-1)).all fun i=>z9 (byt s (i+1))):=by
    conv=>lhs;rw[e]
    exact qs5 _ _
   rw[e2];have e3:qrp (byt s 0)=true→z9 (byt s 0)=true:=fun h=>by unfold z9;rw[h];rfl
   cases h:qrp (byt s 0)with
   |false=>rfl
   |true=>
    rw[e3 h];cases(List.range (s.size-1)).all (fun i=>z9 (byt s (i+1)))<;>rfl
def ql1(N:Int)(l:List Int)(i:Nat):Bool:=decide (l.getD i 0<0)||decide (N≤l.getD i 0)||decide (0<i)&&decide (l.getD i 0≤l.getD (i-1) 0)
def qjf(N:Int)(l:List Int):Bool:=(List.range l.length).all fun i=> !ql1 N l i
theorem qne(N:Int)(ts:List ag)(a b:Int)(l:List Int)(h:l.length≤1000000):qha l l (l.length:Int) N ts a b 0=some (bif (List.range l.length).all (fun i=> !ql1 N l i)then .inl ()else .inr false):=by
 have hst:∀i:Nat,i<l.length→kf l l (l.length:Int) N ts a b (R:=LR Int Unit Bool) (i:Int) (fun a' =>some (.next a')) (fun e=>some (.done e)) (fun r=>some (.ret r))=some (bif ql1 N l i then .ret false else .next ((i+1:Nat):Int)):=fun i hi=>by
  unfold ql1;by_cases h0:0<i
  ·have e:(i:Int)-1=((i-1:Nat):Int):=by omega
   have h0' :(0:Int)<(i:Int):=by omega
   rw[decide_eq_true h0];simp(disch:=omega)only[kf,e,rs];rw[al];cases decide (l.getD i 0<0)<;>cases decide (N≤l.getD i 0)<;>cases decide (l.getD i 0≤l.getD (i-1) 0)<;>rfl
  ·have h0' :¬(0:Int)<(i:Int):=by omega
   rw[decide_eq_false h0];simp(disch:=omega)only[kf,rs];rw[al];cases decide (l.getD i 0<0)<;>cases decide (N≤l.getD i 0)<;>rfl
 refine qcd (fun i:Nat=>(i:Int)) l.length (bv (by omega)) _ () false (fun i hi hp=> ?_) (fun i hi hp=> ?_) ?_
 ·have hb:ql1 N l i=false:=by simpa using hp
  exact(hst i hi).trans (by rw[hb];rfl)
 ·have hb:ql1 N l i=true:=by simpa using hp
  exact(hst i hi).trans (by rw[hb];rfl)
 ·simp(disch:=omega)only[kf,rs]
theorem qnn(N:Int)(ts:List ag)(a b:Int)(l:List Int)(h:l.length≤1000000):qhv N l 0=some (bif (List.range l.length).all (fun i=> !ql1 N l i)then .inl ()else .inr false):=by
 have hst:∀i:Nat,i<l.length→kg N l (R:=LR Int Unit Bool) (i:Int) (fun a' =>some (.next a')) (fun e=>some (.done e)) (fun r=>some (.ret r))=some (bif ql1 N l i then .ret false else .next ((i+1:Nat):Int)):=fun i hi=>by
  unfold ql1;by_cases h0:0<i
  ·have e:(i:Int)-1=((i-1:Nat):Int):=by omega
   have h0' :(0:Int)<(i:Int):=by omega
   rw[decide_eq_true h0];simp(disch:=omega)only[kg,e,rs];rw[al];cases decide (l.getD i 0<0)<;>cases decide (N≤l.getD i 0)<;>cases decide (l.getD i 0≤l.getD (i-1) 0)<;>rfl
  ·have h0' :¬(0:Int)<(i:Int):=by omega
   rw[decide_eq_false h0];simp(disch:=omega)only[kg,rs];rw[al];cases decide (l.getD i 0<0)<;>cases decide (N≤l.getD i 0)<;>rfl
 refine qcd (fun i:Nat=>(i:Int)) l.length (bv (by omega)) _ () false (fun i hi hp=> ?_) (fun i hi hp=> ?_) ?_
 ·have hb:ql1 N l i=false:=by simpa using hp
  exact(hst i hi).trans (by rw[hb];rfl)
 ·have hb:ql1 N l i=true:=by simpa using hp
  exact(hst i hi).trans (by rw[hb];rfl)
 ·simp(disch:=omega)only[kg,rs]
theorem jau{b:Bool}:(lk (bif b then(.inl ():Unit⊕Bool)else .inr false) (fun _=>some true) fun r=>some r)=some b:=by cases b<;>rfl
theorem qm(n:cx)(l:List Int)(h:l.length≤1000000):jj n l=some (qjf n.1 l):=by
 unfold jj qjf;rw[qne n.1 n.2.1 n.2.2.1 n.2.2.2.1 l h,jf,jau]
theorem qfz(N:Int)(l:List Int)(h:l.length≤1000000):ne N l=some (qjf N l):=by
 unfold ne qjf;rw[qnn N [] 0 0 l h,jf,jau]
structure Small (n : cx) : Prop where
 trans : n.2.1.length ≤ 100
 ins : ∀ t ∈ n.2.1, t.2.1.length ≤ 60
 outs : ∀ t ∈ n.2.1, t.2.2.1.length ≤ 60
def qwf(N:Int)(t:ag):Bool:= !eqS t.1 ⟨#[]⟩&& !qt9 t.1|| !qjf N t.2.1|| !qjf N t.2.2.1
def ey(n:cx):Bool:=decide (1≤n.1)&&decide (n.1≤40)&&decide (n.2.1.length≤60)&& !n.2.1.any (qwf n.1)&&(decide (0≤n.2.2.1)&&decide (n.2.2.1<n.1))&&(decide (0≤n.2.2.2.1)&&decide (n.2.2.2.1<n.1))
theorem q3n(N x:Int):qjf N [x]=(decide (0≤x)&&decide (x<N)):=by
 unfold qjf ql1;rw[Bool.eq_iff_iff];simp
theorem qlv{n:cx}(h:Small n):mt n=some (ey n):=by
 have hL:qjq n.2.1 (n.2.1.length:Int) n.1 n.2.1 n.2.2.1 n.2.2.2.1 0=some (bif n.2.1.any (qwf n.1)then .inr false else .inl ()):=by
  have hl:=h.trans;refine yz n.2.1 ag.z (qwf n.1) false (by omega) (fun i hi=> ?_) ?_
  ·have h1:=h.ins _ (ba ag.z hi);have h2:=h.outs _ (ba ag.z hi);unfold qwf;simp(disch:=omega)only[q66,sy,q8l,rs];rw[qm _ _ (by omega),qm _ _ (by omega),al];simp only[jf];cases eqS (n.2.1.getD i ag.z).1 ⟨#[]⟩<;>cases qt9 (n.2.1.getD i ag.z).1<;>cases qjf n.1 (n.2.1.getD i ag.z).2.1<;>cases qjf n.1 (n.2.1.getD i ag.z).2.2.1<;>rfl
  ·simp(disch:=omega)only[sy,rs]
 unfold mt ey;rw[hL,qm _ _ (by simp),qm _ _ (by simp),q3n,q3n];have e1:decide (1≤n.1)= !decide (n.1<1):=by rw[Bool.eq_iff_iff];simp
 have e2:decide (n.1≤40)= !decide (40<n.1):=by rw[Bool.eq_iff_iff];simp
 have e3:decide (n.2.1.length≤60)= !decide ((60:Int)<(n.2.1.length:Int)):=by rw[Bool.eq_iff_iff];simp;omega
 rw[e1,e2,e3];cases decide (n.1<1)<;>cases decide (40<n.1)<;>cases decide ((60:Int)<(n.2.1.length:Int))<;>cases n.2.1.any (qwf n.1)<;>cases(decide (0≤n.2.2.1)&&decide (n.2.2.1<n.1))<;>cases(decide (0≤n.2.2.2.1)&&decide (n.2.2.2.1<n.1))<;>rfl
theorem qh6{n:cx}(h:Small n):w9 n=some (ey n):=by
 have hL:qj2 n.1 n.2.1 n.2.2.1 n.2.2.2.1 0=some (bif n.2.1.any (qwf n.1)then .inr false else .inl ()):=by
  have hl:=h.trans;refine yz n.2.1 ag.z (qwf n.1) false (by omega) (fun i hi=> ?_) ?_
  ·have h1:=h.ins _ (ba ag.z hi);have h2:=h.outs _ (ba ag.z hi);unfold qwf;simp(disch:=omega)only[q66,th,q04,rs];rw[qfz _ _ (by omega),qfz _ _ (by omega),al];simp only[jf];cases eqS (n.2.1.getD i ag.z).1 ⟨#[]⟩<;>cases qt9 (n.2.1.getD i ag.z).1<;>cases qjf n.1 (n.2.1.getD i ag.z).2.1<;>cases qjf n.1 (n.2.1.getD i ag.z).2.2.1<;>rfl
  ·simp(disch:=omega)only[th,rs]
 unfold w9 ey;rw[hL];have e1:decide (1≤n.1)= !decide (n.1<1):=by rw[Bool.eq_iff_iff];simp
 have e2:decide (n.1≤40)= !decide (40<n.1):=by rw[Bool.eq_iff_iff];simp
 have e3:decide (n.2.1.length≤60)= !decide ((60:Int)<(n.2.1.length:Int)):=by rw[Bool.eq_iff_iff];simp;omega
 have e4:∀x:Int,decide (0≤x)= !decide (x<0):=fun x=>by rw[Bool.eq_iff_iff];simp
 have e5:∀x:Int,decide (x<n.1)= !decide (n.1≤x):=fun x=>by rw[Bool.eq_iff_iff];simp
 rw[e1,e2,e3,e4 n.2.2.1,e4 n.2.2.2.1,e5 n.2.2.1,e5 n.2.2.2.1];cases decide (n.1<1)<;>cases decide (40<n.1)<;>cases decide ((60:Int)<(n.2.1.length:Int))<;>cases n.2.1.any (qwf n.1)<;>cases decide (n.2.2.1<0)<;>cases decide (n.1≤n.2.2.1)<;>cases decide (n.2.2.2.1<0)<;>cases decide (n.1≤n.2.2.2.1)<;>rfl
theorem qvw{N:Int}{l:List Int}:qjf N l=true↔(∀x∈l,0≤x∧x<N)∧l.Pairwise (·<·):=by
 unfold qjf;rw[List.all_eq_true];constructor
 ·intro h;have hq:∀i,i<l.length→(0≤l.getD i 0∧l.getD i 0<N)∧(0<i→l.getD (i-1) 0<l.getD i 0):=fun i hi=>by
   have:=h i (List.mem_range.2 hi);unfold ql1 at this;simp only[Bool.not_eq_true',Bool.or_eq_false_iff,Bool.and_eq_false_iff,decide_eq_false_iff_not]at this;refine⟨by omega,fun h0=> ?_⟩;rcases this.2 with h1|h1
   ·exact absurd h0 h1
   ·omega
  refine⟨fun x hx=> ?_,List.pairwise_iff_getElem.2 fun i j hi hj hij=> ?_⟩
  ·obtain⟨i,hi,rfl⟩:=j3 0 hx;exact(hq i hi).1
  ·have key:∀d,∀j,j=i+1+d→j<l.length→l.getD i 0<l.getD j 0:=by
    intro d
    induction d with
    |zero=>intro j hj hl;subst hj;exact(hq (i+1) hl).2 (by omega)
    |succ d ih=>
     intro j hj hl;have h1:=ih (i+1+d) rfl (by omega);have h2:=(hq j hl).2 (by omega);rw[show j-1=i+1+d by omega]at h2;omega
   have:=key (j-i-1) j (by omega) hj;rwa[m7 l i 0 hi,m7 l j 0 hj]at this
 ·rintro⟨h1,h2⟩ i hi;have hi:=List.mem_range.1 hi;have hb:=h1 _ (ba 0 hi);unfold ql1;simp only[Bool.not_eq_true',Bool.or_eq_false_iff,Bool.and_eq_false_iff,decide_eq_false_iff_not];refine⟨by omega,?_⟩;by_cases h0:0<i
  ·right;have:=List.pairwise_iff_getElem.1 h2 (i-1) i (by omega) hi (by omega);rw[m7 l i 0 hi,m7 l (i-1) 0 (by omega)];omega
  ·exact .inl h0
theorem q1t(l:List Int)(h:l.length≤1000000):fy l=some l:=by
 unfold fy jt;simp(disch:=omega)only[List.nil_append,rs]
end Go.Proofs.Ytokeielgplbdeaa
